/- Part of a proof that a law returns true for every input. No condition. -/
import Derived.Test.YtmaenemdkobeeaaGreatFwI
namespace Go.ek
open List Go.IntKind Nat Or
def n9 (C:ch) (f:FuncId) (m k:Nat) (as:arM) (r:J) (outs:arM):Prop:=
 ∀(w:World) (F X:Nat->Prop) (S:Nat->Nat->Prop) (vs:arK),vs.length=as.length->
  (∃b ty fr,vs.getD k undef= .pointer (some ⟨b,0,none⟩)/\w.heap[b]? =some (.cells #[.func (.func f) #[] (vs.drop m).toArray] ty fr)/\F b/\¬X b)->
  b4 w F X F S (gK as) (iD vs) w->
  qh C.P f vs.toArray w λv aQ=>∃b9 a0,b4 w F X b9 a0 (gK (r::outs)) (iD (v::vs)) aQ
section
variable {C:ch} {w0 w:World} {F0 X F b9:Nat->Prop} {S a0:Nat->Nat->Prop} {n:Fr} {ρ:Nat->Value} {s aI:az} {aJ lx:Nat->Value} {a:Act} {av:J} {Q:Exit->Act->World->Prop} {aQ:World}
theorem b4.base (h:b4 w0 F0 X F S s aJ w):b4 w F (λb=>∃u,S u b) F S s aJ w where
 ib:=λ_ h=>h
 iz:=λ_ h=>.inl h
 gE:=h.gE
 fH:=h.fH
 gP:=h.gP
 gu:=h.gu
 eN:=λu b ab=>.inl ⟨u,ab⟩
 ev:=h.ev
 old:=λ_ _ _=>rfl
 size:=Nat.le_refl _
 os:=rfl
 tape:=rfl
 output:=Out.refl _
 iA:=h.iA.next h.size h.old λb ⟨u,hu⟩=>h.eN u b hu
theorem b4.SS (h:b4 w0 F0 X F S s aJ w) (bM:b4 w F (λb=>∃u,S u b) b9 a0 aI lx aQ):b4 w0 F0 X b9 a0 aI lx aQ where
 ib:=λb ab=>bM.ib b (h.ib b ab)
 iz:=λb ab=>by
  rcases bM.iz b ab with ab|⟨u,ab⟩|ab
  .exact h.iz b ab
  .exact .inr (h.eN u b ab)
  .exact .inr (.inr (Nat.le_trans h.size ab))
 gE:=bM.gE
 fH:=bM.fH
 gP:=bM.gP
 gu:=bM.gu
 eN:=λu b ab=>by
  rcases bM.eN u b ab with⟨u,ab⟩|ab
  .exact h.eN u b ab
  .exact .inr (Nat.le_trans h.size ab)
 ev:=bM.ev
 old:=λb ab ly=>by
  refine(bM.old b (Nat.lt_of_lt_of_le ab h.size) λ⟨u,hu⟩=>?_).trans (h.old b ab ly);rcases h.eN u b hu with ay|ay
  .exact ly ay
  .omega
 size:=Nat.le_trans h.size bM.size
 os:=bM.os.trans h.os
 tape:=bM.tape.trans h.tape
 output:=bM.output.trans h.output
 iA:=h.iA
inductive sG:arM->arM->Prop
 |nil:sG [] []
 |eq {a:J} {as kO:arM}:a.ad=[]->sG as kO->sG (a::as) (a::kO)
 |wd {a b:J} {as kO:arM}:fJ a b->a.tree=true->b.ad=[]->sG as kO->sG (a::as) (b::kO)
theorem sG.get:∀{as kO:arM},sG as kO->∀p k,p∈num k kO->p.2.ad=[]/\∃a,as[p.1-k]? =some a/\k<=p.1/\(p.2=a\/(a.tree=true/\fJ a p.2))
 |_,_,.nil,p,k,aw=>by simp[num]at aw
 |_,_,.eq (a:=a) h hw,p,k,aw=>by
  simp only[num,mem_cons]at aw;rcases aw with rfl|aw
  .exact⟨h,a,by simp,Nat.le_refl _,.inl rfl⟩
  .obtain⟨ae,x,ag,aK,a3⟩:=hw.get p (k+1) aw;refine⟨ae,x,?_,by omega,a3⟩;rw[show p.1-k=(p.1-(k+1))+1 by omega,getElem?_cons_succ];exact ag
 |_,_,.wd (a:=a) h bc ab hw,p,k,aw=>by
  simp only[num,mem_cons]at aw;rcases aw with rfl|aw
  .exact⟨ab,a,by simp,Nat.le_refl _,.inr ⟨bc,h⟩⟩
  .obtain⟨ae,x,ag,aK,a3⟩:=hw.get p (k+1) aw;refine⟨ae,x,?_,by omega,a3⟩;rw[show p.1-k=(p.1-(k+1))+1 by omega,getElem?_cons_succ];exact ag
theorem sG.len:∀{as kO:arM},sG as kO->kO.length=as.length
 |_,_,.nil=>rfl
 |_,_,.eq _ hw=>by simp[hw.len]
 |_,_,.wd _ _ _ hw=>by simp[hw.len]
theorem ba.sH {f:FuncId} {as kO:arM} {r:J} {outs:arM} (h:ba C f kO r outs) (hw:sG as kO):ba C f as r outs:=by
 intro w F X S vs hl a4;have Ko:tB (gK as) (num 0 kO):=λp aw=>by
  obtain⟨ae,a,ag,_,a3⟩:=hw.get p 0 aw;have e:gK as p.1=a:=by simp[gK,List.getD,show as[p.1]? =some a from ag]
  rw[e];rcases a3 with a3|⟨bc,a3⟩
  .exact .inl a3
  .refine .inr ⟨bc,a3,λcO eR=>.inl ?_⟩;rw[(hw.get cO 0 eR).1];simp
 obtain⟨b9,a0,ag⟩:=a4.JS Ko;rw[<-Bv]at ag;exact(h w b9 _ a0 vs (hl.trans hw.len.symm) ag.base).mono λv aQ ⟨tz,eo,aK⟩=>⟨tz,eo,ag.SS aK⟩
theorem SU (C:ch) (K:az->Prop):∀(rs pre post:List cn) (s:az),m2 C s rs K->jS C (pre++(rs++post)) s ((range rs.length).map (·+pre.length)) K:=by
 intro rs;induction rs with
 |nil=>intro pre post s h;exact h
 |cons r rs ih=>
  intro pre post s h;rw[length_cons,range_succ_eq_map,map_cons,List.map_map];simp only[jS,Nat.zero_add];rw[getElem?_append_right (Nat.le_refl _)];simp only[Nat.sub_self,cons_append,getElem?_cons_zero];have key:∀s1,m2 C s1 rs K->jS C (pre++r::(rs++post)) s1 ((range rs.length).map ((λx=>x+pre.length)∘succ)) K:=by
   intro s1 ae;have:=ih (pre++[r]) post s1 ae;simp only[append_assoc,singleton_append,length_append,length_singleton]at this;have e:((λx=>x+pre.length)∘succ)=λx=>x+(pre.length+1):=by funext x;simp;omega
   rw[e];exact this
  simp only[m2]at h;exact E0 h key
theorem aa5 (jB:a.defers=[]) (e4:a.tmps.size=n.n) (iv:∀i∈n.fx,a.tmps.getD i undef=ρ i) (a4:b4 w0 F0 X F S s (λt=>a.tmps.getD t undef) w)
  {o:Oper} {d0 k:Nat} {args:List bl} {g:FuncId} {caps:arM} {arr:Array Value} {ps:List c8} {r:J} (cQ:cU o.op=some (.call (.t d0) args)) (ak:m0 n o.dst=true)
  (aE:a.tmps.getD d0 undef= .func (.func g) #[] arr) (ax:e3 w F s (λt=>a.tmps.getD t undef) caps arr.toList) (hP:J.eu caps=true)
  (aa6:∃b ty fr,(arr.toList).getD k undef= .pointer (some ⟨b,0,none⟩)/\w.heap[b]? =some (.cells #[.func (.func g) #[] arr] ty fr)/\F b) (Ku:k<arr.size)
  (ag:ps.map (·.a)=args.map (bs s)++caps) (aK:∀p∈ps,p.ok s) (a3:jb ps=true) (bI:n9 C g args.length (args.length+k) (ps.map (·.d)) r (ps.map (·.o))) (dc:r.res=true)
  (c6:kV ps=true->r.da=true/\∀p∈ps,p.o.da=true) {K:az->Prop} {next:Act->World->Prop} (gy:K (fin (iC (fT s ps) ps) o.dst r))
  (aZ:∀aI dd aQ,K aI->Rel w0 F0 X n ρ aI dd aQ->next dd aQ):o.wp C.P a w next Q:=by
 obtain⟨dst,op,ty,pos,after,guard⟩:=o;simp only at cQ ak gy;cases op with
 |call c=>
  obtain⟨callee,oH,argTypes⟩:=c;simp only[cU]at cQ;split at cQ
  .split at cQ
   .rename_i Bk _ _ Zd xs bo sw;simp only[Option.some.injEq,eP.call.injEq]at cQ;obtain⟨rfl,rfl⟩:=cQ;have AX:Bk= .tmp d0:=by
     cases Bk with
     |tmp t=>simp only[ei,Option.some.injEq,bl.t.injEq]at bo;rw[bo]
     |const v=>simp only[ei,Option.map_eq_some_iff]at bo;obtain⟨c,_,bo⟩:=bo;cases bo
     |func g=>simp[ei]at bo
     |global g=>simp[ei]at bo
    subst AX;have wF:execOp a.eval {dst,op:=.call {callee:=.value (.tmp d0),args:=oH,argTypes},type:=ty,pos,after,guard}=callFunc g ((oH.toList.map a.eval++arr.toList).toArray):=by
     have:a.eval (.tmp d0)= .func (.func g) #[] arr:=aE;simp only[execOp,resolve,this,Deferred.ofValue,pure_bind,invoke];congr 1;apply Array.ext';simp
    unfold Oper.wp;rw[wF];have hlen:(oH.toList.map a.eval).length=xs.length:=by
     have:=congrArg length (wx sw);simpa using this
    have Bl:e3 w F s (λt=>a.tmps.getD t undef) (xs.map (bs s)++caps) (oH.toList.map a.eval++arr.toList):=Q4 (EL a4 (λ_=>rfl) _ _ (wx sw)) ax;rw[<-ag]at Bl;obtain⟨fA,l2⟩:=Q5 Bl;have ew:∀d∈xs.map (bs s)++caps,d.plain=true:=by
     intro d ak;rcases mem_append.1 ak with ak|ak
     .obtain⟨x,ay,rfl⟩:=mem_map.1 ak;exact PN s x λav e=>by
       subst e;have hm:=wx sw;have:some (bl.c av)∈xs.map some:=mem_map.2 ⟨_,ay,rfl⟩;rw[<-hm]at this;obtain⟨o,_,b_⟩:=mem_map.1 this;cases o with
       |const v=>simp only[ei,Option.map_eq_some_iff]at b_;obtain⟨c,ax,e⟩:=b_;cases e;exact IK ax
       |tmp n=>simp[ei]at b_
       |func g=>simp[ei]at b_
       |global g=>simp[ei]at b_
     .obtain⟨k,ao⟩:=getElem?_of_mem ak;exact Ek hP ao
    have JK:=QZ (C:=C) a4 (ps:=ps) (vs:=oH.toList.map a.eval++arr.toList) (f:=g) (r:=r) (by simpa using fA)
     (λi p v aw aE=>⟨ew p.a (by rw[<-ag];exact mem_map.2 ⟨p,mem_of_getElem? aw,rfl⟩),l2 i p.a v (by simp[aw]) aE⟩) aK a3
     (λFc n2 fe bt ly aw=>by
      refine bI w Fc n2 fe _ (by rw[<-fA];simp) ?_ aw;obtain⟨b,Ft,fr,aW,a8,aY⟩:=aa6;refine⟨b,Ft,fr,?_,?_,bt b aY,λay=>by obtain⟨u,hu⟩:=ly b ay;exact a4.gP u b hu aY⟩
      .rw[getD_eq_getElem?_getD,getElem?_append_right (by omega),hlen,Nat.add_sub_cancel_left,<-getD_eq_getElem?_getD];exact aW
      .rw[a8,<-hlen,drop_left])
     dc c6
    rcases JK with⟨dT,bb⟩|⟨v,aQ,dT,b9,a0,bb,dt⟩
    .rw[dT,Oper.upon_enter];refine Calls.mono bb ?_;rintro e aQ ⟨v,rfl,b9,a0,b3,cv⟩;exact aZ _ _ _ gy (Rel.put jB e4 iv b3 cv.1 ak)
    .rw[dT,Oper.upon_value];exact aZ _ _ _ gy (Rel.put jB e4 iv bb dt.1 ak)
   .cases cQ
  .split at cQ
   .simp only[Option.map_eq_some_iff]at cQ;obtain⟨_,_,cQ⟩:=cQ;cases cQ
   .cases cQ
  .split at cQ
   .simp only[Option.map_eq_some_iff]at cQ;obtain⟨_,_,cQ⟩:=cQ;cases cQ
   .cases cQ
  iterate 3
   .split at cQ
    .split at cQ<;>cases cQ
    .cases cQ
  .cases cQ
 |makeFunc fn first cs=>
  cases fn<;>simp only[cU]at cQ<;>first|(cases cQ;done)|(split at cQ<;>simp at cQ)
 |slice T x fB al fs=>
  cases fs<;>simp only[cU]at cQ<;>first|(cases cQ;done)|(split at cQ<;>simp at cQ)
 |makeMap T r=>cases r<;>simp only[cU]at cQ<;>simp at cQ
 |lookup T x i c=>cases c<;>simp only[cU]at cQ<;>first|(cases cQ;done)|(split at cQ<;>simp at cQ)
 |_=>simp only[cU]at cQ<;>first|(cases cQ;done)|(simp at cQ;done)|(split at cQ<;>simp at cQ)
theorem aa7 {op:Op} {T:TypeId} {x:bl} (h:cU op=some (.fo T x)):∃y,op= .load T y/\ei y=some x:=by
 cases op with
 |load Bj y=>
  simp only[cU,Option.map_eq_some_iff]at h;obtain⟨cD,ay,h⟩:=h;cases h;exact⟨y,rfl,ay⟩
 |call c=>
  obtain⟨callee,oH,argTypes⟩:=c;simp only[cU]at h;split at h<;>(try split at h)<;>(try split at h)<;>(try simp[Option.map_eq_some_iff]at h)
 |makeFunc fn first cs=>
  cases fn<;>simp only[cU]at h<;>first|(cases h;done)|(split at h<;>simp at h)
 |slice T x fB al fs=>
  cases fs<;>simp only[cU]at h<;>first|(cases h;done)|(split at h<;>simp at h)
 |makeMap T r=>cases r<;>simp only[cU]at h<;>simp at h
 |lookup T x i c=>cases c<;>simp only[cU]at h<;>first|(cases h;done)|(split at h<;>simp at h)
 |_=>simp only[cU]at h<;>first|(cases h;done)|(simp at h;done)|(split at h<;>simp at h)
theorem Fu {y:Operand} {k:Nat} (h:ei y=some (.t k)):y= .tmp k:=by
 cases y with
 |tmp t=>simp only[ei,Option.some.injEq,bl.t.injEq]at h;rw[h]
 |const v=>simp only[ei,Option.map_eq_some_iff]at h;obtain⟨c,_,h⟩:=h;cases h
 |func g=>simp[ei]at h
 |global g=>simp[ei]at h
def sI (k:Nat) (s:az) (j:Nat):J:=if j=k then .ref .hole else sd j (s j)
theorem aa8 {aJ:Nat->Value} {b k:Nat} {v:Value} {ty:TypeId} {fr:Nat×Nat} (a4:b4 w0 F0 X F S s aJ w) (ao:aJ k= .pointer (some ⟨b,0,none⟩)) (ab:F b) (ax:w.heap[b]? =some (.cells #[v] ty fr)) (ae:Value.hp v=true):
  ∀cs:arH,e3 w F s aJ (cs.map (sI k s)) (cs.map aJ)/\J.eu (cs.map (sI k s))=true:=by
 intro cs;induction cs with
 |nil=>exact⟨by rw[map_nil,map_nil,e3],rfl⟩
 |cons j cs ih=>
  simp only[map_cons];have bP:aU w F s aJ (sI k s j) (aJ j) (λ_=>False)/\(sI k s j).plain=true:=by
   unfold sI;split
   .rename_i e;subst e;rw[ao];refine⟨(aU.c_ rfl).2 ⟨rfl,?_⟩,rfl⟩;rw[aD];refine⟨b,0,[v],rfl,ab,?_,?_⟩
    .intro i c al;cases i with
     |zero=>simp at al;subst al;simp[World.cell?,ax]
     |succ i=>simp at al
    .rw[aD];exact⟨v,ae,rfl⟩
   .unfold sd;split
    .rename_i aw;exact⟨aU.nothing aw (a4.ev j),aw⟩
    .rename_i aw;refine⟨?_,rfl⟩;rw[aU];intro d ak aw;simp only[J.sub,Option.some.injEq]at ak;subst ak;have bc:(s j).tree=true:=by
      cases ad:s j<;>first|rfl|(rw[ad]at aw;simp[J.plain]at aw)
     exact⟨_,none,rfl,rfl,((aU.c_ bc).1 (a4.ev j)).1⟩
  refine⟨?_,?_⟩
  .rw[e3];exact⟨_,_,rfl,bP.1,ih.1⟩
  .simp only[J.eu,bP.2,ih.2,Bool.and_self]
theorem SV (bB:C.fI) {id:Nat} {ops:Array Oper} {T:TypeId} {k k0 d0:Nat} {m rest:List cn} {args:List bl} {d1:Option Nat} {g:FuncId} {cs:arH} {b:Nat} {ty:TypeId} {fr:Nat×Nat} {K:az->Prop}
  (uZ:sy n ops ops.toList=some ((⟨some d0,.fo T (.t k),none⟩::(m++⟨d1,.call (.t d0) args,none⟩::rest):List cn).map cn.un))
  (kj:(C.T T).flat=true) (hm:∀r∈m,∀d,r.dst=some d->d≠d0/\d∉cs) (mr:d0∉cs) (yO:cs[k0]? =some k)
  (jB:a.defers=[]) (e4:a.tmps.size=n.n) (iv:∀i∈n.fx,a.tmps.getD i undef=ρ i) (a4:b4 w0 F0 X F S s (λt=>a.tmps.getD t undef) w)
  (ab:F b) (ao:a.tmps.getD k undef= .pointer (some ⟨b,0,none⟩)) (Ev:w.heap[b]? =some (.cells #[.func (.func g) #[] (cs.map λj=>a.tmps.getD j undef).toArray] ty fr))
  (h:m2 C (fin s (some d0) .hole) m λs1=>∃ps r,ps.map (·.a)=args.map (bs s1)++cs.map (sI k s1)/\(∀p∈ps,p.ok s1)/\jb ps=true/\
   n9 C g args.length (args.length+k0) (ps.map (·.d)) r (ps.map (·.o))/\r.res=true/\(kV ps=true->r.da=true/\∀p∈ps,p.o.da=true)/\m2 C (fin (iC (fT s1 ps) ps) d1 r) rest K)
  (aZ:∀aI dd aQ,K aI->Rel w0 F0 X n ρ aI dd aQ->Q .normal dd aQ):(Code.region id ops false).wp C.P Q a w:=by
 obtain⟨hl,oI⟩:=Bn uZ;have Kv:∀(i:Nat) (r:cn),(⟨some d0,.fo T (.t k),none⟩::(m++⟨d1,.call (.t d0) args,none⟩::rest):List cn)[i]? =some r->∃o,ops[i]? =some o/\sx n ops o=some r.un:=by
  intro i r al;have e2:i<ops.toList.length:=by
   rw[hl,length_map];exact(List.getElem?_eq_some_iff.1 al).1
  obtain⟨hE,ae,ag⟩:=oI i _ (getElem?_eq_getElem e2);rw[getElem?_map,al]at ae;simp only[Option.map_some,Option.some.injEq]at ae;exact⟨_,by rw[<-Array.getElem?_toList];exact getElem?_eq_getElem e2,by rw[ae];exact ag⟩
 have yP:∀{r:cn} {o:Oper},r.guard=none->sx n ops o=some r.un->r.dst=o.dst/\o.guard=none/\rj o.op=r.bO.base/\m0 n o.dst=true:=by
  intro r o bC h;unfold sx at h;split at h
  .rename_i ak;split at h
   .rename_i aa9 iL;simp only[cn.un,Option.some.injEq,cn.mk.injEq]at h;obtain⟨aW,a8,aY⟩:=h;refine⟨aW.symm,?_,a8,ak⟩;rw[aY,bC]at iL;cases b_:o.guard with
    |none=>rfl
    |some JO=>
     rw[b_]at iL;simp only[Bh]at iL;split at iL<;>cases iL
   .cases h
  .cases h
 have aa_:ops.size=m.length+rest.length+2:=by
  have:ops.toList.length=ops.size:=by simp
  rw[<-this,hl];simp;omega
 have aba:range ops.size=0::((range m.length).map (·+1)++((m.length+1)::(range rest.length).map (·+(m.length+2)))):=by
  rw[aa_,show m.length+rest.length+2=(m.length+rest.length+1)+1 from rfl,range_succ_eq_map];congr 1;rw[show m.length+rest.length+1=m.length+(rest.length+1) by omega,range_add,map_append,range_succ_eq_map];simp only[List.map_map,map_cons,Nat.add_zero];congr 1;congr 1;apply map_congr_left;intro x _;simp;omega
 obtain⟨vd,abb,l8⟩:=Kv 0 _ rfl;obtain⟨dr,dh,hM,g7⟩:=yP rfl l8;change rj vd.op= .fo T (.t k)at hM;have wV:cU vd.op=some (.fo T (.t k)):=by
  rcases ql hM with h|h
  .cases h
  .exact h
 obtain⟨y,bz,abc⟩:=aa7 wV;have:=Fu abc;subst this;let jf:Value:=.func (.func g) #[] (cs.map λj=>a.tmps.getD j undef).toArray
 have k5:iV w b 0 [jf]:=by
  intro i c al;cases i with
  |zero=>simp at al;subst al;simp[World.cell?,Ev,jf]
  |succ i=>simp at al
 refine wp_region ?_;rw[aba];simp only[wpOps,abb];show(if Region.wanted vd (yielded ops a.tmps)=true then vd.wp C.P a w _ Q\/(vd.asks C.P a w/\LetsOut Q)else _);rw[if_pos (EU dh)];left;have wF:(execOp a.eval vd).run C.P w= .ok (.value jf) w:=by
  obtain⟨dst,op,ty,pos,after,guard⟩:=vd;simp only at bz;subst bz;have:a.eval (.tmp k)= .pointer (some ⟨b,0,none⟩):=ao;simp[execOp,this,Instr.loadAt,Instr.sureAddr,PU bB kj k5]
 unfold Oper.wp;rw[wF,Oper.upon_value];have Kw:some d0=vd.dst:=dr;rw[<-Kw]at g7⊢;let R:Act:=a.put (some d0) jf
 let lG:Fr:=⟨n.n,d0::k::(cs++n.fx)⟩
 let ρ1:Nat->Value:=λt=>R.tmps.getD t undef
 have lk:k∈cs:=mem_of_getElem? yO;have sn:=a4.base;have Kx:Rel w F (λb=>∃u,S u b) ⟨n.n,[]⟩ ρ1 (fin s (some d0) .hole) R w:=
  Rel.put (n:=⟨n.n,[]⟩) jB e4 (λi al=>by cases al) sn (.inl ⟨rfl,by rw[aU];trivial⟩) (by
   simp only[m0,Bool.and_eq_true,decide_eq_true_eq]at g7⊢;exact⟨g7.1,by simp⟩)
 have abd:Rel w F (λb=>∃u,S u b) lG ρ1 (fin s (some d0) .hole) R w:=⟨Kx.defers,Kx.size,λi _=>rfl,Kx.rel⟩
 have SW:∀t,t≠d0->ρ1 t=a.tmps.getD t undef:=by
  intro t bc;have:=congrFun (Bi (n:=n) (dst:=some d0) (a:=a) jf e4 g7).1 t;simp only[pe]at this;rw[ki _ _ bc]at this;exact this
 have abe:ρ1 d0=jf:=by
  have:=congrFun (Bi (n:=n) (dst:=some d0) (a:=a) jf e4 g7).1 d0;simp only[pe]at this;rw[nm]at this;exact this
 have hw:=SU C _ m [⟨some d0,.fo T (.t k),none⟩] (⟨d1,.call (.t d0) args,none⟩::rest) _ h;have mid:∀aI dd aQ,(∃ps r,ps.map (·.a)=args.map (bs aI)++cs.map (sI k aI)/\(∀p∈ps,p.ok aI)/\jb ps=true/\
   n9 C g args.length (args.length+k0) (ps.map (·.d)) r (ps.map (·.o))/\r.res=true/\(kV ps=true->r.da=true/\∀p∈ps,p.o.da=true)/\m2 C (fin (iC (fT aI ps) ps) d1 r) rest K)->
   Rel w F (λb=>∃u,S u b) lG ρ1 aI dd aQ->wpOps C.P ops Q ((m.length+1)::(range rest.length).map (·+(m.length+2))) dd aQ:=by
  rintro s2 aM hb ⟨ps,r,aW,a8,aY,bT,cF,cj,b0⟩ ⟨a2,bq,ck,tz,eo,eE⟩;obtain⟨yQ,abf,mq⟩:=Kv (m.length+1) ⟨d1,.call (.t d0) args,none⟩ (by simp);obtain⟨gr,hD,i7,Ex⟩:=yP rfl mq;simp only[wpOps,abf];show(if Region.wanted yQ (yielded ops aM.tmps)=true then yQ.wp C.P aM hb _ Q\/(yQ.asks C.P aM hb/\LetsOut Q)else _);rw[if_pos (EU hD)];left;change rj yQ.op= .call (.t d0) args at i7;have abg:cU yQ.op=some (.call (.t d0) args):=by
   rcases ql i7 with h|h
   .cases h
   .exact h
  have SX:tz b:=eE.ib b ab;have SY:hb.heap[b]? =some (.cells #[jf] ty fr):=by
   rw[eE.old b (a4.gE b ab) (λ⟨u,hu⟩=>a4.gP u b hu ab)];exact Ev
  have SZ:∀j∈cs,aM.tmps.getD j undef=a.tmps.getD j undef:=by
   intro j bP;rw[ck j (by simp[lG,bP])];exact SW j (λe=>mr (e▸bP))
  have oB:aM.tmps.getD k undef= .pointer (some ⟨b,0,none⟩):=(SZ k lk).trans ao;have S0:(cs.map λj=>a.tmps.getD j undef)=cs.map λj=>aM.tmps.getD j undef:=map_congr_left λj bP=>(SZ j bP).symm;obtain⟨b2,cc⟩:=aa8 (k:=k) eE oB SX SY rfl cs;have Jd:∀aI dd aQ,m2 C aI rest K->Rel w F (λb=>∃u,S u b) ⟨n.n,n.fx⟩ ρ aI dd aQ->wpOps C.P ops Q ((range rest.length).map (·+(m.length+2))) dd aQ:=by
   intro kB bG ll aK Fv;have E4:=SU C K rest ((⟨some d0,.fo T (.t k),none⟩::m)++[⟨d1,.call (.t d0) args,none⟩]) [] kB aK;have:=JN (Q:=Q) bB (ops:=ops) (ros:=((⟨some d0,.fo T (.t k),none⟩::m)++[⟨d1,.call (.t d0) args,none⟩])++(rest++[])) (l2:=[]) (K:=K) (λaI dd aQ mv ft=>by
     obtain⟨wW,wX,BJ,abh,Qe,Ky⟩:=ft;exact aZ aI dd aQ mv ⟨wW,wX,BJ,abh,Qe,a4.SS Ky⟩) ((range rest.length).map (·+(m.length+2))) (λi al=>by
      have Bt:((⟨some d0,.fo T (.t k),none⟩::m)++[⟨d1,.call (.t d0) args,none⟩])++(rest++[])=(⟨some d0,.fo T (.t k),none⟩::(m++⟨d1,.call (.t d0) args,none⟩::rest):List cn):=by simp
      rw[Bt];refine⟨λnn=>?_,λo b_=>?_⟩
      .rw[List.getElem?_eq_none_iff];have:=Array.getElem?_eq_none_iff.1 nn;simp;omega
      .obtain⟨aj,kf,ag⟩:=oI i o (by simpa using b_);obtain⟨r,ae,rfl⟩:∃r,(⟨some d0,.fo T (.t k),none⟩::(m++⟨d1,.call (.t d0) args,none⟩::rest):List cn)[i]? =some r/\r.un=aj:=by
        rw[getElem?_map,Option.map_eq_some_iff]at kf;exact kf
       exact⟨r,ae,ag⟩) kB bG ll (by
      have e:((⟨some d0,.fo T (.t k),none⟩::m)++[⟨d1,.call (.t d0) args,none⟩]:List cn).length=m.length+2:=by simp
      rw[e]at E4;exact E4) Fv
   rwa [append_nil]at this
  have abi:∀i∈n.fx,aM.tmps.getD i undef=ρ i:=by
   intro i al;rw[ck i (by simp[lG,al]),SW i (λe=>?_)]
   .exact iv i al
   .simp only[m0,Bool.and_eq_true,Bool.not_eq_true',contains_eq_mem,decide_eq_false_iff_not]at g7;exact g7.2 (e▸al)
  have Ku:k0<cs.length:=(List.getElem?_eq_some_iff.1 yO).1;have abj:yQ.dst=d1:=gr.symm;exact aa5 (n:=n) (ρ:=ρ) (K:=λaI=>m2 C aI rest K) a2 bq abi eE abg Ex
   (arr:=(cs.map λj=>aM.tmps.getD j undef).toArray) (k:=k0) (caps:=cs.map (sI k s2)) (g:=g) (ps:=ps) (r:=r)
   (by rw[ck d0 (by simp[lG]),abe];simp only[jf,S0]) (by simpa using b2) cc
   ⟨b,ty,fr,by
     rw[getD_eq_getElem?_getD,getElem?_map,yO];exact oB,by rw[SY];simp only[jf,S0],SX⟩ (by simpa using Ku)
   aW a8 aY bT cF cj (by rw[abj];exact b0) Jd
 have:=JN (Q:=Q) bB (ops:=ops) (ros:=[⟨some d0,.fo T (.t k),none⟩]++(m++⟨d1,.call (.t d0) args,none⟩::rest)) (l2:=(m.length+1)::(range rest.length).map (·+(m.length+2))) mid
  ((range m.length).map (·+1)) (λi al=>by
    obtain⟨j,bP,rfl⟩:=mem_map.1 al;have BK:j<m.length:=mem_range.1 bP;refine⟨λnn=>?_,λo b_=>?_⟩
    .have:=Array.getElem?_eq_none_iff.1 nn;omega
    .obtain⟨pk,BA,fZ⟩:=Kv (j+1) m[j] (by
      simp only[getElem?_cons_succ];rw[getElem?_append_left BK,getElem?_eq_getElem BK])
     have heq:pk=o:=by rw[BA]at b_;exact Option.some.inj b_
     subst heq;refine⟨m[j],by
      simp only[singleton_append,getElem?_cons_succ];rw[getElem?_append_left BK,getElem?_eq_getElem BK],?_⟩
     have abk:=hm m[j] (getElem_mem BK);unfold sx at fZ⊢;split at fZ
     .rename_i ak;rw[if_pos]
      .exact fZ
      .cases S1:pk.dst with
       |none=>rfl
       |some d=>
        rw[S1]at ak;simp only[m0,Bool.and_eq_true,decide_eq_true_eq,Bool.not_eq_true',contains_eq_mem,decide_eq_false_iff_not]at ak⊢;refine⟨ak.1,?_⟩;have EV:m[j].dst=some d:=by
         split at fZ
         .simp only[cn.un,Option.some.injEq,cn.mk.injEq]at fZ;rw[<-fZ.1,S1]
         .cases fZ
        obtain⟨gk,ht⟩:=abk d EV;simp only[lG,mem_cons,mem_append,not_or];exact⟨gk,λe=>ht (e▸lk),ht,ak.2⟩
     .cases fZ) (fin s (some d0) .hole) R w (by simpa using hw) abd
 exact this
def S2 (C:ch) (f:FuncId) (k k0:Nat) (cs:arH) (args:List bl) (d1:Option Nat) (rest:List cn) (fX:arH) (P:arL->Prop) (s1:az):Prop:=
 ∃ps r,ps.map (·.a)=args.map (bs s1)++cs.map (sI k s1)/\(∀p∈ps,p.ok s1)/\jb ps=true/\
  n9 C f args.length (args.length+k0) (ps.map (·.d)) r (ps.map (·.o))/\r.res=true/\(kV ps=true->r.da=true/\∀p∈ps,p.o.da=true)/\
  dk C (fin (iC (fT s1 ps) ps) d1 r) rest none (λ_ s=>P (gz fX s))
def rC (C:ch) (f:FuncId) (k k0 d0:Nat) (cs:arH) (m:List cn) (args:List bl) (d1:Option Nat) (rest:List cn) (fX:arH) (P:arL->Prop) (s:az):Prop:=
 dk C (fin s (some d0) .hole) m none λ_ s1=>S2 C f k k0 cs args d1 rest fX P s1
def S3 (C:ch) (f:FuncId) (k k0 d0:Nat) (cs:arH) (m:List cn) (args:List bl) (d1:Option Nat) (rest:List cn) (fX:arH) (K:az->Prop) (s:az):Prop:=
 rC C f k k0 d0 cs m args d1 rest fX (λl=>K (aq l)) s
def Kz (f:Nat->Bool) (m:List cn):Bool:=m.all λr=>match r.dst with
 |none=>true
 |some d=>f d
theorem S4 {f:Nat->Bool} {m:List cn} (h:Kz f m=true):∀r∈m,∀d,r.dst=some d->f d=true:=by
 intro r a4 d ak;have:=List.all_eq_true.1 h r a4;rw[ak]at this;exact this
theorem S5 (k:arH) (s:az):tB s (gz k s):=by
 intro p aw;obtain⟨t,_,rfl⟩:=mem_map.1 aw;exact .inl rfl
def KA (C:ch) (f:FuncId) (k k0 d0:Nat) (cs:arH) (m:List cn) (args:List bl) (d1:Option Nat) (rest:List cn) (fX:arH):(Exit->az->Prop)->az->Prop:=
 λQ s=>S3 C f k k0 d0 cs m args d1 rest fX (Q .normal) s
def S6 (T:TypeId) (k d0:Nat) (m:List cn) (args:List bl) (d1:Option Nat) (rest:List cn):aN:=
 .fK (⟨some d0,.fo T (.t k),none⟩::(m++⟨d1,.call (.t d0) args,none⟩::rest)) none
theorem abl (vs:arK):∀(m n:Nat),m+n=vs.length->vs.drop m=((range n).map (·+m)).map λj=>vs.getD j undef:=by
 intro m n h;apply ext_getElem?;intro i;rw[getElem?_drop,List.map_map,getElem?_map];by_cases al:i<n
 .rw[getElem?_range al,getElem?_eq_getElem (by omega)];simp only[Option.map_some,Function.comp];rw[getD_eq_getElem?_getD,getElem?_eq_getElem (by omega)];simp only[Option.getD_some,Option.some.injEq];congr 1;omega
 .rw[getElem?_eq_none (by omega),getElem?_eq_none (by simp;omega)];rfl
theorem Fw {c:Code} {rs:List cn} (h:fY n c=some (.fK rs none)):∃id ops,c= .region id ops false/\sy n ops ops.toList=some rs:=by
 cases c with
 |region id ops draw=>
  cases draw with
  |false=>
   simp only[fY]at h;split at h
   .rename_i r ae;cases h;exact⟨id,ops,rfl,ae⟩
   .cases h
  |true=>
   simp only[fY]at h;split at h
   .simp only[Option.map_eq_some_iff]at h;obtain⟨r,ae,ag⟩:=h;cases ag
   .cases h
 |seq a b=>simp only[fY]at h;split at h<;>cases h
 |cond c a b=>simp only[fY]at h;split at h<;>cases h
 |block id b=>simp only[fY,Option.map_eq_some_iff]at h;obtain⟨r,ae,ag⟩:=h;cases ag
 |loop b=>simp only[fY,Option.map_eq_some_iff]at h;obtain⟨r,ae,ag⟩:=h;cases ag
 |_=>simp[fY]at h
def Fx (C:ch) (f:FuncId) (fx:arH) (abm m k:Nat) (T:(Exit->az->Prop)->az->Prop) (b:aN):Prop:=
 ∃(ty:TypeId) (k0 d0 pq:Nat) (ja:List cn) (args:List bl) (d1:Option Nat) (rest:List cn) (fX:arH),
  T=KA C f k k0 d0 ((range pq).map (·+m)) ja args d1 rest fX/\b=S6 ty k d0 ja args d1 rest/\(C.T ty).flat=true/\Kz (λd=>d !=d0&&decide (m+pq<=d)) ja=true/\decide (m+pq<=d0)=true/\
  decide (k0<pq)=true/\k=m+k0/\((range pq).all λj=>fx.contains (m+j))=true/\args.length=m/\m+pq=abm
theorem n9.of_wp (bB:C.fI) {f:FuncId} {fn:Func} {c:Code} {cR:aN} {fx:arH} {as outs:arM} {r:J} {k m:Nat} (bo:C.P.funcs[f]? =some fn) (ab:fn.body=some c)
  (lg:(fn.name== "runtime.NumGoroutine")=false) (ad:fY ⟨fn.ntmps,fx⟩ c=some cR.strip) (aZ:as.length<=fn.ntmps)
  (ao:cR.oK (Fx C f fx as.length m k))
  (h:∀Q:Exit->az->Prop,(∀s,eB (Ends C fx fn.results.toList r outs) s->Q .ret s)->(∀s,eB (Ends C fx fn.results.toList r outs) s->Q .normal s)->a6 C cR Q (aq (num 0 as))):n9 C f m k as r outs:=by
 rintro w F X S vs hl ⟨b,abn,fr,aW,a8,aY,bT⟩ a4;refine JY (fx:=fx) bB bo ab lg aZ hl a4 λa rk e9=>?_;refine JW bB (H:=Fx C f fx as.length m k) ?_ c (by rw[aN.JT];exact ad) (aN.EZ cR ao) (E1 cR ?_) rk
 .rintro c T gJ Q s R ef ⟨ty,k0,d0,pq,ja,args,d1,rest,fX,rfl,rfl,kj,hm,mr,Fy,ao,iv,hlen,apI⟩ wV abo ⟨a2,bq,ck,yu,cA,eE⟩;replace hm:∀r∈ja,∀d,r.dst=some d->d≠d0/\m+pq<=d:=λr a4 d ak=>by
   have:=S4 hm r a4 d ak;simpa using this
  replace mr:=of_decide_eq_true mr;replace Fy:=of_decide_eq_true Fy;replace iv:∀j,j<pq->m+j∈fx:=λj bP=>by
   have:=List.all_eq_true.1 iv j (mem_range.2 bP);simpa using this
  obtain⟨id,ops,rfl,uZ⟩:=Fw wV;have S7:∀j,j<pq->R.tmps.getD (j+m) undef=vs.getD (j+m) undef:=λj bP=>by
   rw[Nat.add_comm];exact ck _ (iv j bP)
  have iB:((range pq).map (·+m)).map (λj=>R.tmps.getD j undef)=vs.drop m:=by
   rw[abl vs m pq (by omega),List.map_map,List.map_map];apply map_congr_left;intro j bP;exact S7 j (mem_range.1 bP)
  refine SV (Q:=wH w F X ⟨fn.ntmps,fx⟩ (iD vs) Q) (K:=eB (Q .normal)) (b:=b) (ty:=abn) (fr:=fr) (g:=f) (k0:=k0) (cs:=(range pq).map (·+m)) bB uZ kj (λr a4 d ak=>⟨(hm r a4 d ak).1,λyI=>?_⟩) (λyI=>?_) ?_ a2 bq ck eE (eE.ib b aY) ?_ ?_ ?_ (λaI dd aQ ao ft=>ft.eB ao)
  .obtain⟨j,bP,rfl⟩:=mem_map.1 yI;have:=(hm r a4 _ ak).2;have:=mem_range.1 bP;omega
  .obtain⟨j,bP,e⟩:=mem_map.1 yI;have:=mem_range.1 bP;omega
  .rw[getElem?_map,getElem?_range Fy,ao];simp[Nat.add_comm]
  .rw[ao,Nat.add_comm,S7 k0 Fy,Nat.add_comm,<-ao];exact aW
  .rw[iB,eE.old b (a4.gE b aY) bT];exact a8
  .refine wK (λ_ s1=>?_) abo;rintro⟨ps,r,dr,dh,hM,g7,k9,Bm,JM⟩;exact⟨ps,r,dr,dh,hM,g7,k9,Bm,wK (λ_ s h=>.inr ⟨_,S5 _ _,h⟩) JM⟩
 .rw[Bv];exact h _ (λs h=>⟨.inr rfl,h⟩) (λs h=>⟨.inl rfl,h⟩)
theorem abp {Q:Exit->az->Prop} {l:arL} {f:FuncId} {k k0 d0:Nat} {cs:arH} {m:List cn} {args:List bl} {d1:Option Nat} {rest:List cn} {fX:arH} {b:aN} (cb:arL)
  (h:∀P:arL->Prop,P cb->rC C f k k0 d0 cs m args d1 rest fX P (aq l)) (ao:Q .normal (aq cb)):a6 C (.jT (KA C f k k0 d0 cs m args d1 rest fX) b) Q (aq l):=
 λfg KB=>h (λl=>fg .normal (aq l)) (KB _ _ ao)
theorem S8 {l:arL} {f:FuncId} {k k0:Nat} {cs:arH} {args:List bl} {d1:Option Nat} {rest:List cn} {fX:arH} {P:arL->Prop} {r:J} (ps:List c8)
  (bI:n9 C f args.length (args.length+k0) (ps.map (·.d)) r (ps.map (·.o))) (ag:ps.map (·.a)=kn (aq l) args++cs.map (sI k (aq l))) (aK:ry (aq l) ps) (a3:jb ps=true)
  (dc:r.res=true) (c6:kV ps=false\/(r.da&&sE ps)=true)
  (hK:dk C (fin (iC (fT (aq l) ps) ps) d1 r) rest none (λ_ s=>P (gz fX s))):S2 C f k k0 cs args d1 rest fX P (aq l):=by
 refine⟨ps,r,by rw[ag,yE],Fh aK,a3,bI,dc,?_,hK⟩;intro hl;rcases c6 with c6|c6
 .rw[c6]at hl;cases hl
 .rw[Bool.and_eq_true]at c6;exact⟨c6.1,Fi c6.2⟩
end
end Go.ek
