/- Part of a proof that a law returns true for every input. No condition. -/
import Derived.Test.YtmaepbgkcmjcjahGreatDoorFwI
namespace Go.ei
open List Go.IntKind Nat Or
def pI (C:cy) (f:FuncId) (m k:Nat) (as:azk) (r:I) (outs:azk):Prop:=
 ∀(w:World) (F X:Nat->Prop) (S:Nat->Nat->Prop) (vs:azi),vs.length=as.length->
  (∃b ty fr,vs.getD k undef= .pointer (some ⟨b,0,none⟩)/\w.heap[b]? =some (.cells #[.func (.func f) #[] (vs.drop m).toArray] ty fr)/\F b/\¬X b)->
  cj w F X F S (gl as) (iz vs) w->
  rL C.P f vs.toArray w λv aP=>∃cn a_,cj w F X cn a_ (gl (r::outs)) (iz (v::vs)) aP
section
variable {C:cy} {w0 w:World} {F0 X F cn:Nat->Prop} {S a_:Nat->Nat->Prop} {n:Fr} {ρ:Nat->Value} {s aE:al} {aH mS:Nat->Value} {a:Act} {av:I} {Q:Exit->Act->World->Prop} {aP:World}
theorem cj.base (h:cj w0 F0 X F S s aH w):cj w F (λb=>∃u,S u b) F S s aH w where
 h_:=λ_ h=>h
 iL:=λ_ h=>.inl h
 gg:=h.gg
 fB:=h.fB
 gN:=h.gN
 gh:=h.gh
 eX:=λu b ab=>.inl ⟨u,ab⟩
 eu:=h.eu
 old:=λ_ _ _=>rfl
 size:=Nat.le_refl _
 os:=rfl
 tape:=rfl
 output:=Out.refl _
 gw:=h.gw.next h.size h.old λb ⟨u,hu⟩=>h.eX u b hu
theorem cj.XK (h:cj w0 F0 X F S s aH w) (bF:cj w F (λb=>∃u,S u b) cn a_ aE mS aP):cj w0 F0 X cn a_ aE mS aP where
 h_:=λb ab=>bF.h_ b (h.h_ b ab)
 iL:=λb ab=>by
  rcases bF.iL b ab with ab|⟨u,ab⟩|ab
  .exact h.iL b ab
  .exact .inr (h.eX u b ab)
  .exact .inr (.inr (Nat.le_trans h.size ab))
 gg:=bF.gg
 fB:=bF.fB
 gN:=bF.gN
 gh:=bF.gh
 eX:=λu b ab=>by
  rcases bF.eX u b ab with⟨u,ab⟩|ab
  .exact h.eX u b ab
  .exact .inr (Nat.le_trans h.size ab)
 eu:=bF.eu
 old:=λb ab mT=>by
  refine(bF.old b (Nat.lt_of_lt_of_le ab h.size) λ⟨u,hu⟩=>?_).trans (h.old b ab mT);rcases h.eX u b hu with aq|aq
  .exact mT aq
  .omega
 size:=Nat.le_trans h.size bF.size
 os:=bF.os.trans h.os
 tape:=bF.tape.trans h.tape
 output:=bF.output.trans h.output
 gw:=h.gw
inductive uI:azk->azk->Prop
 |nil:uI [] []
 |eq {a:I} {as l9:azk}:a.aa=[]->uI as l9->uI (a::as) (a::l9)
 |wd {a b:I} {as l9:azk}:fR a b->a.tree=true->b.aa=[]->uI as l9->uI (a::as) (b::l9)
theorem uI.get:∀{as l9:azk},uI as l9->∀p k,p∈num k l9->p.2.aa=[]/\∃a,as[p.1-k]? =some a/\k<=p.1/\(p.2=a\/(a.tree=true/\fR a p.2))
 |_,_,.nil,p,k,ax=>by simp[num]at ax
 |_,_,.eq (a:=a) h hw,p,k,ax=>by
  simp only[num,mem_cons]at ax;rcases ax with rfl|ax
  .exact⟨h,a,by simp,Nat.le_refl _,.inl rfl⟩
  .obtain⟨ad,x,ag,aD,bh⟩:=hw.get p (k+1) ax;refine⟨ad,x,?_,by omega,bh⟩;rw[show p.1-k=(p.1-(k+1))+1 by omega,getElem?_cons_succ];exact ag
 |_,_,.wd (a:=a) h bb ab hw,p,k,ax=>by
  simp only[num,mem_cons]at ax;rcases ax with rfl|ax
  .exact⟨ab,a,by simp,Nat.le_refl _,.inr ⟨bb,h⟩⟩
  .obtain⟨ad,x,ag,aD,bh⟩:=hw.get p (k+1) ax;refine⟨ad,x,?_,by omega,bh⟩;rw[show p.1-k=(p.1-(k+1))+1 by omega,getElem?_cons_succ];exact ag
theorem uI.len:∀{as l9:azk},uI as l9->l9.length=as.length
 |_,_,.nil=>rfl
 |_,_,.eq _ hw=>by simp[hw.len]
 |_,_,.wd _ _ _ hw=>by simp[hw.len]
theorem aX.agP {f:FuncId} {as l9:azk} {r:I} {outs:azk} (h:aX C f l9 r outs) (hw:uI as l9):aX C f as r outs:=by
 intro w F X S vs hl aS;have Oy:xU (gl as) (num 0 l9):=λp ax=>by
  obtain⟨ad,a,ag,_,bh⟩:=hw.get p 0 ax;have e:gl as p.1=a:=by simp[gl,List.getD,show as[p.1]? =some a from ag]
  rw[e];rcases bh with bh|⟨bb,bh⟩
  .exact .inl bh
  .refine .inr ⟨bb,bh,λdr fq=>.inl ?_⟩;rw[(hw.get dr 0 fq).1];simp
 obtain⟨cn,a_,ag⟩:=aS.NW Oy;rw[<-Fu]at ag;exact(h w cn _ a_ vs (hl.trans hw.len.symm) ag.base).mono λv aP ⟨vW,eJ,aD⟩=>⟨vW,eJ,ag.XK aD⟩
theorem XL (C:cy) (K:al->Prop):∀(rs pre post:List cC) (s:al),oq C s rs K->kP C (pre++(rs++post)) s ((range rs.length).map (·+pre.length)) K:=by
 intro rs;induction rs with
 |nil=>intro pre post s h;exact h
 |cons r rs ih=>
  intro pre post s h;rw[length_cons,range_succ_eq_map,map_cons,List.map_map];simp only[kP,Nat.zero_add];rw[getElem?_append_right (Nat.le_refl _)];simp only[Nat.sub_self,cons_append,getElem?_cons_zero];have key:∀s1,oq C s1 rs K->kP C (pre++r::(rs++post)) s1 ((range rs.length).map ((λx=>x+pre.length)∘succ)) K:=by
   intro s1 ad;have:=ih (pre++[r]) post s1 ad;simp only[append_assoc,singleton_append,length_append,length_singleton]at this;have e:((λx=>x+pre.length)∘succ)=λx=>x+(pre.length+1):=by funext x;simp;omega
   rw[e];exact this
  simp only[oq]at h;exact Jb h key
theorem agQ (kl:a.defers=[]) (fa:a.tmps.size=n.n) (iO:∀i∈n.fx,a.tmps.getD i undef=ρ i) (aS:cj w0 F0 X F S s (λt=>a.tmps.getD t undef) w)
  {o:Oper} {d0 k:Nat} {args:List bB} {g:FuncId} {caps:azk} {arr:Array Value} {ps:List dE} {r:I} (dd:dy o.op=some (.call (.t d0) args)) (ao:om n o.dst=true)
  (aF:a.tmps.getD d0 undef= .func (.func g) #[] arr) (au:e_ w F s (λt=>a.tmps.getD t undef) caps arr.toList) (h3:I.e6 caps=true)
  (agR:∃b ty fr,(arr.toList).getD k undef= .pointer (some ⟨b,0,none⟩)/\w.heap[b]? =some (.cells #[.func (.func g) #[] arr] ty fr)/\F b) (FL:k<arr.size)
  (ag:ps.map (·.a)=args.map (bx s)++caps) (aD:∀p∈ps,p.ok s) (bh:jU ps=true) (b1:pI C g args.length (args.length+k) (ps.map (·.d)) r (ps.map (·.o))) (du:r.res=true)
  (di:mg ps=true->r.dc=true/\∀p∈ps,p.o.dc=true) {K:al->Prop} {next:Act->World->Prop} (hi:K (fin (jk (fW s ps) ps) o.dst r))
  (aV:∀aE dI aP,K aE->Rel w0 F0 X n ρ aE dI aP->next dI aP):o.wp C.P a w next Q:=by
 obtain⟨dst,op,ty,pos,after,guard⟩:=o;simp only at dd ao hi;cases op with
 |call c=>
  obtain⟨callee,p7,argTypes⟩:=c;simp only[dy]at dd;split at dd
  .split at dd
   .rename_i Fa _ _ ae8 xs bH uA;simp only[Option.some.injEq,e0.call.injEq]at dd;obtain⟨rfl,rfl⟩:=dd;have ER:Fa= .tmp d0:=by
     cases Fa with
     |tmp t=>simp only[eK,Option.some.injEq,bB.t.injEq]at bH;rw[bH]
     |const v=>simp only[eK,Option.map_eq_some_iff]at bH;obtain⟨c,_,bH⟩:=bH;cases bH
     |func g=>simp[eK]at bH
     |global g=>simp[eK]at bH
    subst ER;have Fb:execOp a.eval {dst,op:=.call {callee:=.value (.tmp d0),args:=p7,argTypes},type:=ty,pos,after,guard}=callFunc g ((p7.toList.map a.eval++arr.toList).toArray):=by
     have:a.eval (.tmp d0)= .func (.func g) #[] arr:=aF;simp only[execOp,resolve,this,Deferred.ofValue,pure_bind,invoke];congr 1;apply Array.ext';simp
    unfold Oper.wp;rw[Fb];have hlen:(p7.toList.map a.eval).length=xs.length:=by
     have:=congrArg length (zt uA);simpa using this
    have Fe:e_ w F s (λt=>a.tmps.getD t undef) (xs.map (bx s)++caps) (p7.toList.map a.eval++arr.toList):=VX (I2 aS (λ_=>rfl) _ _ (zt uA)) au;rw[<-ag]at Fe;obtain⟨ic,l2⟩:=VY Fe;have fO:∀d∈xs.map (bx s)++caps,d.plain=true:=by
     intro d ao;rcases mem_append.1 ao with ao|ao
     .obtain⟨x,aq,rfl⟩:=mem_map.1 ao;exact Uz s x λav e=>by
       subst e;have hm:=zt uA;have:some (bB.c av)∈xs.map some:=mem_map.2 ⟨_,aq,rfl⟩;rw[<-hm]at this;obtain⟨o,_,bO⟩:=mem_map.1 this;cases o with
       |const v=>simp only[eK,Option.map_eq_some_iff]at bO;obtain⟨c,au,e⟩:=bO;cases e;exact MS au
       |tmp n=>simp[eK]at bO
       |func g=>simp[eK]at bO
       |global g=>simp[eK]at bO
     .obtain⟨k,aw⟩:=getElem?_of_mem ao;exact Iz h3 aw
    have NP:=VS (C:=C) aS (ps:=ps) (vs:=p7.toList.map a.eval++arr.toList) (f:=g) (r:=r) (by simpa using ic)
     (λi p v ax aF=>⟨fO p.a (by rw[<-ag];exact mem_map.2 ⟨p,mem_of_getElem? ax,rfl⟩),l2 i p.a v (by simp[ax]) aF⟩) aD bh
     (λFc pD fj bJ mT ax=>by
      refine b1 w Fc pD fj _ (by rw[<-ic];simp) ?_ ax;obtain⟨b,JB,fr,aR,aW,aU⟩:=agR;refine⟨b,JB,fr,?_,?_,bJ b aU,λaq=>by obtain⟨u,hu⟩:=mT b aq;exact aS.gN u b hu aU⟩
      .rw[getD_eq_getElem?_getD,getElem?_append_right (by omega),hlen,Nat.add_sub_cancel_left,<-getD_eq_getElem?_getD];exact aR
      .rw[aW,<-hlen,drop_left])
     du di
    rcases NP with⟨ek,bf⟩|⟨v,aP,ek,cn,a_,bf,dA⟩
    .rw[ek,Oper.upon_enter];refine Calls.mono bf ?_;rintro e aP ⟨v,rfl,cn,a_,bX,cu⟩;exact aV _ _ _ hi (Rel.put kl fa iO bX cu.1 ao)
    .rw[ek,Oper.upon_value];exact aV _ _ _ hi (Rel.put kl fa iO bf dA.1 ao)
   .cases dd
  .split at dd
   .simp only[Option.map_eq_some_iff]at dd;obtain⟨_,_,dd⟩:=dd;cases dd
   .cases dd
  .split at dd
   .simp only[Option.map_eq_some_iff]at dd;obtain⟨_,_,dd⟩:=dd;cases dd
   .cases dd
  iterate 3
   .split at dd
    .split at dd<;>cases dd
    .cases dd
  .cases dd
 |makeFunc fn first cs=>
  cases fn<;>simp only[dy]at dd<;>first|(cases dd;done)|(split at dd<;>simp at dd)
 |slice T x fT ai fv=>
  cases fv<;>simp only[dy]at dd<;>first|(cases dd;done)|(split at dd<;>simp at dd)
 |makeMap T r=>cases r<;>simp only[dy]at dd<;>simp at dd
 |lookup T x i c=>cases c<;>simp only[dy]at dd<;>first|(cases dd;done)|(split at dd<;>simp at dd)
 |_=>simp only[dy]at dd<;>first|(cases dd;done)|(simp at dd;done)|(split at dd<;>simp at dd)
theorem agS {op:Op} {T:TypeId} {x:bB} (h:dy op=some (.fV T x)):∃y,op= .load T y/\eK y=some x:=by
 cases op with
 |load NQ y=>
  simp only[dy,Option.map_eq_some_iff]at h;obtain⟨cU,aq,h⟩:=h;cases h;exact⟨y,rfl,aq⟩
 |call c=>
  obtain⟨callee,p7,argTypes⟩:=c;simp only[dy]at h;split at h<;>(try split at h)<;>(try split at h)<;>(try simp[Option.map_eq_some_iff]at h)
 |makeFunc fn first cs=>
  cases fn<;>simp only[dy]at h<;>first|(cases h;done)|(split at h<;>simp at h)
 |slice T x fT ai fv=>
  cases fv<;>simp only[dy]at h<;>first|(cases h;done)|(split at h<;>simp at h)
 |makeMap T r=>cases r<;>simp only[dy]at h<;>simp at h
 |lookup T x i c=>cases c<;>simp only[dy]at h<;>first|(cases h;done)|(split at h<;>simp at h)
 |_=>simp only[dy]at h<;>first|(cases h;done)|(simp at h;done)|(split at h<;>simp at h)
theorem JC {y:Operand} {k:Nat} (h:eK y=some (.t k)):y= .tmp k:=by
 cases y with
 |tmp t=>simp only[eK,Option.some.injEq,bB.t.injEq]at h;rw[h]
 |const v=>simp only[eK,Option.map_eq_some_iff]at h;obtain⟨c,_,h⟩:=h;cases h
 |func g=>simp[eK]at h
 |global g=>simp[eK]at h
def uJ (k:Nat) (s:al) (j:Nat):I:=if j=k then .ref .hole else uh j (s j)
theorem agT {aH:Nat->Value} {b k:Nat} {v:Value} {ty:TypeId} {fr:Nat×Nat} (aS:cj w0 F0 X F S s aH w) (aw:aH k= .pointer (some ⟨b,0,none⟩)) (ab:F b) (au:w.heap[b]? =some (.cells #[v] ty fr)) (ad:Value.hO v=true):
  ∀cs:azf,e_ w F s aH (cs.map (uJ k s)) (cs.map aH)/\I.e6 (cs.map (uJ k s))=true:=by
 intro cs;induction cs with
 |nil=>exact⟨by rw[map_nil,map_nil,e_],rfl⟩
 |cons j cs ih=>
  simp only[map_cons];have bG:aQ w F s aH (uJ k s j) (aH j) (λ_=>False)/\(uJ k s j).plain=true:=by
   unfold uJ;split
   .rename_i e;subst e;rw[aw];refine⟨(aQ.dx rfl).2 ⟨rfl,?_⟩,rfl⟩;rw[az];refine⟨b,0,[v],rfl,ab,?_,?_⟩
    .intro i c ai;cases i with
     |zero=>simp at ai;subst ai;simp[World.cell?,au]
     |succ i=>simp at ai
    .rw[az];exact⟨v,ad,rfl⟩
   .unfold uh;split
    .rename_i ax;exact⟨aQ.nothing ax (aS.eu j),ax⟩
    .rename_i ax;refine⟨?_,rfl⟩;rw[aQ];intro d ao ax;simp only[I.sub,Option.some.injEq]at ao;subst ao;have bb:(s j).tree=true:=by
      cases aa:s j<;>first|rfl|(rw[aa]at ax;simp[I.plain]at ax)
     exact⟨_,none,rfl,rfl,((aQ.dx bb).1 (aS.eu j)).1⟩
  refine⟨?_,?_⟩
  .rw[e_];exact⟨_,_,rfl,bG.1,ih.1⟩
  .simp only[I.e6,bG.2,ih.2,Bool.and_self]
theorem XM (bU:C.fK) {id:Nat} {ops:Array Oper} {T:TypeId} {k k0 d0:Nat} {m rest:List cC} {args:List bB} {d1:Option Nat} {g:FuncId} {cs:azf} {b:Nat} {ty:TypeId} {fr:Nat×Nat} {K:al->Prop}
  (xT:uC n ops ops.toList=some ((⟨some d0,.fV T (.t k),none⟩::(m++⟨d1,.call (.t d0) args,none⟩::rest):List cC).map cC.un))
  (ln:(C.T T).flat=true) (hm:∀r∈m,∀d,r.dst=some d->d≠d0/\d∉cs) (nU:d0∉cs) (B8:cs[k0]? =some k)
  (kl:a.defers=[]) (fa:a.tmps.size=n.n) (iO:∀i∈n.fx,a.tmps.getD i undef=ρ i) (aS:cj w0 F0 X F S s (λt=>a.tmps.getD t undef) w)
  (ab:F b) (aw:a.tmps.getD k undef= .pointer (some ⟨b,0,none⟩)) (IL:w.heap[b]? =some (.cells #[.func (.func g) #[] (cs.map λj=>a.tmps.getD j undef).toArray] ty fr))
  (h:oq C (fin s (some d0) .hole) m λs1=>∃ps r,ps.map (·.a)=args.map (bx s1)++cs.map (uJ k s1)/\(∀p∈ps,p.ok s1)/\jU ps=true/\
   pI C g args.length (args.length+k0) (ps.map (·.d)) r (ps.map (·.o))/\r.res=true/\(mg ps=true->r.dc=true/\∀p∈ps,p.o.dc=true)/\oq C (fin (jk (fW s1 ps) ps) d1 r) rest K)
  (aV:∀aE dI aP,K aE->Rel w0 F0 X n ρ aE dI aP->Q .normal dI aP):(Code.region id ops false).wp C.P Q a w:=by
 obtain⟨hl,rQ⟩:=Fh xT;have OD:∀(i:Nat) (r:cC),(⟨some d0,.fV T (.t k),none⟩::(m++⟨d1,.call (.t d0) args,none⟩::rest):List cC)[i]? =some r->∃o,ops[i]? =some o/\uB n ops o=some r.un:=by
  intro i r ai;have eN:i<ops.toList.length:=by
   rw[hl,length_map];exact(List.getElem?_eq_some_iff.1 ai).1
  obtain⟨hW,ad,ag⟩:=rQ i _ (getElem?_eq_getElem eN);rw[getElem?_map,ai]at ad;simp only[Option.map_some,Option.some.injEq]at ad;exact⟨_,by rw[<-Array.getElem?_toList];exact getElem?_eq_getElem eN,by rw[ad];exact ag⟩
 have B9:∀{r:cC} {o:Oper},r.guard=none->uB n ops o=some r.un->r.dst=o.dst/\o.guard=none/\s6 o.op=r.b3.base/\om n o.dst=true:=by
  intro r o hg h;unfold uB at h;split at h
  .rename_i ao;split at h
   .rename_i XN iX;simp only[cC.un,Option.some.injEq,cC.mk.injEq]at h;obtain⟨aR,aW,aU⟩:=h;refine⟨aR.symm,?_,aW,ao⟩;rw[aU,hg]at iX;cases bO:o.guard with
    |none=>rfl
    |some NU=>
     rw[bO]at iX;simp only[E9]at iX;split at iX<;>cases iX
   .cases h
  .cases h
 have agU:ops.size=m.length+rest.length+2:=by
  have:ops.toList.length=ops.size:=by simp
  rw[<-this,hl];simp;omega
 have agV:range ops.size=0::((range m.length).map (·+1)++((m.length+1)::(range rest.length).map (·+(m.length+2)))):=by
  rw[agU,show m.length+rest.length+2=(m.length+rest.length+1)+1 from rfl,range_succ_eq_map];congr 1;rw[show m.length+rest.length+1=m.length+(rest.length+1) by omega,range_add,map_append,range_succ_eq_map];simp only[List.map_map,map_cons,Nat.add_zero];congr 1;congr 1;apply map_congr_left;intro x _;simp;omega
 obtain⟨x_,agW,nE⟩:=OD 0 _ rfl;obtain⟨gZ,gx,iM,jH⟩:=B9 rfl nE;change s6 x_.op= .fV T (.t k)at iM;have FM:dy x_.op=some (.fV T (.t k)):=by
  rcases rP iM with h|h
  .cases h
  .exact h
 obtain⟨y,hy,agX⟩:=agS FM;have:=JC agX;subst this;let j3:Value:=.func (.func g) #[] (cs.map λj=>a.tmps.getD j undef).toArray
 have mB:jD w b 0 [j3]:=by
  intro i c ai;cases i with
  |zero=>simp at ai;subst ai;simp[World.cell?,IL,j3]
  |succ i=>simp at ai
 refine wp_region ?_;rw[agV];simp only[wpOps,agW];show(if Region.wanted x_ (yielded ops a.tmps)=true then x_.wp C.P a w _ Q\/(x_.asks C.P a w/\LetsOut Q)else _);rw[if_pos (I7 gx)];left;have Fb:(execOp a.eval x_).run C.P w= .ok (.value j3) w:=by
  obtain⟨dst,op,ty,pos,after,guard⟩:=x_;simp only at hy;subst hy;have:a.eval (.tmp k)= .pointer (some ⟨b,0,none⟩):=aw;simp[execOp,this,Instr.loadAt,Instr.sureAddr,UF bU ln mB]
 unfold Oper.wp;rw[Fb,Oper.upon_value];have OE:some d0=x_.dst:=gZ;rw[<-OE]at jH⊢;let J:Act:=a.put (some d0) j3
 let mi:Fr:=⟨n.n,d0::k::(cs++n.fx)⟩
 let ρ1:Nat->Value:=λt=>J.tmps.getD t undef
 have uK:k∈cs:=mem_of_getElem? B8;have uv:=aS.base;have OG:Rel w F (λb=>∃u,S u b) ⟨n.n,[]⟩ ρ1 (fin s (some d0) .hole) J w:=
  Rel.put (n:=⟨n.n,[]⟩) kl fa (λi ai=>by cases ai) uv (.inl ⟨rfl,by rw[aQ];trivial⟩) (by
   simp only[om,Bool.and_eq_true,decide_eq_true_eq]at jH⊢;exact⟨jH.1,by simp⟩)
 have agY:Rel w F (λb=>∃u,S u b) mi ρ1 (fin s (some d0) .hole) J w:=⟨OG.defers,OG.size,λi _=>rfl,OG.rel⟩
 have XO:∀t,t≠d0->ρ1 t=a.tmps.getD t undef:=by
  intro t bb;have:=congrFun (E_ (n:=n) (dst:=some d0) (a:=a) j3 fa jH).1 t;simp only[qF]at this;rw[ll _ _ bb]at this;exact this
 have agZ:ρ1 d0=j3:=by
  have:=congrFun (E_ (n:=n) (dst:=some d0) (a:=a) j3 fa jH).1 d0;simp only[qF]at this;rw[oV]at this;exact this
 have hw:=XL C _ m [⟨some d0,.fV T (.t k),none⟩] (⟨d1,.call (.t d0) args,none⟩::rest) _ h;have mid:∀aE dI aP,(∃ps r,ps.map (·.a)=args.map (bx aE)++cs.map (uJ k aE)/\(∀p∈ps,p.ok aE)/\jU ps=true/\
   pI C g args.length (args.length+k0) (ps.map (·.d)) r (ps.map (·.o))/\r.res=true/\(mg ps=true->r.dc=true/\∀p∈ps,p.o.dc=true)/\oq C (fin (jk (fW aE ps) ps) d1 r) rest K)->
   Rel w F (λb=>∃u,S u b) mi ρ1 aE dI aP->wpOps C.P ops Q ((m.length+1)::(range rest.length).map (·+(m.length+2))) dI aP:=by
  rintro s2 a2 hR ⟨ps,r,aR,aW,aU,cc,cZ,cv,cd⟩ ⟨g1,g2,g3,vW,eJ,g4⟩;obtain⟨B_,ag0,kA⟩:=OD (m.length+1) ⟨d1,.call (.t d0) args,none⟩ (by simp);obtain⟨gY,ix,kh,UR⟩:=B9 rfl kA;simp only[wpOps,ag0];show(if Region.wanted B_ (yielded ops a2.tmps)=true then B_.wp C.P a2 hR _ Q\/(B_.asks C.P a2 hR/\LetsOut Q)else _);rw[if_pos (I7 ix)];left;change s6 B_.op= .call (.t d0) args at kh;have ag1:dy B_.op=some (.call (.t d0) args):=by
   rcases rP kh with h|h
   .cases h
   .exact h
  have XP:vW b:=g4.h_ b ab;have XQ:hR.heap[b]? =some (.cells #[j3] ty fr):=by
   rw[g4.old b (aS.gg b ab) (λ⟨u,hu⟩=>aS.gN u b hu ab)];exact IL
  have XR:∀j∈cs,a2.tmps.getD j undef=a.tmps.getD j undef:=by
   intro j bG;rw[g3 j (by simp[mi,bG])];exact XO j (λe=>nU (e▸bG))
  have pr:a2.tmps.getD k undef= .pointer (some ⟨b,0,none⟩):=(XR k uK).trans aw;have XS:(cs.map λj=>a.tmps.getD j undef)=cs.map λj=>a2.tmps.getD j undef:=map_congr_left λj bG=>(XR j bG).symm;obtain⟨cx,c2⟩:=agT (k:=k) g4 pr XP XQ rfl cs;have Nd:∀aE dI aP,oq C aE rest K->Rel w F (λb=>∃u,S u b) ⟨n.n,n.fx⟩ ρ aE dI aP->wpOps C.P ops Q ((range rest.length).map (·+(m.length+2))) dI aP:=by
   intro oZ a3 qQ aD JD;have Je:=XL C K rest ((⟨some d0,.fV T (.t k),none⟩::m)++[⟨d1,.call (.t d0) args,none⟩]) [] oZ aD;have:=NT (Q:=Q) bU (ops:=ops) (ros:=((⟨some d0,.fV T (.t k),none⟩::m)++[⟨d1,.call (.t d0) args,none⟩])++(rest++[])) (l2:=[]) (K:=K) (λaE dI aP nW fA=>by
     obtain⟨tf,z2,z3,ag2,U3,z4⟩:=fA;exact aV aE dI aP nW ⟨tf,z2,z3,ag2,U3,aS.XK z4⟩) ((range rest.length).map (·+(m.length+2))) (λi ai=>by
      have Fs:((⟨some d0,.fV T (.t k),none⟩::m)++[⟨d1,.call (.t d0) args,none⟩])++(rest++[])=(⟨some d0,.fV T (.t k),none⟩::(m++⟨d1,.call (.t d0) args,none⟩::rest):List cC):=by simp
      rw[Fs];refine⟨λnS=>?_,λo bO=>?_⟩
      .rw[List.getElem?_eq_none_iff];have:=Array.getElem?_eq_none_iff.1 nS;simp;omega
      .obtain⟨aj,lh,ag⟩:=rQ i o (by simpa using bO);obtain⟨r,ad,rfl⟩:∃r,(⟨some d0,.fV T (.t k),none⟩::(m++⟨d1,.call (.t d0) args,none⟩::rest):List cC)[i]? =some r/\r.un=aj:=by
        rw[getElem?_map,Option.map_eq_some_iff]at lh;exact lh
       exact⟨r,ad,ag⟩) oZ a3 qQ (by
      have e:((⟨some d0,.fV T (.t k),none⟩::m)++[⟨d1,.call (.t d0) args,none⟩]:List cC).length=m.length+2:=by simp
      rw[e]at Je;exact Je) JD
   rwa [append_nil]at this
  have ag3:∀i∈n.fx,a2.tmps.getD i undef=ρ i:=by
   intro i ai;rw[g3 i (by simp[mi,ai]),XO i (λe=>?_)]
   .exact iO i ai
   .simp only[om,Bool.and_eq_true,Bool.not_eq_true',contains_eq_mem,decide_eq_false_iff_not]at jH;exact jH.2 (e▸ai)
  have FL:k0<cs.length:=(List.getElem?_eq_some_iff.1 B8).1;have ag4:B_.dst=d1:=gY.symm;exact agQ (n:=n) (ρ:=ρ) (K:=λaE=>oq C aE rest K) g1 g2 ag3 g4 ag1 UR
   (arr:=(cs.map λj=>a2.tmps.getD j undef).toArray) (k:=k0) (caps:=cs.map (uJ k s2)) (g:=g) (ps:=ps) (r:=r)
   (by rw[g3 d0 (by simp[mi]),agZ];simp only[j3,XS]) (by simpa using cx) c2
   ⟨b,ty,fr,by
     rw[getD_eq_getElem?_getD,getElem?_map,B8];exact pr,by rw[XQ];simp only[j3,XS],XP⟩ (by simpa using FL)
   aR aW aU cc cZ cv (by rw[ag4];exact cd) Nd
 have:=NT (Q:=Q) bU (ops:=ops) (ros:=[⟨some d0,.fV T (.t k),none⟩]++(m++⟨d1,.call (.t d0) args,none⟩::rest)) (l2:=(m.length+1)::(range rest.length).map (·+(m.length+2))) mid
  ((range m.length).map (·+1)) (λi ai=>by
    obtain⟨j,bG,rfl⟩:=mem_map.1 ai;have FN:j<m.length:=mem_range.1 bG;refine⟨λnS=>?_,λo bO=>?_⟩
    .have:=Array.getElem?_eq_none_iff.1 nS;omega
    .obtain⟨qL,Fy,gd⟩:=OD (j+1) m[j] (by
      simp only[getElem?_cons_succ];rw[getElem?_append_left FN,getElem?_eq_getElem FN])
     have heq:qL=o:=by rw[Fy]at bO;exact Option.some.inj bO
     subst heq;refine⟨m[j],by
      simp only[singleton_append,getElem?_cons_succ];rw[getElem?_append_left FN,getElem?_eq_getElem FN],?_⟩
     have ag5:=hm m[j] (getElem_mem FN);unfold uB at gd⊢;split at gd
     .rename_i ao;rw[if_pos]
      .exact gd
      .cases XT:qL.dst with
       |none=>rfl
       |some d=>
        rw[XT]at ao;simp only[om,Bool.and_eq_true,decide_eq_true_eq,Bool.not_eq_true',contains_eq_mem,decide_eq_false_iff_not]at ao⊢;refine⟨ao.1,?_⟩;have I8:m[j].dst=some d:=by
         split at gd
         .simp only[cC.un,Option.some.injEq,cC.mk.injEq]at gd;rw[<-gd.1,XT]
         .cases gd
        obtain⟨m1,m2⟩:=ag5 d I8;simp only[mi,mem_cons,mem_append,not_or];exact⟨m1,λe=>m2 (e▸uK),m2,ao.2⟩
     .cases gd) (fin s (some d0) .hole) J w (by simpa using hw) agY
 exact this
def XU (C:cy) (f:FuncId) (k k0:Nat) (cs:azf) (args:List bB) (d1:Option Nat) (rest:List cC) (keep:azf) (P:azj->Prop) (s1:al):Prop:=
 ∃ps r,ps.map (·.a)=args.map (bx s1)++cs.map (uJ k s1)/\(∀p∈ps,p.ok s1)/\jU ps=true/\
  pI C f args.length (args.length+k0) (ps.map (·.d)) r (ps.map (·.o))/\r.res=true/\(mg ps=true->r.dc=true/\∀p∈ps,p.o.dc=true)/\
  dF C (fin (jk (fW s1 ps) ps) d1 r) rest none (λ_ s=>P (gW keep s))
def tg (C:cy) (f:FuncId) (k k0 d0:Nat) (cs:azf) (m:List cC) (args:List bB) (d1:Option Nat) (rest:List cC) (keep:azf) (P:azj->Prop) (s:al):Prop:=
 dF C (fin s (some d0) .hole) m none λ_ s1=>XU C f k k0 cs args d1 rest keep P s1
def XV (C:cy) (f:FuncId) (k k0 d0:Nat) (cs:azf) (m:List cC) (args:List bB) (d1:Option Nat) (rest:List cC) (keep:azf) (K:al->Prop) (s:al):Prop:=
 tg C f k k0 d0 cs m args d1 rest keep (λl=>K (ar l)) s
def OH (f:Nat->Bool) (m:List cC):Bool:=m.all λr=>match r.dst with
 |none=>true
 |some d=>f d
theorem XW {f:Nat->Bool} {m:List cC} (h:OH f m=true):∀r∈m,∀d,r.dst=some d->f d=true:=by
 intro r aS d ao;have:=List.all_eq_true.1 h r aS;rw[ao]at this;exact this
theorem XX (k:azf) (s:al):xU s (gW k s):=by
 intro p ax;obtain⟨t,_,rfl⟩:=mem_map.1 ax;exact .inl rfl
def OI (C:cy) (f:FuncId) (k k0 d0:Nat) (cs:azf) (m:List cC) (args:List bB) (d1:Option Nat) (rest:List cC) (keep:azf):(Exit->al->Prop)->al->Prop:=
 λQ s=>XV C f k k0 d0 cs m args d1 rest keep (Q .normal) s
def XY (T:TypeId) (k d0:Nat) (m:List cC) (args:List bB) (d1:Option Nat) (rest:List cC):aA:=
 .ew (⟨some d0,.fV T (.t k),none⟩::(m++⟨d1,.call (.t d0) args,none⟩::rest)) none
theorem ag6 (vs:azi):∀(m n:Nat),m+n=vs.length->vs.drop m=((range n).map (·+m)).map λj=>vs.getD j undef:=by
 intro m n h;apply ext_getElem?;intro i;rw[getElem?_drop,List.map_map,getElem?_map];by_cases ai:i<n
 .rw[getElem?_range ai,getElem?_eq_getElem (by omega)];simp only[Option.map_some,Function.comp];rw[getD_eq_getElem?_getD,getElem?_eq_getElem (by omega)];simp only[Option.getD_some,Option.some.injEq];congr 1;omega
 .rw[getElem?_eq_none (by omega),getElem?_eq_none (by simp;omega)];rfl
theorem JE {c:Code} {rs:List cC} (h:gb n c=some (.ew rs none)):∃id ops,c= .region id ops false/\uC n ops ops.toList=some rs:=by
 cases c with
 |region id ops draw=>
  cases draw with
  |false=>
   simp only[gb]at h;split at h
   .rename_i r ad;cases h;exact⟨id,ops,rfl,ad⟩
   .cases h
  |true=>
   simp only[gb]at h;split at h
   .simp only[Option.map_eq_some_iff]at h;obtain⟨r,ad,ag⟩:=h;cases ag
   .cases h
 |seq a b=>simp only[gb]at h;split at h<;>cases h
 |cond c a b=>simp only[gb]at h;split at h<;>cases h
 |block id b=>simp only[gb,Option.map_eq_some_iff]at h;obtain⟨r,ad,ag⟩:=h;cases ag
 |loop b=>simp only[gb,Option.map_eq_some_iff]at h;obtain⟨r,ad,ag⟩:=h;cases ag
 |_=>simp[gb]at h
def JF (C:cy) (f:FuncId) (fx:azf) (ag7 m k:Nat) (T:(Exit->al->Prop)->al->Prop) (b:aA):Prop:=
 ∃(ty:TypeId) (k0 d0 qR:Nat) (jS:List cC) (args:List bB) (d1:Option Nat) (rest:List cC) (keep:azf),
  T=OI C f k k0 d0 ((range qR).map (·+m)) jS args d1 rest keep/\b=XY ty k d0 jS args d1 rest/\(C.T ty).flat=true/\OH (λd=>d !=d0&&decide (m+qR<=d)) jS=true/\decide (m+qR<=d0)=true/\
  decide (k0<qR)=true/\k=m+k0/\((range qR).all λj=>fx.contains (m+j))=true/\args.length=m/\m+qR=ag7
theorem pI.of_wp (bU:C.fK) {f:FuncId} {fn:Func} {c:Code} {ej:aA} {fx:azf} {as outs:azk} {r:I} {k m:Nat} (bH:C.P.funcs[f]? =some fn) (ab:fn.body=some c)
  (mH:(fn.name== "runtime.NumGoroutine")=false) (aa:gb ⟨fn.ntmps,fx⟩ c=some ej.strip) (aV:as.length<=fn.ntmps)
  (aw:ej.p8 (JF C f fx as.length m k))
  (h:∀Q:Exit->al->Prop,(∀s,eS (Ends C fx fn.results.toList r outs) s->Q .ret s)->(∀s,eS (Ends C fx fn.results.toList r outs) s->Q .normal s)->bn C ej Q (ar (num 0 as))):pI C f m k as r outs:=by
 rintro w F X S vs hl ⟨b,ag8,fr,aR,aW,aU,cc⟩ aS;refine N3 (fx:=fx) bU bH ab mH aV hl aS λa s7 ff=>?_;refine N1 bU (H:=JF C f fx as.length m k) ?_ c (by rw[aA.NX];exact aa) (aA.Ja ej aw) (Jc ej ?_) s7
 .rintro c T gV Q s J ft ⟨ty,k0,d0,qR,jS,args,d1,rest,keep,rfl,rfl,ln,hm,nU,JG,aw,iO,hlen,axm⟩ FM ag9 ⟨g1,g2,g3,BQ,cO,g4⟩;replace hm:∀r∈jS,∀d,r.dst=some d->d≠d0/\m+qR<=d:=λr aS d ao=>by
   have:=XW hm r aS d ao;simpa using this
  replace nU:=of_decide_eq_true nU;replace JG:=of_decide_eq_true JG;replace iO:∀j,j<qR->m+j∈fx:=λj bG=>by
   have:=List.all_eq_true.1 iO j (mem_range.2 bG);simpa using this
  obtain⟨id,ops,rfl,xT⟩:=JE FM;have XZ:∀j,j<qR->J.tmps.getD (j+m) undef=vs.getD (j+m) undef:=λj bG=>by
   rw[Nat.add_comm];exact g3 _ (iO j bG)
  have ib:((range qR).map (·+m)).map (λj=>J.tmps.getD j undef)=vs.drop m:=by
   rw[ag6 vs m qR (by omega),List.map_map,List.map_map];apply map_congr_left;intro j bG;exact XZ j (mem_range.1 bG)
  refine XM (Q:=zz w F X ⟨fn.ntmps,fx⟩ (iz vs) Q) (K:=eS (Q .normal)) (b:=b) (ty:=ag8) (fr:=fr) (g:=f) (k0:=k0) (cs:=(range qR).map (·+m)) bU xT ln (λr aS d ao=>⟨(hm r aS d ao).1,λB5=>?_⟩) (λB5=>?_) ?_ g1 g2 g3 g4 (g4.h_ b aU) ?_ ?_ ?_ (λaE dI aP aw fA=>fA.eS aw)
  .obtain⟨j,bG,rfl⟩:=mem_map.1 B5;have:=(hm r aS _ ao).2;have:=mem_range.1 bG;omega
  .obtain⟨j,bG,e⟩:=mem_map.1 B5;have:=mem_range.1 bG;omega
  .rw[getElem?_map,getElem?_range JG,aw];simp[Nat.add_comm]
  .rw[aw,Nat.add_comm,XZ k0 JG,Nat.add_comm,<-aw];exact aR
  .rw[ib,g4.old b (aS.gg b aU) cc];exact aW
  .refine zC (λ_ s1=>?_) ag9;rintro⟨ps,r,gZ,gx,iM,jH,rA,Ff,NS⟩;exact⟨ps,r,gZ,gx,iM,jH,rA,Ff,zC (λ_ s h=>.inr ⟨_,XX _ _,h⟩) NS⟩
 .rw[Fu];exact h _ (λs h=>⟨.inr rfl,h⟩) (λs h=>⟨.inl rfl,h⟩)
theorem ag_ {Q:Exit->al->Prop} {l:azj} {f:FuncId} {k k0 d0:Nat} {cs:azf} {m:List cC} {args:List bB} {d1:Option Nat} {rest:List cC} {keep:azf} {b:aA} (cK:azj)
  (h:∀P:azj->Prop,P cK->tg C f k k0 d0 cs m args d1 rest keep P (ar l)) (aw:Q .normal (ar cK)):bn C (.kQ (OI C f k k0 d0 cs m args d1 rest keep) b) Q (ar l):=
 λfl OJ=>h (λl=>fl .normal (ar l)) (OJ _ _ aw)
theorem X0 {l:azj} {f:FuncId} {k k0:Nat} {cs:azf} {args:List bB} {d1:Option Nat} {rest:List cC} {keep:azf} {P:azj->Prop} {r:I} (ps:List dE)
  (b1:pI C f args.length (args.length+k0) (ps.map (·.d)) r (ps.map (·.o))) (ag:ps.map (·.a)=lv (ar l) args++cs.map (uJ k (ar l))) (aD:te (ar l) ps) (bh:jU ps=true)
  (du:r.res=true) (di:mg ps=false\/(r.dc&&uF ps)=true)
  (hK:dF C (fin (jk (fW (ar l) ps) ps) d1 r) rest none (λ_ s=>P (gW keep s))):XU C f k k0 cs args d1 rest keep P (ar l):=by
 refine⟨ps,r,by rw[ag,B2],Jp aD,bh,b1,du,?_,hK⟩;intro hl;rcases di with di|di
 .rw[di]at hl;cases hl
 .rw[Bool.and_eq_true]at di;exact⟨di.1,Jq di.2⟩
end
end Go.ei
