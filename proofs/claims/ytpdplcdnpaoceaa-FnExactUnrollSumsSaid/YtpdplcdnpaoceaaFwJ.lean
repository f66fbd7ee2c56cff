/- Part of a proof that a law returns true for every input. No condition. -/
import Derived.Test.YtpdplcdnpaoceaaFwI
namespace Go.cV
open List Go.IntKind Nat Or
def og (C:bI) (f:FuncId) (m k:Nat) (as:Vr) (r:j) (outs:Vr):Prop:=
 ∀(w:World) (F X:Nat->Prop) (S:Nat->Nat->Prop) (vs:Vp),vs.length=as.length->
  (∃b ty fr,vs.getD k undef= .pointer (some ⟨b,0,none⟩)/\w.heap[b]? =some (.cells #[.func (.func f) #[] (vs.drop m).toArray] ty fr)/\F b/\¬X b)->
  bg w F X F S (dI as) (e8 vs) w->
  i7 C.P f vs.toArray w λv aw=>∃ba aB,bg w F X ba aB (dI (r::outs)) (e8 (v::vs)) aw
section
variable {C:bI} {w0 w:World} {F0 X F ba:Nat->Prop} {S aB:Nat->Nat->Prop} {n:Fr} {ρ:Nat->Value} {s au:af} {an h_:Nat->Value} {a:Act} {av:j} {Q:Exit->Act->World->Prop} {aw:World}
theorem bg.base (h:bg w0 F0 X F S s an w):bg w F (λb=>∃u,S u b) F S s an w where
 fl:=λ_ h=>h
 fA:=λ_ h=>.inl h
 eg:=h.eg
 dw:=h.dw
 ew:=h.ew
 dS:=h.dS
 cU:=λu b J=>.inl ⟨u,J⟩
 cG:=h.cG
 old:=λ_ _ _=>rfl
 size:=Nat.le_refl _
 os:=rfl
 tape:=rfl
 output:=Out.refl _
 fB:=h.fB.next h.size h.old λb ⟨u,hu⟩=>h.cU u b hu
theorem bg.FV (h:bg w0 F0 X F S s an w) (bl:bg w F (λb=>∃u,S u b) ba aB au h_ aw):bg w0 F0 X ba aB au h_ aw where
 fl:=λb J=>bl.fl b (h.fl b J)
 fA:=λb J=>by
  rcases bl.fA b J with J|⟨u,J⟩|J
  .exact h.fA b J
  .exact .inr (h.cU u b J)
  .exact .inr (.inr (Nat.le_trans h.size J))
 eg:=bl.eg
 dw:=bl.dw
 ew:=bl.ew
 dS:=bl.dS
 cU:=λu b J=>by
  rcases bl.cU u b J with⟨u,J⟩|J
  .exact h.cU u b J
  .exact .inr (Nat.le_trans h.size J)
 cG:=bl.cG
 old:=λb J hX=>by
  refine(bl.old b (Nat.lt_of_lt_of_le J h.size) λ⟨u,hu⟩=>?_).trans (h.old b J hX);rcases h.cU u b hu with ae|ae
  .exact hX ae
  .omega
 size:=Nat.le_trans h.size bl.size
 os:=bl.os.trans h.os
 tape:=bl.tape.trans h.tape
 output:=bl.output.trans h.output
 fB:=h.fB
inductive nw:Vr->Vr->Prop
 |nil:nw [] []
 |eq {a:j} {as bc:Vr}:a.R=[]->nw as bc->nw (a::as) (a::bc)
 |wd {a b:j} {as bc:Vr}:dQ a b->a.tree=true->b.R=[]->nw as bc->nw (a::as) (b::bc)
theorem nw.get:∀{as bc:Vr},nw as bc->∀p k,p∈num k bc->p.2.R=[]/\∃a,as[p.1-k]? =some a/\k<=p.1/\(p.2=a\/(a.tree=true/\dQ a p.2))
 |_,_,.nil,p,k,ag=>by simp[num]at ag
 |_,_,.eq (a:=a) h hw,p,k,ag=>by
  simp only[num,mem_cons]at ag;rcases ag with rfl|ag
  .exact⟨h,a,by simp,Nat.le_refl _,.inl rfl⟩
  .obtain⟨U,x,aa,ax,aP⟩:=hw.get p (k+1) ag;refine⟨U,x,?_,by omega,aP⟩;rw[show p.1-k=(p.1-(k+1))+1 by omega,getElem?_cons_succ];exact aa
 |_,_,.wd (a:=a) h aO J hw,p,k,ag=>by
  simp only[num,mem_cons]at ag;rcases ag with rfl|ag
  .exact⟨J,a,by simp,Nat.le_refl _,.inr ⟨aO,h⟩⟩
  .obtain⟨U,x,aa,ax,aP⟩:=hw.get p (k+1) ag;refine⟨U,x,?_,by omega,aP⟩;rw[show p.1-k=(p.1-(k+1))+1 by omega,getElem?_cons_succ];exact aa
theorem nw.len:∀{as bc:Vr},nw as bc->bc.length=as.length
 |_,_,.nil=>rfl
 |_,_,.eq _ hw=>by simp[hw.len]
 |_,_,.wd _ _ _ hw=>by simp[hw.len]
theorem bq.Nk {f:FuncId} {as bc:Vr} {r:j} {outs:Vr} (h:bq C f bc r outs) (hw:nw as bc):bq C f as r outs:=by
 intro w F X S vs hl aG;have Nl:qx (dI as) (num 0 bc):=λp ag=>by
  obtain⟨U,a,aa,_,aP⟩:=hw.get p 0 ag;have e:dI as p.1=a:=by simp[dI,List.getD,show as[p.1]? =some a from aa]
  rw[e];rcases aP with aP|⟨aO,aP⟩
  .exact .inl aP
  .refine .inr ⟨aO,aP,λb8 c_=>.inl ?_⟩;rw[(hw.get b8 0 c_).1];simp
 obtain⟨ba,aB,aa⟩:=aG.Ei Nl;rw[<-wo]at aa;exact(h w ba _ aB vs (hl.trans hw.len.symm) aa.base).mono λv aw ⟨jo,cx,ax⟩=>⟨jo,cx,aa.FV ax⟩
theorem wF (C:bI) (K:af->Prop):∀(rs pre post:List bE) (s:af),ik C s rs K->il C (pre++(rs++post)) s ((range rs.length).map (·+pre.length)) K:=by
 intro rs;induction rs with
 |nil=>intro pre post s h;exact h
 |cons r rs ih=>
  intro pre post s h;rw[length_cons,range_succ_eq_map,map_cons,List.map_map];simp only[il,Nat.zero_add];rw[getElem?_append_right (Nat.le_refl _)];simp only[Nat.sub_self,cons_append,getElem?_cons_zero];have key:∀s1,ik C s1 rs K->il C (pre++r::(rs++post)) s1 ((range rs.length).map ((λx=>x+pre.length)∘succ)) K:=by
   intro s1 U;have:=ih (pre++[r]) post s1 U;simp only[append_assoc,singleton_append,length_append,length_singleton]at this;have e:((λx=>x+pre.length)∘succ)=λx=>x+(pre.length+1):=by funext x;simp;omega
   rw[e];exact this
  simp only[ik]at h;exact zz h key
theorem Nm (h3:a.defers=[]) (df:a.tmps.size=n.n) (gV:∀i∈n.fx,a.tmps.getD i undef=ρ i) (aG:bg w0 F0 X F S s (λt=>a.tmps.getD t undef) w)
  {o:Oper} {d0 k:Nat} {args:List aT} {g:FuncId} {caps:Vr} {arr:Array Value} {ps:List bY} {r:j} (bj:cr o.op=some (.call (.t d0) args)) (ad:jE n o.dst=true)
  (aE:a.tmps.getD d0 undef= .func (.func g) #[] arr) (ai:cK w F s (λt=>a.tmps.getD t undef) caps arr.toList) (fv:j.db caps=true)
  (Nn:∃b ty fr,(arr.toList).getD k undef= .pointer (some ⟨b,0,none⟩)/\w.heap[b]? =some (.cells #[.func (.func g) #[] arr] ty fr)/\F b) (FW:k<arr.size)
  (aa:ps.map (·.a)=args.map (a6 s)++caps) (ax:∀p∈ps,p.ok s) (aP:fD ps=true) (a9:og C g args.length (args.length+k) (ps.map (·.d)) r (ps.map (·.o))) (bU:r.res=true)
  (bO:gG ps=true->r.ch=true/\∀p∈ps,p.o.ch=true) {K:af->Prop} {next:Act->World->Prop} (dv:K (fin (e0 (di s ps) ps) o.dst r))
  (a2:∀au bZ aw,K au->Rel w0 F0 X n ρ au bZ aw->next bZ aw):o.wp C.P a w next Q:=by
 obtain⟨dst,op,ty,pos,after,guard⟩:=o;simp only at bj ad dv;cases op with
 |call c=>
  obtain⟨callee,jG,argTypes⟩:=c;simp only[cr]at bj;split at bj
  .split at bj
   .rename_i n8 _ _ D8 xs bd kZ;simp only[Option.some.injEq,cZ.call.injEq]at bj;obtain⟨rfl,rfl⟩:=bj;have qc:n8= .tmp d0:=by
     cases n8 with
     |tmp t=>simp only[cQ,Option.some.injEq,aT.t.injEq]at bd;rw[bd]
     |const v=>simp only[cQ,Option.map_eq_some_iff]at bd;obtain⟨c,_,bd⟩:=bd;cases bd
     |func g=>simp[cQ]at bd
     |global g=>simp[cQ]at bd
    subst qc;have n9:execOp a.eval {dst,op:=.call {callee:=.value (.tmp d0),args:=jG,argTypes},type:=ty,pos,after,guard}=callFunc g ((jG.toList.map a.eval++arr.toList).toArray):=by
     have:a.eval (.tmp d0)= .func (.func g) #[] arr:=aE;simp only[execOp,resolve,this,Deferred.ofValue,pure_bind,invoke];congr 1;apply Array.ext';simp
    unfold Oper.wp;rw[n9];have hlen:(jG.toList.map a.eval).length=xs.length:=by
     have:=congrArg length (n3 kZ);simpa using this
    have tN:cK w F s (λt=>a.tmps.getD t undef) (xs.map (a6 s)++caps) (jG.toList.map a.eval++arr.toList):=wa (tz aG (λ_=>rfl) _ _ (n3 kZ)) ai;rw[<-aa]at tN;obtain⟨eR,l2⟩:=tM tN;have eP:∀d∈xs.map (a6 s)++caps,d.plain=true:=by
     intro d ad;rcases mem_append.1 ad with ad|ad
     .obtain⟨x,ae,rfl⟩:=mem_map.1 ad;exact CH s x λav e=>by
       subst e;have hm:=n3 kZ;have:some (aT.c av)∈xs.map some:=mem_map.2 ⟨_,ae,rfl⟩;rw[<-hm]at this;obtain⟨o,_,bk⟩:=mem_map.1 this;cases o with
       |const v=>simp only[cQ,Option.map_eq_some_iff]at bk;obtain⟨c,ai,e⟩:=bk;cases e;exact yq ai
       |tmp n=>simp[cQ]at bk
       |func g=>simp[cQ]at bk
       |global g=>simp[cQ]at bk
     .obtain⟨k,ak⟩:=getElem?_of_mem ad;exact vy fv ak
    have zo:=D6 (C:=C) aG (ps:=ps) (vs:=jG.toList.map a.eval++arr.toList) (f:=g) (r:=r) (by simpa using eR)
     (λi p v ag aE=>⟨eP p.a (by rw[<-aa];exact mem_map.2 ⟨p,mem_of_getElem? ag,rfl⟩),l2 i p.a v (by simp[ag]) aE⟩) ax aP
     (λFc hN c1 a3 hX ag=>by
      refine a9 w Fc hN c1 _ (by rw[<-eR];simp) ?_ ag;obtain⟨b,Np,fr,aI,aR,aX⟩:=Nn;refine⟨b,Np,fr,?_,?_,a3 b aX,λae=>by obtain⟨u,hu⟩:=hX b ae;exact aG.ew u b hu aX⟩
      .rw[getD_eq_getElem?_getD,getElem?_append_right (by omega),hlen,Nat.add_sub_cancel_left,<-getD_eq_getElem?_getD];exact aI
      .rw[aR,<-hlen,drop_left])
     bU bO
    rcases zo with⟨c5,bz⟩|⟨v,aw,c5,ba,aB,bz,dC⟩
    .rw[c5,Oper.upon_enter];refine Calls.mono bz ?_;rintro e aw ⟨v,rfl,ba,aB,bX,b6⟩;exact a2 _ _ _ dv (Rel.put h3 df gV bX b6.1 ad)
    .rw[c5,Oper.upon_value];exact a2 _ _ _ dv (Rel.put h3 df gV bz dC.1 ad)
   .cases bj
  .split at bj
   .simp only[Option.map_eq_some_iff]at bj;obtain⟨_,_,bj⟩:=bj;cases bj
   .cases bj
  .split at bj
   .simp only[Option.map_eq_some_iff]at bj;obtain⟨_,_,bj⟩:=bj;cases bj
   .cases bj
  iterate 3
   .split at bj
    .split at bj<;>cases bj
    .cases bj
  .cases bj
 |makeFunc fn first cs=>
  cases fn<;>simp only[cr]at bj<;>first|(cases bj;done)|(split at bj<;>simp at bj)
 |slice T x dE ay fO=>
  cases fO<;>simp only[cr]at bj<;>first|(cases bj;done)|(split at bj<;>simp at bj)
 |makeMap T r=>cases r<;>simp only[cr]at bj<;>simp at bj
 |lookup T x i c=>cases c<;>simp only[cr]at bj<;>first|(cases bj;done)|(split at bj<;>simp at bj)
 |_=>simp only[cr]at bj<;>first|(cases bj;done)|(simp at bj;done)|(split at bj<;>simp at bj)
theorem Nq {op:Op} {T:TypeId} {x:aT} (h:cr op=some (.ey T x)):∃y,op= .load T y/\cQ y=some x:=by
 cases op with
 |load rY y=>
  simp only[cr,Option.map_eq_some_iff]at h;obtain⟨cu,ae,h⟩:=h;cases h;exact⟨y,rfl,ae⟩
 |call c=>
  obtain⟨callee,jG,argTypes⟩:=c;simp only[cr]at h;split at h<;>(try split at h)<;>(try split at h)<;>(try simp[Option.map_eq_some_iff]at h)
 |makeFunc fn first cs=>
  cases fn<;>simp only[cr]at h<;>first|(cases h;done)|(split at h<;>simp at h)
 |slice T x dE ay fO=>
  cases fO<;>simp only[cr]at h<;>first|(cases h;done)|(split at h<;>simp at h)
 |makeMap T r=>cases r<;>simp only[cr]at h<;>simp at h
 |lookup T x i c=>cases c<;>simp only[cr]at h<;>first|(cases h;done)|(split at h<;>simp at h)
 |_=>simp only[cr]at h<;>first|(cases h;done)|(simp at h;done)|(split at h<;>simp at h)
theorem Nr {y:Operand} {k:Nat} (h:cQ y=some (.t k)):y= .tmp k:=by
 cases y with
 |tmp t=>simp only[cQ,Option.some.injEq,aT.t.injEq]at h;rw[h]
 |const v=>simp only[cQ,Option.map_eq_some_iff]at h;obtain⟨c,_,h⟩:=h;cases h
 |func g=>simp[cQ]at h
 |global g=>simp[cQ]at h
def oh (k:Nat) (s:af) (aD:Nat):j:=if aD=k then .ref .hole else mh aD (s aD)
theorem Ns {an:Nat->Value} {b k:Nat} {v:Value} {ty:TypeId} {fr:Nat×Nat} (aG:bg w0 F0 X F S s an w) (ak:an k= .pointer (some ⟨b,0,none⟩)) (J:F b) (ai:w.heap[b]? =some (.cells #[v] ty fr)) (U:Value.et v=true):
  ∀cs:Vm,cK w F s an (cs.map (oh k s)) (cs.map an)/\j.db (cs.map (oh k s))=true:=by
 intro cs;induction cs with
 |nil=>exact⟨by rw[map_nil,map_nil,cK],rfl⟩
 |cons aD cs ih=>
  simp only[map_cons];have cn:az w F s an (oh k s aD) (an aD) (λ_=>False)/\(oh k s aD).plain=true:=by
   unfold oh;split
   .rename_i e;subst e;rw[ak];refine⟨(az.b7 rfl).2 ⟨rfl,?_⟩,rfl⟩;rw[aj];refine⟨b,0,[v],rfl,J,?_,?_⟩
    .intro i c ay;cases i with
     |zero=>simp at ay;subst ay;simp[World.cell?,ai]
     |succ i=>simp at ay
    .rw[aj];exact⟨v,U,rfl⟩
   .unfold mh;split
    .rename_i ag;exact⟨az.nothing ag (aG.cG aD),ag⟩
    .rename_i ag;refine⟨?_,rfl⟩;rw[az];intro d ad ag;simp only[j.sub,Option.some.injEq]at ad;subst ad;have aO:(s aD).tree=true:=by
      cases R:s aD<;>first|rfl|(rw[R]at ag;simp[j.plain]at ag)
     exact⟨_,none,rfl,rfl,((az.b7 aO).1 (aG.cG aD)).1⟩
  refine⟨?_,?_⟩
  .rw[cK];exact⟨_,_,rfl,cn.1,ih.1⟩
  .simp only[j.db,cn.2,ih.2,Bool.and_self]
theorem Nt (a4:C.dx) {id:Nat} {ops:Array Oper} {T:TypeId} {k k0 d0:Nat} {m rest:List bE} {args:List aT} {d1:Option Nat} {g:FuncId} {cs:Vm} {b:Nat} {ty:TypeId} {fr:Nat×Nat} {K:af->Prop}
  (lW:mB n ops ops.toList=some ((⟨some d0,.ey T (.t k),none⟩::(m++⟨d1,.call (.t d0) args,none⟩::rest):List bE).map bE.un))
  (gA:(C.T T).flat=true) (hm:∀r∈m,∀d,r.dst=some d->d≠d0/\d∉cs) (kt:d0∉cs) (Ab:cs[k0]? =some k)
  (h3:a.defers=[]) (df:a.tmps.size=n.n) (gV:∀i∈n.fx,a.tmps.getD i undef=ρ i) (aG:bg w0 F0 X F S s (λt=>a.tmps.getD t undef) w)
  (J:F b) (ak:a.tmps.getD k undef= .pointer (some ⟨b,0,none⟩)) (vH:w.heap[b]? =some (.cells #[.func (.func g) #[] (cs.map λaD=>a.tmps.getD aD undef).toArray] ty fr))
  (h:ik C (fin s (some d0) .hole) m λs1=>∃ps r,ps.map (·.a)=args.map (a6 s1)++cs.map (oh k s1)/\(∀p∈ps,p.ok s1)/\fD ps=true/\
   og C g args.length (args.length+k0) (ps.map (·.d)) r (ps.map (·.o))/\r.res=true/\(gG ps=true->r.ch=true/\∀p∈ps,p.o.ch=true)/\ik C (fin (e0 (di s1 ps) ps) d1 r) rest K)
  (a2:∀au bZ aw,K au->Rel w0 F0 X n ρ au bZ aw->Q .normal bZ aw):(Code.region id ops false).wp C.P Q a w:=by
 obtain⟨hl,lV⟩:=we lW;have uk:∀(i:Nat) (r:bE),(⟨some d0,.ey T (.t k),none⟩::(m++⟨d1,.call (.t d0) args,none⟩::rest):List bE)[i]? =some r->∃o,ops[i]? =some o/\mA n ops o=some r.un:=by
  intro i r ay;have da:i<ops.toList.length:=by
   rw[hl,length_map];exact(List.getElem?_eq_some_iff.1 ay).1
  obtain⟨gF,U,aa⟩:=lV i _ (getElem?_eq_getElem da);rw[getElem?_map,ay]at U;simp only[Option.map_some,Option.some.injEq]at U;exact⟨_,by rw[<-Array.getElem?_toList];exact getElem?_eq_getElem da,by rw[U];exact aa⟩
 have wG:∀{r:bE} {o:Oper},r.guard=none->mA n ops o=some r.un->r.dst=o.dst/\o.guard=none/\n7 o.op=r.bb.base/\jE n o.dst=true:=by
  intro r o bm h;unfold mA at h;split at h
  .rename_i ad;split at h
   .rename_i qS ga;simp only[bE.un,Option.some.injEq,bE.mk.injEq]at h;obtain⟨aI,aR,aX⟩:=h;refine⟨aI.symm,?_,aR,ad⟩;rw[aX,bm]at ga;cases bk:o.guard with
    |none=>rfl
    |some zr=>
     rw[bk]at ga;simp only[tL]at ga;split at ga<;>cases ga
   .cases h
  .cases h
 have Ac:ops.size=m.length+rest.length+2:=by
  have:ops.toList.length=ops.size:=by simp
  rw[<-this,hl];simp;omega
 have Ad:range ops.size=0::((range m.length).map (·+1)++((m.length+1)::(range rest.length).map (·+(m.length+2)))):=by
  rw[Ac,show m.length+rest.length+2=(m.length+rest.length+1)+1 from rfl,range_succ_eq_map];congr 1;rw[show m.length+rest.length+1=m.length+(rest.length+1) by omega,range_add,map_append,range_succ_eq_map];simp only[List.map_map,map_cons,Nat.add_zero];congr 1;congr 1;apply map_congr_left;intro x _;simp;omega
 obtain⟨pr,Nu,iT⟩:=uk 0 _ rfl;obtain⟨eS,dY,gS,fQ⟩:=wG rfl iT;change n7 pr.op= .ey T (.t k)at gS;have um:cr pr.op=some (.ey T (.t k)):=by
  rcases o_ gS with h|h
  .cases h
  .exact h
 obtain⟨y,a_,Nv⟩:=Nq um;have:=Nr Nv;subst this;let nx:Value:=.func (.func g) #[] (cs.map λaD=>a.tmps.getD aD undef).toArray
 have h9:gh w b 0 [nx]:=by
  intro i c ay;cases i with
  |zero=>simp at ay;subst ay;simp[World.cell?,vH,nx]
  |succ i=>simp at ay
 refine wp_region ?_;rw[Ad];simp only[wpOps,Nu];show(if Region.wanted pr (yielded ops a.tmps)=true then pr.wp C.P a w _ Q\/(pr.asks C.P a w/\LetsOut Q)else _);rw[if_pos (wg dY)];left;have n9:(execOp a.eval pr).run C.P w= .ok (.value nx) w:=by
  obtain⟨dst,op,ty,pos,after,guard⟩:=pr;simp only at a_;subst a_;have:a.eval (.tmp k)= .pointer (some ⟨b,0,none⟩):=ak;simp[execOp,this,Instr.loadAt,Instr.sureAddr,CN a4 gA h9]
 unfold Oper.wp;rw[n9,Oper.upon_value];have Nw:some d0=pr.dst:=eS;rw[<-Nw]at fQ⊢;let ar:Act:=a.put (some d0) nx
 let iN:Fr:=⟨n.n,d0::k::(cs++n.fx)⟩
 let ρ1:Nat->Value:=λt=>ar.tmps.getD t undef
 have FX:k∈cs:=mem_of_getElem? Ab;have qi:=aG.base;have Ae:Rel w F (λb=>∃u,S u b) ⟨n.n,[]⟩ ρ1 (fin s (some d0) .hole) ar w:=
  Rel.put (n:=⟨n.n,[]⟩) h3 df (λi ay=>by cases ay) qi (.inl ⟨rfl,by rw[az];trivial⟩) (by
   simp only[jE,Bool.and_eq_true,decide_eq_true_eq]at fQ⊢;exact⟨fQ.1,by simp⟩)
 have Nx:Rel w F (λb=>∃u,S u b) iN ρ1 (fin s (some d0) .hole) ar w:=⟨Ae.defers,Ae.size,λi _=>rfl,Ae.rel⟩
 have FY:∀t,t≠d0->ρ1 t=a.tmps.getD t undef:=by
  intro t aO;have:=congrFun (zn (n:=n) (dst:=some d0) (a:=a) nx df fQ).1 t;simp only[nO]at this;rw[hW _ _ aO]at this;exact this
 have Ny:ρ1 d0=nx:=by
  have:=congrFun (zn (n:=n) (dst:=some d0) (a:=a) nx df fQ).1 d0;simp only[nO]at this;rw[kp]at this;exact this
 have hw:=wF C _ m [⟨some d0,.ey T (.t k),none⟩] (⟨d1,.call (.t d0) args,none⟩::rest) _ h;have mid:∀au bZ aw,(∃ps r,ps.map (·.a)=args.map (a6 au)++cs.map (oh k au)/\(∀p∈ps,p.ok au)/\fD ps=true/\
   og C g args.length (args.length+k0) (ps.map (·.d)) r (ps.map (·.o))/\r.res=true/\(gG ps=true->r.ch=true/\∀p∈ps,p.o.ch=true)/\ik C (fin (e0 (di au ps) ps) d1 r) rest K)->
   Rel w F (λb=>∃u,S u b) iN ρ1 au bZ aw->wpOps C.P ops Q ((m.length+1)::(range rest.length).map (·+(m.length+2))) bZ aw:=by
  rintro s2 bw ke ⟨ps,r,aI,aR,aX,bT,cb,bH,bx⟩ ⟨aL,a0,bK,jo,cx,cF⟩;obtain⟨ny,Af,lA⟩:=uk (m.length+1) ⟨d1,.call (.t d0) args,none⟩ (by simp);obtain⟨eO,el,fP,qa⟩:=wG rfl lA;simp only[wpOps,Af];show(if Region.wanted ny (yielded ops bw.tmps)=true then ny.wp C.P bw ke _ Q\/(ny.asks C.P bw ke/\LetsOut Q)else _);rw[if_pos (wg el)];left;change n7 ny.op= .call (.t d0) args at fP;have Ag:cr ny.op=some (.call (.t d0) args):=by
   rcases o_ fP with h|h
   .cases h
   .exact h
  have FZ:jo b:=cF.fl b J;have F1:ke.heap[b]? =some (.cells #[nx] ty fr):=by
   rw[cF.old b (aG.eg b J) (λ⟨u,hu⟩=>aG.ew u b hu J)];exact vH
  have F2:∀aD∈cs,bw.tmps.getD aD undef=a.tmps.getD aD undef:=by
   intro aD cn;rw[bK aD (by simp[iN,cn])];exact FY aD (λe=>kt (e▸cn))
  have nR:bw.tmps.getD k undef= .pointer (some ⟨b,0,none⟩):=(F2 k FX).trans ak;have F3:(cs.map λaD=>a.tmps.getD aD undef)=cs.map λaD=>bw.tmps.getD aD undef:=map_congr_left λaD cn=>(F2 aD cn).symm;obtain⟨bu,bN⟩:=Ns (k:=k) cF nR FZ F1 rfl cs;have tx:∀au bZ aw,ik C au rest K->Rel w F (λb=>∃u,S u b) ⟨n.n,n.fx⟩ ρ au bZ aw->wpOps C.P ops Q ((range rest.length).map (·+(m.length+2))) bZ aw:=by
   intro iK fG nz ax Ah;have qC:=wF C K rest ((⟨some d0,.ey T (.t k),none⟩::m)++[⟨d1,.call (.t d0) args,none⟩]) [] iK ax;have:=tP (Q:=Q) a4 (ops:=ops) (ros:=((⟨some d0,.ey T (.t k),none⟩::m)++[⟨d1,.call (.t d0) args,none⟩])++(rest++[])) (l2:=[]) (K:=K) (λau bZ aw iH c9=>by
     obtain⟨qT,uo,uq,Nz,C8,ur⟩:=c9;exact a2 au bZ aw iH ⟨qT,uo,uq,Nz,C8,aG.FV ur⟩) ((range rest.length).map (·+(m.length+2))) (λi ay=>by
      have qz:((⟨some d0,.ey T (.t k),none⟩::m)++[⟨d1,.call (.t d0) args,none⟩])++(rest++[])=(⟨some d0,.ey T (.t k),none⟩::(m++⟨d1,.call (.t d0) args,none⟩::rest):List bE):=by simp
      rw[qz];refine⟨λhY=>?_,λo bk=>?_⟩
      .rw[List.getElem?_eq_none_iff];have:=Array.getElem?_eq_none_iff.1 hY;simp;omega
      .obtain⟨aF,gi,aa⟩:=lV i o (by simpa using bk);obtain⟨r,U,rfl⟩:∃r,(⟨some d0,.ey T (.t k),none⟩::(m++⟨d1,.call (.t d0) args,none⟩::rest):List bE)[i]? =some r/\r.un=aF:=by
        rw[getElem?_map,Option.map_eq_some_iff]at gi;exact gi
       exact⟨r,U,aa⟩) iK fG nz (by
      have e:((⟨some d0,.ey T (.t k),none⟩::m)++[⟨d1,.call (.t d0) args,none⟩]:List bE).length=m.length+2:=by simp
      rw[e]at qC;exact qC) Ah
   rwa [append_nil]at this
  have NA:∀i∈n.fx,bw.tmps.getD i undef=ρ i:=by
   intro i ay;rw[bK i (by simp[iN,ay]),FY i (λe=>?_)]
   .exact gV i ay
   .simp only[jE,Bool.and_eq_true,Bool.not_eq_true',contains_eq_mem,decide_eq_false_iff_not]at fQ;exact fQ.2 (e▸ay)
  have FW:k0<cs.length:=(List.getElem?_eq_some_iff.1 Ab).1;have Ai:ny.dst=d1:=eO.symm;exact Nm (n:=n) (ρ:=ρ) (K:=λau=>ik C au rest K) aL a0 NA cF Ag qa
   (arr:=(cs.map λaD=>bw.tmps.getD aD undef).toArray) (k:=k0) (caps:=cs.map (oh k s2)) (g:=g) (ps:=ps) (r:=r)
   (by rw[bK d0 (by simp[iN]),Ny];simp only[nx,F3]) (by simpa using bu) bN
   ⟨b,ty,fr,by
     rw[getD_eq_getElem?_getD,getElem?_map,Ab];exact nR,by rw[F1];simp only[nx,F3],FZ⟩ (by simpa using FW)
   aI aR aX bT cb bH (by rw[Ai];exact bx) tx
 have:=tP (Q:=Q) a4 (ops:=ops) (ros:=[⟨some d0,.ey T (.t k),none⟩]++(m++⟨d1,.call (.t d0) args,none⟩::rest)) (l2:=(m.length+1)::(range rest.length).map (·+(m.length+2))) mid
  ((range m.length).map (·+1)) (λi ay=>by
    obtain⟨aD,cn,rfl⟩:=mem_map.1 ay;have r9:aD<m.length:=mem_range.1 cn;refine⟨λhY=>?_,λo bk=>?_⟩
    .have:=Array.getElem?_eq_none_iff.1 hY;omega
    .obtain⟨kY,t_,fp⟩:=uk (aD+1) m[aD] (by
      simp only[getElem?_cons_succ];rw[getElem?_append_left r9,getElem?_eq_getElem r9])
     have heq:kY=o:=by rw[t_]at bk;exact Option.some.inj bk
     subst heq;refine⟨m[aD],by
      simp only[singleton_append,getElem?_cons_succ];rw[getElem?_append_left r9,getElem?_eq_getElem r9],?_⟩
     have NB:=hm m[aD] (getElem_mem r9);unfold mA at fp⊢;split at fp
     .rename_i ad;rw[if_pos]
      .exact fp
      .cases F4:kY.dst with
       |none=>rfl
       |some d=>
        rw[F4]at ad;simp only[jE,Bool.and_eq_true,decide_eq_true_eq,Bool.not_eq_true',contains_eq_mem,decide_eq_false_iff_not]at ad⊢;refine⟨ad.1,?_⟩;have wh:m[aD].dst=some d:=by
         split at fp
         .simp only[bE.un,Option.some.injEq,bE.mk.injEq]at fp;rw[<-fp.1,F4]
         .cases fp
        obtain⟨ea,fh⟩:=NB d wh;simp only[iN,mem_cons,mem_append,not_or];exact⟨ea,λe=>fh (e▸FX),fh,ad.2⟩
     .cases fp) (fin s (some d0) .hole) ar w (by simpa using hw) Nx
 exact this
def NC (C:bI) (f:FuncId) (k k0:Nat) (cs:Vm) (args:List aT) (d1:Option Nat) (rest:List bE) (dF:Vm) (P:Vq->Prop) (s1:af):Prop:=
 ∃ps r,ps.map (·.a)=args.map (a6 s1)++cs.map (oh k s1)/\(∀p∈ps,p.ok s1)/\fD ps=true/\
  og C f args.length (args.length+k0) (ps.map (·.d)) r (ps.map (·.o))/\r.res=true/\(gG ps=true->r.ch=true/\∀p∈ps,p.o.ch=true)/\
  cl C (fin (e0 (di s1 ps) ps) d1 r) rest none (λ_ s=>P (e1 dF s))
def ND (C:bI) (f:FuncId) (k k0 d0:Nat) (cs:Vm) (m:List bE) (args:List aT) (d1:Option Nat) (rest:List bE) (dF:Vm) (P:Vq->Prop) (s:af):Prop:=
 cl C (fin s (some d0) .hole) m none λ_ s1=>NC C f k k0 cs args d1 rest dF P s1
def NF (C:bI) (f:FuncId) (k k0 d0:Nat) (cs:Vm) (m:List bE) (args:List aT) (d1:Option Nat) (rest:List bE) (dF:Vm) (K:af->Prop) (s:af):Prop:=
 ND C f k k0 d0 cs m args d1 rest dF (λl=>K (ao l)) s
def F5 (f:Nat->Bool) (m:List bE):Bool:=m.all λr=>match r.dst with
 |none=>true
 |some d=>f d
theorem NG {f:Nat->Bool} {m:List bE} (h:F5 f m=true):∀r∈m,∀d,r.dst=some d->f d=true:=by
 intro r aG d ad;have:=List.all_eq_true.1 h r aG;rw[ad]at this;exact this
theorem F6 (k:Vm) (s:af):qx s (e1 k s):=by
 intro p ag;obtain⟨t,_,rfl⟩:=mem_map.1 ag;exact .inl rfl
def NH (C:bI) (f:FuncId) (k k0 d0:Nat) (cs:Vm) (m:List bE) (args:List aT) (d1:Option Nat) (rest:List bE) (dF:Vm):(Exit->af->Prop)->af->Prop:=
 λQ s=>NF C f k k0 d0 cs m args d1 rest dF (Q .normal) s
def NI (T:TypeId) (k d0:Nat) (m:List bE) (args:List aT) (d1:Option Nat) (rest:List bE):aM:=
 .eT (⟨some d0,.ey T (.t k),none⟩::(m++⟨d1,.call (.t d0) args,none⟩::rest)) none
theorem NJ (vs:Vp):∀(m n:Nat),m+n=vs.length->vs.drop m=((range n).map (·+m)).map λaD=>vs.getD aD undef:=by
 intro m n h;apply ext_getElem?;intro i;rw[getElem?_drop,List.map_map,getElem?_map];by_cases ay:i<n
 .rw[getElem?_range ay,getElem?_eq_getElem (by omega)];simp only[Option.map_some,Function.comp];rw[getD_eq_getElem?_getD,getElem?_eq_getElem (by omega)];simp only[Option.getD_some,Option.some.injEq];congr 1;omega
 .rw[getElem?_eq_none (by omega),getElem?_eq_none (by simp;omega)];rfl
theorem F7 {c:Code} {rs:List bE} (h:e_ n c=some (.eT rs none)):∃id ops,c= .region id ops false/\mB n ops ops.toList=some rs:=by
 cases c with
 |region id ops draw=>
  cases draw with
  |false=>
   simp only[e_]at h;split at h
   .rename_i r U;cases h;exact⟨id,ops,rfl,U⟩
   .cases h
  |true=>
   simp only[e_]at h;split at h
   .simp only[Option.map_eq_some_iff]at h;obtain⟨r,U,aa⟩:=h;cases aa
   .cases h
 |seq a b=>simp only[e_]at h;split at h<;>cases h
 |cond c a b=>simp only[e_]at h;split at h<;>cases h
 |block id b=>simp only[e_,Option.map_eq_some_iff]at h;obtain⟨r,U,aa⟩:=h;cases aa
 |loop b=>simp only[e_,Option.map_eq_some_iff]at h;obtain⟨r,U,aa⟩:=h;cases aa
 |_=>simp[e_]at h
def Aj (C:bI) (f:FuncId) (fx:Vm) (NK m k:Nat) (T:(Exit->af->Prop)->af->Prop) (b:aM):Prop:=
 ∃(ty:TypeId) (k0 d0 k_:Nat) (ic:List bE) (args:List aT) (d1:Option Nat) (rest:List bE) (dF:Vm),
  T=NH C f k k0 d0 ((range k_).map (·+m)) ic args d1 rest dF/\b=NI ty k d0 ic args d1 rest/\(C.T ty).flat=true/\F5 (λd=>d !=d0&&decide (m+k_<=d)) ic=true/\decide (m+k_<=d0)=true/\
  decide (k0<k_)=true/\k=m+k0/\((range k_).all λaD=>fx.contains (m+aD))=true/\args.length=m/\m+k_=NK
theorem og.of_wp (a4:C.dx) {f:FuncId} {fn:Func} {c:Code} {dP:aM} {fx:Vm} {as outs:Vr} {r:j} {k m:Nat} (bd:C.P.funcs[f]? =some fn) (J:fn.body=some c)
  (iM:(fn.name== "runtime.NumGoroutine")=false) (R:e_ ⟨fn.ntmps,fx⟩ c=some dP.strip) (a2:as.length<=fn.ntmps)
  (ak:dP.k1 (Aj C f fx as.length m k))
  (h:∀Q:Exit->af->Prop,(∀s,dr (Ends C fx fn.results.toList r outs) s->Q .ret s)->(∀s,dr (Ends C fx fn.results.toList r outs) s->Q .normal s)->bh C dP Q (ao (num 0 as))):og C f m k as r outs:=by
 rintro w F X S vs hl ⟨b,NL,fr,aI,aR,aX,bT⟩ aG;refine zE (fx:=fx) a4 bd J iM a2 hl aG λa mC c8=>?_;refine zC a4 (H:=Aj C f fx as.length m k) ?_ c (by rw[aM.zx];exact R) (aM.zy dP ak) (zB dP ?_) mC
 .rintro c T eE Q s ar jN ⟨ty,k0,d0,k_,ic,args,d1,rest,dF,rfl,rfl,gA,hm,kt,wH,ak,gV,hlen,Ur⟩ um NM ⟨aL,a0,bK,qs,bP,cF⟩;replace hm:∀r∈ic,∀d,r.dst=some d->d≠d0/\m+k_<=d:=λr aG d ad=>by
   have:=NG hm r aG d ad;simpa using this
  replace kt:=of_decide_eq_true kt;replace wH:=of_decide_eq_true wH;replace gV:∀aD,aD<k_->m+aD∈fx:=λaD cn=>by
   have:=List.all_eq_true.1 gV aD (mem_range.2 cn);simpa using this
  obtain⟨id,ops,rfl,lW⟩:=F7 um;have F8:∀aD,aD<k_->ar.tmps.getD (aD+m) undef=vs.getD (aD+m) undef:=λaD cn=>by
   rw[Nat.add_comm];exact bK _ (gV aD cn)
  have gD:((range k_).map (·+m)).map (λaD=>ar.tmps.getD aD undef)=vs.drop m:=by
   rw[NJ vs m k_ (by omega),List.map_map,List.map_map];apply map_congr_left;intro aD cn;exact F8 aD (mem_range.1 cn)
  refine Nt (Q:=pa w F X ⟨fn.ntmps,fx⟩ (e8 vs) Q) (K:=dr (Q .normal)) (b:=b) (ty:=NL) (fr:=fr) (g:=f) (k0:=k0) (cs:=(range k_).map (·+m)) a4 lW gA (λr aG d ad=>⟨(hm r aG d ad).1,λAk=>?_⟩) (λAk=>?_) ?_ aL a0 bK cF (cF.fl b aX) ?_ ?_ ?_ (λau bZ aw ak c9=>c9.dr ak)
  .obtain⟨aD,cn,rfl⟩:=mem_map.1 Ak;have:=(hm r aG _ ad).2;have:=mem_range.1 cn;omega
  .obtain⟨aD,cn,e⟩:=mem_map.1 Ak;have:=mem_range.1 cn;omega
  .rw[getElem?_map,getElem?_range wH,ak];simp[Nat.add_comm]
  .rw[ak,Nat.add_comm,F8 k0 wH,Nat.add_comm,<-ak];exact aI
  .rw[gD,cF.old b (aG.eg b aX) bT];exact aR
  .refine qE (λ_ s1=>?_) NM;rintro⟨ps,r,eS,dY,gS,fQ,nf,qu,wc⟩;exact⟨ps,r,eS,dY,gS,fQ,nf,qu,qE (λ_ s h=>.inr ⟨_,F6 _ _,h⟩) wc⟩
 .rw[wo];exact h _ (λs h=>⟨.inr rfl,h⟩) (λs h=>⟨.inl rfl,h⟩)
end
end Go.cV
