/- Part of a proof that a law returns true for every input. No condition. -/
import Derived.Test.YtocllehpepigpaaGreatDoorFwI
namespace Go.cI
def pr (C:bS) (f:FuncId) (m k:Nat) (as:List I) (r:I) (outs:List I):Prop:=
 ∀(w:World) (F X:Nat→Prop) (S:Nat→Nat→Prop) (vs:List Value),vs.length=as.length→
  (∃b ty fr,vs.getD k undef= .pointer (some ⟨b,0,none⟩)∧w.heap[b]? =some (.cells #[.func (.func f) #[] (vs.drop m).toArray] ty fr)∧F b∧¬X b)→
  bw w F X F S (e9 as) (gA vs) w→
  n3 C.P f vs.toArray w fun v aA=>∃bC aG,bw w F X bC aG (e9 (r::outs)) (gA (v::vs)) aA
section
variable {C:bS} {w0 w:World} {F0 X F bC:Nat→Prop} {S aG:Nat→Nat→Prop} {n:Fr} {ρ:Nat→Value} {s aw:an} {au jP:Nat→Value} {a:Act} {av:I} {Q:Exit→Act→World→Prop} {aA:World}
theorem bw.base (h:bw w0 F0 X F S s au w):bw w F (fun b=>∃u,S u b) F S s au w where
 gF:=fun _ h=>h
 gS:=fun _ h=>.inl h
 eT:=h.eT
 eg:=h.eg
 fa:=h.fa
 eN:=h.eN
 dp:=fun u b U=>.inl ⟨u,U⟩
 cN:=h.cN
 old:=fun _ _ _=>rfl
 size:=Nat.le_refl _
 os:=rfl
 tape:=rfl
 output:=Out.refl _
 gn:=h.gn.next h.size h.old fun b ⟨u,hu⟩=>h.dp u b hu
theorem bw.Pg (h:bw w0 F0 X F S s au w) (bb:bw w F (fun b=>∃u,S u b) bC aG aw jP aA):bw w0 F0 X bC aG aw jP aA where
 gF:=fun b U=>bb.gF b (h.gF b U)
 gS:=fun b U=>by
  rcases bb.gS b U with U|⟨u,U⟩|U
  ·exact h.gS b U
  ·exact .inr (h.dp u b U)
  ·exact .inr (.inr (Nat.le_trans h.size U))
 eT:=bb.eT
 eg:=bb.eg
 fa:=bb.fa
 eN:=bb.eN
 dp:=fun u b U=>by
  rcases bb.dp u b U with⟨u,U⟩|U
  ·exact h.dp u b U
  ·exact .inr (Nat.le_trans h.size U)
 cN:=bb.cN
 old:=fun b U jQ=>by
  refine(bb.old b (Nat.lt_of_lt_of_le U h.size) fun⟨u,hu⟩=> ?_).trans (h.old b U jQ)
  rcases h.dp u b hu with ai|ai
  ·exact jQ ai
  ·omega
 size:=Nat.le_trans h.size bb.size
 os:=bb.os.trans h.os
 tape:=bb.tape.trans h.tape
 output:=bb.output.trans h.output
 gn:=h.gn
inductive pt:List I→List I→Prop
 |nil:pt [] []
 |eq {a:I} {as kn:List I}:a.aa=[]→pt as kn→pt (a::as) (a::kn)
 |wd {a b:I} {as kn:List I}:eA a b→a.tree=true→b.aa=[]→pt as kn→pt (a::as) (b::kn)
theorem pt.get:∀{as kn:List I},pt as kn→∀p k,p∈num k kn→p.2.aa=[]∧∃a,as[p.1-k]? =some a∧k≤p.1∧(p.2=a∨(a.tree=true∧eA a p.2))
 |_,_,.nil,p,k,ao=>by simp[num]at ao
 |_,_,.eq (a:=a) h hw,p,k,ao=>by
  simp only[num,List.mem_cons]at ao
  rcases ao with rfl|ao
  ·exact⟨h,a,by simp,Nat.le_refl _,.inl rfl⟩
  ·obtain⟨ad,x,ag,aF,a8⟩:=hw.get p (k+1) ao
   refine⟨ad,x,?_,by omega,a8⟩
   rw[show p.1-k=(p.1-(k+1))+1 by omega,List.getElem?_cons_succ];exact ag
 |_,_,.wd (a:=a) h aY U hw,p,k,ao=>by
  simp only[num,List.mem_cons]at ao
  rcases ao with rfl|ao
  ·exact⟨U,a,by simp,Nat.le_refl _,.inr ⟨aY,h⟩⟩
  ·obtain⟨ad,x,ag,aF,a8⟩:=hw.get p (k+1) ao
   refine⟨ad,x,?_,by omega,a8⟩
   rw[show p.1-k=(p.1-(k+1))+1 by omega,List.getElem?_cons_succ];exact ag
theorem pt.len:∀{as kn:List I},pt as kn→kn.length=as.length
 |_,_,.nil=>rfl
 |_,_,.eq _ hw=>by simp[hw.len]
 |_,_,.wd _ _ _ hw=>by simp[hw.len]
theorem Ho (C:bS) (K:an→Prop):∀(rs pre post:List bO) (s:an),kS C s rs K→jv C (pre++(rs++post)) s ((List.range rs.length).map (·+pre.length)) K:=by
 intro rs
 induction rs with
 |nil=>intro pre post s h;exact h
 |cons r rs ih=>
  intro pre post s h
  rw[List.length_cons,List.range_succ_eq_map,List.map_cons,List.map_map]
  simp only[jv,Nat.zero_add]
  rw[List.getElem?_append_right (Nat.le_refl _)]
  simp only[Nat.sub_self,List.cons_append,List.getElem?_cons_zero]
  have key:∀s1,kS C s1 rs K→jv C (pre++r::(rs++post)) s1 ((List.range rs.length).map ((fun x=>x+pre.length)∘Nat.succ)) K:=by
   intro s1 ad
   have:=ih (pre++[r]) post s1 ad
   simp only[List.append_assoc,List.singleton_append,List.length_append,List.length_singleton]at this
   have e:((fun x=>x+pre.length)∘Nat.succ)=fun x=>x+(pre.length+1):=by funext x;simp;omega
   rw[e];exact this
  simp only[kS]at h
  exact BS h key
theorem Ph (im:a.defers=[]) (dJ:a.tmps.size=n.n) (hi:∀i∈n.fx,a.tmps.getD i undef=ρ i) (aH:bw w0 F0 X F S s (fun t=>a.tmps.getD t undef) w)
  {o:Oper} {d0 k:Nat} {args:List aC} {g:FuncId} {caps:List I} {arr:Array Value} {ps:List cR} {r:I} (b1:cE o.op=some (.call (.t d0) args)) (ah:lM n o.dst=true)
  (aI:a.tmps.getD d0 undef= .func (.func g) #[] arr) (aj:dx w F s (fun t=>a.tmps.getD t undef) caps arr.toList) (gO:I.fK caps=true)
  (Pj:∃b ty fr,(arr.toList).getD k undef= .pointer (some ⟨b,0,none⟩)∧w.heap[b]? =some (.cells #[.func (.func g) #[] arr] ty fr)∧F b) (vp:k<arr.size)
  (ag:ps.map (·.a)=args.map (aE s)++caps) (aF:∀p∈ps,p.ok s) (a8:iS ps=true) (bF:pr C g args.length (args.length+k) (ps.map (·.d)) r (ps.map (·.o))) (cn:r.res=true)
  (cD:lh ps=true→r.cU=true∧∀p∈ps,p.o.cU=true) {K:an→Prop} {next:Act→World→Prop} (eu:K (fin (ju (fG s ps) ps) o.dst r))
  (aV:∀aw cz aA,K aw→Rel w0 F0 X n ρ aw cz aA→next cz aA):o.wp C.P a w next Q:=by
 obtain⟨dst,op,ty,pos,after,guard⟩:=o
 simp only at b1 ah eu
 cases op with
 |call c=>
  obtain⟨callee,n5,argTypes⟩:=c
  simp only[cE]at b1
  split at b1
  ·split at b1
   ·rename_i u3 _ _ Nl xs br oK
    simp only[Option.some.injEq,fj.call.injEq]at b1
    obtain⟨rfl,rfl⟩:=b1
    have uJ:u3= .tmp d0:=by
     cases u3 with
     |tmp t=>simp only[db,Option.some.injEq,aC.t.injEq]at br;rw[br]
     |const v=>simp only[db,Option.map_eq_some_iff]at br;obtain⟨c,_,br⟩:=br;cases br
     |func g=>simp[db]at br
     |global g=>simp[db]at br
    subst uJ
    have rk:execOp a.eval {dst,op:=.call {callee:=.value (.tmp d0),args:=n5,argTypes},type:=ty,pos,after,guard}=callFunc g ((n5.toList.map a.eval++arr.toList).toArray):=by
     have:a.eval (.tmp d0)= .func (.func g) #[] arr:=aI
     simp only[execOp,resolve,this,Deferred.ofValue,pure_bind,invoke]
     congr 1
     apply Array.ext';simp
    unfold Oper.wp
    rw[rk]
    have hlen:(n5.toList.map a.eval).length=xs.length:=by
     have:=congrArg List.length (rf oK)
     simpa using this
    have u4:dx w F s (fun t=>a.tmps.getD t undef) (xs.map (aE s)++caps) (n5.toList.map a.eval++arr.toList):=FJ (xo aH (fun _=>rfl) _ _ (rf oK)) aj
    rw[←ag]at u4
    obtain⟨gq,l2⟩:=FK u4
    have gT:∀d∈xs.map (aE s)++caps,d.plain=true:=by
     intro d ah
     rcases List.mem_append.1 ah with ah|ah
     ·obtain⟨x,ai,rfl⟩:=List.mem_map.1 ah
      exact Eg s x fun av e=>by
       subst e
       have hm:=rf oK
       have:some (aC.c av)∈xs.map some:=List.mem_map.2 ⟨_,ai,rfl⟩
       rw[←hm]at this
       obtain⟨o,_,cd⟩:=List.mem_map.1 this
       cases o with
       |const v=>simp only[db,Option.map_eq_some_iff]at cd;obtain⟨c,aj,e⟩:=cd;cases e;exact AK aj
       |tmp n=>simp[db]at cd
       |func g=>simp[db]at cd
       |global g=>simp[db]at cd
     ·obtain⟨k,ax⟩:=List.getElem?_of_mem ah
      exact w2 gO ax
    have BJ:=FE (C:=C) aH (ps:=ps) (vs:=n5.toList.map a.eval++arr.toList) (f:=g) (r:=r) (by simpa using gq)
     (fun i p v ao aI=>⟨gT p.a (by rw[←ag];exact List.mem_map.2 ⟨p,List.mem_of_getElem? ao,rfl⟩),l2 i p.a v (by simp[ao]) aI⟩) aF a8
     (fun Fc lL dE bl jQ ao=>by
      refine bF w Fc lL dE _ (by rw[←gq];simp) ?_ ao
      obtain⟨b,Pk,fr,aT,aX,aS⟩:=Pj
      refine⟨b,Pk,fr,?_,?_,bl b aS,fun ai=>by obtain⟨u,hu⟩:=jQ b ai;exact aH.fa u b hu aS⟩
      ·rw[List.getD_eq_getElem?_getD,List.getElem?_append_right (by omega),hlen,Nat.add_sub_cancel_left,←List.getD_eq_getElem?_getD];exact aT
      ·rw[aX,←hlen,List.drop_left])
     cn cD
    rcases BJ with⟨ea,bD⟩|⟨v,aA,ea,bC,aG,bD,dt⟩
    ·rw[ea,Oper.upon_enter]
     refine Calls.mono bD ?_
     rintro e aA ⟨v,rfl,bC,aG,bV,b7⟩
     exact aV _ _ _ eu (Rel.put im dJ hi bV b7.1 ah)
    ·rw[ea,Oper.upon_value]
     exact aV _ _ _ eu (Rel.put im dJ hi bD dt.1 ah)
   ·cases b1
  ·split at b1
   ·simp only[Option.map_eq_some_iff]at b1;obtain⟨_,_,b1⟩:=b1;cases b1
   ·cases b1
  ·split at b1
   ·simp only[Option.map_eq_some_iff]at b1;obtain⟨_,_,b1⟩:=b1;cases b1
   ·cases b1
  iterate 3
   ·split at b1
    ·split at b1<;>cases b1
    ·cases b1
  ·cases b1
 |makeFunc fn first cs=>
  cases fn<;>simp only[cE]at b1<;>first|(cases b1;done)|(split at b1<;>simp at b1)
 |slice T x cJ ay el=>
  cases el<;>simp only[cE]at b1<;>first|(cases b1;done)|(split at b1<;>simp at b1)
 |makeMap T r=>cases r<;>simp only[cE]at b1<;>simp at b1
 |lookup T x i c=>cases c<;>simp only[cE]at b1<;>first|(cases b1;done)|(split at b1<;>simp at b1)
 |_=>simp only[cE]at b1<;>first|(cases b1;done)|(simp at b1;done)|(split at b1<;>simp at b1)
theorem Pl {op:Op} {T:TypeId} {x:aC} (h:cE op=some (.bY T x)):∃y,op= .load T y∧db y=some x:=by
 cases op with
 |load BH y=>
  simp only[cE,Option.map_eq_some_iff]at h
  obtain⟨dv,ai,h⟩:=h
  cases h
  exact⟨y,rfl,ai⟩
 |call c=>
  obtain⟨callee,n5,argTypes⟩:=c
  simp only[cE]at h
  split at h<;>(try split at h)<;>(try split at h)<;>(try simp[Option.map_eq_some_iff]at h)
 |makeFunc fn first cs=>
  cases fn<;>simp only[cE]at h<;>first|(cases h;done)|(split at h<;>simp at h)
 |slice T x cJ ay el=>
  cases el<;>simp only[cE]at h<;>first|(cases h;done)|(split at h<;>simp at h)
 |makeMap T r=>cases r<;>simp only[cE]at h<;>simp at h
 |lookup T x i c=>cases c<;>simp only[cE]at h<;>first|(cases h;done)|(split at h<;>simp at h)
 |_=>simp only[cE]at h<;>first|(cases h;done)|(simp at h;done)|(split at h<;>simp at h)
theorem Pm {y:Operand} {k:Nat} (h:db y=some (.t k)):y= .tmp k:=by
 cases y with
 |tmp t=>simp only[db,Option.some.injEq,aC.t.injEq]at h;rw[h]
 |const v=>simp only[db,Option.map_eq_some_iff]at h;obtain⟨c,_,h⟩:=h;cases h
 |func g=>simp[db]at h
 |global g=>simp[db]at h
def pv (k:Nat) (s:an) (j:Nat):I:=if j=k then .ref .hole else iG j (s j)
theorem Pn {au:Nat→Value} {b k:Nat} {v:Value} {ty:TypeId} {fr:Nat×Nat} (aH:bw w0 F0 X F S s au w) (ax:au k= .pointer (some ⟨b,0,none⟩)) (U:F b) (aj:w.heap[b]? =some (.cells #[v] ty fr)) (ad:Value.f_ v=true):
  ∀cs:List Nat,dx w F s au (cs.map (pv k s)) (cs.map au)∧I.fK (cs.map (pv k s))=true:=by
 intro cs
 induction cs with
 |nil=>exact⟨by rw[List.map_nil,List.map_nil,dx],rfl⟩
 |cons j cs ih=>
  simp only[List.map_cons]
  have b6:aB w F s au (pv k s j) (au j) (fun _=>False)∧(pv k s j).plain=true:=by
   unfold pv
   split
   ·rename_i e;subst e
    rw[ax]
    refine⟨(aB.b9 rfl).2 ⟨rfl,?_⟩,rfl⟩
    rw[ak]
    refine⟨b,0,[v],rfl,U,?_,?_⟩
    ·intro i c ay
     cases i with
     |zero=>simp at ay;subst ay;simp[World.cell?,aj]
     |succ i=>simp at ay
    ·rw[ak];exact⟨v,ad,rfl⟩
   ·unfold iG
    split
    ·rename_i ao
     exact⟨aB.nothing ao (aH.cN j),ao⟩
    ·rename_i ao
     refine⟨?_,rfl⟩
     rw[aB]
     intro d ah ao
     simp only[I.sub,Option.some.injEq]at ah
     subst ah
     have aY:(s j).tree=true:=by
      cases aa:s j<;>first|rfl|(rw[aa]at ao;simp[I.plain]at ao)
     exact⟨_,none,rfl,rfl,((aB.b9 aY).1 (aH.cN j)).1⟩
  refine⟨?_,?_⟩
  ·rw[dx];exact⟨_,_,rfl,b6.1,ih.1⟩
  ·simp only[I.fK,b6.2,ih.2,Bool.and_self]
theorem Po (bc:C.en) {id:Nat} {ops:Array Oper} {T:TypeId} {k k0 d0:Nat} {m rest:List bO} {args:List aC} {d1:Option Nat} {g:FuncId} {cs:List Nat} {b:Nat} {ty:TypeId} {fr:Nat×Nat} {K:an→Prop}
  (qc:oM n ops ops.toList=some ((⟨some d0,.bY T (.t k),none⟩::(m++⟨d1,.call (.t d0) args,none⟩::rest):List bO).map bO.un))
  (lb:(C.T T).flat=true) (hm:∀r∈m,∀d,r.dst=some d→d≠d0∧d∉cs) (l9:d0∉cs) (Cp:cs[k0]? =some k)
  (im:a.defers=[]) (dJ:a.tmps.size=n.n) (hi:∀i∈n.fx,a.tmps.getD i undef=ρ i) (aH:bw w0 F0 X F S s (fun t=>a.tmps.getD t undef) w)
  (U:F b) (ax:a.tmps.getD k undef= .pointer (some ⟨b,0,none⟩)) (xa:w.heap[b]? =some (.cells #[.func (.func g) #[] (cs.map fun j=>a.tmps.getD j undef).toArray] ty fr))
  (h:kS C (fin s (some d0) .hole) m fun s1=>∃ps r,ps.map (·.a)=args.map (aE s1)++cs.map (pv k s1)∧(∀p∈ps,p.ok s1)∧iS ps=true∧
   pr C g args.length (args.length+k0) (ps.map (·.d)) r (ps.map (·.o))∧r.res=true∧(lh ps=true→r.cU=true∧∀p∈ps,p.o.cU=true)∧kS C (fin (ju (fG s1 ps) ps) d1 r) rest K)
  (aV:∀aw cz aA,K aw→Rel w0 F0 X n ρ aw cz aA→Q .normal cz aA):(Code.region id ops false).wp C.P Q a w:=by
 obtain⟨aO,qb⟩:=BL qc
 have Cq:∀(i:Nat) (r:bO),(⟨some d0,.bY T (.t k),none⟩::(m++⟨d1,.call (.t d0) args,none⟩::rest):List bO)[i]? =some r→∃o,ops[i]? =some o∧oL n ops o=some r.un:=by
  intro i r ay
  have d_:i<ops.toList.length:=by
   rw[aO,List.length_map]
   exact(List.getElem?_eq_some_iff.1 ay).1
  obtain⟨jr,ad,ag⟩:=qb i _ (List.getElem?_eq_getElem d_)
  rw[List.getElem?_map,ay]at ad
  simp only[Option.map_some,Option.some.injEq]at ad
  exact⟨_,by rw[←Array.getElem?_toList];exact List.getElem?_eq_getElem d_,by rw[ad];exact ag⟩
 have Cr:∀{r:bO} {o:Oper},r.guard=none→oL n ops o=some r.un→r.dst=o.dst∧o.guard=none∧p_ o.op=r.bA.base∧lM n o.dst=true:=by
  intro r o hg h
  unfold oL at h
  split at h
  ·rename_i ah
   split at h
   ·rename_i Hp gN
    simp only[bO.un,Option.some.injEq,bO.mk.injEq]at h
    obtain⟨aT,aX,aS⟩:=h
    refine⟨aT.symm,?_,aX,ah⟩
    rw[aS,hg]at gN
    cases cd:o.guard with
    |none=>rfl
    |some BO=>
     rw[cd]at gN;simp only[u2]at gN;split at gN<;>cases gN
   ·cases h
  ·cases h
 have Pp:ops.size=m.length+rest.length+2:=by
  have:ops.toList.length=ops.size:=by simp
  rw[←this,aO];simp;omega
 have Pq:List.range ops.size=0::((List.range m.length).map (·+1)++((m.length+1)::(List.range rest.length).map (·+(m.length+2)))):=by
  rw[Pp,show m.length+rest.length+2=(m.length+rest.length+1)+1 from rfl,List.range_succ_eq_map]
  congr 1
  rw[show m.length+rest.length+1=m.length+(rest.length+1) by omega,List.range_add,List.map_append,List.range_succ_eq_map]
  simp only[List.map_map,List.map_cons,Nat.add_zero]
  congr 1
  congr 1
  apply List.map_congr_left
  intro x _;simp;omega
 obtain⟨qp,Pr,ku⟩:=Cq 0 _ rfl
 obtain⟨hh,ga,jf,jg⟩:=Cr rfl ku
 change p_ qp.op= .bY T (.t k)at jf
 have Cs:cE qp.op=some (.bY T (.t k)):=by
  rcases oO jf with h|h
  ·cases h
  ·exact h
 obtain⟨y,hy,Ps⟩:=Pl Cs
 have:=Pm Ps;subst this
 let oS:Value:=.func (.func g) #[] (cs.map fun j=>a.tmps.getD j undef).toArray
 have jo:hl w b 0 [oS]:=by
  intro i c ay
  cases i with
  |zero=>simp at ay;subst ay;simp[World.cell?,xa,oS]
  |succ i=>simp at ay
 refine wp_region ?_
 rw[Pq]
 simp only[wpOps,Pr]
 show(if Region.wanted qp (yielded ops a.tmps)=true then qp.wp C.P a w _ Q∨(qp.asks C.P a w∧LetsOut Q)else _)
 rw[if_pos (BM ga)]
 left
 have rk:(execOp a.eval qp).run C.P w= .ok (.value oS) w:=by
  obtain⟨dst,op,ty,pos,after,guard⟩:=qp
  simp only at hy
  subst hy
  have:a.eval (.tmp k)= .pointer (some ⟨b,0,none⟩):=ax
  simp[execOp,this,Instr.loadAt,Instr.sureAddr,Em bc lb jo]
 unfold Oper.wp
 rw[rk,Oper.upon_value]
 have Pt:some d0=qp.dst:=hh
 rw[←Pt]at jg⊢
 let ab:Act:=a.put (some d0) oS
 let nt:Fr:=⟨n.n,d0::k::(cs++n.fx)⟩
 let ρ1:Nat→Value:=fun t=>ab.tmps.getD t undef
 have xO:k∈cs:=List.mem_of_getElem? Cp
 have q_:=aH.base
 have Ct:Rel w F (fun b=>∃u,S u b) ⟨n.n,[]⟩ ρ1 (fin s (some d0) .hole) ab w:=
  Rel.put (n:=⟨n.n,[]⟩) im dJ (fun i ay=>by cases ay) q_ (.inl ⟨rfl,by rw[aB];trivial⟩) (by
   simp only[lM,Bool.and_eq_true,decide_eq_true_eq]at jg⊢
   exact⟨jg.1,by simp⟩)
 have Pu:Rel w F (fun b=>∃u,S u b) nt ρ1 (fin s (some d0) .hole) ab w:=⟨Ct.defers,Ct.size,fun i _=>rfl,Ct.rel⟩
 have Hq:∀t,t≠d0→ρ1 t=a.tmps.getD t undef:=by
  intro t aY
  have:=congrFun (BG (n:=n) (dst:=some d0) (a:=a) oS dJ jg).1 t
  simp only[o5]at this
  rw[jd _ _ aY]at this
  exact this
 have Pv:ρ1 d0=oS:=by
  have:=congrFun (BG (n:=n) (dst:=some d0) (a:=a) oS dJ jg).1 d0
  simp only[o5]at this
  rw[l7]at this
  exact this
 have hw:=Ho C _ m [⟨some d0,.bY T (.t k),none⟩] (⟨d1,.call (.t d0) args,none⟩::rest) _ h
 have mid:∀aw cz aA,(∃ps r,ps.map (·.a)=args.map (aE aw)++cs.map (pv k aw)∧(∀p∈ps,p.ok aw)∧iS ps=true∧
   pr C g args.length (args.length+k0) (ps.map (·.d)) r (ps.map (·.o))∧r.res=true∧(lh ps=true→r.cU=true∧∀p∈ps,p.o.cU=true)∧kS C (fin (ju (fG aw ps) ps) d1 r) rest K)→
   Rel w F (fun b=>∃u,S u b) nt ρ1 aw cz aA→wpOps C.P ops Q ((m.length+1)::(List.range rest.length).map (·+(m.length+2))) cz aA:=by
  rintro s2 a2 ir ⟨ps,r,aT,aX,aS,bQ,cp,bK,bH⟩ ⟨g1,g2,g3,u1,dc,g4⟩
  obtain⟨tg,Pw,ox⟩:=Cq (m.length+1) ⟨d1,.call (.t d0) args,none⟩ (by simp)
  obtain⟨fg,gM,hP,EA⟩:=Cr rfl ox
  simp only[wpOps,Pw]
  show(if Region.wanted tg (yielded ops a2.tmps)=true then tg.wp C.P a2 ir _ Q∨(tg.asks C.P a2 ir∧LetsOut Q)else _)
  rw[if_pos (BM gM)]
  left
  change p_ tg.op= .call (.t d0) args at hP
  have Px:cE tg.op=some (.call (.t d0) args):=by
   rcases oO hP with h|h
   ·cases h
   ·exact h
  have Hr:u1 b:=g4.gF b U
  have Hs:ir.heap[b]? =some (.cells #[oS] ty fr):=by
   rw[g4.old b (aH.eT b U) (fun⟨u,hu⟩=>aH.fa u b hu U)];exact xa
  have Ht:∀j∈cs,a2.tmps.getD j undef=a.tmps.getD j undef:=by
   intro j b6
   rw[g3 j (by simp[nt,b6])]
   exact Hq j (fun e=>l9 (e▸b6))
  have pW:a2.tmps.getD k undef= .pointer (some ⟨b,0,none⟩):=(Ht k xO).trans ax
  have Hu:(cs.map fun j=>a.tmps.getD j undef)=cs.map fun j=>a2.tmps.getD j undef:=List.map_congr_left fun j b6=>(Ht j b6).symm
  obtain⟨b5,c2⟩:=Pn (k:=k) g4 pW Hr Hs rfl cs
  have A_:∀aw cz aA,kS C aw rest K→Rel w F (fun b=>∃u,S u b) ⟨n.n,n.fx⟩ ρ aw cz aA→wpOps C.P ops Q ((List.range rest.length).map (·+(m.length+2))) cz aA:=by
   intro dL a3 ll aF Py
   have xD:=Ho C K rest ((⟨some d0,.bY T (.t k),none⟩::m)++[⟨d1,.call (.t d0) args,none⟩]) [] dL aF
   have:=BN (Q:=Q) bc (ops:=ops) (ros:=((⟨some d0,.bY T (.t k),none⟩::m)++[⟨d1,.call (.t d0) args,none⟩])++(rest++[])) (l2:=[]) (K:=K) (fun aw cz aA ld dV=>by
     obtain⟨Pz,z2,z3,PA,EK,z4⟩:=dV
     exact aV aw cz aA ld ⟨Pz,z2,z3,PA,EK,aH.Pg z4⟩) ((List.range rest.length).map (·+(m.length+2))) (fun i ay=>by
      have vf:((⟨some d0,.bY T (.t k),none⟩::m)++[⟨d1,.call (.t d0) args,none⟩])++(rest++[])=(⟨some d0,.bY T (.t k),none⟩::(m++⟨d1,.call (.t d0) args,none⟩::rest):List bO):=by simp
      rw[vf]
      refine⟨fun ko=> ?_,fun o cd=> ?_⟩
      ·rw[List.getElem?_eq_none_iff]
       have:=Array.getElem?_eq_none_iff.1 ko
       simp;omega
      ·obtain⟨az,hn,ag⟩:=qb i o (by simpa using cd)
       obtain⟨r,ad,rfl⟩:∃r,(⟨some d0,.bY T (.t k),none⟩::(m++⟨d1,.call (.t d0) args,none⟩::rest):List bO)[i]? =some r∧r.un=az:=by
        rw[List.getElem?_map,Option.map_eq_some_iff]at hn;exact hn
       exact⟨r,ad,ag⟩) dL a3 ll (by
      have e:((⟨some d0,.bY T (.t k),none⟩::m)++[⟨d1,.call (.t d0) args,none⟩]:List bO).length=m.length+2:=by simp
      rw[e]at xD;exact xD) Py
   rwa [List.append_nil]at this
  have PB:∀i∈n.fx,a2.tmps.getD i undef=ρ i:=by
   intro i ay
   rw[g3 i (by simp[nt,ay]),Hq i (fun e=> ?_)]
   ·exact hi i ay
   ·simp only[lM,Bool.and_eq_true,Bool.not_eq_true',List.contains_eq_mem,decide_eq_false_iff_not]at jg
    exact jg.2 (e▸ay)
  have vp:k0<cs.length:=(List.getElem?_eq_some_iff.1 Cp).1
  have PC:tg.dst=d1:=fg.symm
  exact Ph (n:=n) (ρ:=ρ) (K:=fun aw=>kS C aw rest K) g1 g2 PB g4 Px EA
   (arr:=(cs.map fun j=>a2.tmps.getD j undef).toArray) (k:=k0) (caps:=cs.map (pv k s2)) (g:=g) (ps:=ps) (r:=r)
   (by rw[g3 d0 (by simp[nt]),Pv];simp only[oS,Hu]) (by simpa using b5) c2
   ⟨b,ty,fr,by
     rw[List.getD_eq_getElem?_getD,List.getElem?_map,Cp];exact pW,by rw[Hs];simp only[oS,Hu],Hr⟩ (by simpa using vp)
   aT aX aS bQ cp bK (by rw[PC];exact bH) A_
 have:=BN (Q:=Q) bc (ops:=ops) (ros:=[⟨some d0,.bY T (.t k),none⟩]++(m++⟨d1,.call (.t d0) args,none⟩::rest)) (l2:=(m.length+1)::(List.range rest.length).map (·+(m.length+2))) mid
  ((List.range m.length).map (·+1)) (fun i ay=>by
    obtain⟨j,b6,rfl⟩:=List.mem_map.1 ay
    have vq:j<m.length:=List.mem_range.1 b6
    refine⟨fun ko=> ?_,fun o cd=> ?_⟩
    ·have:=Array.getElem?_eq_none_iff.1 ko
     omega
    ·obtain⟨mK,vi,fM⟩:=Cq (j+1) m[j] (by
      simp only[List.getElem?_cons_succ]
      rw[List.getElem?_append_left vq,List.getElem?_eq_getElem vq])
     have heq:mK=o:=by rw[vi]at cd;exact Option.some.inj cd
     subst heq
     refine⟨m[j],by
      simp only[List.singleton_append,List.getElem?_cons_succ]
      rw[List.getElem?_append_left vq,List.getElem?_eq_getElem vq],?_⟩
     have PD:=hm m[j] (List.getElem_mem vq)
     unfold oL at fM⊢
     split at fM
     ·rename_i ah
      rw[if_pos]
      ·exact fM
      ·cases Hv:mK.dst with
       |none=>rfl
       |some d=>
        rw[Hv]at ah
        simp only[lM,Bool.and_eq_true,decide_eq_true_eq,Bool.not_eq_true',List.contains_eq_mem,decide_eq_false_iff_not]at ah⊢
        refine⟨ah.1,?_⟩
        have xy:m[j].dst=some d:=by
         split at fM
         ·simp only[bO.un,Option.some.injEq,bO.mk.injEq]at fM
          rw[←fM.1,Hv]
         ·cases fM
        obtain⟨m1,m2⟩:=PD d xy
        simp only[nt,List.mem_cons,List.mem_append,not_or]
        exact⟨m1,fun e=>m2 (e▸xO),m2,ah.2⟩
     ·cases fM) (fin s (some d0) .hole) ab w (by simpa using hw) Pu
 exact this
def PE (C:bS) (f:FuncId) (k k0:Nat) (cs:List Nat) (args:List aC) (d1:Option Nat) (rest:List bO) (keep:List Nat) (P:List (Nat×I)→Prop) (s1:an):Prop:=
 ∃ps r,ps.map (·.a)=args.map (aE s1)++cs.map (pv k s1)∧(∀p∈ps,p.ok s1)∧iS ps=true∧
  pr C f args.length (args.length+k0) (ps.map (·.d)) r (ps.map (·.o))∧r.res=true∧(lh ps=true→r.cU=true∧∀p∈ps,p.o.cU=true)∧
  cj C (fin (ju (fG s1 ps) ps) d1 r) rest none (fun _ s=>P (iT keep s))
def PF (C:bS) (f:FuncId) (k k0 d0:Nat) (cs:List Nat) (m:List bO) (args:List aC) (d1:Option Nat) (rest:List bO) (keep:List Nat) (P:List (Nat×I)→Prop) (s:an):Prop:=
 cj C (fin s (some d0) .hole) m none fun _ s1=>PE C f k k0 cs args d1 rest keep P s1
def PG (C:bS) (f:FuncId) (k k0 d0:Nat) (cs:List Nat) (m:List bO) (args:List aC) (d1:Option Nat) (rest:List bO) (keep:List Nat) (K:an→Prop) (s:an):Prop:=
 PF C f k k0 d0 cs m args d1 rest keep (fun l=>K (R l)) s
def Hw (f:Nat→Bool) (m:List bO):Bool:=m.all fun r=>match r.dst with
 |none=>true
 |some d=>f d
theorem PH {f:Nat→Bool} {m:List bO} (h:Hw f m=true):∀r∈m,∀d,r.dst=some d→f d=true:=by
 intro r aH d ah
 have:=List.all_eq_true.1 h r aH
 rw[ah]at this;exact this
theorem PI (k:List Nat) (s:an):vd s (iT k s):=by
 intro p ao
 obtain⟨t,_,rfl⟩:=List.mem_map.1 ao
 exact .inl rfl
def PJ (C:bS) (f:FuncId) (k k0 d0:Nat) (cs:List Nat) (m:List bO) (args:List aC) (d1:Option Nat) (rest:List bO) (keep:List Nat):(Exit→an→Prop)→an→Prop:=
 fun Q s=>PG C f k k0 d0 cs m args d1 rest keep (Q .normal) s
def PK (T:TypeId) (k d0:Nat) (m:List bO) (args:List aC) (d1:Option Nat) (rest:List bO):J:=
 .ct (⟨some d0,.bY T (.t k),none⟩::(m++⟨d1,.call (.t d0) args,none⟩::rest)) none
theorem PL (vs:List Value):∀(m n:Nat),m+n=vs.length→vs.drop m=((List.range n).map (·+m)).map fun j=>vs.getD j undef:=by
 intro m n h
 apply List.ext_getElem?
 intro i
 rw[List.getElem?_drop,List.map_map,List.getElem?_map]
 by_cases ay:i<n
 ·rw[List.getElem?_range ay,List.getElem?_eq_getElem (by omega)]
  simp only[Option.map_some,Function.comp]
  rw[List.getD_eq_getElem?_getD,List.getElem?_eq_getElem (by omega)]
  simp only[Option.getD_some,Option.some.injEq]
  congr 1;omega
 ·rw[List.getElem?_eq_none (by omega),List.getElem?_eq_none (by simp;omega)];rfl
theorem PM {c:Code} {rs:List bO} (h:bt n c=some (.ct rs none)):∃id ops,c= .region id ops false∧oM n ops ops.toList=some rs:=by
 cases c with
 |region id ops draw=>
  cases draw with
  |false=>
   simp only[bt,Option.map_eq_some_iff]at h
   obtain⟨r,ad,ag⟩:=h
   cases ag
   exact⟨id,ops,rfl,ad⟩
  |true=>
   simp only[bt]at h
   split at h
   ·simp only[Option.map_eq_some_iff]at h
    obtain⟨r,ad,ag⟩:=h
    cases ag
   ·cases h
 |seq a b=>simp only[bt]at h;split at h<;>cases h
 |cond c a b=>simp only[bt]at h;split at h<;>cases h
 |block id b=>simp only[bt,Option.map_eq_some_iff]at h;obtain⟨r,ad,ag⟩:=h;cases ag
 |loop b=>simp only[bt,Option.map_eq_some_iff]at h;obtain⟨r,ad,ag⟩:=h;cases ag
 |_=>simp[bt]at h
def Cu (C:bS) (f:FuncId) (fx:List Nat) (PN m k:Nat) (T:(Exit→an→Prop)→an→Prop) (b:J):Prop:=
 ∃(ty:TypeId) (k0 d0 mR:Nat) (jq:List bO) (args:List aC) (d1:Option Nat) (rest:List bO) (keep:List Nat),
  T=PJ C f k k0 d0 ((List.range mR).map (·+m)) jq args d1 rest keep∧b=PK ty k d0 jq args d1 rest∧(C.T ty).flat=true∧Hw (fun d=>d !=d0&&decide (m+mR≤d)) jq=true∧decide (m+mR≤d0)=true∧
  decide (k0<mR)=true∧k=m+k0∧((List.range mR).all fun j=>fx.contains (m+j))=true∧args.length=m∧m+mR=PN
theorem pr.of_wp (bc:C.en) {f:FuncId} {fn:Func} {c:Code} {e4:J} {fx:List Nat} {as outs:List I} {r:I} {k m:Nat} (br:C.P.funcs[f]? =some fn) (U:fn.body=some c)
  (kU:(fn.name== "runtime.NumGoroutine")=false) (aa:bt ⟨fn.ntmps,fx⟩ c=some e4.strip) (aV:as.length≤fn.ntmps)
  (ax:e4.oQ (Cu C f fx as.length m k))
  (h:∀Q:Exit→an→Prop,(∀s,fU (Ends C fx fn.results.toList r outs) s→Q .ret s)→(∀s,fU (Ends C fx fn.results.toList r outs) s→Q .normal s)→cK C e4 Q (R (num 0 as))):pr C f m k as r outs:=by
 rintro w F X S vs aO ⟨b,PO,fr,aT,aX,aS,bQ⟩ aH
 refine F9 (fx:=fx) bc br U kU aV aO aH fun a pn dF=> ?_
 refine F6 bc (H:=Cu C f fx as.length m k) ?_ c (by rw[J.FW];exact aa) (J.FX e4 ax) (F4 e4 ?_) pn
 ·rintro c T e8 Q s ab kg ⟨ty,k0,d0,mR,jq,args,d1,rest,keep,rfl,rfl,lb,hm,l9,xP,ax,hi,hlen,al7⟩ Cs PQ ⟨g1,g2,g3,sE,bN,g4⟩
  replace hm:∀r∈jq,∀d,r.dst=some d→d≠d0∧m+mR≤d:=fun r aH d ah=>by
   have:=PH hm r aH d ah
   simpa using this
  replace l9:=of_decide_eq_true l9
  replace xP:=of_decide_eq_true xP
  replace hi:∀j,j<mR→m+j∈fx:=fun j b6=>by
   have:=List.all_eq_true.1 hi j (List.mem_range.2 b6)
   simpa using this
  obtain⟨id,ops,rfl,qc⟩:=PM Cs
  have Hx:∀j,j<mR→ab.tmps.getD (j+m) undef=vs.getD (j+m) undef:=fun j b6=>by
   rw[Nat.add_comm];exact g3 _ (hi j b6)
  have hs:((List.range mR).map (·+m)).map (fun j=>ab.tmps.getD j undef)=vs.drop m:=by
   rw[PL vs m mR (by omega),List.map_map,List.map_map]
   apply List.map_congr_left
   intro j b6
   exact Hx j (List.mem_range.1 b6)
  refine Po (Q:=sK w F X ⟨fn.ntmps,fx⟩ (gA vs) Q) (K:=fU (Q .normal)) (b:=b) (ty:=PO) (fr:=fr) (g:=f) (k0:=k0) (cs:=(List.range mR).map (·+m)) bc qc lb (fun r aH d ah=>⟨(hm r aH d ah).1,fun Cv=> ?_⟩) (fun Cv=> ?_) ?_ g1 g2 g3 g4 (g4.gF b aS) ?_ ?_ ?_ (fun aw cz aA ax dV=>dV.fU ax)
  ·obtain⟨j,b6,rfl⟩:=List.mem_map.1 Cv
   have:=(hm r aH _ ah).2;have:=List.mem_range.1 b6;omega
  ·obtain⟨j,b6,e⟩:=List.mem_map.1 Cv
   have:=List.mem_range.1 b6;omega
  ·rw[List.getElem?_map,List.getElem?_range xP,ax];simp[Nat.add_comm]
  ·rw[ax,Nat.add_comm,Hx k0 xP,Nat.add_comm,←ax];exact aT
  ·rw[hs,g4.old b (aH.eT b aS) bQ];exact aX
  ·refine xE (fun _ s1=> ?_) PQ
   rintro⟨ps,r,hh,ga,jf,jg,pZ,rl,u5⟩
   exact⟨ps,r,hh,ga,jf,jg,pZ,rl,xE (fun _ s h=>.inr ⟨_,PI _ _,h⟩) u5⟩
 ·rw[Gb]
  exact h _ (fun s h=>⟨.inr rfl,h⟩) (fun s h=>⟨.inl rfl,h⟩)
end
end Go.cI
