/- Part of a proof that a law returns true for every input. No condition. -/
import Derived.Test.YtipllbfpaepajaaGreatDoorFwI
namespace Go.ca
def n2 (C:bt) (f:FuncId) (m k:Nat) (as:List I) (r:I) (outs:List I):Prop:=
 ∀(w:World) (F X:Nat→Prop) (S:Nat→Nat→Prop) (vs:List Value),vs.length=as.length→
  (∃b ty fr,vs.getD k undef= .pointer (some ⟨b,0,none⟩)∧w.heap[b]? =some (.cells #[.func (.func f) #[] (vs.drop m).toArray] ty fr)∧F b∧¬X b)→
  bb w F X F S (dT as) (e0 vs) w→
  ml C.P f vs.toArray w fun v aw=>∃bf aF,bb w F X bf aF (dT (r::outs)) (e0 (v::vs)) aw
section
variable {C:bt} {w0 w:World} {F0 X F bf:Nat→Prop} {S aF:Nat→Nat→Prop} {n:Fr} {ρ:Nat→Value} {s ar:aj} {ao hP:Nat→Value} {a:Act} {av:I} {Q:Exit→Act→World→Prop} {aw:World}
theorem bb.base (h:bb w0 F0 X F S s ao w):bb w F (fun b=>∃u,S u b) F S s ao w where
 e3:=fun _ h=>h
 fh:=fun _ h=>.inl h
 dH:=h.dH
 de:=h.de
 dY:=h.dY
 dA:=h.dA
 cE:=fun u b R=>.inl ⟨u,R⟩
 cj:=h.cj
 old:=fun _ _ _=>rfl
 size:=Nat.le_refl _
 os:=rfl
 tape:=rfl
 output:=Out.refl _
 eT:=h.eT.next h.size h.old fun b ⟨u,hu⟩=>h.cE u b hu
theorem bb.L2 (h:bb w0 F0 X F S s ao w) (aS:bb w F (fun b=>∃u,S u b) bf aF ar hP aw):bb w0 F0 X bf aF ar hP aw where
 e3:=fun b R=>aS.e3 b (h.e3 b R)
 fh:=fun b R=>by
  rcases aS.fh b R with R|⟨u,R⟩|R
  ·exact h.fh b R
  ·exact .inr (h.cE u b R)
  ·exact .inr (.inr (Nat.le_trans h.size R))
 dH:=aS.dH
 de:=aS.de
 dY:=aS.dY
 dA:=aS.dA
 cE:=fun u b R=>by
  rcases aS.cE u b R with⟨u,R⟩|R
  ·exact h.cE u b R
  ·exact .inr (Nat.le_trans h.size R)
 cj:=aS.cj
 old:=fun b R hQ=>by
  refine(aS.old b (Nat.lt_of_lt_of_le R h.size) fun⟨u,hu⟩=> ?_).trans (h.old b R hQ)
  rcases h.cE u b hu with aq|aq
  ·exact hQ aq
  ·omega
 size:=Nat.le_trans h.size aS.size
 os:=aS.os.trans h.os
 tape:=aS.tape.trans h.tape
 output:=aS.output.trans h.output
 eT:=h.eT
inductive n3:List I→List I→Prop
 |nil:n3 [] []
 |eq {a:I} {as ir:List I}:a.U=[]→n3 as ir→n3 (a::as) (a::ir)
 |wd {a b:I} {as ir:List I}:dJ a b→a.tree=true→b.U=[]→n3 as ir→n3 (a::as) (b::ir)
theorem n3.get:∀{as ir:List I},n3 as ir→∀p k,p∈num k ir→p.2.U=[]∧∃a,as[p.1-k]? =some a∧k≤p.1∧(p.2=a∨(a.tree=true∧dJ a p.2))
 |_,_,.nil,p,k,ak=>by simp[num]at ak
 |_,_,.eq (a:=a) h hw,p,k,ak=>by
  simp only[num,List.mem_cons]at ak
  rcases ak with rfl|ak
  ·exact⟨h,a,by simp,Nat.le_refl _,.inl rfl⟩
  ·obtain⟨ab,x,ad,aB,aR⟩:=hw.get p (k+1) ak
   refine⟨ab,x,?_,by omega,aR⟩
   rw[show p.1-k=(p.1-(k+1))+1 by omega,List.getElem?_cons_succ];exact ad
 |_,_,.wd (a:=a) h aO R hw,p,k,ak=>by
  simp only[num,List.mem_cons]at ak
  rcases ak with rfl|ak
  ·exact⟨R,a,by simp,Nat.le_refl _,.inr ⟨aO,h⟩⟩
  ·obtain⟨ab,x,ad,aB,aR⟩:=hw.get p (k+1) ak
   refine⟨ab,x,?_,by omega,aR⟩
   rw[show p.1-k=(p.1-(k+1))+1 by omega,List.getElem?_cons_succ];exact ad
theorem n3.len:∀{as ir:List I},n3 as ir→ir.length=as.length
 |_,_,.nil=>rfl
 |_,_,.eq _ hw=>by simp[hw.len]
 |_,_,.wd _ _ _ hw=>by simp[hw.len]
theorem EB (C:bt) (K:aj→Prop):∀(rs pre post:List br) (s:aj),i_ C s rs K→hC C (pre++(rs++post)) s ((List.range rs.length).map (·+pre.length)) K:=by
 intro rs
 induction rs with
 |nil=>intro pre post s h;exact h
 |cons r rs ih=>
  intro pre post s h
  rw[List.length_cons,List.range_succ_eq_map,List.map_cons,List.map_map]
  simp only[hC,Nat.zero_add]
  rw[List.getElem?_append_right (Nat.le_refl _)]
  simp only[Nat.sub_self,List.cons_append,List.getElem?_cons_zero]
  have key:∀s1,i_ C s1 rs K→hC C (pre++r::(rs++post)) s1 ((List.range rs.length).map ((fun x=>x+pre.length)∘Nat.succ)) K:=by
   intro s1 ab
   have:=ih (pre++[r]) post s1 ab
   simp only[List.append_assoc,List.singleton_append,List.length_append,List.length_singleton]at this
   have e:((fun x=>x+pre.length)∘Nat.succ)=fun x=>x+(pre.length+1):=by funext x;simp;omega
   rw[e];exact this
  simp only[i_]at h
  exact y1 h key
theorem L3 (gE:a.defers=[]) (cV:a.tmps.size=n.n) (fw:∀i∈n.fx,a.tmps.getD i undef=ρ i) (aD:bb w0 F0 X F S s (fun t=>a.tmps.getD t undef) w)
  {o:Oper} {d0 k:Nat} {args:List ax} {g:FuncId} {caps:List I} {arr:Array Value} {ps:List bW} {r:I} (bC:b7 o.op=some (.call (.t d0) args)) (ae:jW n o.dst=true)
  (aG:a.tmps.getD d0 undef= .func (.func g) #[] arr) (ai:cL w F s (fun t=>a.tmps.getD t undef) caps arr.toList) (eQ:I.ef caps=true)
  (L4:∃b ty fr,(arr.toList).getD k undef= .pointer (some ⟨b,0,none⟩)∧w.heap[b]? =some (.cells #[.func (.func g) #[] arr] ty fr)∧F b) (tI:k<arr.size)
  (ad:ps.map (·.a)=args.map (az s)++caps) (aB:∀p∈ps,p.ok s) (aR:gw ps=true) (ba:n2 C g args.length (args.length+k) (ps.map (·.d)) r (ps.map (·.o))) (bu:r.res=true)
  (bE:ia ps=true→r.di=true∧∀p∈ps,p.o.di=true) {K:aj→Prop} {next:Act→World→Prop} (cK:K (fin (gf (dI s ps) ps) o.dst r))
  (aW:∀ar bU aw,K ar→Rel w0 F0 X n ρ ar bU aw→next bU aw):o.wp C.P a w next Q:=by
 obtain⟨dst,op,ty,pos,after,guard⟩:=o
 simp only at bC ae cK
 cases op with
 |call c=>
  obtain⟨callee,mn,argTypes⟩:=c
  simp only[b7]at bC
  split at bC
  ·split at bC
   ·rename_i tm _ _ Kb xs bk mX
    simp only[Option.some.injEq,ej.call.injEq]at bC
    obtain⟨rfl,rfl⟩:=bC
    have sY:tm= .tmp d0:=by
     cases tm with
     |tmp t=>simp only[cv,Option.some.injEq,ax.t.injEq]at bk;rw[bk]
     |const v=>simp only[cv,Option.map_eq_some_iff]at bk;obtain⟨c,_,bk⟩:=bk;cases bk
     |func g=>simp[cv]at bk
     |global g=>simp[cv]at bk
    subst sY
    have pU:execOp a.eval {dst,op:=.call {callee:=.value (.tmp d0),args:=mn,argTypes},type:=ty,pos,after,guard}=callFunc g ((mn.toList.map a.eval++arr.toList).toArray):=by
     have:a.eval (.tmp d0)= .func (.func g) #[] arr:=aG
     simp only[execOp,resolve,this,Deferred.ofValue,pure_bind,invoke]
     congr 1
     apply Array.ext';simp
    unfold Oper.wp
    rw[pU]
    have hlen:(mn.toList.map a.eval).length=xs.length:=by
     have:=congrArg List.length (pP mX)
     simpa using this
    have tn:cL w F s (fun t=>a.tmps.getD t undef) (xs.map (az s)++caps) (mn.toList.map a.eval++arr.toList):=CO (vq aD (fun _=>rfl) _ _ (pP mX)) ai
    rw[←ad]at tn
    obtain⟨e4,l2⟩:=CP tn
    have fi:∀d∈xs.map (az s)++caps,d.plain=true:=by
     intro d ae
     rcases List.mem_append.1 ae with ae|ae
     ·obtain⟨x,aq,rfl⟩:=List.mem_map.1 ae
      exact Bo s x fun av e=>by
       subst e
       have hm:=pP mX
       have:some (ax.c av)∈xs.map some:=List.mem_map.2 ⟨_,aq,rfl⟩
       rw[←hm]at this
       obtain⟨o,_,bL⟩:=List.mem_map.1 this
       cases o with
       |const v=>simp only[cv,Option.map_eq_some_iff]at bL;obtain⟨c,ai,e⟩:=bL;cases e;exact xX ai
       |tmp n=>simp[cv]at bL
       |func g=>simp[cv]at bL
       |global g=>simp[cv]at bL
     ·obtain⟨k,al⟩:=List.getElem?_of_mem ae
      exact u2 eQ al
    have yR:=CJ (C:=C) aD (ps:=ps) (vs:=mn.toList.map a.eval++arr.toList) (f:=g) (r:=r) (by simpa using e4)
     (fun i p v ak aG=>⟨fi p.a (by rw[←ad];exact List.mem_map.2 ⟨p,List.mem_of_getElem? ak,rfl⟩),l2 i p.a v (by simp[ak]) aG⟩) aB aR
     (fun Fc jV cQ a1 hQ ak=>by
      refine ba w Fc jV cQ _ (by rw[←e4];simp) ?_ ak
      obtain⟨b,L5,fr,aH,aJ,aK⟩:=L4
      refine⟨b,L5,fr,?_,?_,a1 b aK,fun aq=>by obtain⟨u,hu⟩:=hQ b aq;exact aD.dY u b hu aK⟩
      ·rw[List.getD_eq_getElem?_getD,List.getElem?_append_right (by omega),hlen,Nat.add_sub_cancel_left,←List.getD_eq_getElem?_getD];exact aH
      ·rw[aJ,←hlen,List.drop_left])
     bu bE
    rcases yR with⟨eF,cd⟩|⟨v,aw,eF,bf,aF,cd,fj⟩
    ·rw[eF,Oper.upon_enter]
     refine Calls.mono cd ?_
     rintro e aw ⟨v,rfl,bf,aF,bz,bK⟩
     exact aW _ _ _ cK (Rel.put gE cV fw bz bK.1 ae)
    ·rw[eF,Oper.upon_value]
     exact aW _ _ _ cK (Rel.put gE cV fw cd fj.1 ae)
   ·cases bC
  ·split at bC
   ·simp only[Option.map_eq_some_iff]at bC;obtain⟨_,_,bC⟩:=bC;cases bC
   ·cases bC
  ·split at bC
   ·simp only[Option.map_eq_some_iff]at bC;obtain⟨_,_,bC⟩:=bC;cases bC
   ·cases bC
  iterate 3
   ·split at bC
    ·split at bC<;>cases bC
    ·cases bC
  ·cases bC
 |makeFunc fn first cs=>
  cases fn<;>simp only[b7]at bC<;>first|(cases bC;done)|(split at bC<;>simp at bC)
 |slice T x cb aA dm=>
  cases dm<;>simp only[b7]at bC<;>first|(cases bC;done)|(split at bC<;>simp at bC)
 |makeMap T r=>cases r<;>simp only[b7]at bC<;>simp at bC
 |lookup T x i c=>cases c<;>simp only[b7]at bC<;>first|(cases bC;done)|(split at bC<;>simp at bC)
 |_=>simp only[b7]at bC<;>first|(cases bC;done)|(simp at bC;done)|(split at bC<;>simp at bC)
theorem L6 {op:Op} {T:TypeId} {x:ax} (h:b7 op=some (.dh T x)):∃y,op= .load T y∧cv y=some x:=by
 cases op with
 |load yP y=>
  simp only[b7,Option.map_eq_some_iff]at h
  obtain⟨b6,aq,h⟩:=h
  cases h
  exact⟨y,rfl,aq⟩
 |call c=>
  obtain⟨callee,mn,argTypes⟩:=c
  simp only[b7]at h
  split at h<;>(try split at h)<;>(try split at h)<;>(try simp[Option.map_eq_some_iff]at h)
 |makeFunc fn first cs=>
  cases fn<;>simp only[b7]at h<;>first|(cases h;done)|(split at h<;>simp at h)
 |slice T x cb aA dm=>
  cases dm<;>simp only[b7]at h<;>first|(cases h;done)|(split at h<;>simp at h)
 |makeMap T r=>cases r<;>simp only[b7]at h<;>simp at h
 |lookup T x i c=>cases c<;>simp only[b7]at h<;>first|(cases h;done)|(split at h<;>simp at h)
 |_=>simp only[b7]at h<;>first|(cases h;done)|(simp at h;done)|(split at h<;>simp at h)
theorem L7 {y:Operand} {k:Nat} (h:cv y=some (.t k)):y= .tmp k:=by
 cases y with
 |tmp t=>simp only[cv,Option.some.injEq,ax.t.injEq]at h;rw[h]
 |const v=>simp only[cv,Option.map_eq_some_iff]at h;obtain⟨c,_,h⟩:=h;cases h
 |func g=>simp[cv]at h
 |global g=>simp[cv]at h
def n4 (k:Nat) (s:aj) (j:Nat):I:=if j=k then .ref .hole else gO j (s j)
theorem L8 {ao:Nat→Value} {b k:Nat} {v:Value} {ty:TypeId} {fr:Nat×Nat} (aD:bb w0 F0 X F S s ao w) (al:ao k= .pointer (some ⟨b,0,none⟩)) (R:F b) (ai:w.heap[b]? =some (.cells #[v] ty fr)) (ab:Value.eO v=true):
  ∀cs:List Nat,cL w F s ao (cs.map (n4 k s)) (cs.map ao)∧I.ef (cs.map (n4 k s))=true:=by
 intro cs
 induction cs with
 |nil=>exact⟨by rw[List.map_nil,List.map_nil,cL],rfl⟩
 |cons j cs ih=>
  simp only[List.map_cons]
  have b2:ay w F s ao (n4 k s j) (ao j) (fun _=>False)∧(n4 k s j).plain=true:=by
   unfold n4
   split
   ·rename_i e;subst e
    rw[al]
    refine⟨(ay.bM rfl).2 ⟨rfl,?_⟩,rfl⟩
    rw[an]
    refine⟨b,0,[v],rfl,R,?_,?_⟩
    ·intro i c aA
     cases i with
     |zero=>simp at aA;subst aA;simp[World.cell?,ai]
     |succ i=>simp at aA
    ·rw[an];exact⟨v,ab,rfl⟩
   ·unfold gO
    split
    ·rename_i ak
     exact⟨ay.nothing ak (aD.cj j),ak⟩
    ·rename_i ak
     refine⟨?_,rfl⟩
     rw[ay]
     intro d ae ak
     simp only[I.sub,Option.some.injEq]at ae
     subst ae
     have aO:(s j).tree=true:=by
      cases U:s j<;>first|rfl|(rw[U]at ak;simp[I.plain]at ak)
     exact⟨_,none,rfl,rfl,((ay.bM aO).1 (aD.cj j)).1⟩
  refine⟨?_,?_⟩
  ·rw[cL];exact⟨_,_,rfl,b2.1,ih.1⟩
  ·simp only[I.ef,b2.2,ih.2,Bool.and_self]
theorem L9 (aU:C.dn) {id:Nat} {ops:Array Oper} {T:TypeId} {k k0 d0:Nat} {m rest:List br} {args:List ax} {d1:Option Nat} {g:FuncId} {cs:List Nat} {b:Nat} {ty:TypeId} {fr:Nat×Nat} {K:aj→Prop}
  (oO:mZ n ops ops.toList=some ((⟨some d0,.dh T (.t k),none⟩::(m++⟨d1,.call (.t d0) args,none⟩::rest):List br).map br.un))
  (ju:(C.T T).flat=true) (hm:∀r∈m,∀d,r.dst=some d→d≠d0∧d∉cs) (km:d0∉cs) (zv:cs[k0]? =some k)
  (gE:a.defers=[]) (cV:a.tmps.size=n.n) (fw:∀i∈n.fx,a.tmps.getD i undef=ρ i) (aD:bb w0 F0 X F S s (fun t=>a.tmps.getD t undef) w)
  (R:F b) (al:a.tmps.getD k undef= .pointer (some ⟨b,0,none⟩)) (vb:w.heap[b]? =some (.cells #[.func (.func g) #[] (cs.map fun j=>a.tmps.getD j undef).toArray] ty fr))
  (h:i_ C (fin s (some d0) .hole) m fun s1=>∃ps r,ps.map (·.a)=args.map (az s1)++cs.map (n4 k s1)∧(∀p∈ps,p.ok s1)∧gw ps=true∧
   n2 C g args.length (args.length+k0) (ps.map (·.d)) r (ps.map (·.o))∧r.res=true∧(ia ps=true→r.di=true∧∀p∈ps,p.o.di=true)∧i_ C (fin (gf (dI s1 ps) ps) d1 r) rest K)
  (aW:∀ar bU aw,K ar→Rel w0 F0 X n ρ ar bU aw→Q .normal bU aw):(Code.region id ops false).wp C.P Q a w:=by
 obtain⟨hl,oN⟩:=yT oO
 have zw:∀(i:Nat) (r:br),(⟨some d0,.dh T (.t k),none⟩::(m++⟨d1,.call (.t d0) args,none⟩::rest):List br)[i]? =some r→∃o,ops[i]? =some o∧mY n ops o=some r.un:=by
  intro i r aA
  have c_:i<ops.toList.length:=by
   rw[hl,List.length_map]
   exact(List.getElem?_eq_some_iff.1 aA).1
  obtain⟨fl,ab,ad⟩:=oN i _ (List.getElem?_eq_getElem c_)
  rw[List.getElem?_map,aA]at ab
  simp only[Option.map_some,Option.some.injEq]at ab
  exact⟨_,by rw[←Array.getElem?_toList];exact List.getElem?_eq_getElem c_,by rw[ab];exact ad⟩
 have zx:∀{r:br} {o:Oper},r.guard=none→mY n ops o=some r.un→r.dst=o.dst∧o.guard=none∧oL o.op=r.bd.base∧jW n o.dst=true:=by
  intro r o hg h
  unfold mY at h
  split at h
  ·rename_i ae
   split at h
   ·rename_i EC fa
    simp only[br.un,Option.some.injEq,br.mk.injEq]at h
    obtain⟨aH,aJ,aK⟩:=h
    refine⟨aH.symm,?_,aJ,ae⟩
    rw[aK,hg]at fa
    cases bL:o.guard with
    |none=>rfl
    |some yW=>
     rw[bL]at fa;simp only[tl]at fa;split at fa<;>cases fa
   ·cases h
  ·cases h
 have L_:ops.size=m.length+rest.length+2:=by
  have:ops.toList.length=ops.size:=by simp
  rw[←this,hl];simp;omega
 have Ma:List.range ops.size=0::((List.range m.length).map (·+1)++((m.length+1)::(List.range rest.length).map (·+(m.length+2)))):=by
  rw[L_,show m.length+rest.length+2=(m.length+rest.length+1)+1 from rfl,List.range_succ_eq_map]
  congr 1
  rw[show m.length+rest.length+1=m.length+(rest.length+1) by omega,List.range_add,List.map_append,List.range_succ_eq_map]
  simp only[List.map_map,List.map_cons,Nat.add_zero]
  congr 1
  congr 1
  apply List.map_congr_left
  intro x _;simp;omega
 obtain⟨o1,Mb,iB⟩:=zw 0 _ rfl
 obtain⟨e_,eB,gR,gS⟩:=zx rfl iB
 change oL o1.op= .dh T (.t k)at gR
 have zy:b7 o1.op=some (.dh T (.t k)):=by
  rcases nb gR with h|h
  ·cases h
  ·exact h
 obtain⟨y,hy,Mc⟩:=L6 zy
 have:=L7 Mc;subst this
 let nh:Value:=.func (.func g) #[] (cs.map fun j=>a.tmps.getD j undef).toArray
 have ht:fA w b 0 [nh]:=by
  intro i c aA
  cases i with
  |zero=>simp at aA;subst aA;simp[World.cell?,vb,nh]
  |succ i=>simp at aA
 refine wp_region ?_
 rw[Ma]
 simp only[wpOps,Mb]
 show(if Region.wanted o1 (yielded ops a.tmps)=true then o1.wp C.P a w _ Q∨(o1.asks C.P a w∧LetsOut Q)else _)
 rw[if_pos (yU eB)]
 left
 have pU:(execOp a.eval o1).run C.P w= .ok (.value nh) w:=by
  obtain⟨dst,op,ty,pos,after,guard⟩:=o1
  simp only at hy
  subst hy
  have:a.eval (.tmp k)= .pointer (some ⟨b,0,none⟩):=al
  simp[execOp,this,Instr.loadAt,Instr.sureAddr,Bu aU ju ht]
 unfold Oper.wp
 rw[pU,Oper.upon_value]
 have Md:some d0=o1.dst:=e_
 rw[←Md]at gS⊢
 let ah:Act:=a.put (some d0) nh
 let j0:Fr:=⟨n.n,d0::k::(cs++n.fx)⟩
 let ρ1:Nat→Value:=fun t=>ah.tmps.getD t undef
 have vW:k∈cs:=List.mem_of_getElem? zv
 have pL:=aD.base
 have zz:Rel w F (fun b=>∃u,S u b) ⟨n.n,[]⟩ ρ1 (fin s (some d0) .hole) ah w:=
  Rel.put (n:=⟨n.n,[]⟩) gE cV (fun i aA=>by cases aA) pL (.inl ⟨rfl,by rw[ay];trivial⟩) (by
   simp only[jW,Bool.and_eq_true,decide_eq_true_eq]at gS⊢
   exact⟨gS.1,by simp⟩)
 have Me:Rel w F (fun b=>∃u,S u b) j0 ρ1 (fin s (some d0) .hole) ah w:=⟨zz.defers,zz.size,fun i _=>rfl,zz.rel⟩
 have ED:∀t,t≠d0→ρ1 t=a.tmps.getD t undef:=by
  intro t aO
  have:=congrFun (yO (n:=n) (dst:=some d0) (a:=a) nh cV gS).1 t
  simp only[nJ]at this
  rw[hk _ _ aO]at this
  exact this
 have Mf:ρ1 d0=nh:=by
  have:=congrFun (yO (n:=n) (dst:=some d0) (a:=a) nh cV gS).1 d0
  simp only[nJ]at this
  rw[kk]at this
  exact this
 have hw:=EB C _ m [⟨some d0,.dh T (.t k),none⟩] (⟨d1,.call (.t d0) args,none⟩::rest) _ h
 have mid:∀ar bU aw,(∃ps r,ps.map (·.a)=args.map (az ar)++cs.map (n4 k ar)∧(∀p∈ps,p.ok ar)∧gw ps=true∧
   n2 C g args.length (args.length+k0) (ps.map (·.d)) r (ps.map (·.o))∧r.res=true∧(ia ps=true→r.di=true∧∀p∈ps,p.o.di=true)∧i_ C (fin (gf (dI ar ps) ps) d1 r) rest K)→
   Rel w F (fun b=>∃u,S u b) j0 ρ1 ar bU aw→wpOps C.P ops Q ((m.length+1)::(List.range rest.length).map (·+(m.length+2))) bU aw:=by
  rintro s2 a2 zA ⟨ps,r,aH,aJ,aK,b0,b_,bw,bn⟩ ⟨g1,g2,g3,tk,cu,g4⟩
  obtain⟨rO,Mg,mI⟩:=zw (m.length+1) ⟨d1,.call (.t d0) args,none⟩ (by simp)
  obtain⟨ee,e7,fX,BJ⟩:=zx rfl mI
  simp only[wpOps,Mg]
  show(if Region.wanted rO (yielded ops a2.tmps)=true then rO.wp C.P a2 zA _ Q∨(rO.asks C.P a2 zA∧LetsOut Q)else _)
  rw[if_pos (yU e7)]
  left
  change oL rO.op= .call (.t d0) args at fX
  have Mh:b7 rO.op=some (.call (.t d0) args):=by
   rcases nb fX with h|h
   ·cases h
   ·exact h
  have EE:tk b:=g4.e3 b R
  have EF:zA.heap[b]? =some (.cells #[nh] ty fr):=by
   rw[g4.old b (aD.dH b R) (fun⟨u,hu⟩=>aD.dY u b hu R)];exact vb
  have EG:∀j∈cs,a2.tmps.getD j undef=a.tmps.getD j undef:=by
   intro j b2
   rw[g3 j (by simp[j0,b2])]
   exact ED j (fun e=>km (e▸b2))
  have ox:a2.tmps.getD k undef= .pointer (some ⟨b,0,none⟩):=(EG k vW).trans al
  have EH:(cs.map fun j=>a.tmps.getD j undef)=cs.map fun j=>a2.tmps.getD j undef:=List.map_congr_left fun j b2=>(EG j b2).symm
  obtain⟨bJ,c2⟩:=L8 (k:=k) g4 ox EE EF rfl cs
  have yl:∀ar bU aw,i_ C ar rest K→Rel w F (fun b=>∃u,S u b) ⟨n.n,n.fx⟩ ρ ar bU aw→wpOps C.P ops Q ((List.range rest.length).map (·+(m.length+2))) bU aw:=by
   intro eZ a3 Mi aB Mj
   have vE:=EB C K rest ((⟨some d0,.dh T (.t k),none⟩::m)++[⟨d1,.call (.t d0) args,none⟩]) [] eZ aB
   have:=yV (Q:=Q) aU (ops:=ops) (ros:=((⟨some d0,.dh T (.t k),none⟩::m)++[⟨d1,.call (.t d0) args,none⟩])++(rest++[])) (l2:=[]) (K:=K) (fun ar bU aw jv c1=>by
     obtain⟨Mk,z2,z3,Ml,BT,z4⟩:=c1
     exact aW ar bU aw jv ⟨Mk,z2,z3,Ml,BT,aD.L2 z4⟩) ((List.range rest.length).map (·+(m.length+2))) (fun i aA=>by
      have tz:((⟨some d0,.dh T (.t k),none⟩::m)++[⟨d1,.call (.t d0) args,none⟩])++(rest++[])=(⟨some d0,.dh T (.t k),none⟩::(m++⟨d1,.call (.t d0) args,none⟩::rest):List br):=by simp
      rw[tz]
      refine⟨fun iu=> ?_,fun o bL=> ?_⟩
      ·rw[List.getElem?_eq_none_iff]
       have:=Array.getElem?_eq_none_iff.1 iu
       simp;omega
      ·obtain⟨aQ,fB,ad⟩:=oN i o (by simpa using bL)
       obtain⟨r,ab,rfl⟩:∃r,(⟨some d0,.dh T (.t k),none⟩::(m++⟨d1,.call (.t d0) args,none⟩::rest):List br)[i]? =some r∧r.un=aQ:=by
        rw[List.getElem?_map,Option.map_eq_some_iff]at fB;exact fB
       exact⟨r,ab,ad⟩) eZ a3 Mi (by
      have e:((⟨some d0,.dh T (.t k),none⟩::m)++[⟨d1,.call (.t d0) args,none⟩]:List br).length=m.length+2:=by simp
      rw[e]at vE;exact vE) Mj
   rwa [List.append_nil]at this
  have Mm:∀i∈n.fx,a2.tmps.getD i undef=ρ i:=by
   intro i aA
   rw[g3 i (by simp[j0,aA]),ED i (fun e=> ?_)]
   ·exact fw i aA
   ·simp only[jW,Bool.and_eq_true,Bool.not_eq_true',List.contains_eq_mem,decide_eq_false_iff_not]at gS
    exact gS.2 (e▸aA)
  have tI:k0<cs.length:=(List.getElem?_eq_some_iff.1 zv).1
  have Mn:rO.dst=d1:=ee.symm
  exact L3 (n:=n) (ρ:=ρ) (K:=fun ar=>i_ C ar rest K) g1 g2 Mm g4 Mh BJ
   (arr:=(cs.map fun j=>a2.tmps.getD j undef).toArray) (k:=k0) (caps:=cs.map (n4 k s2)) (g:=g) (ps:=ps) (r:=r)
   (by rw[g3 d0 (by simp[j0]),Mf];simp only[nh,EH]) (by simpa using bJ) c2
   ⟨b,ty,fr,by
     rw[List.getD_eq_getElem?_getD,List.getElem?_map,zv];exact ox,by rw[EF];simp only[nh,EH],EE⟩ (by simpa using tI)
   aH aJ aK b0 b_ bw (by rw[Mn];exact bn) yl
 have:=yV (Q:=Q) aU (ops:=ops) (ros:=[⟨some d0,.dh T (.t k),none⟩]++(m++⟨d1,.call (.t d0) args,none⟩::rest)) (l2:=(m.length+1)::(List.range rest.length).map (·+(m.length+2))) mid
  ((List.range m.length).map (·+1)) (fun i aA=>by
    obtain⟨j,b2,rfl⟩:=List.mem_map.1 aA
    have tJ:j<m.length:=List.mem_range.1 b2
    refine⟨fun iu=> ?_,fun o bL=> ?_⟩
    ·have:=Array.getElem?_eq_none_iff.1 iu
     omega
    ·obtain⟨kX,tC,e5⟩:=zw (j+1) m[j] (by
      simp only[List.getElem?_cons_succ]
      rw[List.getElem?_append_left tJ,List.getElem?_eq_getElem tJ])
     have heq:kX=o:=by rw[tC]at bL;exact Option.some.inj bL
     subst heq
     refine⟨m[j],by
      simp only[List.singleton_append,List.getElem?_cons_succ]
      rw[List.getElem?_append_left tJ,List.getElem?_eq_getElem tJ],?_⟩
     have Mo:=hm m[j] (List.getElem_mem tJ)
     unfold mY at e5⊢
     split at e5
     ·rename_i ae
      rw[if_pos]
      ·exact e5
      ·cases EI:kX.dst with
       |none=>rfl
       |some d=>
        rw[EI]at ae
        simp only[jW,Bool.and_eq_true,decide_eq_true_eq,Bool.not_eq_true',List.contains_eq_mem,decide_eq_false_iff_not]at ae⊢
        refine⟨ae.1,?_⟩
        have vz:m[j].dst=some d:=by
         split at e5
         ·simp only[br.un,Option.some.injEq,br.mk.injEq]at e5
          rw[←e5.1,EI]
         ·cases e5
        obtain⟨m1,m2⟩:=Mo d vz
        simp only[j0,List.mem_cons,List.mem_append,not_or]
        exact⟨m1,fun e=>m2 (e▸vW),m2,ae.2⟩
     ·cases e5) (fin s (some d0) .hole) ah w (by simpa using hw) Me
 exact this
def Mp (C:bt) (f:FuncId) (k k0:Nat) (cs:List Nat) (args:List ax) (d1:Option Nat) (rest:List br) (keep:List Nat) (P:List (Nat×I)→Prop) (s1:aj):Prop:=
 ∃ps r,ps.map (·.a)=args.map (az s1)++cs.map (n4 k s1)∧(∀p∈ps,p.ok s1)∧gw ps=true∧
  n2 C f args.length (args.length+k0) (ps.map (·.d)) r (ps.map (·.o))∧r.res=true∧(ia ps=true→r.di=true∧∀p∈ps,p.o.di=true)∧
  bN C (fin (gf (dI s1 ps) ps) d1 r) rest none (fun _ s=>P (gU keep s))
def Mq (C:bt) (f:FuncId) (k k0 d0:Nat) (cs:List Nat) (m:List br) (args:List ax) (d1:Option Nat) (rest:List br) (keep:List Nat) (P:List (Nat×I)→Prop) (s:aj):Prop:=
 bN C (fin s (some d0) .hole) m none fun _ s1=>Mp C f k k0 cs args d1 rest keep P s1
def Mr (C:bt) (f:FuncId) (k k0 d0:Nat) (cs:List Nat) (m:List br) (args:List ax) (d1:Option Nat) (rest:List br) (keep:List Nat) (K:aj→Prop) (s:aj):Prop:=
 Mq C f k k0 d0 cs m args d1 rest keep (fun l=>K (J l)) s
def EJ (f:Nat→Bool) (m:List br):Bool:=m.all fun r=>match r.dst with
 |none=>true
 |some d=>f d
theorem Ms {f:Nat→Bool} {m:List br} (h:EJ f m=true):∀r∈m,∀d,r.dst=some d→f d=true:=by
 intro r aD d ae
 have:=List.all_eq_true.1 h r aD
 rw[ae]at this;exact this
theorem Mt (k:List Nat) (s:aj):tw s (gU k s):=by
 intro p ak
 obtain⟨t,_,rfl⟩:=List.mem_map.1 ak
 exact .inl rfl
def Mu (C:bt) (f:FuncId) (k k0 d0:Nat) (cs:List Nat) (m:List br) (args:List ax) (d1:Option Nat) (rest:List br) (keep:List Nat):(Exit→aj→Prop)→aj→Prop:=
 fun Q s=>Mr C f k k0 d0 cs m args d1 rest keep (Q .normal) s
def Mv (T:TypeId) (k d0:Nat) (m:List br) (args:List ax) (d1:Option Nat) (rest:List br):aa:=
 .b9 (⟨some d0,.dh T (.t k),none⟩::(m++⟨d1,.call (.t d0) args,none⟩::rest)) none
theorem Mw (vs:List Value):∀(m n:Nat),m+n=vs.length→vs.drop m=((List.range n).map (·+m)).map fun j=>vs.getD j undef:=by
 intro m n h
 apply List.ext_getElem?
 intro i
 rw[List.getElem?_drop,List.map_map,List.getElem?_map]
 by_cases aA:i<n
 ·rw[List.getElem?_range aA,List.getElem?_eq_getElem (by omega)]
  simp only[Option.map_some,Function.comp]
  rw[List.getD_eq_getElem?_getD,List.getElem?_eq_getElem (by omega)]
  simp only[Option.getD_some,Option.some.injEq]
  congr 1;omega
 ·rw[List.getElem?_eq_none (by omega),List.getElem?_eq_none (by simp;omega)];rfl
theorem Mx {c:Code} {rs:List br} (h:bS n c=some (.b9 rs none)):∃id ops,c= .region id ops false∧mZ n ops ops.toList=some rs:=by
 cases c with
 |region id ops draw=>
  cases draw with
  |false=>
   simp only[bS,Option.map_eq_some_iff]at h
   obtain⟨r,ab,ad⟩:=h
   cases ad
   exact⟨id,ops,rfl,ab⟩
  |true=>
   simp only[bS]at h
   split at h
   ·simp only[Option.map_eq_some_iff]at h
    obtain⟨r,ab,ad⟩:=h
    cases ad
   ·cases h
 |seq a b=>simp only[bS]at h;split at h<;>cases h
 |cond c a b=>simp only[bS]at h;split at h<;>cases h
 |block id b=>simp only[bS,Option.map_eq_some_iff]at h;obtain⟨r,ab,ad⟩:=h;cases ad
 |loop b=>simp only[bS,Option.map_eq_some_iff]at h;obtain⟨r,ab,ad⟩:=h;cases ad
 |_=>simp[bS]at h
def zB (C:bt) (f:FuncId) (fx:List Nat) (My m k:Nat) (T:(Exit→aj→Prop)→aj→Prop) (b:aa):Prop:=
 ∃(ty:TypeId) (k0 d0 la:Nat) (hv:List br) (args:List ax) (d1:Option Nat) (rest:List br) (keep:List Nat),
  T=Mu C f k k0 d0 ((List.range la).map (·+m)) hv args d1 rest keep∧b=Mv ty k d0 hv args d1 rest∧(C.T ty).flat=true∧EJ (fun d=>d !=d0&&decide (m+la≤d)) hv=true∧decide (m+la≤d0)=true∧
  decide (k0<la)=true∧k=m+k0∧((List.range la).all fun j=>fx.contains (m+j))=true∧args.length=m∧m+la=My
theorem n2.of_wp (aU:C.dn) {f:FuncId} {fn:Func} {c:Code} {dN:aa} {fx:List Nat} {as outs:List I} {r:I} {k m:Nat} (bk:C.P.funcs[f]? =some fn) (R:fn.body=some c)
  (jc:(fn.name== "runtime.NumGoroutine")=false) (U:bS ⟨fn.ntmps,fx⟩ c=some dN.strip) (aW:as.length≤fn.ntmps)
  (al:dN.nc (zB C f fx as.length m k))
  (h:∀Q:Exit→aj→Prop,(∀s,eM (Ends C fx fn.results.toList r outs) s→Q .ret s)→(∀s,eM (Ends C fx fn.results.toList r outs) s→Q .normal s)→b1 C dN Q (J (num 0 as))):n2 C f m k as r outs:=by
 rintro w F X S vs hl ⟨b,Mz,fr,aH,aJ,aK,b0⟩ aD
 refine Dc (fx:=fx) aU bk R jc aW hl aD fun a nY cR=> ?_
 refine C_ aU (H:=zB C f fx as.length m k) ?_ c (by rw[aa.C1];exact U) (aa.C2 dN al) (C8 dN ?_) nY
 ·rintro c T dQ Q s ah tK ⟨ty,k0,d0,la,hv,args,d1,rest,keep,rfl,rfl,ju,hm,km,vX,al,fw,hlen,abH⟩ zy MA ⟨g1,g2,g3,q5,bo,g4⟩
  replace hm:∀r∈hv,∀d,r.dst=some d→d≠d0∧m+la≤d:=fun r aD d ae=>by
   have:=Ms hm r aD d ae
   simpa using this
  replace km:=of_decide_eq_true km
  replace vX:=of_decide_eq_true vX
  replace fw:∀j,j<la→m+j∈fx:=fun j b2=>by
   have:=List.all_eq_true.1 fw j (List.mem_range.2 b2)
   simpa using this
  obtain⟨id,ops,rfl,oO⟩:=Mx zy
  have EK:∀j,j<la→ah.tmps.getD (j+m) undef=vs.getD (j+m) undef:=fun j b2=>by
   rw[Nat.add_comm];exact g3 _ (fw j b2)
  have hS:((List.range la).map (·+m)).map (fun j=>ah.tmps.getD j undef)=vs.drop m:=by
   rw[Mw vs m la (by omega),List.map_map,List.map_map]
   apply List.map_congr_left
   intro j b2
   exact EK j (List.mem_range.1 b2)
  refine L9 (Q:=ra w F X ⟨fn.ntmps,fx⟩ (e0 vs) Q) (K:=eM (Q .normal)) (b:=b) (ty:=Mz) (fr:=fr) (g:=f) (k0:=k0) (cs:=(List.range la).map (·+m)) aU oO ju (fun r aD d ae=>⟨(hm r aD d ae).1,fun zC=> ?_⟩) (fun zC=> ?_) ?_ g1 g2 g3 g4 (g4.e3 b aK) ?_ ?_ ?_ (fun ar bU aw al c1=>c1.eM al)
  ·obtain⟨j,b2,rfl⟩:=List.mem_map.1 zC
   have:=(hm r aD _ ae).2;have:=List.mem_range.1 b2;omega
  ·obtain⟨j,b2,e⟩:=List.mem_map.1 zC
   have:=List.mem_range.1 b2;omega
  ·rw[List.getElem?_map,List.getElem?_range vX,al];simp[Nat.add_comm]
  ·rw[al,Nat.add_comm,EK k0 vX,Nat.add_comm,←al];exact aH
  ·rw[hS,g4.old b (aD.dH b aK) b0];exact aJ
  ·refine vF (fun _ s1=> ?_) MA
   rintro⟨ps,r,e_,eB,gR,gS,oA,pV,tp⟩
   exact⟨ps,r,e_,eB,gR,gS,oA,pV,vF (fun _ s h=>.inr ⟨_,Mt _ _,h⟩) tp⟩
 ·rw[Df]
  exact h _ (fun s h=>⟨.inr rfl,h⟩) (fun s h=>⟨.inl rfl,h⟩)
end
end Go.ca
