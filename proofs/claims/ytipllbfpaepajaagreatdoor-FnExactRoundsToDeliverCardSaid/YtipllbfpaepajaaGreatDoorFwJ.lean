/- Part of a proof that a law returns true for every input. No condition. -/
import Derived.Test.YtipllbfpaepajaaGreatDoorFwI
namespace Go.b9
def nz (C:bq) (f:FuncId) (m k:Nat) (as:List I) (r:I) (outs:List I):Prop:=
 ∀(w:World) (F X:Nat→Prop) (S:Nat→Nat→Prop) (vs:List Value),vs.length=as.length→
  (∃b ty fr,vs.getD k undef= .pointer (some ⟨b,0,none⟩)∧w.heap[b]? =some (.cells #[.func (.func f) #[] (vs.drop m).toArray] ty fr)∧F b∧¬X b)→
  a7 w F X F S (dJ as) (eT vs) w→
  lI C.P f vs.toArray w fun v aw=>∃bc aD,a7 w F X bc aD (dJ (r::outs)) (eT (v::vs)) aw
section
variable {C:bq} {w0 w:World} {F0 X F bc:Nat→Prop} {S aD:Nat→Nat→Prop} {n:Fr} {ρ:Nat→Value} {s aq:aj} {an hs:Nat→Value} {a:Act} {av:I} {Q:Exit→Act→World→Prop} {aw:World}
theorem a7.base (h:a7 w0 F0 X F S s an w):a7 w F (fun b=>∃u,S u b) F S s an w where
 eU:=fun _ h=>h
 e4:=fun _ h=>.inl h
 dw:=h.dw
 c6:=h.c6
 dP:=h.dP
 dq:=h.dq
 cz:=fun u b R=>.inl ⟨u,R⟩
 cd:=h.cd
 old:=fun _ _ _=>rfl
 size:=Nat.le_refl _
 os:=rfl
 tape:=rfl
 output:=Out.refl _
 eN:=h.eN.next h.size h.old fun b ⟨u,hu⟩=>h.cz u b hu
theorem a7.KV (h:a7 w0 F0 X F S s an w) (aQ:a7 w F (fun b=>∃u,S u b) bc aD aq hs aw):a7 w0 F0 X bc aD aq hs aw where
 eU:=fun b R=>aQ.eU b (h.eU b R)
 e4:=fun b R=>by
  rcases aQ.e4 b R with R|⟨u,R⟩|R
  ·exact h.e4 b R
  ·exact .inr (h.cz u b R)
  ·exact .inr (.inr (Nat.le_trans h.size R))
 dw:=aQ.dw
 c6:=aQ.c6
 dP:=aQ.dP
 dq:=aQ.dq
 cz:=fun u b R=>by
  rcases aQ.cz u b R with⟨u,R⟩|R
  ·exact h.cz u b R
  ·exact .inr (Nat.le_trans h.size R)
 cd:=aQ.cd
 old:=fun b R ht=>by
  refine(aQ.old b (Nat.lt_of_lt_of_le R h.size) fun⟨u,hu⟩=> ?_).trans (h.old b R ht)
  rcases h.cz u b hu with ao|ao
  ·exact ht ao
  ·omega
 size:=Nat.le_trans h.size aQ.size
 os:=aQ.os.trans h.os
 tape:=aQ.tape.trans h.tape
 output:=aQ.output.trans h.output
 eN:=h.eN
inductive nA:List I→List I→Prop
 |nil:nA [] []
 |eq {a:I} {as hY:List I}:a.U=[]→nA as hY→nA (a::as) (a::hY)
 |wd {a b:I} {as hY:List I}:dy a b→a.tree=true→b.U=[]→nA as hY→nA (a::as) (b::hY)
theorem nA.get:∀{as hY:List I},nA as hY→∀p k,p∈num k hY→p.2.U=[]∧∃a,as[p.1-k]? =some a∧k≤p.1∧(p.2=a∨(a.tree=true∧dy a p.2))
 |_,_,.nil,p,k,ak=>by simp[num]at ak
 |_,_,.eq (a:=a) h hw,p,k,ak=>by
  simp only[num,List.mem_cons]at ak
  rcases ak with rfl|ak
  ·exact⟨h,a,by simp,Nat.le_refl _,.inl rfl⟩
  ·obtain⟨aa,x,ad,aB,aO⟩:=hw.get p (k+1) ak
   refine⟨aa,x,?_,by omega,aO⟩
   rw[show p.1-k=(p.1-(k+1))+1 by omega,List.getElem?_cons_succ];exact ad
 |_,_,.wd (a:=a) h aN R hw,p,k,ak=>by
  simp only[num,List.mem_cons]at ak
  rcases ak with rfl|ak
  ·exact⟨R,a,by simp,Nat.le_refl _,.inr ⟨aN,h⟩⟩
  ·obtain⟨aa,x,ad,aB,aO⟩:=hw.get p (k+1) ak
   refine⟨aa,x,?_,by omega,aO⟩
   rw[show p.1-k=(p.1-(k+1))+1 by omega,List.getElem?_cons_succ];exact ad
theorem nA.len:∀{as hY:List I},nA as hY→hY.length=as.length
 |_,_,.nil=>rfl
 |_,_,.eq _ hw=>by simp[hw.len]
 |_,_,.wd _ _ _ hw=>by simp[hw.len]
theorem DM (C:bq) (K:aj→Prop):∀(rs pre post:List bm) (s:aj),iF C s rs K→hc C (pre++(rs++post)) s ((List.range rs.length).map (·+pre.length)) K:=by
 intro rs
 induction rs with
 |nil=>intro pre post s h;exact h
 |cons r rs ih=>
  intro pre post s h
  rw[List.length_cons,List.range_succ_eq_map,List.map_cons,List.map_map]
  simp only[hc,Nat.zero_add]
  rw[List.getElem?_append_right (Nat.le_refl _)]
  simp only[Nat.sub_self,List.cons_append,List.getElem?_cons_zero]
  have key:∀s1,iF C s1 rs K→hc C (pre++r::(rs++post)) s1 ((List.range rs.length).map ((fun x=>x+pre.length)∘Nat.succ)) K:=by
   intro s1 aa
   have:=ih (pre++[r]) post s1 aa
   simp only[List.append_assoc,List.singleton_append,List.length_append,List.length_singleton]at this
   have e:((fun x=>x+pre.length)∘Nat.succ)=fun x=>x+(pre.length+1):=by funext x;simp;omega
   rw[e];exact this
  simp only[iF]at h
  exact yk h key
theorem KW (gf:a.defers=[]) (cP:a.tmps.size=n.n) (fe:∀i∈n.fx,a.tmps.getD i undef=ρ i) (aC:a7 w0 F0 X F S s (fun t=>a.tmps.getD t undef) w)
  {o:Oper} {d0 k:Nat} {args:List ay} {g:FuncId} {caps:List I} {arr:Array Value} {ps:List bS} {r:I} (bA:b4 o.op=some (.call (.t d0) args)) (ae:jv n o.dst=true)
  (aE:a.tmps.getD d0 undef= .func (.func g) #[] arr) (ai:cG w F s (fun t=>a.tmps.getD t undef) caps arr.toList) (eJ:I.dW caps=true)
  (KX:∃b ty fr,(arr.toList).getD k undef= .pointer (some ⟨b,0,none⟩)∧w.heap[b]? =some (.cells #[.func (.func g) #[] arr] ty fr)∧F b) (tc:k<arr.size)
  (ad:ps.map (·.a)=args.map (az s)++caps) (aB:∀p∈ps,p.ok s) (aO:fX ps=true) (a6:nz C g args.length (args.length+k) (ps.map (·.d)) r (ps.map (·.o))) (bp:r.res=true)
  (bB:hM ps=true→r.dc=true∧∀p∈ps,p.o.dc=true) {K:aj→Prop} {next:Act→World→Prop} (cE:K (fin (fM (dx s ps) ps) o.dst r))
  (aW:∀aq b2 aw,K aq→Rel w0 F0 X n ρ aq b2 aw→next b2 aw):o.wp C.P a w next Q:=by
 obtain⟨dst,op,ty,pos,after,guard⟩:=o
 simp only at bA ae cE
 cases op with
 |call c=>
  obtain⟨callee,lK,argTypes⟩:=c
  simp only[b4]at bA
  split at bA
  ·split at bA
   ·rename_i sQ _ _ I9 xs bh ml
    simp only[Option.some.injEq,dZ.call.injEq]at bA
    obtain⟨rfl,rfl⟩:=bA
    have su:sQ= .tmp d0:=by
     cases sQ with
     |tmp t=>simp only[cq,Option.some.injEq,ay.t.injEq]at bh;rw[bh]
     |const v=>simp only[cq,Option.map_eq_some_iff]at bh;obtain⟨c,_,bh⟩:=bh;cases bh
     |func g=>simp[cq]at bh
     |global g=>simp[cq]at bh
    subst su
    have pw:execOp a.eval {dst,op:=.call {callee:=.value (.tmp d0),args:=lK,argTypes},type:=ty,pos,after,guard}=callFunc g ((lK.toList.map a.eval++arr.toList).toArray):=by
     have:a.eval (.tmp d0)= .func (.func g) #[] arr:=aE
     simp only[execOp,resolve,this,Deferred.ofValue,pure_bind,invoke]
     congr 1
     apply Array.ext';simp
    unfold Oper.wp
    rw[pw]
    have hlen:(lK.toList.map a.eval).length=xs.length:=by
     have:=congrArg List.length (pq ml)
     simpa using this
    have sR:cG w F s (fun t=>a.tmps.getD t undef) (xs.map (az s)++caps) (lK.toList.map a.eval++arr.toList):=B8 (uO aC (fun _=>rfl) _ _ (pq ml)) ai
    rw[←ad]at sR
    obtain⟨eV,l2⟩:=B9 sR
    have e5:∀d∈xs.map (az s)++caps,d.plain=true:=by
     intro d ae
     rcases List.mem_append.1 ae with ae|ae
     ·obtain⟨x,ao,rfl⟩:=List.mem_map.1 ae
      exact AF s x fun av e=>by
       subst e
       have hm:=pq ml
       have:some (ay.c av)∈xs.map some:=List.mem_map.2 ⟨_,ao,rfl⟩
       rw[←hm]at this
       obtain⟨o,_,bI⟩:=List.mem_map.1 this
       cases o with
       |const v=>simp only[cq,Option.map_eq_some_iff]at bI;obtain⟨c,ai,e⟩:=bI;cases e;exact xd ai
       |tmp n=>simp[cq]at bI
       |func g=>simp[cq]at bI
       |global g=>simp[cq]at bI
     ·obtain⟨k,ar⟩:=List.getElem?_of_mem ae
      exact um eJ ar
    have ya:=B3 (C:=C) aC (ps:=ps) (vs:=lK.toList.map a.eval++arr.toList) (f:=g) (r:=r) (by simpa using eV)
     (fun i p v ak aE=>⟨e5 p.a (by rw[←ad];exact List.mem_map.2 ⟨p,List.mem_of_getElem? ak,rfl⟩),l2 i p.a v (by simp[ak]) aE⟩) aB aO
     (fun Fc ju cL aX ht ak=>by
      refine a6 w Fc ju cL _ (by rw[←eV];simp) ?_ ak
      obtain⟨b,KY,fr,aF,aI,aL⟩:=KX
      refine⟨b,KY,fr,?_,?_,aX b aL,fun ao=>by obtain⟨u,hu⟩:=ht b ao;exact aC.dP u b hu aL⟩
      ·rw[List.getD_eq_getElem?_getD,List.getElem?_append_right (by omega),hlen,Nat.add_sub_cancel_left,←List.getD_eq_getElem?_getD];exact aF
      ·rw[aI,←hlen,List.drop_left])
     bp bB
    rcases ya with⟨ev,cr⟩|⟨v,aw,ev,bc,aD,cr,fp⟩
    ·rw[ev,Oper.upon_enter]
     refine Calls.mono cr ?_
     rintro e aw ⟨v,rfl,bc,aD,bx,bF⟩
     exact aW _ _ _ cE (Rel.put gf cP fe bx bF.1 ae)
    ·rw[ev,Oper.upon_value]
     exact aW _ _ _ cE (Rel.put gf cP fe cr fp.1 ae)
   ·cases bA
  ·split at bA
   ·simp only[Option.map_eq_some_iff]at bA;obtain⟨_,_,bA⟩:=bA;cases bA
   ·cases bA
  ·split at bA
   ·simp only[Option.map_eq_some_iff]at bA;obtain⟨_,_,bA⟩:=bA;cases bA
   ·cases bA
  iterate 3
   ·split at bA
    ·split at bA<;>cases bA
    ·cases bA
  ·cases bA
 |makeFunc fn first cs=>
  cases fn<;>simp only[b4]at bA<;>first|(cases bA;done)|(split at bA<;>simp at bA)
 |slice T x b_ aA da=>
  cases da<;>simp only[b4]at bA<;>first|(cases bA;done)|(split at bA<;>simp at bA)
 |makeMap T r=>cases r<;>simp only[b4]at bA<;>simp at bA
 |lookup T x i c=>cases c<;>simp only[b4]at bA<;>first|(cases bA;done)|(split at bA<;>simp at bA)
 |_=>simp only[b4]at bA<;>first|(cases bA;done)|(simp at bA;done)|(split at bA<;>simp at bA)
theorem KZ {op:Op} {T:TypeId} {x:ay} (h:b4 op=some (.c8 T x)):∃y,op= .load T y∧cq y=some x:=by
 cases op with
 |load x9 y=>
  simp only[b4,Option.map_eq_some_iff]at h
  obtain⟨cD,ao,h⟩:=h
  cases h
  exact⟨y,rfl,ao⟩
 |call c=>
  obtain⟨callee,lK,argTypes⟩:=c
  simp only[b4]at h
  split at h<;>(try split at h)<;>(try split at h)<;>(try simp[Option.map_eq_some_iff]at h)
 |makeFunc fn first cs=>
  cases fn<;>simp only[b4]at h<;>first|(cases h;done)|(split at h<;>simp at h)
 |slice T x b_ aA da=>
  cases da<;>simp only[b4]at h<;>first|(cases h;done)|(split at h<;>simp at h)
 |makeMap T r=>cases r<;>simp only[b4]at h<;>simp at h
 |lookup T x i c=>cases c<;>simp only[b4]at h<;>first|(cases h;done)|(split at h<;>simp at h)
 |_=>simp only[b4]at h<;>first|(cases h;done)|(simp at h;done)|(split at h<;>simp at h)
theorem K0 {y:Operand} {k:Nat} (h:cq y=some (.t k)):y= .tmp k:=by
 cases y with
 |tmp t=>simp only[cq,Option.some.injEq,ay.t.injEq]at h;rw[h]
 |const v=>simp only[cq,Option.map_eq_some_iff]at h;obtain⟨c,_,h⟩:=h;cases h
 |func g=>simp[cq]at h
 |global g=>simp[cq]at h
def nB (k:Nat) (s:aj) (j:Nat):I:=if j=k then .ref .hole else gp j (s j)
theorem K1 {an:Nat→Value} {b k:Nat} {v:Value} {ty:TypeId} {fr:Nat×Nat} (aC:a7 w0 F0 X F S s an w) (ar:an k= .pointer (some ⟨b,0,none⟩)) (R:F b) (ai:w.heap[b]? =some (.cells #[v] ty fr)) (aa:Value.eF v=true):
  ∀cs:List Nat,cG w F s an (cs.map (nB k s)) (cs.map an)∧I.dW (cs.map (nB k s))=true:=by
 intro cs
 induction cs with
 |nil=>exact⟨by rw[List.map_nil,List.map_nil,cG],rfl⟩
 |cons j cs ih=>
  simp only[List.map_cons]
  have bY:ax w F s an (nB k s j) (an j) (fun _=>False)∧(nB k s j).plain=true:=by
   unfold nB
   split
   ·rename_i e;subst e
    rw[ar]
    refine⟨(ax.bJ rfl).2 ⟨rfl,?_⟩,rfl⟩
    rw[al]
    refine⟨b,0,[v],rfl,R,?_,?_⟩
    ·intro i c aA
     cases i with
     |zero=>simp at aA;subst aA;simp[World.cell?,ai]
     |succ i=>simp at aA
    ·rw[al];exact⟨v,aa,rfl⟩
   ·unfold gp
    split
    ·rename_i ak
     exact⟨ax.nothing ak (aC.cd j),ak⟩
    ·rename_i ak
     refine⟨?_,rfl⟩
     rw[ax]
     intro d ae ak
     simp only[I.sub,Option.some.injEq]at ae
     subst ae
     have aN:(s j).tree=true:=by
      cases U:s j<;>first|rfl|(rw[U]at ak;simp[I.plain]at ak)
     exact⟨_,none,rfl,rfl,((ax.bJ aN).1 (aC.cd j)).1⟩
  refine⟨?_,?_⟩
  ·rw[cG];exact⟨_,_,rfl,bY.1,ih.1⟩
  ·simp only[I.dW,bY.2,ih.2,Bool.and_self]
theorem K2 (aT:C.db) {id:Nat} {ops:Array Oper} {T:TypeId} {k k0 d0:Nat} {m rest:List bm} {args:List ay} {d1:Option Nat} {g:FuncId} {cs:List Nat} {b:Nat} {ty:TypeId} {fr:Nat×Nat} {K:aj→Prop}
  (od:mn n ops ops.toList=some ((⟨some d0,.c8 T (.t k),none⟩::(m++⟨d1,.call (.t d0) args,none⟩::rest):List bm).map bm.un))
  (iW:(C.T T).flat=true) (hm:∀r∈m,∀d,r.dst=some d→d≠d0∧d∉cs) (jU:d0∉cs) (yQ:cs[k0]? =some k)
  (gf:a.defers=[]) (cP:a.tmps.size=n.n) (fe:∀i∈n.fx,a.tmps.getD i undef=ρ i) (aC:a7 w0 F0 X F S s (fun t=>a.tmps.getD t undef) w)
  (R:F b) (ar:a.tmps.getD k undef= .pointer (some ⟨b,0,none⟩)) (uz:w.heap[b]? =some (.cells #[.func (.func g) #[] (cs.map fun j=>a.tmps.getD j undef).toArray] ty fr))
  (h:iF C (fin s (some d0) .hole) m fun s1=>∃ps r,ps.map (·.a)=args.map (az s1)++cs.map (nB k s1)∧(∀p∈ps,p.ok s1)∧fX ps=true∧
   nz C g args.length (args.length+k0) (ps.map (·.d)) r (ps.map (·.o))∧r.res=true∧(hM ps=true→r.dc=true∧∀p∈ps,p.o.dc=true)∧iF C (fin (fM (dx s1 ps) ps) d1 r) rest K)
  (aW:∀aq b2 aw,K aq→Rel w0 F0 X n ρ aq b2 aw→Q .normal b2 aw):(Code.region id ops false).wp C.P Q a w:=by
 obtain⟨aJ,oc⟩:=yc od
 have yR:∀(i:Nat) (r:bm),(⟨some d0,.c8 T (.t k),none⟩::(m++⟨d1,.call (.t d0) args,none⟩::rest):List bm)[i]? =some r→∃o,ops[i]? =some o∧mm n ops o=some r.un:=by
  intro i r aA
  have cY:i<ops.toList.length:=by
   rw[aJ,List.length_map]
   exact(List.getElem?_eq_some_iff.1 aA).1
  obtain⟨gZ,aa,ad⟩:=oc i _ (List.getElem?_eq_getElem cY)
  rw[List.getElem?_map,aA]at aa
  simp only[Option.map_some,Option.some.injEq]at aa
  exact⟨_,by rw[←Array.getElem?_toList];exact List.getElem?_eq_getElem cY,by rw[aa];exact ad⟩
 have yS:∀{r:bm} {o:Oper},r.guard=none→mm n ops o=some r.un→r.dst=o.dst∧o.guard=none∧oa o.op=r.a_.base∧jv n o.dst=true:=by
  intro r o hg h
  unfold mm at h
  split at h
  ·rename_i ae
   split at h
   ·rename_i DN e1
    simp only[bm.un,Option.some.injEq,bm.mk.injEq]at h
    obtain⟨aF,aI,aL⟩:=h
    refine⟨aF.symm,?_,aI,ae⟩
    rw[aL,hg]at e1
    cases bI:o.guard with
    |none=>rfl
    |some yf=>
     rw[bI]at e1;simp only[sP]at e1;split at e1<;>cases e1
   ·cases h
  ·cases h
 have K3:ops.size=m.length+rest.length+2:=by
  have:ops.toList.length=ops.size:=by simp
  rw[←this,aJ];simp;omega
 have K4:List.range ops.size=0::((List.range m.length).map (·+1)++((m.length+1)::(List.range rest.length).map (·+(m.length+2)))):=by
  rw[K3,show m.length+rest.length+2=(m.length+rest.length+1)+1 from rfl,List.range_succ_eq_map]
  congr 1
  rw[show m.length+rest.length+1=m.length+(rest.length+1) by omega,List.range_add,List.map_append,List.range_succ_eq_map]
  simp only[List.map_map,List.map_cons,Nat.add_zero]
  congr 1
  congr 1
  apply List.map_congr_left
  intro x _;simp;omega
 obtain⟨oA,K5,h6⟩:=yR 0 _ rfl
 obtain⟨e0,ep,gv,gw⟩:=yS rfl h6
 change oa oA.op= .c8 T (.t k)at gv
 have yT:b4 oA.op=some (.c8 T (.t k)):=by
  rcases mq gv with h|h
  ·cases h
  ·exact h
 obtain⟨y,hy,K6⟩:=KZ yT
 have:=K0 K6;subst this
 let mA:Value:=.func (.func g) #[] (cs.map fun j=>a.tmps.getD j undef).toArray
 have gW:fi w b 0 [mA]:=by
  intro i c aA
  cases i with
  |zero=>simp at aA;subst aA;simp[World.cell?,uz,mA]
  |succ i=>simp at aA
 refine wp_region ?_
 rw[K4]
 simp only[wpOps,K5]
 show(if Region.wanted oA (yielded ops a.tmps)=true then oA.wp C.P a w _ Q∨(oA.asks C.P a w∧LetsOut Q)else _)
 rw[if_pos (yd ep)]
 left
 have pw:(execOp a.eval oA).run C.P w= .ok (.value mA) w:=by
  obtain⟨dst,op,ty,pos,after,guard⟩:=oA
  simp only at hy
  subst hy
  have:a.eval (.tmp k)= .pointer (some ⟨b,0,none⟩):=ar
  simp[execOp,this,Instr.loadAt,Instr.sureAddr,AM aT iW gW]
 unfold Oper.wp
 rw[pw,Oper.upon_value]
 have K7:some d0=oA.dst:=e0
 rw[←K7]at gw⊢
 let ah:Act:=a.put (some d0) mA
 let jz:Fr:=⟨n.n,d0::k::(cs++n.fx)⟩
 let ρ1:Nat→Value:=fun t=>ah.tmps.getD t undef
 have vf:k∈cs:=List.mem_of_getElem? yQ
 have pj:=aC.base
 have yU:Rel w F (fun b=>∃u,S u b) ⟨n.n,[]⟩ ρ1 (fin s (some d0) .hole) ah w:=
  Rel.put (n:=⟨n.n,[]⟩) gf cP (fun i aA=>by cases aA) pj (.inl ⟨rfl,by rw[ax];trivial⟩) (by
   simp only[jv,Bool.and_eq_true,decide_eq_true_eq]at gw⊢
   exact⟨gw.1,by simp⟩)
 have K8:Rel w F (fun b=>∃u,S u b) jz ρ1 (fin s (some d0) .hole) ah w:=⟨yU.defers,yU.size,fun i _=>rfl,yU.rel⟩
 have DO:∀t,t≠d0→ρ1 t=a.tmps.getD t undef:=by
  intro t aN
  have:=congrFun (x8 (n:=n) (dst:=some d0) (a:=a) mA cP gw).1 t
  simp only[nb]at this
  rw[gR _ _ aN]at this
  exact this
 have K9:ρ1 d0=mA:=by
  have:=congrFun (x8 (n:=n) (dst:=some d0) (a:=a) mA cP gw).1 d0
  simp only[nb]at this
  rw[jS]at this
  exact this
 have hw:=DM C _ m [⟨some d0,.c8 T (.t k),none⟩] (⟨d1,.call (.t d0) args,none⟩::rest) _ h
 have mid:∀aq b2 aw,(∃ps r,ps.map (·.a)=args.map (az aq)++cs.map (nB k aq)∧(∀p∈ps,p.ok aq)∧fX ps=true∧
   nz C g args.length (args.length+k0) (ps.map (·.d)) r (ps.map (·.o))∧r.res=true∧(hM ps=true→r.dc=true∧∀p∈ps,p.o.dc=true)∧iF C (fin (fM (dx aq ps) ps) d1 r) rest K)→
   Rel w F (fun b=>∃u,S u b) jz ρ1 aq b2 aw→wpOps C.P ops Q ((m.length+1)::(List.range rest.length).map (·+(m.length+2))) b2 aw:=by
  rintro s2 a2 yV ⟨ps,r,aF,aI,aL,bX,b7,bs,bj⟩ ⟨g1,g2,g3,sO,cp,g4⟩
  obtain⟨re,K_,l6⟩:=yR (m.length+1) ⟨d1,.call (.t d0) args,none⟩ (by simp)
  obtain⟨dV,eY,fH,A2⟩:=yS rfl l6
  simp only[wpOps,K_]
  show(if Region.wanted re (yielded ops a2.tmps)=true then re.wp C.P a2 yV _ Q∨(re.asks C.P a2 yV∧LetsOut Q)else _)
  rw[if_pos (yd eY)]
  left
  change oa re.op= .call (.t d0) args at fH
  have La:b4 re.op=some (.call (.t d0) args):=by
   rcases mq fH with h|h
   ·cases h
   ·exact h
  have DP:sO b:=g4.eU b R
  have DQ:yV.heap[b]? =some (.cells #[mA] ty fr):=by
   rw[g4.old b (aC.dw b R) (fun⟨u,hu⟩=>aC.dP u b hu R)];exact uz
  have DR:∀j∈cs,a2.tmps.getD j undef=a.tmps.getD j undef:=by
   intro j bY
   rw[g3 j (by simp[jz,bY])]
   exact DO j (fun e=>jU (e▸bY))
  have nW:a2.tmps.getD k undef= .pointer (some ⟨b,0,none⟩):=(DR k vf).trans ar
  have DS:(cs.map fun j=>a.tmps.getD j undef)=cs.map fun j=>a2.tmps.getD j undef:=List.map_congr_left fun j bY=>(DR j bY).symm
  obtain⟨bN,c2⟩:=K1 (k:=k) g4 nW DP DQ rfl cs
  have xD:∀aq b2 aw,iF C aq rest K→Rel w F (fun b=>∃u,S u b) ⟨n.n,n.fx⟩ ρ aq b2 aw→wpOps C.P ops Q ((List.range rest.length).map (·+(m.length+2))) b2 aw:=by
   intro eI a3 Lb aB Lc
   have u1:=DM C K rest ((⟨some d0,.c8 T (.t k),none⟩::m)++[⟨d1,.call (.t d0) args,none⟩]) [] eI aB
   have:=ye (Q:=Q) aT (ops:=ops) (ros:=((⟨some d0,.c8 T (.t k),none⟩::m)++[⟨d1,.call (.t d0) args,none⟩])++(rest++[])) (l2:=[]) (K:=K) (fun aq b2 aw iX cU=>by
     obtain⟨Ld,z2,z3,Le,Bb,z4⟩:=cU
     exact aW aq b2 aw iX ⟨Ld,z2,z3,Le,Bb,aC.KV z4⟩) ((List.range rest.length).map (·+(m.length+2))) (fun i aA=>by
      have s3:((⟨some d0,.c8 T (.t k),none⟩::m)++[⟨d1,.call (.t d0) args,none⟩])++(rest++[])=(⟨some d0,.c8 T (.t k),none⟩::(m++⟨d1,.call (.t d0) args,none⟩::rest):List bm):=by simp
      rw[s3]
      refine⟨fun hZ=> ?_,fun o bI=> ?_⟩
      ·rw[List.getElem?_eq_none_iff]
       have:=Array.getElem?_eq_none_iff.1 hZ
       simp;omega
      ·obtain⟨aR,fj,ad⟩:=oc i o (by simpa using bI)
       obtain⟨r,aa,rfl⟩:∃r,(⟨some d0,.c8 T (.t k),none⟩::(m++⟨d1,.call (.t d0) args,none⟩::rest):List bm)[i]? =some r∧r.un=aR:=by
        rw[List.getElem?_map,Option.map_eq_some_iff]at fj;exact fj
       exact⟨r,aa,ad⟩) eI a3 Lb (by
      have e:((⟨some d0,.c8 T (.t k),none⟩::m)++[⟨d1,.call (.t d0) args,none⟩]:List bm).length=m.length+2:=by simp
      rw[e]at u1;exact u1) Lc
   rwa [List.append_nil]at this
  have Lf:∀i∈n.fx,a2.tmps.getD i undef=ρ i:=by
   intro i aA
   rw[g3 i (by simp[jz,aA]),DO i (fun e=> ?_)]
   ·exact fe i aA
   ·simp only[jv,Bool.and_eq_true,Bool.not_eq_true',List.contains_eq_mem,decide_eq_false_iff_not]at gw
    exact gw.2 (e▸aA)
  have tc:k0<cs.length:=(List.getElem?_eq_some_iff.1 yQ).1
  have Lg:re.dst=d1:=dV.symm
  exact KW (n:=n) (ρ:=ρ) (K:=fun aq=>iF C aq rest K) g1 g2 Lf g4 La A2
   (arr:=(cs.map fun j=>a2.tmps.getD j undef).toArray) (k:=k0) (caps:=cs.map (nB k s2)) (g:=g) (ps:=ps) (r:=r)
   (by rw[g3 d0 (by simp[jz]),K9];simp only[mA,DS]) (by simpa using bN) c2
   ⟨b,ty,fr,by
     rw[List.getD_eq_getElem?_getD,List.getElem?_map,yQ];exact nW,by rw[DQ];simp only[mA,DS],DP⟩ (by simpa using tc)
   aF aI aL bX b7 bs (by rw[Lg];exact bj) xD
 have:=ye (Q:=Q) aT (ops:=ops) (ros:=[⟨some d0,.c8 T (.t k),none⟩]++(m++⟨d1,.call (.t d0) args,none⟩::rest)) (l2:=(m.length+1)::(List.range rest.length).map (·+(m.length+2))) mid
  ((List.range m.length).map (·+1)) (fun i aA=>by
    obtain⟨j,bY,rfl⟩:=List.mem_map.1 aA
    have td:j<m.length:=List.mem_range.1 bY
    refine⟨fun hZ=> ?_,fun o bI=> ?_⟩
    ·have:=Array.getElem?_eq_none_iff.1 hZ
     omega
    ·obtain⟨kr,s6,eW⟩:=yR (j+1) m[j] (by
      simp only[List.getElem?_cons_succ]
      rw[List.getElem?_append_left td,List.getElem?_eq_getElem td])
     have heq:kr=o:=by rw[s6]at bI;exact Option.some.inj bI
     subst heq
     refine⟨m[j],by
      simp only[List.singleton_append,List.getElem?_cons_succ]
      rw[List.getElem?_append_left td,List.getElem?_eq_getElem td],?_⟩
     have Lh:=hm m[j] (List.getElem_mem td)
     unfold mm at eW⊢
     split at eW
     ·rename_i ae
      rw[if_pos]
      ·exact eW
      ·cases DT:kr.dst with
       |none=>rfl
       |some d=>
        rw[DT]at ae
        simp only[jv,Bool.and_eq_true,decide_eq_true_eq,Bool.not_eq_true',List.contains_eq_mem,decide_eq_false_iff_not]at ae⊢
        refine⟨ae.1,?_⟩
        have uW:m[j].dst=some d:=by
         split at eW
         ·simp only[bm.un,Option.some.injEq,bm.mk.injEq]at eW
          rw[←eW.1,DT]
         ·cases eW
        obtain⟨m1,m2⟩:=Lh d uW
        simp only[jz,List.mem_cons,List.mem_append,not_or]
        exact⟨m1,fun e=>m2 (e▸vf),m2,ae.2⟩
     ·cases eW) (fin s (some d0) .hole) ah w (by simpa using hw) K8
 exact this
def Li (C:bq) (f:FuncId) (k k0:Nat) (cs:List Nat) (args:List ay) (d1:Option Nat) (rest:List bm) (keep:List Nat) (P:List (Nat×I)→Prop) (s1:aj):Prop:=
 ∃ps r,ps.map (·.a)=args.map (az s1)++cs.map (nB k s1)∧(∀p∈ps,p.ok s1)∧fX ps=true∧
  nz C f args.length (args.length+k0) (ps.map (·.d)) r (ps.map (·.o))∧r.res=true∧(hM ps=true→r.dc=true∧∀p∈ps,p.o.dc=true)∧
  bK C (fin (fM (dx s1 ps) ps) d1 r) rest none (fun _ s=>P (gy keep s))
def Lj (C:bq) (f:FuncId) (k k0 d0:Nat) (cs:List Nat) (m:List bm) (args:List ay) (d1:Option Nat) (rest:List bm) (keep:List Nat) (P:List (Nat×I)→Prop) (s:aj):Prop:=
 bK C (fin s (some d0) .hole) m none fun _ s1=>Li C f k k0 cs args d1 rest keep P s1
def Lk (C:bq) (f:FuncId) (k k0 d0:Nat) (cs:List Nat) (m:List bm) (args:List ay) (d1:Option Nat) (rest:List bm) (keep:List Nat) (K:aj→Prop) (s:aj):Prop:=
 Lj C f k k0 d0 cs m args d1 rest keep (fun l=>K (J l)) s
def DU (f:Nat→Bool) (m:List bm):Bool:=m.all fun r=>match r.dst with
 |none=>true
 |some d=>f d
theorem Ll {f:Nat→Bool} {m:List bm} (h:DU f m=true):∀r∈m,∀d,r.dst=some d→f d=true:=by
 intro r aC d ae
 have:=List.all_eq_true.1 h r aC
 rw[ae]at this;exact this
theorem Lm (k:List Nat) (s:aj):sZ s (gy k s):=by
 intro p ak
 obtain⟨t,_,rfl⟩:=List.mem_map.1 ak
 exact .inl rfl
def Ln (C:bq) (f:FuncId) (k k0 d0:Nat) (cs:List Nat) (m:List bm) (args:List ay) (d1:Option Nat) (rest:List bm) (keep:List Nat):(Exit→aj→Prop)→aj→Prop:=
 fun Q s=>Lk C f k k0 d0 cs m args d1 rest keep (Q .normal) s
def Lo (T:TypeId) (k d0:Nat) (m:List bm) (args:List ay) (d1:Option Nat) (rest:List bm):ab:=
 .ch (⟨some d0,.c8 T (.t k),none⟩::(m++⟨d1,.call (.t d0) args,none⟩::rest)) none
theorem Lp (vs:List Value):∀(m n:Nat),m+n=vs.length→vs.drop m=((List.range n).map (·+m)).map fun j=>vs.getD j undef:=by
 intro m n h
 apply List.ext_getElem?
 intro i
 rw[List.getElem?_drop,List.map_map,List.getElem?_map]
 by_cases aA:i<n
 ·rw[List.getElem?_range aA,List.getElem?_eq_getElem (by omega)]
  simp only[Option.map_some,Function.comp]
  rw[List.getD_eq_getElem?_getD,List.getElem?_eq_getElem (by omega)]
  simp only[Option.getD_some,Option.some.injEq]
  congr 1;omega
 ·rw[List.getElem?_eq_none (by omega),List.getElem?_eq_none (by simp;omega)];rfl
theorem Lq {c:Code} {rs:List bm} (h:bV n c=some (.ch rs none)):∃id ops,c= .region id ops false∧mn n ops ops.toList=some rs:=by
 cases c with
 |region id ops draw=>
  cases draw with
  |false=>
   simp only[bV,Option.map_eq_some_iff]at h
   obtain⟨r,aa,ad⟩:=h
   cases ad
   exact⟨id,ops,rfl,aa⟩
  |true=>
   simp only[bV]at h
   split at h
   ·simp only[Option.map_eq_some_iff]at h
    obtain⟨r,aa,ad⟩:=h
    cases ad
   ·cases h
 |seq a b=>simp only[bV]at h;split at h<;>cases h
 |cond c a b=>simp only[bV]at h;split at h<;>cases h
 |block id b=>simp only[bV,Option.map_eq_some_iff]at h;obtain⟨r,aa,ad⟩:=h;cases ad
 |loop b=>simp only[bV,Option.map_eq_some_iff]at h;obtain⟨r,aa,ad⟩:=h;cases ad
 |_=>simp[bV]at h
def yW (C:bq) (f:FuncId) (fx:List Nat) (Lr m k:Nat) (T:(Exit→aj→Prop)→aj→Prop) (b:ab):Prop:=
 ∃(ty:TypeId) (k0 d0 ky:Nat) (gY:List bm) (args:List ay) (d1:Option Nat) (rest:List bm) (keep:List Nat),
  T=Ln C f k k0 d0 ((List.range ky).map (·+m)) gY args d1 rest keep∧b=Lo ty k d0 gY args d1 rest∧(C.T ty).flat=true∧DU (fun d=>d !=d0&&decide (m+ky≤d)) gY=true∧decide (m+ky≤d0)=true∧
  decide (k0<ky)=true∧k=m+k0∧((List.range ky).all fun j=>fx.contains (m+j))=true∧args.length=m∧m+ky=Lr
theorem nz.of_wp (aT:C.db) {f:FuncId} {fn:Func} {c:Code} {dD:ab} {fx:List Nat} {as outs:List I} {r:I} {k m:Nat} (bh:C.P.funcs[f]? =some fn) (R:fn.body=some c)
  (iI:(fn.name== "runtime.NumGoroutine")=false) (U:bV ⟨fn.ntmps,fx⟩ c=some dD.strip) (aW:as.length≤fn.ntmps)
  (ar:dD.mr (yW C f fx as.length m k))
  (h:∀Q:Exit→aj→Prop,(∀s,eD (Ends C fx fn.results.toList r outs) s→Q .ret s)→(∀s,eD (Ends C fx fn.results.toList r outs) s→Q .normal s)→b3 C dD Q (J (num 0 as))):nz C f m k as r outs:=by
 rintro w F X S vs aJ ⟨b,Ls,fr,aF,aI,aL,bX⟩ aC
 refine Cw (fx:=fx) aT bh R iI aW aJ aC fun a nu cM=> ?_
 refine Ct aT (H:=yW C f fx as.length m k) ?_ c (by rw[ab.Ck];exact U) (ab.Cl dD ar) (Cr dD ?_) nu
 ·rintro c T dG Q s ah Y8 ⟨ty,k0,d0,ky,gY,args,d1,rest,keep,rfl,rfl,iW,hm,jU,vg,ar,fe,hlen,Y9⟩ yT Lt ⟨g1,g2,g3,qC,bk,g4⟩
  replace hm:∀r∈gY,∀d,r.dst=some d→d≠d0∧m+ky≤d:=fun r aC d ae=>by
   have:=Ll hm r aC d ae
   simpa using this
  replace jU:=of_decide_eq_true jU
  replace vg:=of_decide_eq_true vg
  replace fe:∀j,j<ky→m+j∈fx:=fun j bY=>by
   have:=List.all_eq_true.1 fe j (List.mem_range.2 bY)
   simpa using this
  obtain⟨id,ops,rfl,od⟩:=Lq yT
  have DV:∀j,j<ky→ah.tmps.getD (j+m) undef=vs.getD (j+m) undef:=fun j bY=>by
   rw[Nat.add_comm];exact g3 _ (fe j bY)
  have hx:((List.range ky).map (·+m)).map (fun j=>ah.tmps.getD j undef)=vs.drop m:=by
   rw[Lp vs m ky (by omega),List.map_map,List.map_map]
   apply List.map_congr_left
   intro j bY
   exact DV j (List.mem_range.1 bY)
  refine K2 (Q:=qI w F X ⟨fn.ntmps,fx⟩ (eT vs) Q) (K:=eD (Q .normal)) (b:=b) (ty:=Ls) (fr:=fr) (g:=f) (k0:=k0) (cs:=(List.range ky).map (·+m)) aT od iW (fun r aC d ae=>⟨(hm r aC d ae).1,fun yX=> ?_⟩) (fun yX=> ?_) ?_ g1 g2 g3 g4 (g4.eU b aL) ?_ ?_ ?_ (fun aq b2 aw ar cU=>cU.eD ar)
  ·obtain⟨j,bY,rfl⟩:=List.mem_map.1 yX
   have:=(hm r aC _ ae).2;have:=List.mem_range.1 bY;omega
  ·obtain⟨j,bY,e⟩:=List.mem_map.1 yX
   have:=List.mem_range.1 bY;omega
  ·rw[List.getElem?_map,List.getElem?_range vg,ar];simp[Nat.add_comm]
  ·rw[ar,Nat.add_comm,DV k0 vg,Nat.add_comm,←ar];exact aF
  ·rw[hx,g4.old b (aC.dw b aL) bX];exact aI
  ·refine u2 (fun _ s1=> ?_) Lt
   rintro⟨ps,r,e0,ep,gv,gw,n0,px,sS⟩
   exact⟨ps,r,e0,ep,gv,gw,n0,px,u2 (fun _ s h=>.inr ⟨_,Lm _ _,h⟩) sS⟩
 ·rw[Cz]
  exact h _ (fun s h=>⟨.inr rfl,h⟩) (fun s h=>⟨.inl rfl,h⟩)
end
end Go.b9
