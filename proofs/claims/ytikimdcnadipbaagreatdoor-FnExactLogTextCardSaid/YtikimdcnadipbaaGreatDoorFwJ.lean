/- Part of a proof that a law returns true for every input. No condition. -/
import Derived.Test.YtikimdcnadipbaaGreatDoorFwI
namespace Go.bZ
def nq (C:bm) (f:FuncId) (m k:Nat) (as:List I) (r:I) (outs:List I):Prop:=
 ∀(w:World) (F X:Nat→Prop) (S:Nat→Nat→Prop) (vs:List Value),vs.length=as.length→
  (∃b ty fr,vs.getD k undef= .pointer (some ⟨b,0,none⟩)∧w.heap[b]? =some (.cells #[.func (.func f) #[] (vs.drop m).toArray] ty fr)∧F b∧¬X b)→
  a1 w F X F S (dL as) (eJ vs) w→
  lF C.P f vs.toArray w fun v ar=>∃a8 aE,a1 w F X a8 aE (dL (r::outs)) (eJ (v::vs)) ar
section
variable {C:bm} {w0 w:World} {F0 X F a8:Nat→Prop} {S aE:Nat→Nat→Prop} {n:Fr} {ρ:Nat→Value} {s ao:ag} {an hk:Nat→Value} {a:Act} {av:I} {Q:Exit→Act→World→Prop} {ar:World}
theorem a1.base (h:a1 w0 F0 X F S s an w):a1 w F (fun b=>∃u,S u b) F S s an w where
 eB:=fun _ h=>h
 eQ:=fun _ h=>.inl h
 de:=h.de
 cV:=h.cV
 dy:=h.dy
 dm:=h.dm
 cp:=fun u b J=>.inl ⟨u,J⟩
 b2:=h.b2
 old:=fun _ _ _=>rfl
 size:=Nat.le_refl _
 os:=rfl
 tape:=rfl
 output:=Out.refl _
 dW:=h.dW.next h.size h.old fun b ⟨u,hu⟩=>h.cp u b hu
theorem a1.KV (h:a1 w0 F0 X F S s an w) (aT:a1 w F (fun b=>∃u,S u b) a8 aE ao hk ar):a1 w0 F0 X a8 aE ao hk ar where
 eB:=fun b J=>aT.eB b (h.eB b J)
 eQ:=fun b J=>by
  rcases aT.eQ b J with J|⟨u,J⟩|J
  ·exact h.eQ b J
  ·exact .inr (h.cp u b J)
  ·exact .inr (.inr (Nat.le_trans h.size J))
 de:=aT.de
 cV:=aT.cV
 dy:=aT.dy
 dm:=aT.dm
 cp:=fun u b J=>by
  rcases aT.cp u b J with⟨u,J⟩|J
  ·exact h.cp u b J
  ·exact .inr (Nat.le_trans h.size J)
 b2:=aT.b2
 old:=fun b J gn=>by
  refine(aT.old b (Nat.lt_of_lt_of_le J h.size) fun⟨u,hu⟩=> ?_).trans (h.old b J gn)
  rcases h.cp u b hu with ai|ai
  ·exact gn ai
  ·omega
 size:=Nat.le_trans h.size aT.size
 os:=aT.os.trans h.os
 tape:=aT.tape.trans h.tape
 output:=aT.output.trans h.output
 dW:=h.dW
inductive nr:List I→List I→Prop
 |nil:nr [] []
 |eq {a:I} {as dh:List I}:a.U=[]→nr as dh→nr (a::as) (a::dh)
 |wd {a b:I} {as dh:List I}:dC a b→a.tree=true→b.U=[]→nr as dh→nr (a::as) (b::dh)
theorem nr.get:∀{as dh:List I},nr as dh→∀p k,p∈num k dh→p.2.U=[]∧∃a,as[p.1-k]? =some a∧k≤p.1∧(p.2=a∨(a.tree=true∧dC a p.2))
 |_,_,.nil,p,k,ah=>by simp[num]at ah
 |_,_,.eq (a:=a) h hw,p,k,ah=>by
  simp only[num,List.mem_cons]at ah
  rcases ah with rfl|ah
  ·exact⟨h,a,by simp,Nat.le_refl _,.inl rfl⟩
  ·obtain⟨aa,x,ab,aB,aP⟩:=hw.get p (k+1) ah
   refine⟨aa,x,?_,by omega,aP⟩
   rw[show p.1-k=(p.1-(k+1))+1 by omega,List.getElem?_cons_succ];exact ab
 |_,_,.wd (a:=a) h aK J hw,p,k,ah=>by
  simp only[num,List.mem_cons]at ah
  rcases ah with rfl|ah
  ·exact⟨J,a,by simp,Nat.le_refl _,.inr ⟨aK,h⟩⟩
  ·obtain⟨aa,x,ab,aB,aP⟩:=hw.get p (k+1) ah
   refine⟨aa,x,?_,by omega,aP⟩
   rw[show p.1-k=(p.1-(k+1))+1 by omega,List.getElem?_cons_succ];exact ab
theorem nr.len:∀{as dh:List I},nr as dh→dh.length=as.length
 |_,_,.nil=>rfl
 |_,_,.eq _ hw=>by simp[hw.len]
 |_,_,.wd _ _ _ hw=>by simp[hw.len]
theorem DH (C:bm) (K:ag→Prop):∀(rs pre post:List bn) (s:ag),ix C s rs K→ha C (pre++(rs++post)) s ((List.range rs.length).map (·+pre.length)) K:=by
 intro rs
 induction rs with
 |nil=>intro pre post s h;exact h
 |cons r rs ih=>
  intro pre post s h
  rw[List.length_cons,List.range_succ_eq_map,List.map_cons,List.map_map]
  simp only[ha,Nat.zero_add]
  rw[List.getElem?_append_right (Nat.le_refl _)]
  simp only[Nat.sub_self,List.cons_append,List.getElem?_cons_zero]
  have key:∀s1,ix C s1 rs K→ha C (pre++r::(rs++post)) s1 ((List.range rs.length).map ((fun x=>x+pre.length)∘Nat.succ)) K:=by
   intro s1 aa
   have:=ih (pre++[r]) post s1 aa
   simp only[List.append_assoc,List.singleton_append,List.length_append,List.length_singleton]at this
   have e:((fun x=>x+pre.length)∘Nat.succ)=fun x=>x+(pre.length+1):=by funext x;simp;omega
   rw[e];exact this
  simp only[ix]at h
  exact ya h key
theorem KW (f_:a.defers=[]) (cO:a.tmps.size=n.n) (e9:∀i∈n.fx,a.tmps.getD i undef=ρ i) (aC:a1 w0 F0 X F S s (fun t=>a.tmps.getD t undef) w)
  {o:Oper} {d0 k:Nat} {args:List aw} {g:FuncId} {caps:List I} {arr:Array Value} {ps:List bO} {r:I} (bx:bX o.op=some (.call (.t d0) args)) (ae:jt n o.dst=true)
  (aD:a.tmps.getD d0 undef= .func (.func g) #[] arr) (af:cG w F s (fun t=>a.tmps.getD t undef) caps arr.toList) (eK:I.dV caps=true)
  (KX:∃b ty fr,(arr.toList).getD k undef= .pointer (some ⟨b,0,none⟩)∧w.heap[b]? =some (.cells #[.func (.func g) #[] arr] ty fr)∧F b) (sW:k<arr.size)
  (ab:ps.map (·.a)=args.map (az s)++caps) (aB:∀p∈ps,p.ok s) (aP:fZ ps=true) (bb:nq C g args.length (args.length+k) (ps.map (·.d)) r (ps.map (·.o))) (bQ:r.res=true)
  (bT:hW ps=true→r.c_=true∧∀p∈ps,p.o.c_=true) {K:ag→Prop} {next:Act→World→Prop} (dt:K (fin (fS (dE s ps) ps) o.dst r))
  (aQ:∀ao bU ar,K ao→Rel w0 F0 X n ρ ao bU ar→next bU ar):o.wp C.P a w next Q:=by
 obtain⟨dst,op,ty,pos,after,guard⟩:=o
 simp only at bx ae dt
 cases op with
 |call c=>
  obtain⟨callee,lH,argTypes⟩:=c
  simp only[bX]at bx
  split at bx
  ·split at bx
   ·rename_i sx _ _ I1 xs bc kY
    simp only[Option.some.injEq,dS.call.injEq]at bx
    obtain⟨rfl,rfl⟩:=bx
    have r9:sx= .tmp d0:=by
     cases sx with
     |tmp t=>simp only[cv,Option.some.injEq,aw.t.injEq]at bc;rw[bc]
     |const v=>simp only[cv,Option.map_eq_some_iff]at bc;obtain⟨c,_,bc⟩:=bc;cases bc
     |func g=>simp[cv]at bc
     |global g=>simp[cv]at bc
    subst r9
    have pf:execOp a.eval {dst,op:=.call {callee:=.value (.tmp d0),args:=lH,argTypes},type:=ty,pos,after,guard}=callFunc g ((lH.toList.map a.eval++arr.toList).toArray):=by
     have:a.eval (.tmp d0)= .func (.func g) #[] arr:=aD
     simp only[execOp,resolve,this,Deferred.ofValue,pure_bind,invoke]
     congr 1
     apply Array.ext';simp
    unfold Oper.wp
    rw[pf]
    have hlen:(lH.toList.map a.eval).length=xs.length:=by
     have:=congrArg List.length (pb kY)
     simpa using this
    have sy:cG w F s (fun t=>a.tmps.getD t undef) (xs.map (az s)++caps) (lH.toList.map a.eval++arr.toList):=BW (uB aC (fun _=>rfl) _ _ (pb kY)) af
    rw[←ab]at sy
    obtain⟨eR,l2⟩:=BX sy
    have e0:∀d∈xs.map (az s)++caps,d.plain=true:=by
     intro d ae
     rcases List.mem_append.1 ae with ae|ae
     ·obtain⟨x,ai,rfl⟩:=List.mem_map.1 ae
      exact As s x fun av e=>by
       subst e
       have hm:=pb kY
       have:some (aw.c av)∈xs.map some:=List.mem_map.2 ⟨_,ai,rfl⟩
       rw[←hm]at this
       obtain⟨o,_,bH⟩:=List.mem_map.1 this
       cases o with
       |const v=>simp only[cv,Option.map_eq_some_iff]at bH;obtain⟨c,af,e⟩:=bH;cases e;exact w5 af
       |tmp n=>simp[cv]at bH
       |func g=>simp[cv]at bH
       |global g=>simp[cv]at bH
     ·obtain⟨k,al⟩:=List.getElem?_of_mem ae
      exact tX eK al
    have x1:=BR (C:=C) aC (ps:=ps) (vs:=lH.toList.map a.eval++arr.toList) (f:=g) (r:=r) (by simpa using eR)
     (fun i p v ah aD=>⟨e0 p.a (by rw[←ab];exact List.mem_map.2 ⟨p,List.mem_of_getElem? ah,rfl⟩),l2 i p.a v (by simp[ah]) aD⟩) aB aP
     (fun Fc js cK aW gn ah=>by
      refine bb w Fc js cK _ (by rw[←eR];simp) ?_ ah
      obtain⟨b,KY,fr,aF,aJ,aN⟩:=KX
      refine⟨b,KY,fr,?_,?_,aW b aN,fun ai=>by obtain⟨u,hu⟩:=gn b ai;exact aC.dy u b hu aN⟩
      ·rw[List.getD_eq_getElem?_getD,List.getElem?_append_right (by omega),hlen,Nat.add_sub_cancel_left,←List.getD_eq_getElem?_getD];exact aF
      ·rw[aJ,←hlen,List.drop_left])
     bQ bT
    rcases x1 with⟨ed,cn⟩|⟨v,ar,ed,a8,aE,cn,e8⟩
    ·rw[ed,Oper.upon_enter]
     refine Calls.mono cn ?_
     rintro e ar ⟨v,rfl,a8,aE,bg,bw⟩
     exact aQ _ _ _ dt (Rel.put f_ cO e9 bg bw.1 ae)
    ·rw[ed,Oper.upon_value]
     exact aQ _ _ _ dt (Rel.put f_ cO e9 cn e8.1 ae)
   ·cases bx
  ·split at bx
   ·simp only[Option.map_eq_some_iff]at bx;obtain⟨_,_,bx⟩:=bx;cases bx
   ·cases bx
  ·split at bx
   ·simp only[Option.map_eq_some_iff]at bx;obtain⟨_,_,bx⟩:=bx;cases bx
   ·cases bx
  iterate 3
   ·split at bx
    ·split at bx<;>cases bx
    ·cases bx
  ·cases bx
 |makeFunc fn first cs=>
  cases fn<;>simp only[bX]at bx<;>first|(cases bx;done)|(split at bx<;>simp at bx)
 |slice T x b5 ay da=>
  cases da<;>simp only[bX]at bx<;>first|(cases bx;done)|(split at bx<;>simp at bx)
 |makeMap T r=>cases r<;>simp only[bX]at bx<;>simp at bx
 |lookup T x i c=>cases c<;>simp only[bX]at bx<;>first|(cases bx;done)|(split at bx<;>simp at bx)
 |_=>simp only[bX]at bx<;>first|(cases bx;done)|(simp at bx;done)|(split at bx<;>simp at bx)
theorem KZ {op:Op} {T:TypeId} {x:aw} (h:bX op=some (.c7 T x)):∃y,op= .load T y∧cv y=some x:=by
 cases op with
 |load xZ y=>
  simp only[bX,Option.map_eq_some_iff]at h
  obtain⟨cE,ai,h⟩:=h
  cases h
  exact⟨y,rfl,ai⟩
 |call c=>
  obtain⟨callee,lH,argTypes⟩:=c
  simp only[bX]at h
  split at h<;>(try split at h)<;>(try split at h)<;>(try simp[Option.map_eq_some_iff]at h)
 |makeFunc fn first cs=>
  cases fn<;>simp only[bX]at h<;>first|(cases h;done)|(split at h<;>simp at h)
 |slice T x b5 ay da=>
  cases da<;>simp only[bX]at h<;>first|(cases h;done)|(split at h<;>simp at h)
 |makeMap T r=>cases r<;>simp only[bX]at h<;>simp at h
 |lookup T x i c=>cases c<;>simp only[bX]at h<;>first|(cases h;done)|(split at h<;>simp at h)
 |_=>simp only[bX]at h<;>first|(cases h;done)|(simp at h;done)|(split at h<;>simp at h)
theorem K0 {y:Operand} {k:Nat} (h:cv y=some (.t k)):y= .tmp k:=by
 cases y with
 |tmp t=>simp only[cv,Option.some.injEq,aw.t.injEq]at h;rw[h]
 |const v=>simp only[cv,Option.map_eq_some_iff]at h;obtain⟨c,_,h⟩:=h;cases h
 |func g=>simp[cv]at h
 |global g=>simp[cv]at h
def ns (k:Nat) (s:ag) (j:Nat):I:=if j=k then .ref .hole else gp j (s j)
theorem K1 {an:Nat→Value} {b k:Nat} {v:Value} {ty:TypeId} {fr:Nat×Nat} (aC:a1 w0 F0 X F S s an w) (al:an k= .pointer (some ⟨b,0,none⟩)) (J:F b) (af:w.heap[b]? =some (.cells #[v] ty fr)) (aa:Value.ep v=true):
  ∀cs:List Nat,cG w F s an (cs.map (ns k s)) (cs.map an)∧I.dV (cs.map (ns k s))=true:=by
 intro cs
 induction cs with
 |nil=>exact⟨by rw[List.map_nil,List.map_nil,cG],rfl⟩
 |cons j cs ih=>
  simp only[List.map_cons]
  have bE:au w F s an (ns k s j) (an j) (fun _=>False)∧(ns k s j).plain=true:=by
   unfold ns
   split
   ·rename_i e;subst e
    rw[al]
    refine⟨(au.bB rfl).2 ⟨rfl,?_⟩,rfl⟩
    rw[ak]
    refine⟨b,0,[v],rfl,J,?_,?_⟩
    ·intro i c ay
     cases i with
     |zero=>simp at ay;subst ay;simp[World.cell?,af]
     |succ i=>simp at ay
    ·rw[ak];exact⟨v,aa,rfl⟩
   ·unfold gp
    split
    ·rename_i ah
     exact⟨au.nothing ah (aC.b2 j),ah⟩
    ·rename_i ah
     refine⟨?_,rfl⟩
     rw[au]
     intro d ae ah
     simp only[I.sub,Option.some.injEq]at ae
     subst ae
     have aK:(s j).tree=true:=by
      cases U:s j<;>first|rfl|(rw[U]at ah;simp[I.plain]at ah)
     exact⟨_,none,rfl,rfl,((au.bB aK).1 (aC.b2 j)).1⟩
  refine⟨?_,?_⟩
  ·rw[cG];exact⟨_,_,rfl,bE.1,ih.1⟩
  ·simp only[I.dV,bE.2,ih.2,Bool.and_self]
theorem K2 (aV:C.db) {id:Nat} {ops:Array Oper} {T:TypeId} {k k0 d0:Nat} {m rest:List bn} {args:List aw} {d1:Option Nat} {g:FuncId} {cs:List Nat} {b:Nat} {ty:TypeId} {fr:Nat×Nat} {K:ag→Prop}
  (n_:mf n ops ops.toList=some ((⟨some d0,.c7 T (.t k),none⟩::(m++⟨d1,.call (.t d0) args,none⟩::rest):List bn).map bn.un))
  (iL:(C.T T).flat=true) (hm:∀r∈m,∀d,r.dst=some d→d≠d0∧d∉cs) (hR:d0∉cs) (yF:cs[k0]? =some k)
  (f_:a.defers=[]) (cO:a.tmps.size=n.n) (e9:∀i∈n.fx,a.tmps.getD i undef=ρ i) (aC:a1 w0 F0 X F S s (fun t=>a.tmps.getD t undef) w)
  (J:F b) (al:a.tmps.getD k undef= .pointer (some ⟨b,0,none⟩)) (uh:w.heap[b]? =some (.cells #[.func (.func g) #[] (cs.map fun j=>a.tmps.getD j undef).toArray] ty fr))
  (h:ix C (fin s (some d0) .hole) m fun s1=>∃ps r,ps.map (·.a)=args.map (az s1)++cs.map (ns k s1)∧(∀p∈ps,p.ok s1)∧fZ ps=true∧
   nq C g args.length (args.length+k0) (ps.map (·.d)) r (ps.map (·.o))∧r.res=true∧(hW ps=true→r.c_=true∧∀p∈ps,p.o.c_=true)∧ix C (fin (fS (dE s1 ps) ps) d1 r) rest K)
  (aQ:∀ao bU ar,K ao→Rel w0 F0 X n ρ ao bU ar→Q .normal bU ar):(Code.region id ops false).wp C.P Q a w:=by
 obtain⟨aI,n9⟩:=x3 n_
 have yG:∀(i:Nat) (r:bn),(⟨some d0,.c7 T (.t k),none⟩::(m++⟨d1,.call (.t d0) args,none⟩::rest):List bn)[i]? =some r→∃o,ops[i]? =some o∧me n ops o=some r.un:=by
  intro i r ay
  have cJ:i<ops.toList.length:=by
   rw[aI,List.length_map]
   exact(List.getElem?_eq_some_iff.1 ay).1
  obtain⟨gU,aa,ab⟩:=n9 i _ (List.getElem?_eq_getElem cJ)
  rw[List.getElem?_map,ay]at aa
  simp only[Option.map_some,Option.some.injEq]at aa
  exact⟨_,by rw[←Array.getElem?_toList];exact List.getElem?_eq_getElem cJ,by rw[aa];exact ab⟩
 have yH:∀{r:bn} {o:Oper},r.guard=none→me n ops o=some r.un→r.dst=o.dst∧o.guard=none∧n7 o.op=r.a7.base∧jt n o.dst=true:=by
  intro r o hg h
  unfold me at h
  split at h
  ·rename_i ae
   split at h
   ·rename_i qZ ev
    simp only[bn.un,Option.some.injEq,bn.mk.injEq]at h
    obtain⟨aF,aJ,aN⟩:=h
    refine⟨aF.symm,?_,aJ,ae⟩
    rw[aN,hg]at ev
    cases bH:o.guard with
    |none=>rfl
    |some x6=>
     rw[bH]at ev;simp only[sw]at ev;split at ev<;>cases ev
   ·cases h
  ·cases h
 have om:ops.size=m.length+rest.length+2:=by
  have:ops.toList.length=ops.size:=by simp
  rw[←this,aI];simp;omega
 have K3:List.range ops.size=0::((List.range m.length).map (·+1)++((m.length+1)::(List.range rest.length).map (·+(m.length+2)))):=by
  rw[om,show m.length+rest.length+2=(m.length+rest.length+1)+1 from rfl,List.range_succ_eq_map]
  congr 1
  rw[show m.length+rest.length+1=m.length+(rest.length+1) by omega,List.range_add,List.map_append,List.range_succ_eq_map]
  simp only[List.map_map,List.map_cons,Nat.add_zero]
  congr 1
  congr 1
  apply List.map_congr_left
  intro x _;simp;omega
 obtain⟨oo,K4,hX⟩:=yG 0 _ rfl
 obtain⟨fj,er,gM,gN⟩:=yH rfl hX
 change n7 oo.op= .c7 T (.t k)at gM
 have sX:bX oo.op=some (.c7 T (.t k)):=by
  rcases mh gM with h|h
  ·cases h
  ·exact h
 obtain⟨y,hy,K5⟩:=KZ sX
 have:=K0 K5;subst this
 let mq:Value:=.func (.func g) #[] (cs.map fun j=>a.tmps.getD j undef).toArray
 have gQ:fc w b 0 [mq]:=by
  intro i c ay
  cases i with
  |zero=>simp at ay;subst ay;simp[World.cell?,uh,mq]
  |succ i=>simp at ay
 refine wp_region ?_
 rw[K3]
 simp only[wpOps,K4]
 show(if Region.wanted oo (yielded ops a.tmps)=true then oo.wp C.P a w _ Q∨(oo.asks C.P a w∧LetsOut Q)else _)
 rw[if_pos (x4 er)]
 left
 have pf:(execOp a.eval oo).run C.P w= .ok (.value mq) w:=by
  obtain⟨dst,op,ty,pos,after,guard⟩:=oo
  simp only at hy
  subst hy
  have:a.eval (.tmp k)= .pointer (some ⟨b,0,none⟩):=al
  simp[execOp,this,Instr.loadAt,Instr.sureAddr,Ay aV iL gQ]
 unfold Oper.wp
 rw[pf,Oper.upon_value]
 have K6:some d0=oo.dst:=fj
 rw[←K6]at gN⊢
 let aA:Act:=a.put (some d0) mq
 let k5:Fr:=⟨n.n,d0::k::(cs++n.fx)⟩
 let ρ1:Nat→Value:=fun t=>aA.tmps.getD t undef
 have q0:k∈cs:=List.mem_of_getElem? yF
 have o8:=aC.base
 have yI:Rel w F (fun b=>∃u,S u b) ⟨n.n,[]⟩ ρ1 (fin s (some d0) .hole) aA w:=
  Rel.put (n:=⟨n.n,[]⟩) f_ cO (fun i ay=>by cases ay) o8 (.inl ⟨rfl,by rw[au];trivial⟩) (by
   simp only[jt,Bool.and_eq_true,decide_eq_true_eq]at gN⊢
   exact⟨gN.1,by simp⟩)
 have K7:Rel w F (fun b=>∃u,S u b) k5 ρ1 (fin s (some d0) .hole) aA w:=⟨yI.defers,yI.size,fun i _=>rfl,yI.rel⟩
 have DI:∀t,t≠d0→ρ1 t=a.tmps.getD t undef:=by
  intro t aK
  have:=congrFun (xY (n:=n) (dst:=some d0) (a:=a) mq cO gN).1 t
  simp only[mP]at this
  rw[gJ _ _ aK]at this
  exact this
 have K8:ρ1 d0=mq:=by
  have:=congrFun (xY (n:=n) (dst:=some d0) (a:=a) mq cO gN).1 d0
  simp only[mP]at this
  rw[jL]at this
  exact this
 have hw:=DH C _ m [⟨some d0,.c7 T (.t k),none⟩] (⟨d1,.call (.t d0) args,none⟩::rest) _ h
 have mid:∀ao bU ar,(∃ps r,ps.map (·.a)=args.map (az ao)++cs.map (ns k ao)∧(∀p∈ps,p.ok ao)∧fZ ps=true∧
   nq C g args.length (args.length+k0) (ps.map (·.d)) r (ps.map (·.o))∧r.res=true∧(hW ps=true→r.c_=true∧∀p∈ps,p.o.c_=true)∧ix C (fin (fS (dE ao ps) ps) d1 r) rest K)→
   Rel w F (fun b=>∃u,S u b) k5 ρ1 ao bU ar→wpOps C.P ops Q ((m.length+1)::(List.range rest.length).map (·+(m.length+2))) bU ar:=by
  rintro s2 a2 jy ⟨ps,r,aF,aJ,aN,bt,bN,bh,ba⟩ ⟨g1,g2,g3,sv,cx,g4⟩
  obtain⟨q1,K9,lZ⟩:=yG (m.length+1) ⟨d1,.call (.t d0) args,none⟩ (by simp)
  obtain⟨d_,eW,fA,AM⟩:=yH rfl lZ
  simp only[wpOps,K9]
  show(if Region.wanted q1 (yielded ops a2.tmps)=true then q1.wp C.P a2 jy _ Q∨(q1.asks C.P a2 jy∧LetsOut Q)else _)
  rw[if_pos (x4 eW)]
  left
  change n7 q1.op= .call (.t d0) args at fA
  have K_:bX q1.op=some (.call (.t d0) args):=by
   rcases mh fA with h|h
   ·cases h
   ·exact h
  have DJ:sv b:=g4.eB b J
  have DK:jy.heap[b]? =some (.cells #[mq] ty fr):=by
   rw[g4.old b (aC.de b J) (fun⟨u,hu⟩=>aC.dy u b hu J)];exact uh
  have DL:∀j∈cs,a2.tmps.getD j undef=a.tmps.getD j undef:=by
   intro j bE
   rw[g3 j (by simp[k5,bE])]
   exact DI j (fun e=>hR (e▸bE))
  have nR:a2.tmps.getD k undef= .pointer (some ⟨b,0,none⟩):=(DL k q0).trans al
  have DM:(cs.map fun j=>a.tmps.getD j undef)=cs.map fun j=>a2.tmps.getD j undef:=List.map_congr_left fun j bE=>(DL j bE).symm
  obtain⟨bD,c2⟩:=K1 (k:=k) g4 nR DJ DK rfl cs
  have xt:∀ao bU ar,ix C ao rest K→Rel w F (fun b=>∃u,S u b) ⟨n.n,n.fx⟩ ρ ao bU ar→wpOps C.P ops Q ((List.range rest.length).map (·+(m.length+2))) bU ar:=by
   intro eH a3 sY aB La
   have uO:=DH C K rest ((⟨some d0,.c7 T (.t k),none⟩::m)++[⟨d1,.call (.t d0) args,none⟩]) [] eH aB
   have:=x5 (Q:=Q) aV (ops:=ops) (ros:=((⟨some d0,.c7 T (.t k),none⟩::m)++[⟨d1,.call (.t d0) args,none⟩])++(rest++[])) (l2:=[]) (K:=K) (fun ao bU ar iu cW=>by
     obtain⟨Lb,z2,z3,Lc,AY,z4⟩:=cW
     exact aQ ao bU ar iu ⟨Lb,z2,z3,Lc,AY,aC.KV z4⟩) ((List.range rest.length).map (·+(m.length+2))) (fun i ay=>by
      have sJ:((⟨some d0,.c7 T (.t k),none⟩::m)++[⟨d1,.call (.t d0) args,none⟩])++(rest++[])=(⟨some d0,.c7 T (.t k),none⟩::(m++⟨d1,.call (.t d0) args,none⟩::rest):List bn):=by simp
      rw[sJ]
      refine⟨fun hO=> ?_,fun o bH=> ?_⟩
      ·rw[List.getElem?_eq_none_iff]
       have:=Array.getElem?_eq_none_iff.1 hO
       simp;omega
      ·obtain⟨aR,eZ,ab⟩:=n9 i o (by simpa using bH)
       obtain⟨r,aa,rfl⟩:∃r,(⟨some d0,.c7 T (.t k),none⟩::(m++⟨d1,.call (.t d0) args,none⟩::rest):List bn)[i]? =some r∧r.un=aR:=by
        rw[List.getElem?_map,Option.map_eq_some_iff]at eZ;exact eZ
       exact⟨r,aa,ab⟩) eH a3 sY (by
      have e:((⟨some d0,.c7 T (.t k),none⟩::m)++[⟨d1,.call (.t d0) args,none⟩]:List bn).length=m.length+2:=by simp
      rw[e]at uO;exact uO) La
   rwa [List.append_nil]at this
  have Ld:∀i∈n.fx,a2.tmps.getD i undef=ρ i:=by
   intro i ay
   rw[g3 i (by simp[k5,ay]),DI i (fun e=> ?_)]
   ·exact e9 i ay
   ·simp only[jt,Bool.and_eq_true,Bool.not_eq_true',List.contains_eq_mem,decide_eq_false_iff_not]at gN
    exact gN.2 (e▸ay)
  have sW:k0<cs.length:=(List.getElem?_eq_some_iff.1 yF).1
  have Le:q1.dst=d1:=d_.symm
  exact KW (n:=n) (ρ:=ρ) (K:=fun ao=>ix C ao rest K) g1 g2 Ld g4 K_ AM
   (arr:=(cs.map fun j=>a2.tmps.getD j undef).toArray) (k:=k0) (caps:=cs.map (ns k s2)) (g:=g) (ps:=ps) (r:=r)
   (by rw[g3 d0 (by simp[k5]),K8];simp only[mq,DM]) (by simpa using bD) c2
   ⟨b,ty,fr,by
     rw[List.getD_eq_getElem?_getD,List.getElem?_map,yF];exact nR,by rw[DK];simp only[mq,DM],DJ⟩ (by simpa using sW)
   aF aJ aN bt bN bh (by rw[Le];exact ba) xt
 have:=x5 (Q:=Q) aV (ops:=ops) (ros:=[⟨some d0,.c7 T (.t k),none⟩]++(m++⟨d1,.call (.t d0) args,none⟩::rest)) (l2:=(m.length+1)::(List.range rest.length).map (·+(m.length+2))) mid
  ((List.range m.length).map (·+1)) (fun i ay=>by
    obtain⟨j,bE,rfl⟩:=List.mem_map.1 ay
    have sZ:j<m.length:=List.mem_range.1 bE
    refine⟨fun hO=> ?_,fun o bH=> ?_⟩
    ·have:=Array.getElem?_eq_none_iff.1 hO
     omega
    ·obtain⟨km,sM,eT⟩:=yG (j+1) m[j] (by
      simp only[List.getElem?_cons_succ]
      rw[List.getElem?_append_left sZ,List.getElem?_eq_getElem sZ])
     have heq:km=o:=by rw[sM]at bH;exact Option.some.inj bH
     subst heq
     refine⟨m[j],by
      simp only[List.singleton_append,List.getElem?_cons_succ]
      rw[List.getElem?_append_left sZ,List.getElem?_eq_getElem sZ],?_⟩
     have Lf:=hm m[j] (List.getElem_mem sZ)
     unfold me at eT⊢
     split at eT
     ·rename_i ae
      rw[if_pos]
      ·exact eT
      ·cases DN:km.dst with
       |none=>rfl
       |some d=>
        rw[DN]at ae
        simp only[jt,Bool.and_eq_true,decide_eq_true_eq,Bool.not_eq_true',List.contains_eq_mem,decide_eq_false_iff_not]at ae⊢
        refine⟨ae.1,?_⟩
        have uJ:m[j].dst=some d:=by
         split at eT
         ·simp only[bn.un,Option.some.injEq,bn.mk.injEq]at eT
          rw[←eT.1,DN]
         ·cases eT
        obtain⟨m1,m2⟩:=Lf d uJ
        simp only[k5,List.mem_cons,List.mem_append,not_or]
        exact⟨m1,fun e=>m2 (e▸q0),m2,ae.2⟩
     ·cases eT) (fin s (some d0) .hole) aA w (by simpa using hw) K7
 exact this
def Lg (C:bm) (f:FuncId) (k k0:Nat) (cs:List Nat) (args:List aw) (d1:Option Nat) (rest:List bn) (keep:List Nat) (P:List (Nat×I)→Prop) (s1:ag):Prop:=
 ∃ps r,ps.map (·.a)=args.map (az s1)++cs.map (ns k s1)∧(∀p∈ps,p.ok s1)∧fZ ps=true∧
  nq C f args.length (args.length+k0) (ps.map (·.d)) r (ps.map (·.o))∧r.res=true∧(hW ps=true→r.c_=true∧∀p∈ps,p.o.c_=true)∧
  bL C (fin (fS (dE s1 ps) ps) d1 r) rest none (fun _ s=>P (gA keep s))
def Lh (C:bm) (f:FuncId) (k k0 d0:Nat) (cs:List Nat) (m:List bn) (args:List aw) (d1:Option Nat) (rest:List bn) (keep:List Nat) (P:List (Nat×I)→Prop) (s:ag):Prop:=
 bL C (fin s (some d0) .hole) m none fun _ s1=>Lg C f k k0 cs args d1 rest keep P s1
def Li (C:bm) (f:FuncId) (k k0 d0:Nat) (cs:List Nat) (m:List bn) (args:List aw) (d1:Option Nat) (rest:List bn) (keep:List Nat) (K:ag→Prop) (s:ag):Prop:=
 Lh C f k k0 d0 cs m args d1 rest keep (fun l=>K (R l)) s
def DO (f:Nat→Bool) (m:List bn):Bool:=m.all fun r=>match r.dst with
 |none=>true
 |some d=>f d
theorem Lj {f:Nat→Bool} {m:List bn} (h:DO f m=true):∀r∈m,∀d,r.dst=some d→f d=true:=by
 intro r aC d ae
 have:=List.all_eq_true.1 h r aC
 rw[ae]at this;exact this
theorem Lk (k:List Nat) (s:ag):sH s (gA k s):=by
 intro p ah
 obtain⟨t,_,rfl⟩:=List.mem_map.1 ah
 exact .inl rfl
def Ll (C:bm) (f:FuncId) (k k0 d0:Nat) (cs:List Nat) (m:List bn) (args:List aw) (d1:Option Nat) (rest:List bn) (keep:List Nat):(Exit→ag→Prop)→ag→Prop:=
 fun Q s=>Li C f k k0 d0 cs m args d1 rest keep (Q .normal) s
def Lm (T:TypeId) (k d0:Nat) (m:List bn) (args:List aw) (d1:Option Nat) (rest:List bn):ad:=
 .cB (⟨some d0,.c7 T (.t k),none⟩::(m++⟨d1,.call (.t d0) args,none⟩::rest)) none
theorem Ln (vs:List Value):∀(m n:Nat),m+n=vs.length→vs.drop m=((List.range n).map (·+m)).map fun j=>vs.getD j undef:=by
 intro m n h
 apply List.ext_getElem?
 intro i
 rw[List.getElem?_drop,List.map_map,List.getElem?_map]
 by_cases ay:i<n
 ·rw[List.getElem?_range ay,List.getElem?_eq_getElem (by omega)]
  simp only[Option.map_some,Function.comp]
  rw[List.getD_eq_getElem?_getD,List.getElem?_eq_getElem (by omega)]
  simp only[Option.getD_some,Option.some.injEq]
  congr 1;omega
 ·rw[List.getElem?_eq_none (by omega),List.getElem?_eq_none (by simp;omega)];rfl
theorem Lo {c:Code} {rs:List bn} (h:bR n c=some (.cB rs none)):∃id ops,c= .region id ops false∧mf n ops ops.toList=some rs:=by
 cases c with
 |region id ops draw=>
  cases draw with
  |false=>
   simp only[bR,Option.map_eq_some_iff]at h
   obtain⟨r,aa,ab⟩:=h
   cases ab
   exact⟨id,ops,rfl,aa⟩
  |true=>
   simp only[bR]at h
   split at h
   ·simp only[Option.map_eq_some_iff]at h
    obtain⟨r,aa,ab⟩:=h
    cases ab
   ·cases h
 |seq a b=>simp only[bR]at h;split at h<;>cases h
 |cond c a b=>simp only[bR]at h;split at h<;>cases h
 |block id b=>simp only[bR,Option.map_eq_some_iff]at h;obtain⟨r,aa,ab⟩:=h;cases ab
 |loop b=>simp only[bR,Option.map_eq_some_iff]at h;obtain⟨r,aa,ab⟩:=h;cases ab
 |_=>simp[bR]at h
def yJ (C:bm) (f:FuncId) (fx:List Nat) (Lp m k:Nat) (T:(Exit→ag→Prop)→ag→Prop) (b:ad):Prop:=
 ∃(ty:TypeId) (k0 d0 kt:Nat) (gS:List bn) (args:List aw) (d1:Option Nat) (rest:List bn) (keep:List Nat),
  T=Ll C f k k0 d0 ((List.range kt).map (·+m)) gS args d1 rest keep∧b=Lm ty k d0 gS args d1 rest∧(C.T ty).flat=true∧DO (fun d=>d !=d0&&decide (m+kt≤d)) gS=true∧decide (m+kt≤d0)=true∧
  decide (k0<kt)=true∧k=m+k0∧((List.range kt).all fun j=>fx.contains (m+j))=true∧args.length=m∧m+kt=Lp
theorem nq.of_wp (aV:C.db) {f:FuncId} {fn:Func} {c:Code} {dF:ad} {fx:List Nat} {as outs:List I} {r:I} {k m:Nat} (bc:C.P.funcs[f]? =some fn) (J:fn.body=some c)
  (iz:(fn.name== "runtime.NumGoroutine")=false) (U:bR ⟨fn.ntmps,fx⟩ c=some dF.strip) (aQ:as.length≤fn.ntmps)
  (al:dF.mi (yJ C f fx as.length m k))
  (h:∀Q:Exit→ag→Prop,(∀s,eo (Ends C fx fn.results.toList r outs) s→Q .ret s)→(∀s,eo (Ends C fx fn.results.toList r outs) s→Q .normal s)→ca C dF Q (R (num 0 as))):nq C f m k as r outs:=by
 rintro w F X S vs aI ⟨b,Lq,fr,aF,aJ,aN,bt⟩ aC
 refine Cl (fx:=fx) aV bc J iz aQ aI aC fun a nh cL=> ?_
 refine Ci aV (H:=yJ C f fx as.length m k) ?_ c (by rw[ad.B_];exact U) (ad.Ca dF al) (Cg dF ?_) nh
 ·rintro c T dK Q s aA j3 ⟨ty,k0,d0,kt,gS,args,d1,rest,keep,rfl,rfl,iL,hm,hR,u2,al,e9,hlen,Yt⟩ sX Lr ⟨g1,g2,g3,qk,bk,g4⟩
  replace hm:∀r∈gS,∀d,r.dst=some d→d≠d0∧m+kt≤d:=fun r aC d ae=>by
   have:=Lj hm r aC d ae
   simpa using this
  replace hR:=of_decide_eq_true hR
  replace u2:=of_decide_eq_true u2
  replace e9:∀j,j<kt→m+j∈fx:=fun j bE=>by
   have:=List.all_eq_true.1 e9 j (List.mem_range.2 bE)
   simpa using this
  obtain⟨id,ops,rfl,n_⟩:=Lo sX
  have DP:∀j,j<kt→aA.tmps.getD (j+m) undef=vs.getD (j+m) undef:=fun j bE=>by
   rw[Nat.add_comm];exact g3 _ (e9 j bE)
  have fO:((List.range kt).map (·+m)).map (fun j=>aA.tmps.getD j undef)=vs.drop m:=by
   rw[Ln vs m kt (by omega),List.map_map,List.map_map]
   apply List.map_congr_left
   intro j bE
   exact DP j (List.mem_range.1 bE)
  refine K2 (Q:=qq w F X ⟨fn.ntmps,fx⟩ (eJ vs) Q) (K:=eo (Q .normal)) (b:=b) (ty:=Lq) (fr:=fr) (g:=f) (k0:=k0) (cs:=(List.range kt).map (·+m)) aV n_ iL (fun r aC d ae=>⟨(hm r aC d ae).1,fun yK=> ?_⟩) (fun yK=> ?_) ?_ g1 g2 g3 g4 (g4.eB b aN) ?_ ?_ ?_ (fun ao bU ar al cW=>cW.eo al)
  ·obtain⟨j,bE,rfl⟩:=List.mem_map.1 yK
   have:=(hm r aC _ ae).2;have:=List.mem_range.1 bE;omega
  ·obtain⟨j,bE,e⟩:=List.mem_map.1 yK
   have:=List.mem_range.1 bE;omega
  ·rw[List.getElem?_map,List.getElem?_range u2,al];simp[Nat.add_comm]
  ·rw[al,Nat.add_comm,DP k0 u2,Nat.add_comm,←al];exact aF
  ·rw[fO,g4.old b (aC.de b aN) bt];exact aJ
  ·refine uP (fun _ s1=> ?_) Lr
   rintro⟨ps,r,fj,er,gM,gN,nU,pg,sA⟩
   exact⟨ps,r,fj,er,gM,gN,nU,pg,uP (fun _ s h=>.inr ⟨_,Lk _ _,h⟩) sA⟩
 ·rw[Co]
  exact h _ (fun s h=>⟨.inr rfl,h⟩) (fun s h=>⟨.inl rfl,h⟩)
end
end Go.bZ
