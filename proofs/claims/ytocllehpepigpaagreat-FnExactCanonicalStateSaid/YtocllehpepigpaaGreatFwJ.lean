/- Part of a proof that a law returns true for every input. No condition. -/
import Derived.Test.YtocllehpepigpaaGreatFwI
namespace Go.cZ
def mI (C:cw) (f:FuncId) (m k:Nat) (as:List I) (r:I) (outs:List I):Prop:=
 ∀(w:World) (F X:Nat→Prop) (S:Nat→Nat→Prop) (vs:List Value),vs.length=as.length→
  (∃b ty fr,vs.getD k undef= .pointer (some ⟨b,0,none⟩)∧w.heap[b]? =some (.cells #[.func (.func f) #[] (vs.drop m).toArray] ty fr)∧F b∧¬X b)→
  bQ w F X F S (fI as) (hs vs) w→
  ox C.P f vs.toArray w fun v aG=>∃b2 aR,bQ w F X b2 aR (fI (r::outs)) (hs (v::vs)) aG
section
variable {C:cw} {w0 w:World} {F0 X F b2:Nat→Prop} {S aR:Nat→Nat→Prop} {n:Fr} {ρ:Nat→Value} {s az:ar} {aA jI:Nat→Value} {a:Act} {av:I} {Q:Exit→Act→World→Prop} {aG:World}
theorem bQ.base (h:bQ w0 F0 X F S s aA w):bQ w F (fun b=>∃u,S u b) F S s aA w where
 ho:=fun _ h=>h
 hO:=fun _ h=>.inl h
 fm:=h.fm
 eD:=h.eD
 fz:=h.fz
 fs:=h.fs
 dZ:=fun u b ae=>.inl ⟨u,ae⟩
 dF:=h.dF
 old:=fun _ _ _=>rfl
 size:=Nat.le_refl _
 os:=rfl
 tape:=rfl
 output:=Out.refl _
 hD:=h.hD.next h.size h.old fun b ⟨u,hu⟩=>h.dZ u b hu
theorem bQ.VD (h:bQ w0 F0 X F S s aA w) (bL:bQ w F (fun b=>∃u,S u b) b2 aR az jI aG):bQ w0 F0 X b2 aR az jI aG where
 ho:=fun b ae=>bL.ho b (h.ho b ae)
 hO:=fun b ae=>by
  rcases bL.hO b ae with ae|⟨u,ae⟩|ae
  ·exact h.hO b ae
  ·exact .inr (h.dZ u b ae)
  ·exact .inr (.inr (Nat.le_trans h.size ae))
 fm:=bL.fm
 eD:=bL.eD
 fz:=bL.fz
 fs:=bL.fs
 dZ:=fun u b ae=>by
  rcases bL.dZ u b ae with⟨u,ae⟩|ae
  ·exact h.dZ u b ae
  ·exact .inr (Nat.le_trans h.size ae)
 dF:=bL.dF
 old:=fun b ae j2=>by
  refine(bL.old b (Nat.lt_of_lt_of_le ae h.size) fun⟨u,hu⟩=> ?_).trans (h.old b ae j2)
  rcases h.dZ u b hu with aw|aw
  ·exact j2 aw
  ·omega
 size:=Nat.le_trans h.size bL.size
 os:=bL.os.trans h.os
 tape:=bL.tape.trans h.tape
 output:=bL.output.trans h.output
 hD:=h.hD
inductive qY:List I→List I→Prop
 |nil:qY [] []
 |eq {a:I} {as lb:List I}:a.ag=[]→qY as lb→qY (a::as) (a::lb)
 |wd {a b:I} {as lb:List I}:fh a b→a.tree=true→b.ag=[]→qY as lb→qY (a::as) (b::lb)
theorem qY.get:∀{as lb:List I},qY as lb→∀p k,p∈num k lb→p.2.ag=[]∧∃a,as[p.1-k]? =some a∧k≤p.1∧(p.2=a∨(a.tree=true∧fh a p.2))
 |_,_,.nil,p,k,au=>by simp[num]at au
 |_,_,.eq (a:=a) h hw,p,k,au=>by
  simp only[num,List.mem_cons]at au
  rcases au with rfl|au
  ·exact⟨h,a,by simp,Nat.le_refl _,.inl rfl⟩
  ·obtain⟨h1,x,ah,aC,a8⟩:=hw.get p (k+1) au
   refine⟨h1,x,?_,by omega,a8⟩
   rw[show p.1-k=(p.1-(k+1))+1 by omega,List.getElem?_cons_succ];exact ah
 |_,_,.wd (a:=a) h ba ae hw,p,k,au=>by
  simp only[num,List.mem_cons]at au
  rcases au with rfl|au
  ·exact⟨ae,a,by simp,Nat.le_refl _,.inr ⟨ba,h⟩⟩
  ·obtain⟨h1,x,ah,aC,a8⟩:=hw.get p (k+1) au
   refine⟨h1,x,?_,by omega,a8⟩
   rw[show p.1-k=(p.1-(k+1))+1 by omega,List.getElem?_cons_succ];exact ah
theorem qY.len:∀{as lb:List I},qY as lb→lb.length=as.length
 |_,_,.nil=>rfl
 |_,_,.eq _ hw=>by simp[hw.len]
 |_,_,.wd _ _ _ hw=>by simp[hw.len]
theorem Mj (C:cw) (K:ar→Prop):∀(rs pre post:List cj) (s:ar),lN C s rs K→kk C (pre++(rs++post)) s ((List.range rs.length).map (·+pre.length)) K:=by
 intro rs
 induction rs with
 |nil=>intro pre post s h;exact h
 |cons r rs ih=>
  intro pre post s h
  rw[List.length_cons,List.range_succ_eq_map,List.map_cons,List.map_map]
  simp only[kk,Nat.zero_add]
  rw[List.getElem?_append_right (Nat.le_refl _)]
  simp only[Nat.sub_self,List.cons_append,List.getElem?_cons_zero]
  have key:∀s1,lN C s1 rs K→kk C (pre++r::(rs++post)) s1 ((List.range rs.length).map ((fun x=>x+pre.length)∘Nat.succ)) K:=by
   intro s1 h1
   have:=ih (pre++[r]) post s1 h1
   simp only[List.append_assoc,List.singleton_append,List.length_append,List.length_singleton]at this
   have e:((fun x=>x+pre.length)∘Nat.succ)=fun x=>x+(pre.length+1):=by funext x;simp;omega
   rw[e];exact this
  simp only[lN]at h
  exact Gn h key
theorem VE (iY:a.defers=[]) (dR:a.tmps.size=n.n) (hS:∀i∈n.fx,a.tmps.getD i undef=ρ i) (aX:bQ w0 F0 X F S s (fun t=>a.tmps.getD t undef) w)
  {o:Oper} {d0 k:Nat} {args:List aK} {g:FuncId} {caps:List I} {arr:Array Value} {ps:List c2} {r:I} (cI:cK o.op=some (.call (.t d0) args)) (aj:lL n o.dst=true)
  (aM:a.tmps.getD d0 undef= .func (.func g) #[] arr) (aq:eA w F s (fun t=>a.tmps.getD t undef) caps arr.toList) (gI:I.dX caps=true)
  (VF:∃b ty fr,(arr.toList).getD k undef= .pointer (some ⟨b,0,none⟩)∧w.heap[b]? =some (.cells #[.func (.func g) #[] arr] ty fr)∧F b) (Mk:k<arr.size)
  (ah:ps.map (·.a)=args.map (aN s)++caps) (aC:∀p∈ps,p.ok s) (a8:iS ps=true) (bK:mI C g args.length (args.length+k) (ps.map (·.d)) r (ps.map (·.o))) (cU:r.res=true)
  (cJ:kj ps=true→r.dd=true∧∀p∈ps,p.o.dd=true) {K:ar→Prop} {next:Act→World→Prop} (fw:K (fin (h9 (fo s ps) ps) o.dst r))
  (a6:∀az c4 aG,K az→Rel w0 F0 X n ρ az c4 aG→next c4 aG):o.wp C.P a w next Q:=by
 obtain⟨dst,op,ty,pos,after,guard⟩:=o
 simp only at cI aj fw
 cases op with
 |call c=>
  obtain⟨callee,nf,argTypes⟩:=c
  simp only[cK]at cI
  split at cI
  ·split at cI
   ·rename_i yb _ _ TL xs bC mA
    simp only[Option.some.injEq,gb.call.injEq]at cI
    obtain⟨rfl,rfl⟩:=cI
    have xM:yb= .tmp d0:=by
     cases yb with
     |tmp t=>simp only[dO,Option.some.injEq,aK.t.injEq]at bC;rw[bC]
     |const v=>simp only[dO,Option.map_eq_some_iff]at bC;obtain⟨c,_,bC⟩:=bC;cases bC
     |func g=>simp[dO]at bC
     |global g=>simp[dO]at bC
    subst xM
    have ta:execOp a.eval {dst,op:=.call {callee:=.value (.tmp d0),args:=nf,argTypes},type:=ty,pos,after,guard}=callFunc g ((nf.toList.map a.eval++arr.toList).toArray):=by
     have:a.eval (.tmp d0)= .func (.func g) #[] arr:=aM
     simp only[execOp,resolve,this,Deferred.ofValue,pure_bind,invoke]
     congr 1
     apply Array.ext';simp
    unfold Oper.wp
    rw[ta]
    have hlen:(nf.toList.map a.eval).length=xs.length:=by
     have:=congrArg List.length (s3 mA)
     simpa using this
    have yc:eA w F s (fun t=>a.tmps.getD t undef) (xs.map (aN s)++caps) (nf.toList.map a.eval++arr.toList):=KF (Bg aX (fun _=>rfl) _ _ (s3 mA)) aq
    rw[←ah]at yc
    obtain⟨gH,l2⟩:=KG yc
    have gq:∀d∈xs.map (aN s)++caps,d.plain=true:=by
     intro d aj
     rcases List.mem_append.1 aj with aj|aj
     ·obtain⟨x,aw,rfl⟩:=List.mem_map.1 aj
      exact Jo s x fun av e=>by
       subst e
       have hm:=s3 mA
       have:some (aK.c av)∈xs.map some:=List.mem_map.2 ⟨_,aw,rfl⟩
       rw[←hm]at this
       obtain⟨o,_,cr⟩:=List.mem_map.1 this
       cases o with
       |const v=>simp only[dO,Option.map_eq_some_iff]at cr;obtain⟨c,aq,e⟩:=cr;cases e;exact Fb aq
       |tmp n=>simp[dO]at cr
       |func g=>simp[dO]at cr
       |global g=>simp[dO]at cr
     ·obtain⟨k,hk⟩:=List.getElem?_of_mem aj
      exact AP gI hk
    have vu:=KA (C:=C) aX (ps:=ps) (vs:=nf.toList.map a.eval++arr.toList) (f:=g) (r:=r) (by simpa using gH)
     (fun i p v au aM=>⟨gq p.a (by rw[←ah];exact List.mem_map.2 ⟨p,List.mem_of_getElem? au,rfl⟩),l2 i p.a v (by simp[au]) aM⟩) aC a8
     (fun Fc mB eF bI j2 au=>by
      refine bK w Fc mB eF _ (by rw[←gH];simp) ?_ au
      obtain⟨b,BP,fr,aS,aZ,aQ⟩:=VF
      refine⟨b,BP,fr,?_,?_,bI b aQ,fun aw=>by obtain⟨u,hu⟩:=j2 b aw;exact aX.fz u b hu aQ⟩
      ·rw[List.getD_eq_getElem?_getD,List.getElem?_append_right (by omega),hlen,Nat.add_sub_cancel_left,←List.getD_eq_getElem?_getD];exact aS
      ·rw[aZ,←hlen,List.drop_left])
     cU cJ
    rcases vu with⟨dw,bg⟩|⟨v,aG,dw,b2,aR,bg,di⟩
    ·rw[dw,Oper.upon_enter]
     refine Calls.mono bg ?_
     rintro e aG ⟨v,rfl,b2,aR,b8,cy⟩
     exact a6 _ _ _ fw (Rel.put iY dR hS b8 cy.1 aj)
    ·rw[dw,Oper.upon_value]
     exact a6 _ _ _ fw (Rel.put iY dR hS bg di.1 aj)
   ·cases cI
  ·split at cI
   ·simp only[Option.map_eq_some_iff]at cI;obtain⟨_,_,cI⟩:=cI;cases cI
   ·cases cI
  ·split at cI
   ·simp only[Option.map_eq_some_iff]at cI;obtain⟨_,_,cI⟩:=cI;cases cI
   ·cases cI
  iterate 3
   ·split at cI
    ·split at cI<;>cases cI
    ·cases cI
  ·cases cI
 |makeFunc fn first cs=>
  cases fn<;>simp only[cK]at cI<;>first|(cases cI;done)|(split at cI<;>simp at cI)
 |slice T x dv ao hj=>
  cases hj<;>simp only[cK]at cI<;>first|(cases cI;done)|(split at cI<;>simp at cI)
 |makeMap T r=>cases r<;>simp only[cK]at cI<;>simp at cI
 |lookup T x i c=>cases c<;>simp only[cK]at cI<;>first|(cases cI;done)|(split at cI<;>simp at cI)
 |_=>simp only[cK]at cI<;>first|(cases cI;done)|(simp at cI;done)|(split at cI<;>simp at cI)
theorem VG {op:Op} {T:TypeId} {x:aK} (h:cK op=some (.ld T x)):∃y,op= .load T y∧dO y=some x:=by
 cases op with
 |load ya y=>
  simp only[cK,Option.map_eq_some_iff]at h
  obtain⟨cz,aw,h⟩:=h
  cases h
  exact⟨y,rfl,aw⟩
 |call c=>
  obtain⟨callee,nf,argTypes⟩:=c
  simp only[cK]at h
  split at h<;>(try split at h)<;>(try split at h)<;>(try simp[Option.map_eq_some_iff]at h)
 |makeFunc fn first cs=>
  cases fn<;>simp only[cK]at h<;>first|(cases h;done)|(split at h<;>simp at h)
 |slice T x dv ao hj=>
  cases hj<;>simp only[cK]at h<;>first|(cases h;done)|(split at h<;>simp at h)
 |makeMap T r=>cases r<;>simp only[cK]at h<;>simp at h
 |lookup T x i c=>cases c<;>simp only[cK]at h<;>first|(cases h;done)|(split at h<;>simp at h)
 |_=>simp only[cK]at h<;>first|(cases h;done)|(simp at h;done)|(split at h<;>simp at h)
theorem BQ {y:Operand} {k:Nat} (h:dO y=some (.t k)):y= .tmp k:=by
 cases y with
 |tmp t=>simp only[dO,Option.some.injEq,aK.t.injEq]at h;rw[h]
 |const v=>simp only[dO,Option.map_eq_some_iff]at h;obtain⟨c,_,h⟩:=h;cases h
 |func g=>simp[dO]at h
 |global g=>simp[dO]at h
def qb (k:Nat) (s:ar) (j:Nat):I:=if j=k then .ref .hole else js j (s j)
theorem VH {aA:Nat→Value} {b k:Nat} {v:Value} {ty:TypeId} {fr:Nat×Nat} (aX:bQ w0 F0 X F S s aA w) (hk:aA k= .pointer (some ⟨b,0,none⟩)) (ae:F b) (aq:w.heap[b]? =some (.cells #[v] ty fr)) (h1:Value.gC v=true):
  ∀cs:List Nat,eA w F s aA (cs.map (qb k s)) (cs.map aA)∧I.dX (cs.map (qb k s))=true:=by
 intro cs
 induction cs with
 |nil=>exact⟨by rw[List.map_nil,List.map_nil,eA],rfl⟩
 |cons j cs ih=>
  simp only[List.map_cons]
  have b_:aL w F s aA (qb k s j) (aA j) (fun _=>False)∧(qb k s j).plain=true:=by
   unfold qb
   split
   ·rename_i e;subst e
    rw[hk]
    refine⟨(aL.cV rfl).2 ⟨rfl,?_⟩,rfl⟩
    rw[ax]
    refine⟨b,0,[v],rfl,ae,?_,?_⟩
    ·intro i c ao
     cases i with
     |zero=>simp at ao;subst ao;simp[World.cell?,aq]
     |succ i=>simp at ao
    ·rw[ax];exact⟨v,h1,rfl⟩
   ·unfold js
    split
    ·rename_i au
     exact⟨aL.nothing au (aX.dF j),au⟩
    ·rename_i au
     refine⟨?_,rfl⟩
     rw[aL]
     intro d aj au
     simp only[I.sub,Option.some.injEq]at aj
     subst aj
     have ba:(s j).tree=true:=by
      cases ag:s j<;>first|rfl|(rw[ag]at au;simp[I.plain]at au)
     exact⟨_,none,rfl,rfl,((aL.cV ba).1 (aX.dF j)).1⟩
  refine⟨?_,?_⟩
  ·rw[eA];exact⟨_,_,rfl,b_.1,ih.1⟩
  ·simp only[I.dX,b_.2,ih.2,Bool.and_self]
theorem Ml (bu:C.Ok) {id:Nat} {ops:Array Oper} {T:TypeId} {k k0 d0:Nat} {m rest:List cj} {args:List aK} {d1:Option Nat} {g:FuncId} {cs:List Nat} {b:Nat} {ty:TypeId} {fr:Nat×Nat} {K:ar→Prop}
  (rT:p6 n ops ops.toList=some ((⟨some d0,.ld T (.t k),none⟩::(m++⟨d1,.call (.t d0) args,none⟩::rest):List cj).map cj.un))
  (jJ:(C.T T).flat=true) (hm:∀r∈m,∀d,r.dst=some d→d≠d0∧d∉cs) (lg:d0∉cs) (wh:cs[k0]? =some k)
  (iY:a.defers=[]) (dR:a.tmps.size=n.n) (hS:∀i∈n.fx,a.tmps.getD i undef=ρ i) (aX:bQ w0 F0 X F S s (fun t=>a.tmps.getD t undef) w)
  (ae:F b) (hk:a.tmps.getD k undef= .pointer (some ⟨b,0,none⟩)) (vd:w.heap[b]? =some (.cells #[.func (.func g) #[] (cs.map fun j=>a.tmps.getD j undef).toArray] ty fr))
  (h:lN C (fin s (some d0) .hole) m fun s1=>∃ps r,ps.map (·.a)=args.map (aN s1)++cs.map (qb k s1)∧(∀p∈ps,p.ok s1)∧iS ps=true∧
   mI C g args.length (args.length+k0) (ps.map (·.d)) r (ps.map (·.o))∧r.res=true∧(kj ps=true→r.dd=true∧∀p∈ps,p.o.dd=true)∧lN C (fin (h9 (fo s1 ps) ps) d1 r) rest K)
  (a6:∀az c4 aG,K az→Rel w0 F0 X n ρ az c4 aG→Q .normal c4 aG):(Code.region id ops false).wp C.P Q a w:=by
 obtain⟨hl,p7⟩:=ye rT
 have GY:∀(i:Nat) (r:cj),(⟨some d0,.ld T (.t k),none⟩::(m++⟨d1,.call (.t d0) args,none⟩::rest):List cj)[i]? =some r→∃o,ops[i]? =some o∧p5 n ops o=some r.un:=by
  intro i r ao
  have e7:i<ops.toList.length:=by
   rw[hl,List.length_map]
   exact(List.getElem?_eq_some_iff.1 ao).1
  obtain⟨gU,h1,ah⟩:=p7 i _ (List.getElem?_eq_getElem e7)
  rw[List.getElem?_map,ao]at h1
  simp only[Option.map_some,Option.some.injEq]at h1
  exact⟨_,by rw[←Array.getElem?_toList];exact List.getElem?_eq_getElem e7,by rw[h1];exact ah⟩
 have wi:∀{r:cj} {o:Oper},r.guard=none→p5 n ops o=some r.un→r.dst=o.dst∧o.guard=none∧pe o.op=r.b0.base∧lL n o.dst=true:=by
  intro r o b9 h
  unfold p5 at h
  split at h
  ·rename_i aj
   split at h
   ·rename_i VI h8
    simp only[cj.un,Option.some.injEq,cj.mk.injEq]at h
    obtain⟨aS,aZ,aQ⟩:=h
    refine⟨aS.symm,?_,aZ,aj⟩
    rw[aQ,b9]at h8
    cases cr:o.guard with
    |none=>rfl
    |some Gi=>
     rw[cr]at h8;simp only[x9]at h8;split at h8<;>cases h8
   ·cases h
  ·cases h
 have VJ:ops.size=m.length+rest.length+2:=by
  have:ops.toList.length=ops.size:=by simp
  rw[←this,hl];simp;omega
 have VK:List.range ops.size=0::((List.range m.length).map (·+1)++((m.length+1)::(List.range rest.length).map (·+(m.length+2)))):=by
  rw[VJ,show m.length+rest.length+2=(m.length+rest.length+1)+1 from rfl,List.range_succ_eq_map]
  congr 1
  rw[show m.length+rest.length+1=m.length+(rest.length+1) by omega,List.range_add,List.map_append,List.range_succ_eq_map]
  simp only[List.map_map,List.map_cons,Nat.add_zero]
  congr 1
  congr 1
  apply List.map_congr_left
  intro x _;simp;omega
 obtain⟨r4,VL,lp⟩:=GY 0 _ rfl
 obtain⟨hd,gF,h7,iy⟩:=wi rfl lp
 change pe r4.op= .ld T (.t k)at h7
 have yy:cK r4.op=some (.ld T (.t k)):=by
  rcases nG h7 with h|h
  ·cases h
  ·exact h
 obtain⟨y,bt,VM⟩:=VG yy
 have:=BQ VM;subst this
 let iE:Value:=.func (.func g) #[] (cs.map fun j=>a.tmps.getD j undef).toArray
 have kg:Rd w b 0 [iE]:=by
  intro i c ao
  cases i with
  |zero=>simp at ao;subst ao;simp[World.cell?,vd,iE]
  |succ i=>simp at ao
 refine wp_region ?_
 rw[VK]
 simp only[wpOps,VL]
 show(if Region.wanted r4 (yielded ops a.tmps)=true then r4.wp C.P a w _ Q∨(r4.asks C.P a w∧LetsOut Q)else _)
 rw[if_pos (Bn gF)]
 left
 have ta:(execOp a.eval r4).run C.P w= .ok (.value iE) w:=by
  obtain⟨dst,op,ty,pos,after,guard⟩:=r4
  simp only at bt
  subst bt
  have:a.eval (.tmp k)= .pointer (some ⟨b,0,none⟩):=hk
  simp[execOp,this,Instr.loadAt,Instr.sureAddr,Ju bu jJ kg]
 unfold Oper.wp
 rw[ta,Oper.upon_value]
 have GZ:some d0=r4.dst:=hd
 rw[←GZ]at iy⊢
 let R:Act:=a.put (some d0) iE
 let oD:Fr:=⟨n.n,d0::k::(cs++n.fx)⟩
 let ρ1:Nat→Value:=fun t=>R.tmps.getD t undef
 have BR:k∈cs:=List.mem_of_getElem? wh
 have p0:=aX.base
 have G0:Rel w F (fun b=>∃u,S u b) ⟨n.n,[]⟩ ρ1 (fin s (some d0) .hole) R w:=
  Rel.put (n:=⟨n.n,[]⟩) iY dR (fun i ao=>by cases ao) p0 (.inl ⟨rfl,by rw[aL];trivial⟩) (by
   simp only[lL,Bool.and_eq_true,decide_eq_true_eq]at iy⊢
   exact⟨iy.1,by simp⟩)
 have VN:Rel w F (fun b=>∃u,S u b) oD ρ1 (fin s (some d0) .hole) R w:=⟨G0.defers,G0.size,fun i _=>rfl,G0.rel⟩
 have Mm:∀t,t≠d0→ρ1 t=a.tmps.getD t undef:=by
  intro t ba
  have:=congrFun (x_ (n:=n) (dst:=some d0) (a:=a) iE dR iy).1 t
  simp only[nz]at this
  rw[jH _ _ ba]at this
  exact this
 have VO:ρ1 d0=iE:=by
  have:=congrFun (x_ (n:=n) (dst:=some d0) (a:=a) iE dR iy).1 d0
  simp only[nz]at this
  rw[l0]at this
  exact this
 have hw:=Mj C _ m [⟨some d0,.ld T (.t k),none⟩] (⟨d1,.call (.t d0) args,none⟩::rest) _ h
 have mid:∀az c4 aG,(∃ps r,ps.map (·.a)=args.map (aN az)++cs.map (qb k az)∧(∀p∈ps,p.ok az)∧iS ps=true∧
   mI C g args.length (args.length+k0) (ps.map (·.d)) r (ps.map (·.o))∧r.res=true∧(kj ps=true→r.dd=true∧∀p∈ps,p.o.dd=true)∧lN C (fin (h9 (fo az ps) ps) d1 r) rest K)→
   Rel w F (fun b=>∃u,S u b) oD ρ1 az c4 aG→wpOps C.P ops Q ((m.length+1)::(List.range rest.length).map (·+(m.length+2))) c4 aG:=by
  rintro s2 a2 gg ⟨ps,r,aS,aZ,aQ,cF,cR,ch,b3⟩ ⟨g1,g2,g3,s9,dU,g4⟩
  obtain⟨wj,VP,n5⟩:=GY (m.length+1) ⟨d1,.call (.t d0) args,none⟩ (by simp)
  obtain⟨fQ,hC,ie,JG⟩:=wi rfl n5
  simp only[wpOps,VP]
  show(if Region.wanted wj (yielded ops a2.tmps)=true then wj.wp C.P a2 gg _ Q∨(wj.asks C.P a2 gg∧LetsOut Q)else _)
  rw[if_pos (Bn hC)]
  left
  change pe wj.op= .call (.t d0) args at ie
  have VQ:cK wj.op=some (.call (.t d0) args):=by
   rcases nG ie with h|h
   ·cases h
   ·exact h
  have Mn:s9 b:=g4.ho b ae
  have Mo:gg.heap[b]? =some (.cells #[iE] ty fr):=by
   rw[g4.old b (aX.fm b ae) (fun⟨u,hu⟩=>aX.fz u b hu ae)];exact vd
  have Mp:∀j∈cs,a2.tmps.getD j undef=a.tmps.getD j undef:=by
   intro j b_
   rw[g3 j (by simp[oD,b_])]
   exact Mm j (fun e=>lg (e▸b_))
  have oZ:a2.tmps.getD k undef= .pointer (some ⟨b,0,none⟩):=(Mp k BR).trans hk
  have Mq:(cs.map fun j=>a.tmps.getD j undef)=cs.map fun j=>a2.tmps.getD j undef:=List.map_congr_left fun j b_=>(Mp j b_).symm
  obtain⟨cB,cu⟩:=VH (k:=k) g4 oZ Mn Mo rfl cs
  have FF:∀az c4 aG,lN C az rest K→Rel w F (fun b=>∃u,S u b) ⟨n.n,n.fx⟩ ρ az c4 aG→wpOps C.P ops Q ((List.range rest.length).map (·+(m.length+2))) c4 aG:=by
   intro e4 a3 mJ aC BS
   have Bx:=Mj C K rest ((⟨some d0,.ld T (.t k),none⟩::m)++[⟨d1,.call (.t d0) args,none⟩]) [] e4 aC
   have:=Gh (Q:=Q) bu (ops:=ops) (ros:=((⟨some d0,.ld T (.t k),none⟩::m)++[⟨d1,.call (.t d0) args,none⟩])++(rest++[])) (l2:=[]) (K:=K) (fun az c4 aG lj eV=>by
     obtain⟨yz,z2,z3,VR,JQ,z4⟩:=eV
     exact a6 az c4 aG lj ⟨yz,z2,z3,VR,JQ,aX.VD z4⟩) ((List.range rest.length).map (·+(m.length+2))) (fun i ao=>by
      have yl:((⟨some d0,.ld T (.t k),none⟩::m)++[⟨d1,.call (.t d0) args,none⟩])++(rest++[])=(⟨some d0,.ld T (.t k),none⟩::(m++⟨d1,.call (.t d0) args,none⟩::rest):List cj):=by simp
      rw[yl]
      refine⟨fun l1=> ?_,fun o cr=> ?_⟩
      ·rw[List.getElem?_eq_none_iff]
       have:=Array.getElem?_eq_none_iff.1 l1
       simp;omega
      ·obtain⟨al,h3,ah⟩:=p7 i o (by simpa using cr)
       obtain⟨r,h1,rfl⟩:∃r,(⟨some d0,.ld T (.t k),none⟩::(m++⟨d1,.call (.t d0) args,none⟩::rest):List cj)[i]? =some r∧r.un=al:=by
        rw[List.getElem?_map,Option.map_eq_some_iff]at h3;exact h3
       exact⟨r,h1,ah⟩) e4 a3 mJ (by
      have e:((⟨some d0,.ld T (.t k),none⟩::m)++[⟨d1,.call (.t d0) args,none⟩]:List cj).length=m.length+2:=by simp
      rw[e]at Bx;exact Bx) BS
   rwa [List.append_nil]at this
  have VS:∀i∈n.fx,a2.tmps.getD i undef=ρ i:=by
   intro i ao
   rw[g3 i (by simp[oD,ao]),Mm i (fun e=> ?_)]
   ·exact hS i ao
   ·simp only[lL,Bool.and_eq_true,Bool.not_eq_true',List.contains_eq_mem,decide_eq_false_iff_not]at iy
    exact iy.2 (e▸ao)
  have Mk:k0<cs.length:=(List.getElem?_eq_some_iff.1 wh).1
  have VT:wj.dst=d1:=fQ.symm
  exact VE (n:=n) (ρ:=ρ) (K:=fun az=>lN C az rest K) g1 g2 VS g4 VQ JG
   (arr:=(cs.map fun j=>a2.tmps.getD j undef).toArray) (k:=k0) (caps:=cs.map (qb k s2)) (g:=g) (ps:=ps) (r:=r)
   (by rw[g3 d0 (by simp[oD]),VO];simp only[iE,Mq]) (by simpa using cB) cu
   ⟨b,ty,fr,by
     rw[List.getD_eq_getElem?_getD,List.getElem?_map,wh];exact oZ,by rw[Mo];simp only[iE,Mq],Mn⟩ (by simpa using Mk)
   aS aZ aQ cF cR ch (by rw[VT];exact b3) FF
 have:=Gh (Q:=Q) bu (ops:=ops) (ros:=[⟨some d0,.ld T (.t k),none⟩]++(m++⟨d1,.call (.t d0) args,none⟩::rest)) (l2:=(m.length+1)::(List.range rest.length).map (·+(m.length+2))) mid
  ((List.range m.length).map (·+1)) (fun i ao=>by
    obtain⟨j,b_,rfl⟩:=List.mem_map.1 ao
    have yA:j<m.length:=List.mem_range.1 b_
    refine⟨fun l1=> ?_,fun o cr=> ?_⟩
    ·have:=Array.getElem?_eq_none_iff.1 l1
     omega
    ·obtain⟨nE,yp,fB⟩:=GY (j+1) m[j] (by
      simp only[List.getElem?_cons_succ]
      rw[List.getElem?_append_left yA,List.getElem?_eq_getElem yA])
     have heq:nE=o:=by rw[yp]at cr;exact Option.some.inj cr
     subst heq
     refine⟨m[j],by
      simp only[List.singleton_append,List.getElem?_cons_succ]
      rw[List.getElem?_append_left yA,List.getElem?_eq_getElem yA],?_⟩
     have VU:=hm m[j] (List.getElem_mem yA)
     unfold p5 at fB⊢
     split at fB
     ·rename_i aj
      rw[if_pos]
      ·exact fB
      ·cases Mr:nE.dst with
       |none=>rfl
       |some d=>
        rw[Mr]at aj
        simp only[lL,Bool.and_eq_true,decide_eq_true_eq,Bool.not_eq_true',List.contains_eq_mem,decide_eq_false_iff_not]at aj⊢
        refine⟨aj.1,?_⟩
        have Bo:m[j].dst=some d:=by
         split at fB
         ·simp only[cj.un,Option.some.injEq,cj.mk.injEq]at fB
          rw[←fB.1,Mr]
         ·cases fB
        obtain⟨m1,m2⟩:=VU d Bo
        simp only[oD,List.mem_cons,List.mem_append,not_or]
        exact⟨m1,fun e=>m2 (e▸BR),m2,aj.2⟩
     ·cases fB) (fin s (some d0) .hole) R w (by simpa using hw) VN
 exact this
def Ms (C:cw) (f:FuncId) (k k0:Nat) (cs:List Nat) (args:List aK) (d1:Option Nat) (rest:List cj) (keep:List Nat) (P:List (Nat×I)→Prop) (s1:ar):Prop:=
 ∃ps r,ps.map (·.a)=args.map (aN s1)++cs.map (qb k s1)∧(∀p∈ps,p.ok s1)∧iS ps=true∧
  mI C f args.length (args.length+k0) (ps.map (·.d)) r (ps.map (·.o))∧r.res=true∧(kj ps=true→r.dd=true∧∀p∈ps,p.o.dd=true)∧
  cT C (fin (h9 (fo s1 ps) ps) d1 r) rest none (fun _ s=>P (jf keep s))
def pk (C:cw) (f:FuncId) (k k0 d0:Nat) (cs:List Nat) (m:List cj) (args:List aK) (d1:Option Nat) (rest:List cj) (keep:List Nat) (P:List (Nat×I)→Prop) (s:ar):Prop:=
 cT C (fin s (some d0) .hole) m none fun _ s1=>Ms C f k k0 cs args d1 rest keep P s1
def Mt (C:cw) (f:FuncId) (k k0 d0:Nat) (cs:List Nat) (m:List cj) (args:List aK) (d1:Option Nat) (rest:List cj) (keep:List Nat) (K:ar→Prop) (s:ar):Prop:=
 pk C f k k0 d0 cs m args d1 rest keep (fun l=>K (ab l)) s
def G1 (f:Nat→Bool) (m:List cj):Bool:=m.all fun r=>match r.dst with
 |none=>true
 |some d=>f d
theorem Mu {f:Nat→Bool} {m:List cj} (h:G1 f m=true):∀r∈m,∀d,r.dst=some d→f d=true:=by
 intro r aX d aj
 have:=List.all_eq_true.1 h r aX
 rw[aj]at this;exact this
theorem Mv (k:List Nat) (s:ar):td s (jf k s):=by
 intro p au
 obtain⟨t,_,rfl⟩:=List.mem_map.1 au
 exact .inl rfl
def G2 (C:cw) (f:FuncId) (k k0 d0:Nat) (cs:List Nat) (m:List cj) (args:List aK) (d1:Option Nat) (rest:List cj) (keep:List Nat):(Exit→ar→Prop)→ar→Prop:=
 fun Q s=>Mt C f k k0 d0 cs m args d1 rest keep (Q .normal) s
def Mw (T:TypeId) (k d0:Nat) (m:List cj) (args:List aK) (d1:Option Nat) (rest:List cj):J:=
 .ca (⟨some d0,.ld T (.t k),none⟩::(m++⟨d1,.call (.t d0) args,none⟩::rest)) none
theorem VV (vs:List Value):∀(m n:Nat),m+n=vs.length→vs.drop m=((List.range n).map (·+m)).map fun j=>vs.getD j undef:=by
 intro m n h
 apply List.ext_getElem?
 intro i
 rw[List.getElem?_drop,List.map_map,List.getElem?_map]
 by_cases ao:i<n
 ·rw[List.getElem?_range ao,List.getElem?_eq_getElem (by omega)]
  simp only[Option.map_some,Function.comp]
  rw[List.getD_eq_getElem?_getD,List.getElem?_eq_getElem (by omega)]
  simp only[Option.getD_some,Option.some.injEq]
  congr 1;omega
 ·rw[List.getElem?_eq_none (by omega),List.getElem?_eq_none (by simp;omega)];rfl
theorem BT {c:Code} {rs:List cj} (h:bn n c=some (.ca rs none)):∃id ops,c= .region id ops false∧p6 n ops ops.toList=some rs:=by
 cases c with
 |region id ops draw=>
  cases draw with
  |false=>
   simp only[bn,Option.map_eq_some_iff]at h
   obtain⟨r,h1,ah⟩:=h
   cases ah
   exact⟨id,ops,rfl,h1⟩
  |true=>
   simp only[bn]at h
   split at h
   ·simp only[Option.map_eq_some_iff]at h
    obtain⟨r,h1,ah⟩:=h
    cases ah
   ·cases h
 |seq a b=>simp only[bn]at h;split at h<;>cases h
 |cond c a b=>simp only[bn]at h;split at h<;>cases h
 |block id b=>simp only[bn,Option.map_eq_some_iff]at h;obtain⟨r,h1,ah⟩:=h;cases ah
 |loop b=>simp only[bn,Option.map_eq_some_iff]at h;obtain⟨r,h1,ah⟩:=h;cases ah
 |_=>simp[bn]at h
def BU (C:cw) (f:FuncId) (fx:List Nat) (VW m k:Nat) (T:(Exit→ar→Prop)→ar→Prop) (b:J):Prop:=
 ∃(ty:TypeId) (k0 d0 nN:Nat) (ix:List cj) (args:List aK) (d1:Option Nat) (rest:List cj) (keep:List Nat),
  T=G2 C f k k0 d0 ((List.range nN).map (·+m)) ix args d1 rest keep∧b=Mw ty k d0 ix args d1 rest∧(C.T ty).flat=true∧G1 (fun d=>d !=d0&&decide (m+nN≤d)) ix=true∧decide (m+nN≤d0)=true∧
  decide (k0<nN)=true∧k=m+k0∧((List.range nN).all fun j=>fx.contains (m+j))=true∧args.length=m∧m+nN=VW
theorem mI.of_wp (bu:C.Ok) {f:FuncId} {fn:Func} {c:Code} {dJ:J} {fx:List Nat} {as outs:List I} {r:I} {k m:Nat} (bC:C.P.funcs[f]? =some fn) (ae:fn.body=some c)
  (k1:(fn.name== "runtime.NumGoroutine")=false) (ag:bn ⟨fn.ntmps,fx⟩ c=some dJ.strip) (a6:as.length≤fn.ntmps)
  (hk:dJ.ng (BU C f fx as.length m k))
  (h:∀Q:Exit→ar→Prop,(∀s,ev (Ends C fx fn.results.toList r outs) s→Q .ret s)→(∀s,ev (Ends C fx fn.results.toList r outs) s→Q .normal s)→dc C dJ Q (ab (num 0 as))):mI C f m k as r outs:=by
 rintro w F X S vs hl ⟨b,VX,fr,aS,aZ,aQ,cF⟩ aX
 refine Gu (fx:=fx) bu bC ae k1 a6 hl aX fun a nH eE=> ?_
 refine Gr bu (H:=BU C f fx as.length m k) ?_ c (by rw[J.Gm];exact ag) (J.Bs dJ hk) (Bt dJ ?_) nH
 ·rintro c T fZ Q s R fe ⟨ty,k0,d0,nN,ix,args,d1,rest,keep,rfl,rfl,jJ,hm,lg,BV,hk,hS,hlen,aDO⟩ yy VY ⟨g1,g2,g3,vt,cq,g4⟩
  replace hm:∀r∈ix,∀d,r.dst=some d→d≠d0∧m+nN≤d:=fun r aX d aj=>by
   have:=Mu hm r aX d aj
   simpa using this
  replace lg:=of_decide_eq_true lg
  replace BV:=of_decide_eq_true BV
  replace hS:∀j,j<nN→m+j∈fx:=fun j b_=>by
   have:=List.all_eq_true.1 hS j (List.mem_range.2 b_)
   simpa using this
  obtain⟨id,ops,rfl,rT⟩:=BT yy
  have Mx:∀j,j<nN→R.tmps.getD (j+m) undef=vs.getD (j+m) undef:=fun j b_=>by
   rw[Nat.add_comm];exact g3 _ (hS j b_)
  have hb:((List.range nN).map (·+m)).map (fun j=>R.tmps.getD j undef)=vs.drop m:=by
   rw[VV vs m nN (by omega),List.map_map,List.map_map]
   apply List.map_congr_left
   intro j b_
   exact Mx j (List.mem_range.1 b_)
  refine Ml (Q:=te w F X ⟨fn.ntmps,fx⟩ (hs vs) Q) (K:=ev (Q .normal)) (b:=b) (ty:=VX) (fr:=fr) (g:=f) (k0:=k0) (cs:=(List.range nN).map (·+m)) bu rT jJ (fun r aX d aj=>⟨(hm r aX d aj).1,fun r1=> ?_⟩) (fun r1=> ?_) ?_ g1 g2 g3 g4 (g4.ho b aQ) ?_ ?_ ?_ (fun az c4 aG hk eV=>eV.ev hk)
  ·obtain⟨j,b_,rfl⟩:=List.mem_map.1 r1
   have:=(hm r aX _ aj).2;have:=List.mem_range.1 b_;omega
  ·obtain⟨j,b_,e⟩:=List.mem_map.1 r1
   have:=List.mem_range.1 b_;omega
  ·rw[List.getElem?_map,List.getElem?_range BV,hk];simp[Nat.add_comm]
  ·rw[hk,Nat.add_comm,Mx k0 BV,Nat.add_comm,←hk];exact aS
  ·rw[hb,g4.old b (aX.fm b aQ) cF];exact aZ
  ·refine ti (fun _ s1=> ?_) VY
   rintro⟨ps,r,hd,gF,h7,iy,oe,tb,yd⟩
   exact⟨ps,r,hd,gF,h7,iy,oe,tb,ti (fun _ s h=>.inr ⟨_,Mv _ _,h⟩) yd⟩
 ·rw[Bw]
  exact h _ (fun s h=>⟨.inr rfl,h⟩) (fun s h=>⟨.inl rfl,h⟩)
theorem VZ {Q:Exit→ar→Prop} {l:List (Nat×I)} {f:FuncId} {k k0 d0:Nat} {cs:List Nat} {m:List cj} {args:List aK} {d1:Option Nat} {rest:List cj} {keep:List Nat} {b:J} (eu:List (Nat×I))
  (h:∀P:List (Nat×I)→Prop,P eu→pk C f k k0 d0 cs m args d1 rest keep P (ab l)) (hk:Q .normal (ab eu)):dc C (.ju (G2 C f k k0 d0 cs m args d1 rest keep) b) Q (ab l):=
 fun eM G3=>h (fun l=>eM .normal (ab l)) (G3 _ _ hk)
theorem My {l:List (Nat×I)} {f:FuncId} {k k0:Nat} {cs:List Nat} {args:List aK} {d1:Option Nat} {rest:List cj} {keep:List Nat} {P:List (Nat×I)→Prop} {r:I} (ps:List c2)
  (bK:mI C f args.length (args.length+k0) (ps.map (·.d)) r (ps.map (·.o))) (ah:ps.map (·.a)=iC (ab l) args++cs.map (qb k (ab l))) (aC:qa (ab l) ps) (a8:iS ps=true)
  (cU:r.res=true) (cJ:kj ps=false∨(r.dd&&qX ps)=true)
  (jT:cT C (fin (h9 (fo (ab l) ps) ps) d1 r) rest none (fun _ s=>P (jf keep s))):Ms C f k k0 cs args d1 rest keep P (ab l):=by
 refine⟨ps,r,by rw[ah,vF],BK aC,a8,bK,cU,?_,jT⟩
 intro hl
 rcases cJ with cJ|cJ
 ·rw[cJ]at hl;cases hl
 ·rw[Bool.and_eq_true]at cJ;exact⟨cJ.1,BL cJ.2⟩
end
end Go.cZ
