/- Part of a proof that a law returns true for every input. No condition. -/
import Derived.Test.YtpddiknnnoomoaaFwI
namespace Go.bV
def lS (C:bq) (f:FuncId) (m k:Nat) (as:List j) (r:j) (outs:List j):Prop:=
 ∀(w:World) (F X:Nat→Prop) (S:Nat→Nat→Prop) (vs:List Value),vs.length=as.length→
  (∃b ty fr,vs.getD k undef= .pointer (some ⟨b,0,none⟩)∧w.heap[b]? =some (.cells #[.func (.func f) #[] (vs.drop m).toArray] ty fr)∧F b∧¬X b)→
  aY w F X F S (df as) (dX vs) w→
  kc C.P f vs.toArray w fun v aq=>∃a_ ay,aY w F X a_ ay (df (r::outs)) (dX (v::vs)) aq
section
variable {C:bq} {w0 w:World} {F0 X F a_:Nat→Prop} {S ay:Nat→Nat→Prop} {n:Fr} {ρ:Nat→Value} {s aj:af} {ak gC:Nat→Value} {a:Act} {av:j} {Q:Exit→Act→World→Prop} {aq:World}
theorem aY.base (h:aY w0 F0 X F S s ak w):aY w F (fun b=>∃u,S u b) F S s ak w where
 ep:=fun _ h=>h
 eC:=fun _ h=>.inl h
 c_:=h.c_
 cP:=h.cP
 dj:=h.dj
 c8:=h.c8
 cf:=fun u b I=>.inl ⟨u,I⟩
 b0:=h.b0
 old:=fun _ _ _=>rfl
 size:=Nat.le_refl _
 os:=rfl
 tape:=rfl
 output:=Out.refl _
 er:=h.er.next h.size h.old fun b ⟨u,hu⟩=>h.cf u b hu
theorem aY.GS (h:aY w0 F0 X F S s ak w) (a5:aY w F (fun b=>∃u,S u b) a_ ay aj gC aq):aY w0 F0 X a_ ay aj gC aq where
 ep:=fun b I=>a5.ep b (h.ep b I)
 eC:=fun b I=>by
  rcases a5.eC b I with I|⟨u,I⟩|I
  ·exact h.eC b I
  ·exact .inr (h.cf u b I)
  ·exact .inr (.inr (Nat.le_trans h.size I))
 c_:=a5.c_
 cP:=a5.cP
 dj:=a5.dj
 c8:=a5.c8
 cf:=fun u b I=>by
  rcases a5.cf u b I with⟨u,I⟩|I
  ·exact h.cf u b I
  ·exact .inr (Nat.le_trans h.size I)
 b0:=a5.b0
 old:=fun b I ga=>by
  refine(a5.old b (Nat.lt_of_lt_of_le I h.size) fun⟨u,hu⟩=> ?_).trans (h.old b I ga)
  rcases h.cf u b hu with ao|ao
  ·exact ga ao
  ·omega
 size:=Nat.le_trans h.size a5.size
 os:=a5.os.trans h.os
 tape:=a5.tape.trans h.tape
 output:=a5.output.trans h.output
 er:=h.er
inductive lT:List j→List j→Prop
 |nil:lT [] []
 |eq {a:j} {as gX:List j}:a.R=[]→lT as gX→lT (a::as) (a::gX)
 |wd {a b:j} {as gX:List j}:dh a b→a.tree=true→b.R=[]→lT as gX→lT (a::as) (b::gX)
theorem lT.get:∀{as gX:List j},lT as gX→∀p k,p∈num k gX→p.2.R=[]∧∃a,as[p.1-k]? =some a∧k≤p.1∧(p.2=a∨(a.tree=true∧dh a p.2))
 |_,_,.nil,p,k,an=>by simp[num]at an
 |_,_,.eq (a:=a) h hw,p,k,an=>by
  simp only[num,List.mem_cons]at an
  rcases an with rfl|an
  ·exact⟨h,a,by simp,Nat.le_refl _,.inl rfl⟩
  ·obtain⟨U,x,aa,aw,aN⟩:=hw.get p (k+1) an
   refine⟨U,x,?_,by omega,aN⟩
   rw[show p.1-k=(p.1-(k+1))+1 by omega,List.getElem?_cons_succ];exact aa
 |_,_,.wd (a:=a) h aG I hw,p,k,an=>by
  simp only[num,List.mem_cons]at an
  rcases an with rfl|an
  ·exact⟨I,a,by simp,Nat.le_refl _,.inr ⟨aG,h⟩⟩
  ·obtain⟨U,x,aa,aw,aN⟩:=hw.get p (k+1) an
   refine⟨U,x,?_,by omega,aN⟩
   rw[show p.1-k=(p.1-(k+1))+1 by omega,List.getElem?_cons_succ];exact aa
theorem lT.len:∀{as gX:List j},lT as gX→gX.length=as.length
 |_,_,.nil=>rfl
 |_,_,.eq _ hw=>by simp[hw.len]
 |_,_,.wd _ _ _ hw=>by simp[hw.len]
theorem AB (C:bq) (K:af→Prop):∀(rs pre post:List bm) (s:af),hr C s rs K→gn C (pre++(rs++post)) s ((List.range rs.length).map (·+pre.length)) K:=by
 intro rs
 induction rs with
 |nil=>intro pre post s h;exact h
 |cons r rs ih=>
  intro pre post s h
  rw[List.length_cons,List.range_succ_eq_map,List.map_cons,List.map_map]
  simp only[gn,Nat.zero_add]
  rw[List.getElem?_append_right (Nat.le_refl _)]
  simp only[Nat.sub_self,List.cons_append,List.getElem?_cons_zero]
  have key:∀s1,hr C s1 rs K→gn C (pre++r::(rs++post)) s1 ((List.range rs.length).map ((fun x=>x+pre.length)∘Nat.succ)) K:=by
   intro s1 U
   have:=ih (pre++[r]) post s1 U
   simp only[List.append_assoc,List.singleton_append,List.length_append,List.length_singleton]at this
   have e:((fun x=>x+pre.length)∘Nat.succ)=fun x=>x+(pre.length+1):=by funext x;simp;omega
   rw[e];exact this
  simp only[hr]at h
  exact vw h key
theorem GU (fH:a.defers=[]) (cp:a.tmps.size=n.n) (eW:∀i∈n.fx,a.tmps.getD i undef=ρ i) (aA:aY w0 F0 X F S s (fun t=>a.tmps.getD t undef) w)
  {o:Oper} {d0 k:Nat} {args:List au} {g:FuncId} {caps:List j} {arr:Array Value} {ps:List bH} {r:j} (br:bR o.op=some (.call (.t d0) args)) (ab:ia n o.dst=true)
  (aC:a.tmps.getD d0 undef= .func (.func g) #[] arr) (ae:cx w F s (fun t=>a.tmps.getD t undef) caps arr.toList) (ef:j.dA caps=true)
  (GV:∃b ty fr,(arr.toList).getD k undef= .pointer (some ⟨b,0,none⟩)∧w.heap[b]? =some (.cells #[.func (.func g) #[] arr] ty fr)∧F b) (AD:k<arr.size)
  (aa:ps.map (·.a)=args.map (ax s)++caps) (aw:∀p∈ps,p.ok s) (aN:fG ps=true) (a2:lS C g args.length (args.length+k) (ps.map (·.d)) r (ps.map (·.o))) (bJ:r.res=true)
  (bO:g4 ps=true→r.c5=true∧∀p∈ps,p.o.c5=true) {K:af→Prop} {next:Act→World→Prop} (dg:K (fin (fB (dk s ps) ps) o.dst r))
  (aV:∀aj bM aq,K aj→Rel w0 F0 X n ρ aj bM aq→next bM aq):o.wp C.P a w next Q:=by
 obtain⟨dst,op,ty,pos,after,guard⟩:=o
 simp only at br ab dg
 cases op with
 |call c=>
  obtain⟨callee,ke,argTypes⟩:=c
  simp only[bR]at br
  split at br
  ·split at br
   ·rename_i qQ _ _ E2 xs bk k1
    simp only[Option.some.injEq,dE.call.injEq]at br
    obtain⟨rfl,rfl⟩:=br
    have qt:qQ= .tmp d0:=by
     cases qQ with
     |tmp t=>simp only[cd,Option.some.injEq,au.t.injEq]at bk;rw[bk]
     |const v=>simp only[cd,Option.map_eq_some_iff]at bk;obtain⟨c,_,bk⟩:=bk;cases bk
     |func g=>simp[cd]at bk
     |global g=>simp[cd]at bk
    subst qt
    have nJ:execOp a.eval {dst,op:=.call {callee:=.value (.tmp d0),args:=ke,argTypes},type:=ty,pos,after,guard}=callFunc g ((ke.toList.map a.eval++arr.toList).toArray):=by
     have:a.eval (.tmp d0)= .func (.func g) #[] arr:=aC
     simp only[execOp,resolve,this,Deferred.ofValue,pure_bind,invoke]
     congr 1
     apply Array.ext';simp
    unfold Oper.wp
    rw[nJ]
    have hlen:(ke.toList.map a.eval).length=xs.length:=by
     have:=congrArg List.length (nD k1)
     simpa using this
    have qR:cx w F s (fun t=>a.tmps.getD t undef) (xs.map (ax s)++caps) (ke.toList.map a.eval++arr.toList):=yV (sq aA (fun _=>rfl) _ _ (nD k1)) ae
    rw[←aa]at qR
    obtain⟨et,l2⟩:=yW qR
    have eJ:∀d∈xs.map (ax s)++caps,d.plain=true:=by
     intro d ab
     rcases List.mem_append.1 ab with ab|ab
     ·obtain⟨x,ao,rfl⟩:=List.mem_map.1 ab
      exact xx s x fun av e=>by
       subst e
       have hm:=nD k1
       have:some (au.c av)∈xs.map some:=List.mem_map.2 ⟨_,ao,rfl⟩
       rw[←hm]at this
       obtain⟨o,_,bs⟩:=List.mem_map.1 this
       cases o with
       |const v=>simp only[cd,Option.map_eq_some_iff]at bs;obtain⟨c,ae,e⟩:=bs;cases e;exact uc ae
       |tmp n=>simp[cd]at bs
       |func g=>simp[cd]at bs
       |global g=>simp[cd]at bs
     ·obtain⟨k,ai⟩:=List.getElem?_of_mem ab
      exact r0 ef ai
    have vj:=yQ (C:=C) aA (ps:=ps) (vs:=ke.toList.map a.eval++arr.toList) (f:=g) (r:=r) (by simpa using et)
     (fun i p v an aC=>⟨eJ p.a (by rw[←aa];exact List.mem_map.2 ⟨p,List.mem_of_getElem? an,rfl⟩),l2 i p.a v (by simp[an]) aC⟩) aw aN
     (fun Fc h_ cD aR ga an=>by
      refine a2 w Fc h_ cD _ (by rw[←et];simp) ?_ an
      obtain⟨b,GW,fr,aE,aL,bb⟩:=GV
      refine⟨b,GW,fr,?_,?_,aR b bb,fun ao=>by obtain⟨u,hu⟩:=ga b ao;exact aA.dj u b hu bb⟩
      ·rw[List.getD_eq_getElem?_getD,List.getElem?_append_right (by omega),hlen,Nat.add_sub_cancel_left,←List.getD_eq_getElem?_getD];exact aE
      ·rw[aL,←hlen,List.drop_left])
     bJ bO
    rcases vj with⟨eb,cw⟩|⟨v,aq,eb,a_,ay,cw,gD⟩
    ·rw[eb,Oper.upon_enter]
     refine Calls.mono cw ?_
     rintro e aq ⟨v,rfl,a_,ay,bn,bp⟩
     exact aV _ _ _ dg (Rel.put fH cp eW bn bp.1 ab)
    ·rw[eb,Oper.upon_value]
     exact aV _ _ _ dg (Rel.put fH cp eW cw gD.1 ab)
   ·cases br
  ·split at br
   ·simp only[Option.map_eq_some_iff]at br;obtain⟨_,_,br⟩:=br;cases br
   ·cases br
  ·split at br
   ·simp only[Option.map_eq_some_iff]at br;obtain⟨_,_,br⟩:=br;cases br
   ·cases br
  iterate 3
   ·split at br
    ·split at br<;>cases br
    ·cases br
  ·cases br
 |makeFunc fn first cs=>
  cases fn<;>simp only[bR]at br<;>first|(cases br;done)|(split at br<;>simp at br)
 |slice T x bw az e0=>
  cases e0<;>simp only[bR]at br<;>first|(cases br;done)|(split at br<;>simp at br)
 |makeMap T r=>cases r<;>simp only[bR]at br<;>simp at br
 |lookup T x i c=>cases c<;>simp only[bR]at br<;>first|(cases br;done)|(split at br<;>simp at br)
 |_=>simp only[bR]at br<;>first|(cases br;done)|(simp at br;done)|(split at br<;>simp at br)
theorem GX {op:Op} {T:TypeId} {x:au} (h:bR op=some (.cM T x)):∃y,op= .load T y∧cd y=some x:=by
 cases op with
 |load vh y=>
  simp only[bR,Option.map_eq_some_iff]at h
  obtain⟨b1,ao,h⟩:=h
  cases h
  exact⟨y,rfl,ao⟩
 |call c=>
  obtain⟨callee,ke,argTypes⟩:=c
  simp only[bR]at h
  split at h<;>(try split at h)<;>(try split at h)<;>(try simp[Option.map_eq_some_iff]at h)
 |makeFunc fn first cs=>
  cases fn<;>simp only[bR]at h<;>first|(cases h;done)|(split at h<;>simp at h)
 |slice T x bw az e0=>
  cases e0<;>simp only[bR]at h<;>first|(cases h;done)|(split at h<;>simp at h)
 |makeMap T r=>cases r<;>simp only[bR]at h<;>simp at h
 |lookup T x i c=>cases c<;>simp only[bR]at h<;>first|(cases h;done)|(split at h<;>simp at h)
 |_=>simp only[bR]at h<;>first|(cases h;done)|(simp at h;done)|(split at h<;>simp at h)
theorem GY {y:Operand} {k:Nat} (h:cd y=some (.t k)):y= .tmp k:=by
 cases y with
 |tmp t=>simp only[cd,Option.some.injEq,au.t.injEq]at h;rw[h]
 |const v=>simp only[cd,Option.map_eq_some_iff]at h;obtain⟨c,_,h⟩:=h;cases h
 |func g=>simp[cd]at h
 |global g=>simp[cd]at h
def lU (k:Nat) (s:af) (ad:Nat):j:=if ad=k then .ref .hole else fN ad (s ad)
theorem GZ {ak:Nat→Value} {b k:Nat} {v:Value} {ty:TypeId} {fr:Nat×Nat} (aA:aY w0 F0 X F S s ak w) (ai:ak k= .pointer (some ⟨b,0,none⟩)) (I:F b) (ae:w.heap[b]? =some (.cells #[v] ty fr)) (U:Value.ea v=true):
  ∀cs:List Nat,cx w F s ak (cs.map (lU k s)) (cs.map ak)∧j.dA (cs.map (lU k s))=true:=by
 intro cs
 induction cs with
 |nil=>exact⟨by rw[List.map_nil,List.map_nil,cx],rfl⟩
 |cons ad cs ih=>
  simp only[List.map_cons]
  have aS:ar w F s ak (lU k s ad) (ak ad) (fun _=>False)∧(lU k s ad).plain=true:=by
   unfold lU
   split
   ·rename_i e;subst e
    rw[ai]
    refine⟨(ar.bx rfl).2 ⟨rfl,?_⟩,rfl⟩
    rw[al]
    refine⟨b,0,[v],rfl,I,?_,?_⟩
    ·intro i c az
     cases i with
     |zero=>simp at az;subst az;simp[World.cell?,ae]
     |succ i=>simp at az
    ·rw[al];exact⟨v,U,rfl⟩
   ·unfold fN
    split
    ·rename_i an
     exact⟨ar.nothing an (aA.b0 ad),an⟩
    ·rename_i an
     refine⟨?_,rfl⟩
     rw[ar]
     intro d ab an
     simp only[j.sub,Option.some.injEq]at ab
     subst ab
     have aG:(s ad).tree=true:=by
      cases R:s ad<;>first|rfl|(rw[R]at an;simp[j.plain]at an)
     exact⟨_,none,rfl,rfl,((ar.bx aG).1 (aA.b0 ad)).1⟩
  refine⟨?_,?_⟩
  ·rw[cx];exact⟨_,_,rfl,aS.1,ih.1⟩
  ·simp only[j.dA,aS.2,ih.2,Bool.and_self]
theorem G0 (aQ:C.cY) {id:Nat} {ops:Array Oper} {T:TypeId} {k k0 d0:Nat} {m rest:List bm} {args:List au} {d1:Option Nat} {g:FuncId} {cs:List Nat} {b:Nat} {ty:TypeId} {fr:Nat×Nat} {K:af→Prop}
  (mF:k3 n ops ops.toList=some ((⟨some d0,.cM T (.t k),none⟩::(m++⟨d1,.call (.t d0) args,none⟩::rest):List bm).map bm.un))
  (hE:(C.T T).flat=true) (hm:∀r∈m,∀d,r.dst=some d→d≠d0∧d∉cs) (iG:d0∉cs) (v_:cs[k0]? =some k)
  (fH:a.defers=[]) (cp:a.tmps.size=n.n) (eW:∀i∈n.fx,a.tmps.getD i undef=ρ i) (aA:aY w0 F0 X F S s (fun t=>a.tmps.getD t undef) w)
  (I:F b) (ai:a.tmps.getD k undef= .pointer (some ⟨b,0,none⟩)) (mn:w.heap[b]? =some (.cells #[.func (.func g) #[] (cs.map fun ad=>a.tmps.getD ad undef).toArray] ty fr))
  (h:hr C (fin s (some d0) .hole) m fun s1=>∃ps r,ps.map (·.a)=args.map (ax s1)++cs.map (lU k s1)∧(∀p∈ps,p.ok s1)∧fG ps=true∧
   lS C g args.length (args.length+k0) (ps.map (·.d)) r (ps.map (·.o))∧r.res=true∧(g4 ps=true→r.c5=true∧∀p∈ps,p.o.c5=true)∧hr C (fin (fB (dk s1 ps) ps) d1 r) rest K)
  (aV:∀aj bM aq,K aj→Rel w0 F0 X n ρ aj bM aq→Q .normal bM aq):(Code.region id ops false).wp C.P Q a w:=by
 obtain⟨hl,jE⟩:=vm mF
 have wa:∀(i:Nat) (r:bm),(⟨some d0,.cM T (.t k),none⟩::(m++⟨d1,.call (.t d0) args,none⟩::rest):List bm)[i]? =some r→∃o,ops[i]? =some o∧k2 n ops o=some r.un:=by
  intro i r az
  have cv:i<ops.toList.length:=by
   rw[hl,List.length_map]
   exact(List.getElem?_eq_some_iff.1 az).1
  obtain⟨fy,U,aa⟩:=jE i _ (List.getElem?_eq_getElem cv)
  rw[List.getElem?_map,az]at U
  simp only[Option.map_some,Option.some.injEq]at U
  exact⟨_,by rw[←Array.getElem?_toList];exact List.getElem?_eq_getElem cv,by rw[U];exact aa⟩
 have wb:∀{r:bm} {o:Oper},r.guard=none→k2 n ops o=some r.un→r.dst=o.dst∧o.guard=none∧mD o.op=r.a7.base∧ia n o.dst=true:=by
  intro r o aZ h
  unfold k2 at h
  split at h
  ·rename_i ab
   split at h
   ·rename_i G1 eV
    simp only[bm.un,Option.some.injEq,bm.mk.injEq]at h
    obtain⟨aE,aL,bb⟩:=h
    refine⟨aE.symm,?_,aL,ab⟩
    rw[bb,aZ]at eV
    cases bs:o.guard with
    |none=>rfl
    |some vp=>
     rw[bs]at eV;simp only[qP]at eV;split at eV<;>cases eV
   ·cases h
  ·cases h
 have G2:ops.size=m.length+rest.length+2:=by
  have:ops.toList.length=ops.size:=by simp
  rw[←this,hl];simp;omega
 have G3:List.range ops.size=0::((List.range m.length).map (·+1)++((m.length+1)::(List.range rest.length).map (·+(m.length+2)))):=by
  rw[G2,show m.length+rest.length+2=(m.length+rest.length+1)+1 from rfl,List.range_succ_eq_map]
  congr 1
  rw[show m.length+rest.length+1=m.length+(rest.length+1) by omega,List.range_add,List.map_append,List.range_succ_eq_map]
  simp only[List.map_map,List.map_cons,Nat.add_zero]
  congr 1
  congr 1
  apply List.map_congr_left
  intro x _;simp;omega
 obtain⟨mP,G4,gG⟩:=wa 0 _ rfl
 obtain⟨fj,ek,gd,fQ⟩:=wb rfl gG
 change mD mP.op= .cM T (.t k)at gd
 have wc:bR mP.op=some (.cM T (.t k)):=by
  rcases k5 gd with h|h
  ·cases h
  ·exact h
 obtain⟨y,aW,G5⟩:=GX wc
 have:=GY G5;subst this
 let k8:Value:=.func (.func g) #[] (cs.map fun ad=>a.tmps.getD ad undef).toArray
 have gj:e8 w b 0 [k8]:=by
  intro i c az
  cases i with
  |zero=>simp at az;subst az;simp[World.cell?,mn,k8]
  |succ i=>simp at az
 refine wp_region ?_
 rw[G3]
 simp only[wpOps,G4]
 show(if Region.wanted mP (yielded ops a.tmps)=true then mP.wp C.P a w _ Q∨(mP.asks C.P a w∧LetsOut Q)else _)
 rw[if_pos (vn ek)]
 left
 have nJ:(execOp a.eval mP).run C.P w= .ok (.value k8) w:=by
  obtain⟨dst,op,ty,pos,after,guard⟩:=mP
  simp only at aW
  subst aW
  have:a.eval (.tmp k)= .pointer (some ⟨b,0,none⟩):=ai
  simp[execOp,this,Instr.loadAt,Instr.sureAddr,xD aQ hE gj]
 unfold Oper.wp
 rw[nJ,Oper.upon_value]
 have G6:some d0=mP.dst:=fj
 rw[←G6]at fQ⊢
 let aF:Act:=a.put (some d0) k8
 let jJ:Fr:=⟨n.n,d0::k::(cs++n.fx)⟩
 let ρ1:Nat→Value:=fun t=>aF.tmps.getD t undef
 have AE:k∈cs:=List.mem_of_getElem? v_
 have nz:=aA.base
 have we:Rel w F (fun b=>∃u,S u b) ⟨n.n,[]⟩ ρ1 (fin s (some d0) .hole) aF w:=
  Rel.put (n:=⟨n.n,[]⟩) fH cp (fun i az=>by cases az) nz (.inl ⟨rfl,by rw[ar];trivial⟩) (by
   simp only[ia,Bool.and_eq_true,decide_eq_true_eq]at fQ⊢
   exact⟨fQ.1,by simp⟩)
 have G7:Rel w F (fun b=>∃u,S u b) jJ ρ1 (fin s (some d0) .hole) aF w:=⟨we.defers,we.size,fun i _=>rfl,we.rel⟩
 have AF:∀t,t≠d0→ρ1 t=a.tmps.getD t undef:=by
  intro t aG
  have:=congrFun (vg (n:=n) (dst:=some d0) (a:=a) k8 cp fQ).1 t
  simp only[ly]at this
  rw[f_ _ _ aG]at this
  exact this
 have G8:ρ1 d0=k8:=by
  have:=congrFun (vg (n:=n) (dst:=some d0) (a:=a) k8 cp fQ).1 d0
  simp only[ly]at this
  rw[iA]at this
  exact this
 have hw:=AB C _ m [⟨some d0,.cM T (.t k),none⟩] (⟨d1,.call (.t d0) args,none⟩::rest) _ h
 have mid:∀aj bM aq,(∃ps r,ps.map (·.a)=args.map (ax aj)++cs.map (lU k aj)∧(∀p∈ps,p.ok aj)∧fG ps=true∧
   lS C g args.length (args.length+k0) (ps.map (·.d)) r (ps.map (·.o))∧r.res=true∧(g4 ps=true→r.c5=true∧∀p∈ps,p.o.c5=true)∧hr C (fin (fB (dk aj ps) ps) d1 r) rest K)→
   Rel w F (fun b=>∃u,S u b) jJ ρ1 aj bM aq→wpOps C.P ops Q ((m.length+1)::(List.range rest.length).map (·+(m.length+2))) bM aq:=by
  rintro s2 cj px ⟨ps,r,aE,aL,bb,b2,b9,bl,bf⟩ ⟨aD,aO,bg,qO,cc,b6⟩
  obtain⟨py,G9,kG⟩:=wa (m.length+1) ⟨d1,.call (.t d0) args,none⟩ (by simp)
  obtain⟨dw,dU,eB,sb⟩:=wb rfl kG
  simp only[wpOps,G9]
  show(if Region.wanted py (yielded ops cj.tmps)=true then py.wp C.P cj px _ Q∨(py.asks C.P cj px∧LetsOut Q)else _)
  rw[if_pos (vn dU)]
  left
  change mD py.op= .call (.t d0) args at eB
  have G_:bR py.op=some (.call (.t d0) args):=by
   rcases k5 eB with h|h
   ·cases h
   ·exact h
  have sU:qO b:=b6.ep b I
  have AG:px.heap[b]? =some (.cells #[k8] ty fr):=by
   rw[b6.old b (aA.c_ b I) (fun⟨u,hu⟩=>aA.dj u b hu I)];exact mn
  have AH:∀ad∈cs,cj.tmps.getD ad undef=a.tmps.getD ad undef:=by
   intro ad aS
   rw[bg ad (by simp[jJ,aS])]
   exact AF ad (fun e=>iG (e▸aS))
  have mm:cj.tmps.getD k undef= .pointer (some ⟨b,0,none⟩):=(AH k AE).trans ai
  have AJ:(cs.map fun ad=>a.tmps.getD ad undef)=cs.map fun ad=>cj.tmps.getD ad undef:=List.map_congr_left fun ad aS=>(AH ad aS).symm
  obtain⟨bz,bA⟩:=GZ (k:=k) b6 mm sU AG rfl cs
  have uI:∀aj bM aq,hr C aj rest K→Rel w F (fun b=>∃u,S u b) ⟨n.n,n.fx⟩ ρ aj bM aq→wpOps C.P ops Q ((List.range rest.length).map (·+(m.length+2))) bM aq:=by
   intro ee a3 Ha aw Hb
   have sF:=AB C K rest ((⟨some d0,.cM T (.t k),none⟩::m)++[⟨d1,.call (.t d0) args,none⟩]) [] ee aw
   have:=vo (Q:=Q) aQ (ops:=ops) (ros:=((⟨some d0,.cM T (.t k),none⟩::m)++[⟨d1,.call (.t d0) args,none⟩])++(rest++[])) (l2:=[]) (K:=K) (fun aj bM aq hG cQ=>by
     obtain⟨Hc,Hd,z3,He,uw,z4⟩:=cQ
     exact aV aj bM aq hG ⟨Hc,Hd,z3,He,uw,aA.GS z4⟩) ((List.range rest.length).map (·+(m.length+2))) (fun i az=>by
      have q0:((⟨some d0,.cM T (.t k),none⟩::m)++[⟨d1,.call (.t d0) args,none⟩])++(rest++[])=(⟨some d0,.cM T (.t k),none⟩::(m++⟨d1,.call (.t d0) args,none⟩::rest):List bm):=by simp
      rw[q0]
      refine⟨fun hF=> ?_,fun o bs=> ?_⟩
      ·rw[List.getElem?_eq_none_iff]
       have:=Array.getElem?_eq_none_iff.1 hF
       simp;omega
      ·obtain⟨bC,eI,aa⟩:=jE i o (by simpa using bs)
       obtain⟨r,U,rfl⟩:∃r,(⟨some d0,.cM T (.t k),none⟩::(m++⟨d1,.call (.t d0) args,none⟩::rest):List bm)[i]? =some r∧r.un=bC:=by
        rw[List.getElem?_map,Option.map_eq_some_iff]at eI;exact eI
       exact⟨r,U,aa⟩) ee a3 Ha (by
      have e:((⟨some d0,.cM T (.t k),none⟩::m)++[⟨d1,.call (.t d0) args,none⟩]:List bm).length=m.length+2:=by simp
      rw[e]at sF;exact sF) Hb
   rwa [List.append_nil]at this
  have Hf:∀i∈n.fx,cj.tmps.getD i undef=ρ i:=by
   intro i az
   rw[bg i (by simp[jJ,az]),AF i (fun e=> ?_)]
   ·exact eW i az
   ·simp only[ia,Bool.and_eq_true,Bool.not_eq_true',List.contains_eq_mem,decide_eq_false_iff_not]at fQ
    exact fQ.2 (e▸az)
  have AD:k0<cs.length:=(List.getElem?_eq_some_iff.1 v_).1
  have Hg:py.dst=d1:=dw.symm
  exact GU (n:=n) (ρ:=ρ) (K:=fun aj=>hr C aj rest K) aD aO Hf b6 G_ sb
   (arr:=(cs.map fun ad=>cj.tmps.getD ad undef).toArray) (k:=k0) (caps:=cs.map (lU k s2)) (g:=g) (ps:=ps) (r:=r)
   (by rw[bg d0 (by simp[jJ]),G8];simp only[k8,AJ]) (by simpa using bz) bA
   ⟨b,ty,fr,by
     rw[List.getD_eq_getElem?_getD,List.getElem?_map,v_];exact mm,by rw[AG];simp only[k8,AJ],sU⟩ (by simpa using AD)
   aE aL bb b2 b9 bl (by rw[Hg];exact bf) uI
 have:=vo (Q:=Q) aQ (ops:=ops) (ros:=[⟨some d0,.cM T (.t k),none⟩]++(m++⟨d1,.call (.t d0) args,none⟩::rest)) (l2:=(m.length+1)::(List.range rest.length).map (·+(m.length+2))) mid
  ((List.range m.length).map (·+1)) (fun i az=>by
    obtain⟨ad,aS,rfl⟩:=List.mem_map.1 az
    have ra:ad<m.length:=List.mem_range.1 aS
    refine⟨fun hF=> ?_,fun o bs=> ?_⟩
    ·have:=Array.getElem?_eq_none_iff.1 hF
     omega
    ·obtain⟨i5,q3,ez⟩:=wa (ad+1) m[ad] (by
      simp only[List.getElem?_cons_succ]
      rw[List.getElem?_append_left ra,List.getElem?_eq_getElem ra])
     have heq:i5=o:=by rw[q3]at bs;exact Option.some.inj bs
     subst heq
     refine⟨m[ad],by
      simp only[List.singleton_append,List.getElem?_cons_succ]
      rw[List.getElem?_append_left ra,List.getElem?_eq_getElem ra],?_⟩
     have Hh:=hm m[ad] (List.getElem_mem ra)
     unfold k2 at ez⊢
     split at ez
     ·rename_i ab
      rw[if_pos]
      ·exact ez
      ·cases AK:i5.dst with
       |none=>rfl
       |some d=>
        rw[AK]at ab
        simp only[ia,Bool.and_eq_true,decide_eq_true_eq,Bool.not_eq_true',List.contains_eq_mem,decide_eq_false_iff_not]at ab⊢
        refine⟨ab.1,?_⟩
        have sB:m[ad].dst=some d:=by
         split at ez
         ·simp only[bm.un,Option.some.injEq,bm.mk.injEq]at ez
          rw[←ez.1,AK]
         ·cases ez
        obtain⟨ey,fi⟩:=Hh d sB
        simp only[jJ,List.mem_cons,List.mem_append,not_or]
        exact⟨ey,fun e=>fi (e▸AE),fi,ab.2⟩
     ·cases ez) (fin s (some d0) .hole) aF w (by simpa using hw) G7
 exact this
def Hi (C:bq) (f:FuncId) (k k0:Nat) (cs:List Nat) (args:List au) (d1:Option Nat) (rest:List bm) (keep:List Nat) (P:List (Nat×j)→Prop) (s1:af):Prop:=
 ∃ps r,ps.map (·.a)=args.map (ax s1)++cs.map (lU k s1)∧(∀p∈ps,p.ok s1)∧fG ps=true∧
  lS C f args.length (args.length+k0) (ps.map (·.d)) r (ps.map (·.o))∧r.res=true∧(g4 ps=true→r.c5=true∧∀p∈ps,p.o.c5=true)∧
  bF C (fin (fB (dk s1 ps) ps) d1 r) rest none (fun _ s=>P (fS keep s))
def Hj (C:bq) (f:FuncId) (k k0 d0:Nat) (cs:List Nat) (m:List bm) (args:List au) (d1:Option Nat) (rest:List bm) (keep:List Nat) (P:List (Nat×j)→Prop) (s:af):Prop:=
 bF C (fin s (some d0) .hole) m none fun _ s1=>Hi C f k k0 cs args d1 rest keep P s1
def cellW (C:bq) (f:FuncId) (k k0 d0:Nat) (cs:List Nat) (m:List bm) (args:List au) (d1:Option Nat) (rest:List bm) (keep:List Nat) (K:af→Prop) (s:af):Prop:=
 Hj C f k k0 d0 cs m args d1 rest keep (fun l=>K (J l)) s
def AL (f:Nat→Bool) (m:List bm):Bool:=m.all fun r=>match r.dst with
 |none=>true
 |some d=>f d
theorem Hk {f:Nat→Bool} {m:List bm} (h:AL f m=true):∀r∈m,∀d,r.dst=some d→f d=true:=by
 intro r aA d ab
 have:=List.all_eq_true.1 h r aA
 rw[ab]at this;exact this
theorem Hl (k:List Nat) (s:af):qY s (fS k s):=by
 intro p an
 obtain⟨t,_,rfl⟩:=List.mem_map.1 an
 exact .inl rfl
def Hm (C:bq) (f:FuncId) (k k0 d0:Nat) (cs:List Nat) (m:List bm) (args:List au) (d1:Option Nat) (rest:List bm) (keep:List Nat):(Exit→af→Prop)→af→Prop:=
 fun Q s=>cellW C f k k0 d0 cs m args d1 rest keep (Q .normal) s
def Hn (T:TypeId) (k d0:Nat) (m:List bm) (args:List au) (d1:Option Nat) (rest:List bm):ah:=
 .db (⟨some d0,.cM T (.t k),none⟩::(m++⟨d1,.call (.t d0) args,none⟩::rest)) none
theorem Ho (vs:List Value):∀(m n:Nat),m+n=vs.length→vs.drop m=((List.range n).map (·+m)).map fun ad=>vs.getD ad undef:=by
 intro m n h
 apply List.ext_getElem?
 intro i
 rw[List.getElem?_drop,List.map_map,List.getElem?_map]
 by_cases az:i<n
 ·rw[List.getElem?_range az,List.getElem?_eq_getElem (by omega)]
  simp only[Option.map_some,Function.comp]
  rw[List.getD_eq_getElem?_getD,List.getElem?_eq_getElem (by omega)]
  simp only[Option.getD_some,Option.some.injEq]
  congr 1;omega
 ·rw[List.getElem?_eq_none (by omega),List.getElem?_eq_none (by simp;omega)];rfl
theorem Hp {c:Code} {rs:List bm} (h:cB n c=some (.db rs none)):∃id ops,c= .region id ops false∧k3 n ops ops.toList=some rs:=by
 cases c with
 |region id ops draw=>
  cases draw with
  |false=>
   simp only[cB,Option.map_eq_some_iff]at h
   obtain⟨r,U,aa⟩:=h
   cases aa
   exact⟨id,ops,rfl,U⟩
  |true=>
   simp only[cB]at h
   split at h
   ·simp only[Option.map_eq_some_iff]at h
    obtain⟨r,U,aa⟩:=h
    cases aa
   ·cases h
 |seq a b=>simp only[cB]at h;split at h<;>cases h
 |cond c a b=>simp only[cB]at h;split at h<;>cases h
 |block id b=>simp only[cB,Option.map_eq_some_iff]at h;obtain⟨r,U,aa⟩:=h;cases aa
 |loop b=>simp only[cB,Option.map_eq_some_iff]at h;obtain⟨r,U,aa⟩:=h;cases aa
 |_=>simp[cB]at h
def wg (C:bq) (f:FuncId) (fx:List Nat) (Hq m k:Nat) (T:(Exit→af→Prop)→af→Prop) (b:ah):Prop:=
 ∃(ty:TypeId) (k0 d0 ja:Nat) (e4:List bm) (args:List au) (d1:Option Nat) (rest:List bm) (keep:List Nat),
  T=Hm C f k k0 d0 ((List.range ja).map (·+m)) e4 args d1 rest keep∧b=Hn ty k d0 e4 args d1 rest∧(C.T ty).flat=true∧AL (fun d=>d !=d0&&decide (m+ja≤d)) e4=true∧decide (m+ja≤d0)=true∧
  decide (k0<ja)=true∧k=m+k0∧((List.range ja).all fun ad=>fx.contains (m+ad))=true∧args.length=m∧m+ja=Hq
theorem lS.of_wp (aQ:C.cY) {f:FuncId} {fn:Func} {c:Code} {cX:ah} {fx:List Nat} {as outs:List j} {r:j} {k m:Nat} (bk:C.P.funcs[f]? =some fn) (I:fn.body=some c)
  (ht:(fn.name== "runtime.NumGoroutine")=false) (R:cB ⟨fn.ntmps,fx⟩ c=some cX.strip) (aV:as.length≤fn.ntmps)
  (ai:cX.k7 (wg C f fx as.length m k))
  (h:∀Q:Exit→af→Prop,(∀s,dZ (Ends C fx fn.results.toList r outs) s→Q .ret s)→(∀s,dZ (Ends C fx fn.results.toList r outs) s→Q .normal s)→b7 C cX Q (J (num 0 as))):lS C f m k as r outs:=by
 rintro w F X S vs hl ⟨b,Hr,fr,aE,aL,bb,b2⟩ aA
 refine zj (fx:=fx) aQ bk I ht aV hl aA fun a lN cE=> ?_
 refine zg aQ (H:=wg C f fx as.length m k) ?_ c (by rw[ah.y8];exact R) (ah.y9 cX ai) (ze cX ?_) lN
 ·rintro c T dp Q s aF wh ⟨ty,k0,d0,ja,e4,args,d1,rest,keep,rfl,rfl,hE,hm,iG,sV,ai,eW,hlen,PT⟩ wc Hs ⟨aD,aO,bg,oG,bh,b6⟩
  replace hm:∀r∈e4,∀d,r.dst=some d→d≠d0∧m+ja≤d:=fun r aA d ab=>by
   have:=Hk hm r aA d ab
   simpa using this
  replace iG:=of_decide_eq_true iG
  replace sV:=of_decide_eq_true sV
  replace eW:∀ad,ad<ja→m+ad∈fx:=fun ad aS=>by
   have:=List.all_eq_true.1 eW ad (List.mem_range.2 aS)
   simpa using this
  obtain⟨id,ops,rfl,mF⟩:=Hp wc
  have AM:∀ad,ad<ja→aF.tmps.getD (ad+m) undef=vs.getD (ad+m) undef:=fun ad aS=>by
   rw[Nat.add_comm];exact bg _ (eW ad aS)
  have e3:((List.range ja).map (·+m)).map (fun ad=>aF.tmps.getD ad undef)=vs.drop m:=by
   rw[Ho vs m ja (by omega),List.map_map,List.map_map]
   apply List.map_congr_left
   intro ad aS
   exact AM ad (List.mem_range.1 aS)
  refine G0 (Q:=oN w F X ⟨fn.ntmps,fx⟩ (dX vs) Q) (K:=dZ (Q .normal)) (b:=b) (ty:=Hr) (fr:=fr) (g:=f) (k0:=k0) (cs:=(List.range ja).map (·+m)) aQ mF hE (fun r aA d ab=>⟨(hm r aA d ab).1,fun wi=> ?_⟩) (fun wi=> ?_) ?_ aD aO bg b6 (b6.ep b bb) ?_ ?_ ?_ (fun aj bM aq ai cQ=>cQ.dZ ai)
  ·obtain⟨ad,aS,rfl⟩:=List.mem_map.1 wi
   have:=(hm r aA _ ab).2;have:=List.mem_range.1 aS;omega
  ·obtain⟨ad,aS,e⟩:=List.mem_map.1 wi
   have:=List.mem_range.1 aS;omega
  ·rw[List.getElem?_map,List.getElem?_range sV,ai];simp[Nat.add_comm]
  ·rw[ai,Nat.add_comm,AM k0 sV,Nat.add_comm,←ai];exact aE
  ·rw[e3,b6.old b (aA.c_ b bb) b2];exact aL
  ·refine sG (fun _ s1=> ?_) Hs
   rintro⟨ps,r,fj,ek,gd,fQ,mr,nK,qS⟩
   exact⟨ps,r,fj,ek,gd,fQ,mr,nK,sG (fun _ s h=>.inr ⟨_,Hl _ _,h⟩) qS⟩
 ·rw[zm]
  exact h _ (fun s h=>⟨.inr rfl,h⟩) (fun s h=>⟨.inl rfl,h⟩)
end
end Go.bV
