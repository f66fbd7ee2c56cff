/- Part of a proof that a law returns true for every input. No condition. -/
import Derived.Test.YtpddiknnnoomoaaFwI
namespace Go.bZ
def mK (C:bo) (f:FuncId) (m k:Nat) (as:List j) (r:j) (outs:List j):Prop:=
 ∀(w:World) (F X:Nat→Prop) (S:Nat→Nat→Prop) (vs:List Value),vs.length=as.length→
  (∃b ty fr,vs.getD k undef= .pointer (some ⟨b,0,none⟩)∧w.heap[b]? =some (.cells #[.func (.func f) #[] (vs.drop m).toArray] ty fr)∧F b∧¬X b)→
  aX w F X F S (dh as) (dW vs) w→
  kV C.P f vs.toArray w fun v aq=>∃a7 az,aX w F X a7 az (dh (r::outs)) (dW (v::vs)) aq
section
variable {C:bo} {w0 w:World} {F0 X F a7:Nat→Prop} {S az:Nat→Nat→Prop} {n:Fr} {ρ:Nat→Value} {s aj:ag} {ak gZ:Nat→Value} {a:Act} {av:j} {Q:Exit→Act→World→Prop} {aq:World}
theorem aX.base (h:aX w0 F0 X F S s ak w):aX w F (fun b=>∃u,S u b) F S s ak w where
 er:=fun _ h=>h
 eL:=fun _ h=>.inl h
 db:=h.db
 cT:=h.cT
 dp:=h.dp
 c8:=h.c8
 cl:=fun u b I=>.inl ⟨u,I⟩
 b5:=h.b5
 old:=fun _ _ _=>rfl
 size:=Nat.le_refl _
 os:=rfl
 tape:=rfl
 output:=Out.refl _
 et:=h.et.next h.size h.old fun b ⟨u,hu⟩=>h.cl u b hu
theorem aX.H_ (h:aX w0 F0 X F S s ak w) (a2:aX w F (fun b=>∃u,S u b) a7 az aj gZ aq):aX w0 F0 X a7 az aj gZ aq where
 er:=fun b I=>a2.er b (h.er b I)
 eL:=fun b I=>by
  rcases a2.eL b I with I|⟨u,I⟩|I
  ·exact h.eL b I
  ·exact .inr (h.cl u b I)
  ·exact .inr (.inr (Nat.le_trans h.size I))
 db:=a2.db
 cT:=a2.cT
 dp:=a2.dp
 c8:=a2.c8
 cl:=fun u b I=>by
  rcases a2.cl u b I with⟨u,I⟩|I
  ·exact h.cl u b I
  ·exact .inr (Nat.le_trans h.size I)
 b5:=a2.b5
 old:=fun b I gC=>by
  refine(a2.old b (Nat.lt_of_lt_of_le I h.size) fun⟨u,hu⟩=> ?_).trans (h.old b I gC)
  rcases h.cl u b hu with ao|ao
  ·exact gC ao
  ·omega
 size:=Nat.le_trans h.size a2.size
 os:=a2.os.trans h.os
 tape:=a2.tape.trans h.tape
 output:=a2.output.trans h.output
 et:=h.et
inductive mL:List j→List j→Prop
 |nil:mL [] []
 |eq {a:j} {as hp:List j}:a.R=[]→mL as hp→mL (a::as) (a::hp)
 |wd {a b:j} {as hp:List j}:dj a b→a.tree=true→b.R=[]→mL as hp→mL (a::as) (b::hp)
theorem mL.get:∀{as hp:List j},mL as hp→∀p k,p∈num k hp→p.2.R=[]∧∃a,as[p.1-k]? =some a∧k≤p.1∧(p.2=a∨(a.tree=true∧dj a p.2))
 |_,_,.nil,p,k,an=>by simp[num]at an
 |_,_,.eq (a:=a) h hw,p,k,an=>by
  simp only[num,List.mem_cons]at an
  rcases an with rfl|an
  ·exact⟨h,a,by simp,Nat.le_refl _,.inl rfl⟩
  ·obtain⟨U,x,aa,aw,aN⟩:=hw.get p (k+1) an
   refine⟨U,x,?_,by omega,aN⟩
   rw[show p.1-k=(p.1-(k+1))+1 by omega,List.getElem?_cons_succ];exact aa
 |_,_,.wd (a:=a) h aM I hw,p,k,an=>by
  simp only[num,List.mem_cons]at an
  rcases an with rfl|an
  ·exact⟨I,a,by simp,Nat.le_refl _,.inr ⟨aM,h⟩⟩
  ·obtain⟨U,x,aa,aw,aN⟩:=hw.get p (k+1) an
   refine⟨U,x,?_,by omega,aN⟩
   rw[show p.1-k=(p.1-(k+1))+1 by omega,List.getElem?_cons_succ];exact aa
theorem mL.len:∀{as hp:List j},mL as hp→hp.length=as.length
 |_,_,.nil=>rfl
 |_,_,.eq _ hw=>by simp[hw.len]
 |_,_,.wd _ _ _ hw=>by simp[hw.len]
theorem Br (C:bo) (K:ag→Prop):∀(rs pre post:List bh) (s:ag),h1 C s rs K→fK C (pre++(rs++post)) s ((List.range rs.length).map (·+pre.length)) K:=by
 intro rs
 induction rs with
 |nil=>intro pre post s h;exact h
 |cons r rs ih=>
  intro pre post s h
  rw[List.length_cons,List.range_succ_eq_map,List.map_cons,List.map_map]
  simp only[fK,Nat.zero_add]
  rw[List.getElem?_append_right (Nat.le_refl _)]
  simp only[Nat.sub_self,List.cons_append,List.getElem?_cons_zero]
  have key:∀s1,h1 C s1 rs K→fK C (pre++r::(rs++post)) s1 ((List.range rs.length).map ((fun x=>x+pre.length)∘Nat.succ)) K:=by
   intro s1 U
   have:=ih (pre++[r]) post s1 U
   simp only[List.append_assoc,List.singleton_append,List.length_append,List.length_singleton]at this
   have e:((fun x=>x+pre.length)∘Nat.succ)=fun x=>x+(pre.length+1):=by funext x;simp;omega
   rw[e];exact this
  simp only[h1]at h
  exact tl h key
theorem Ia (fT:a.defers=[]) (cm:a.tmps.size=n.n) (e4:∀i∈n.fx,a.tmps.getD i undef=ρ i) (aB:aX w0 F0 X F S s (fun t=>a.tmps.getD t undef) w)
  {o:Oper} {d0 k:Nat} {args:List au} {g:FuncId} {caps:List j} {arr:Array Value} {ps:List bH} {r:j} (br:bQ o.op=some (.call (.t d0) args)) (ab:iS n o.dst=true)
  (aC:a.tmps.getD d0 undef= .func (.func g) #[] arr) (ae:cE w F s (fun t=>a.tmps.getD t undef) caps arr.toList) (ee:j.dE caps=true)
  (Ib:∃b ty fr,(arr.toList).getD k undef= .pointer (some ⟨b,0,none⟩)∧w.heap[b]? =some (.cells #[.func (.func g) #[] arr] ty fr)∧F b) (Bs:k<arr.size)
  (aa:ps.map (·.a)=args.map (ax s)++caps) (aw:∀p∈ps,p.ok s) (aN:fS ps=true) (a8:mK C g args.length (args.length+k) (ps.map (·.d)) r (ps.map (·.o))) (bI:r.res=true)
  (bO:hA ps=true→r.cS=true∧∀p∈ps,p.o.cS=true) {K:ag→Prop} {next:Act→World→Prop} (di:K (fin (fJ (dq s ps) ps) o.dst r))
  (aR:∀aj bM aq,K aj→Rel w0 F0 X n ρ aj bM aq→next bM aq):o.wp C.P a w next Q:=by
 obtain⟨dst,op,ty,pos,after,guard⟩:=o
 simp only at br ab di
 cases op with
 |call c=>
  obtain⟨callee,kX,argTypes⟩:=c
  simp only[bQ]at br
  split at br
  ·split at br
   ·rename_i rH _ _ F_ xs bc lL
    simp only[Option.some.injEq,dI.call.injEq]at br
    obtain⟨rfl,rfl⟩:=br
    have rb:rH= .tmp d0:=by
     cases rH with
     |tmp t=>simp only[cj,Option.some.injEq,au.t.injEq]at bc;rw[bc]
     |const v=>simp only[cj,Option.map_eq_some_iff]at bc;obtain⟨c,_,bc⟩:=bc;cases bc
     |func g=>simp[cj]at bc
     |global g=>simp[cj]at bc
    subst rb
    have oz:execOp a.eval {dst,op:=.call {callee:=.value (.tmp d0),args:=kX,argTypes},type:=ty,pos,after,guard}=callFunc g ((kX.toList.map a.eval++arr.toList).toArray):=by
     have:a.eval (.tmp d0)= .func (.func g) #[] arr:=aC
     simp only[execOp,resolve,this,Deferred.ofValue,pure_bind,invoke]
     congr 1
     apply Array.ext';simp
    unfold Oper.wp
    rw[oz]
    have hlen:(kX.toList.map a.eval).length=xs.length:=by
     have:=congrArg List.length (ot lL)
     simpa using this
    have rI:cE w F s (fun t=>a.tmps.getD t undef) (xs.map (ax s)++caps) (kX.toList.map a.eval++arr.toList):=zD (tb aB (fun _=>rfl) _ _ (ot lL)) ae
    rw[←aa]at rI
    obtain⟨ed,l2⟩:=zE rI
    have eE:∀d∈xs.map (ax s)++caps,d.plain=true:=by
     intro d ab
     rcases List.mem_append.1 ab with ab|ab
     ·obtain⟨x,ao,rfl⟩:=List.mem_map.1 ab
      exact ye s x fun av e=>by
       subst e
       have hm:=ot lL
       have:some (au.c av)∈xs.map some:=List.mem_map.2 ⟨_,ao,rfl⟩
       rw[←hm]at this
       obtain⟨o,_,bs⟩:=List.mem_map.1 this
       cases o with
       |const v=>simp only[cj,Option.map_eq_some_iff]at bs;obtain⟨c,ae,e⟩:=bs;cases e;exact u3 ae
       |tmp n=>simp[cj]at bs
       |func g=>simp[cj]at bs
       |global g=>simp[cj]at bs
     ·obtain⟨k,al⟩:=List.getElem?_of_mem ab
      exact sO ee al
    have v_:=zy (C:=C) aB (ps:=ps) (vs:=kX.toList.map a.eval++arr.toList) (f:=g) (r:=r) (by simpa using ed)
     (fun i p v an aC=>⟨eE p.a (by rw[←aa];exact List.mem_map.2 ⟨p,List.mem_of_getElem? an,rfl⟩),l2 i p.a v (by simp[an]) aC⟩) aw aN
     (fun Fc iR cI aS gC an=>by
      refine a8 w Fc iR cI _ (by rw[←ed];simp) ?_ an
      obtain⟨b,Ic,fr,aG,aL,a1⟩:=Ib
      refine⟨b,Ic,fr,?_,?_,aS b a1,fun ao=>by obtain⟨u,hu⟩:=gC b ao;exact aB.dp u b hu a1⟩
      ·rw[List.getD_eq_getElem?_getD,List.getElem?_append_right (by omega),hlen,Nat.add_sub_cancel_left,←List.getD_eq_getElem?_getD];exact aG
      ·rw[aL,←hlen,List.drop_left])
     bI bO
    rcases v_ with⟨dw,cy⟩|⟨v,aq,dw,a7,az,cy,fu⟩
    ·rw[dw,Oper.upon_enter]
     refine Calls.mono cy ?_
     rintro e aq ⟨v,rfl,a7,az,bb,bq⟩
     exact aR _ _ _ di (Rel.put fT cm e4 bb bq.1 ab)
    ·rw[dw,Oper.upon_value]
     exact aR _ _ _ di (Rel.put fT cm e4 cy fu.1 ab)
   ·cases br
  ·split at br
   ·simp only[Option.map_eq_some_iff]at br;obtain⟨_,_,br⟩:=br;cases br
   ·cases br
  ·split at br
   ·simp only[Option.map_eq_some_iff]at br;obtain⟨_,_,br⟩:=br;cases br
   ·cases br
  iterate 3
   ·split at br
    ·split at br<;>cases br
    ·cases br
  ·cases br
 |makeFunc fn first cs=>
  cases fn<;>simp only[bQ]at br<;>first|(cases br;done)|(split at br<;>simp at br)
 |slice T x bC ay e7=>
  cases e7<;>simp only[bQ]at br<;>first|(cases br;done)|(split at br<;>simp at br)
 |makeMap T r=>cases r<;>simp only[bQ]at br<;>simp at br
 |lookup T x i c=>cases c<;>simp only[bQ]at br<;>first|(cases br;done)|(split at br<;>simp at br)
 |_=>simp only[bQ]at br<;>first|(cases br;done)|(simp at br;done)|(split at br<;>simp at br)
theorem Ie {op:Op} {T:TypeId} {x:au} (h:bQ op=some (.cR T x)):∃y,op= .load T y∧cj y=some x:=by
 cases op with
 |load v7 y=>
  simp only[bQ,Option.map_eq_some_iff]at h
  obtain⟨b6,ao,h⟩:=h
  cases h
  exact⟨y,rfl,ao⟩
 |call c=>
  obtain⟨callee,kX,argTypes⟩:=c
  simp only[bQ]at h
  split at h<;>(try split at h)<;>(try split at h)<;>(try simp[Option.map_eq_some_iff]at h)
 |makeFunc fn first cs=>
  cases fn<;>simp only[bQ]at h<;>first|(cases h;done)|(split at h<;>simp at h)
 |slice T x bC ay e7=>
  cases e7<;>simp only[bQ]at h<;>first|(cases h;done)|(split at h<;>simp at h)
 |makeMap T r=>cases r<;>simp only[bQ]at h<;>simp at h
 |lookup T x i c=>cases c<;>simp only[bQ]at h<;>first|(cases h;done)|(split at h<;>simp at h)
 |_=>simp only[bQ]at h<;>first|(cases h;done)|(simp at h;done)|(split at h<;>simp at h)
theorem Ig {y:Operand} {k:Nat} (h:cj y=some (.t k)):y= .tmp k:=by
 cases y with
 |tmp t=>simp only[cj,Option.some.injEq,au.t.injEq]at h;rw[h]
 |const v=>simp only[cj,Option.map_eq_some_iff]at h;obtain⟨c,_,h⟩:=h;cases h
 |func g=>simp[cj]at h
 |global g=>simp[cj]at h
def mM (k:Nat) (s:ag) (ad:Nat):j:=if ad=k then .ref .hole else ga ad (s ad)
theorem Ih {ak:Nat→Value} {b k:Nat} {v:Value} {ty:TypeId} {fr:Nat×Nat} (aB:aX w0 F0 X F S s ak w) (al:ak k= .pointer (some ⟨b,0,none⟩)) (I:F b) (ae:w.heap[b]? =some (.cells #[v] ty fr)) (U:Value.dZ v=true):
  ∀cs:List Nat,cE w F s ak (cs.map (mM k s)) (cs.map ak)∧j.dE (cs.map (mM k s))=true:=by
 intro cs
 induction cs with
 |nil=>exact⟨by rw[List.map_nil,List.map_nil,cE],rfl⟩
 |cons ad cs ih=>
  simp only[List.map_cons]
  have aU:ar w F s ak (mM k s ad) (ak ad) (fun _=>False)∧(mM k s ad).plain=true:=by
   unfold mM
   split
   ·rename_i e;subst e
    rw[al]
    refine⟨(ar.bx rfl).2 ⟨rfl,?_⟩,rfl⟩
    rw[ai]
    refine⟨b,0,[v],rfl,I,?_,?_⟩
    ·intro i c ay
     cases i with
     |zero=>simp at ay;subst ay;simp[World.cell?,ae]
     |succ i=>simp at ay
    ·rw[ai];exact⟨v,U,rfl⟩
   ·unfold ga
    split
    ·rename_i an
     exact⟨ar.nothing an (aB.b5 ad),an⟩
    ·rename_i an
     refine⟨?_,rfl⟩
     rw[ar]
     intro d ab an
     simp only[j.sub,Option.some.injEq]at ab
     subst ab
     have aM:(s ad).tree=true:=by
      cases R:s ad<;>first|rfl|(rw[R]at an;simp[j.plain]at an)
     exact⟨_,none,rfl,rfl,((ar.bx aM).1 (aB.b5 ad)).1⟩
  refine⟨?_,?_⟩
  ·rw[cE];exact⟨_,_,rfl,aU.1,ih.1⟩
  ·simp only[j.dE,aU.2,ih.2,Bool.and_self]
theorem Ii (aQ:C.c5) {id:Nat} {ops:Array Oper} {T:TypeId} {k k0 d0:Nat} {m rest:List bh} {args:List au} {d1:Option Nat} {g:FuncId} {cs:List Nat} {b:Nat} {ty:TypeId} {fr:Nat×Nat} {K:ag→Prop}
  (nw:lN n ops ops.toList=some ((⟨some d0,.cR T (.t k),none⟩::(m++⟨d1,.call (.t d0) args,none⟩::rest):List bh).map bh.un))
  (ib:(C.T T).flat=true) (hm:∀r∈m,∀d,r.dst=some d→d≠d0∧d∉cs) (jf:d0∉cs) (wY:cs[k0]? =some k)
  (fT:a.defers=[]) (cm:a.tmps.size=n.n) (e4:∀i∈n.fx,a.tmps.getD i undef=ρ i) (aB:aX w0 F0 X F S s (fun t=>a.tmps.getD t undef) w)
  (I:F b) (al:a.tmps.getD k undef= .pointer (some ⟨b,0,none⟩)) (na:w.heap[b]? =some (.cells #[.func (.func g) #[] (cs.map fun ad=>a.tmps.getD ad undef).toArray] ty fr))
  (h:h1 C (fin s (some d0) .hole) m fun s1=>∃ps r,ps.map (·.a)=args.map (ax s1)++cs.map (mM k s1)∧(∀p∈ps,p.ok s1)∧fS ps=true∧
   mK C g args.length (args.length+k0) (ps.map (·.d)) r (ps.map (·.o))∧r.res=true∧(hA ps=true→r.cS=true∧∀p∈ps,p.o.cS=true)∧h1 C (fin (fJ (dq s1 ps) ps) d1 r) rest K)
  (aR:∀aj bM aq,K aj→Rel w0 F0 X n ρ aj bM aq→Q .normal bM aq):(Code.region id ops false).wp C.P Q a w:=by
 obtain⟨hl,kf⟩:=wc nw
 have wZ:∀(i:Nat) (r:bh),(⟨some d0,.cR T (.t k),none⟩::(m++⟨d1,.call (.t d0) args,none⟩::rest):List bh)[i]? =some r→∃o,ops[i]? =some o∧lM n ops o=some r.un:=by
  intro i r ay
  have cC:i<ops.toList.length:=by
   rw[hl,List.length_map]
   exact(List.getElem?_eq_some_iff.1 ay).1
  obtain⟨fq,U,aa⟩:=kf i _ (List.getElem?_eq_getElem cC)
  rw[List.getElem?_map,ay]at U
  simp only[Option.map_some,Option.some.injEq]at U
  exact⟨_,by rw[←Array.getElem?_toList];exact List.getElem?_eq_getElem cC,by rw[U];exact aa⟩
 have w1:∀{r:bh} {o:Oper},r.guard=none→lM n ops o=some r.un→r.dst=o.dst∧o.guard=none∧nu o.op=r.a6.base∧iS n o.dst=true:=by
  intro r o aY h
  unfold lM at h
  split at h
  ·rename_i ab
   split at h
   ·rename_i Ij e3
    simp only[bh.un,Option.some.injEq,bh.mk.injEq]at h
    obtain⟨aG,aL,a1⟩:=h
    refine⟨aG.symm,?_,aL,ab⟩
    rw[a1,aY]at e3
    cases bs:o.guard with
    |none=>rfl
    |some wh=>
     rw[bs]at e3;simp only[rG]at e3;split at e3<;>cases e3
   ·cases h
  ·cases h
 have Ik:ops.size=m.length+rest.length+2:=by
  have:ops.toList.length=ops.size:=by simp
  rw[←this,hl];simp;omega
 have Il:List.range ops.size=0::((List.range m.length).map (·+1)++((m.length+1)::(List.range rest.length).map (·+(m.length+2)))):=by
  rw[Ik,show m.length+rest.length+2=(m.length+rest.length+1)+1 from rfl,List.range_succ_eq_map]
  congr 1
  rw[show m.length+rest.length+1=m.length+(rest.length+1) by omega,List.range_add,List.map_append,List.range_succ_eq_map]
  simp only[List.map_map,List.map_cons,Nat.add_zero]
  congr 1
  congr 1
  apply List.map_congr_left
  intro x _;simp;omega
 obtain⟨nI,Im,g2⟩:=wZ 0 _ rfl
 obtain⟨fe,ej,gp,gf⟩:=w1 rfl g2
 change nu nI.op= .cR T (.t k)at gp
 have w2:bQ nI.op=some (.cR T (.t k)):=by
  rcases lP gp with h|h
  ·cases h
  ·exact h
 obtain⟨y,aT,Io⟩:=Ie w2
 have:=Ig Io;subst this
 let lY:Value:=.func (.func g) #[] (cs.map fun ad=>a.tmps.getD ad undef).toArray
 have gK:e8 w b 0 [lY]:=by
  intro i c ay
  cases i with
  |zero=>simp at ay;subst ay;simp[World.cell?,na,lY]
  |succ i=>simp at ay
 refine wp_region ?_
 rw[Il]
 simp only[wpOps,Im]
 show(if Region.wanted nI (yielded ops a.tmps)=true then nI.wp C.P a w _ Q∨(nI.asks C.P a w∧LetsOut Q)else _)
 rw[if_pos (we ej)]
 left
 have oz:(execOp a.eval nI).run C.P w= .ok (.value lY) w:=by
  obtain⟨dst,op,ty,pos,after,guard⟩:=nI
  simp only at aT
  subst aT
  have:a.eval (.tmp k)= .pointer (some ⟨b,0,none⟩):=al
  simp[execOp,this,Instr.loadAt,Instr.sureAddr,yk aQ ib gK]
 unfold Oper.wp
 rw[oz,Oper.upon_value]
 have Ip:some d0=nI.dst:=fe
 rw[←Ip]at gf⊢
 let aA:Act:=a.put (some d0) lY
 let kk:Fr:=⟨n.n,d0::k::(cs++n.fx)⟩
 let ρ1:Nat→Value:=fun t=>aA.tmps.getD t undef
 have Bt:k∈cs:=List.mem_of_getElem? wY
 have oi:=aB.base
 have w3:Rel w F (fun b=>∃u,S u b) ⟨n.n,[]⟩ ρ1 (fin s (some d0) .hole) aA w:=
  Rel.put (n:=⟨n.n,[]⟩) fT cm (fun i ay=>by cases ay) oi (.inl ⟨rfl,by rw[ar];trivial⟩) (by
   simp only[iS,Bool.and_eq_true,decide_eq_true_eq]at gf⊢
   exact⟨gf.1,by simp⟩)
 have Iq:Rel w F (fun b=>∃u,S u b) kk ρ1 (fin s (some d0) .hole) aA w:=⟨w3.defers,w3.size,fun i _=>rfl,w3.rel⟩
 have Bu:∀t,t≠d0→ρ1 t=a.tmps.getD t undef:=by
  intro t aM
  have:=congrFun (v5 (n:=n) (dst:=some d0) (a:=a) lY cm gf).1 t
  simp only[mj]at this
  rw[gB _ _ aM]at this
  exact this
 have Ir:ρ1 d0=lY:=by
  have:=congrFun (v5 (n:=n) (dst:=some d0) (a:=a) lY cm gf).1 d0
  simp only[mj]at this
  rw[jb]at this
  exact this
 have hw:=Br C _ m [⟨some d0,.cR T (.t k),none⟩] (⟨d1,.call (.t d0) args,none⟩::rest) _ h
 have mid:∀aj bM aq,(∃ps r,ps.map (·.a)=args.map (ax aj)++cs.map (mM k aj)∧(∀p∈ps,p.ok aj)∧fS ps=true∧
   mK C g args.length (args.length+k0) (ps.map (·.d)) r (ps.map (·.o))∧r.res=true∧(hA ps=true→r.cS=true∧∀p∈ps,p.o.cS=true)∧h1 C (fin (fJ (dq aj ps) ps) d1 r) rest K)→
   Rel w F (fun b=>∃u,S u b) kk ρ1 aj bM aq→wpOps C.P ops Q ((m.length+1)::(List.range rest.length).map (·+(m.length+2))) bM aq:=by
  rintro s2 cn qi ⟨ps,r,aG,aL,a1,b2,cb,bp,bk⟩ ⟨aE,aO,bg,rF,ch,cd⟩
  obtain⟨qj,Is,lr⟩:=wZ (m.length+1) ⟨d1,.call (.t d0) args,none⟩ (by simp)
  obtain⟨dD,eK,fo,yx⟩:=w1 rfl lr
  simp only[wpOps,Is]
  show(if Region.wanted qj (yielded ops cn.tmps)=true then qj.wp C.P cn qi _ Q∨(qj.asks C.P cn qi∧LetsOut Q)else _)
  rw[if_pos (we eK)]
  left
  change nu qj.op= .call (.t d0) args at fo
  have It:bQ qj.op=some (.call (.t d0) args):=by
   rcases lP fo with h|h
   ·cases h
   ·exact h
  have tD:rF b:=cd.er b I
  have Bv:qi.heap[b]? =some (.cells #[lY] ty fr):=by
   rw[cd.old b (aB.db b I) (fun⟨u,hu⟩=>aB.dp u b hu I)];exact na
  have Bw:∀ad∈cs,cn.tmps.getD ad undef=a.tmps.getD ad undef:=by
   intro ad aU
   rw[bg ad (by simp[kk,aU])]
   exact Bu ad (fun e=>jf (e▸aU))
  have m9:cn.tmps.getD k undef= .pointer (some ⟨b,0,none⟩):=(Bw k Bt).trans al
  have Bx:(cs.map fun ad=>a.tmps.getD ad undef)=cs.map fun ad=>cn.tmps.getD ad undef:=List.map_congr_left fun ad aU=>(Bw ad aU).symm
  obtain⟨bB,bF⟩:=Ih (k:=k) cd m9 tD Bv rfl cs
  have vw:∀aj bM aq,h1 C aj rest K→Rel w F (fun b=>∃u,S u b) ⟨n.n,n.fx⟩ ρ aj bM aq→wpOps C.P ops Q ((List.range rest.length).map (·+(m.length+2))) bM aq:=by
   intro ew a3 Iu aw Iv
   have tn:=Br C K rest ((⟨some d0,.cR T (.t k),none⟩::m)++[⟨d1,.call (.t d0) args,none⟩]) [] ew aw
   have:=wg (Q:=Q) aQ (ops:=ops) (ros:=((⟨some d0,.cR T (.t k),none⟩::m)++[⟨d1,.call (.t d0) args,none⟩])++(rest++[])) (l2:=[]) (K:=K) (fun aj bM aq ig cU=>by
     obtain⟨r1,mN,z3,Iw,vj,z4⟩:=cU
     exact aR aj bM aq ig ⟨r1,mN,z3,Iw,vj,aB.H_ z4⟩) ((List.range rest.length).map (·+(m.length+2))) (fun i ay=>by
      have rR:((⟨some d0,.cR T (.t k),none⟩::m)++[⟨d1,.call (.t d0) args,none⟩])++(rest++[])=(⟨some d0,.cR T (.t k),none⟩::(m++⟨d1,.call (.t d0) args,none⟩::rest):List bh):=by simp
      rw[rR]
      refine⟨fun ic=> ?_,fun o bs=> ?_⟩
      ·rw[List.getElem?_eq_none_iff]
       have:=Array.getElem?_eq_none_iff.1 ic
       simp;omega
      ·obtain⟨bl,eZ,aa⟩:=kf i o (by simpa using bs)
       obtain⟨r,U,rfl⟩:∃r,(⟨some d0,.cR T (.t k),none⟩::(m++⟨d1,.call (.t d0) args,none⟩::rest):List bh)[i]? =some r∧r.un=bl:=by
        rw[List.getElem?_map,Option.map_eq_some_iff]at eZ;exact eZ
       exact⟨r,U,aa⟩) ew a3 Iu (by
      have e:((⟨some d0,.cR T (.t k),none⟩::m)++[⟨d1,.call (.t d0) args,none⟩]:List bh).length=m.length+2:=by simp
      rw[e]at tn;exact tn) Iv
   rwa [List.append_nil]at this
  have Ix:∀i∈n.fx,cn.tmps.getD i undef=ρ i:=by
   intro i ay
   rw[bg i (by simp[kk,ay]),Bu i (fun e=> ?_)]
   ·exact e4 i ay
   ·simp only[iS,Bool.and_eq_true,Bool.not_eq_true',List.contains_eq_mem,decide_eq_false_iff_not]at gf
    exact gf.2 (e▸ay)
  have Bs:k0<cs.length:=(List.getElem?_eq_some_iff.1 wY).1
  have Iy:qj.dst=d1:=dD.symm
  exact Ia (n:=n) (ρ:=ρ) (K:=fun aj=>h1 C aj rest K) aE aO Ix cd It yx
   (arr:=(cs.map fun ad=>cn.tmps.getD ad undef).toArray) (k:=k0) (caps:=cs.map (mM k s2)) (g:=g) (ps:=ps) (r:=r)
   (by rw[bg d0 (by simp[kk]),Ir];simp only[lY,Bx]) (by simpa using bB) bF
   ⟨b,ty,fr,by
     rw[List.getD_eq_getElem?_getD,List.getElem?_map,wY];exact m9,by rw[Bv];simp only[lY,Bx],tD⟩ (by simpa using Bs)
   aG aL a1 b2 cb bp (by rw[Iy];exact bk) vw
 have:=wg (Q:=Q) aQ (ops:=ops) (ros:=[⟨some d0,.cR T (.t k),none⟩]++(m++⟨d1,.call (.t d0) args,none⟩::rest)) (l2:=(m.length+1)::(List.range rest.length).map (·+(m.length+2))) mid
  ((List.range m.length).map (·+1)) (fun i ay=>by
    obtain⟨ad,aU,rfl⟩:=List.mem_map.1 ay
    have r2:ad<m.length:=List.mem_range.1 aU
    refine⟨fun ic=> ?_,fun o bs=> ?_⟩
    ·have:=Array.getElem?_eq_none_iff.1 ic
     omega
    ·obtain⟨jM,rU,eI⟩:=wZ (ad+1) m[ad] (by
      simp only[List.getElem?_cons_succ]
      rw[List.getElem?_append_left r2,List.getElem?_eq_getElem r2])
     have heq:jM=o:=by rw[rU]at bs;exact Option.some.inj bs
     subst heq
     refine⟨m[ad],by
      simp only[List.singleton_append,List.getElem?_cons_succ]
      rw[List.getElem?_append_left r2,List.getElem?_eq_getElem r2],?_⟩
     have Iz:=hm m[ad] (List.getElem_mem r2)
     unfold lM at eI⊢
     split at eI
     ·rename_i ab
      rw[if_pos]
      ·exact eI
      ·cases Bz:jM.dst with
       |none=>rfl
       |some d=>
        rw[Bz]at ab
        simp only[iS,Bool.and_eq_true,decide_eq_true_eq,Bool.not_eq_true',List.contains_eq_mem,decide_eq_false_iff_not]at ab⊢
        refine⟨ab.1,?_⟩
        have ti:m[ad].dst=some d:=by
         split at eI
         ·simp only[bh.un,Option.some.injEq,bh.mk.injEq]at eI
          rw[←eI.1,Bz]
         ·cases eI
        obtain⟨eb,fc⟩:=Iz d ti
        simp only[kk,List.mem_cons,List.mem_append,not_or]
        exact⟨eb,fun e=>fc (e▸Bt),fc,ab.2⟩
     ·cases eI) (fin s (some d0) .hole) aA w (by simpa using hw) Iq
 exact this
def IA (C:bo) (f:FuncId) (k k0:Nat) (cs:List Nat) (args:List au) (d1:Option Nat) (rest:List bh) (keep:List Nat) (P:List (Nat×j)→Prop) (s1:ag):Prop:=
 ∃ps r,ps.map (·.a)=args.map (ax s1)++cs.map (mM k s1)∧(∀p∈ps,p.ok s1)∧fS ps=true∧
  mK C f args.length (args.length+k0) (ps.map (·.d)) r (ps.map (·.o))∧r.res=true∧(hA ps=true→r.cS=true∧∀p∈ps,p.o.cS=true)∧
  bz C (fin (fJ (dq s1 ps) ps) d1 r) rest none (fun _ s=>P (fL keep s))
def IB (C:bo) (f:FuncId) (k k0 d0:Nat) (cs:List Nat) (m:List bh) (args:List au) (d1:Option Nat) (rest:List bh) (keep:List Nat) (P:List (Nat×j)→Prop) (s:ag):Prop:=
 bz C (fin s (some d0) .hole) m none fun _ s1=>IA C f k k0 cs args d1 rest keep P s1
def cellW (C:bo) (f:FuncId) (k k0 d0:Nat) (cs:List Nat) (m:List bh) (args:List au) (d1:Option Nat) (rest:List bh) (keep:List Nat) (K:ag→Prop) (s:ag):Prop:=
 IB C f k k0 d0 cs m args d1 rest keep (fun l=>K (J l)) s
def BA (f:Nat→Bool) (m:List bh):Bool:=m.all fun r=>match r.dst with
 |none=>true
 |some d=>f d
theorem IC {f:Nat→Bool} {m:List bh} (h:BA f m=true):∀r∈m,∀d,r.dst=some d→f d=true:=by
 intro r aB d ab
 have:=List.all_eq_true.1 h r aB
 rw[ab]at this;exact this
theorem ID (k:List Nat) (s:ag):rP s (fL k s):=by
 intro p an
 obtain⟨t,_,rfl⟩:=List.mem_map.1 an
 exact .inl rfl
def IE (C:bo) (f:FuncId) (k k0 d0:Nat) (cs:List Nat) (m:List bh) (args:List au) (d1:Option Nat) (rest:List bh) (keep:List Nat):(Exit→ag→Prop)→ag→Prop:=
 fun Q s=>cellW C f k k0 d0 cs m args d1 rest keep (Q .normal) s
def IF (T:TypeId) (k d0:Nat) (m:List bh) (args:List au) (d1:Option Nat) (rest:List bh):af:=
 .c6 (⟨some d0,.cR T (.t k),none⟩::(m++⟨d1,.call (.t d0) args,none⟩::rest)) none
theorem IG (vs:List Value):∀(m n:Nat),m+n=vs.length→vs.drop m=((List.range n).map (·+m)).map fun ad=>vs.getD ad undef:=by
 intro m n h
 apply List.ext_getElem?
 intro i
 rw[List.getElem?_drop,List.map_map,List.getElem?_map]
 by_cases ay:i<n
 ·rw[List.getElem?_range ay,List.getElem?_eq_getElem (by omega)]
  simp only[Option.map_some,Function.comp]
  rw[List.getD_eq_getElem?_getD,List.getElem?_eq_getElem (by omega)]
  simp only[Option.getD_some,Option.some.injEq]
  congr 1;omega
 ·rw[List.getElem?_eq_none (by omega),List.getElem?_eq_none (by simp;omega)];rfl
theorem IH {c:Code} {rs:List bh} (h:cB n c=some (.c6 rs none)):∃id ops,c= .region id ops false∧lN n ops ops.toList=some rs:=by
 cases c with
 |region id ops draw=>
  cases draw with
  |false=>
   simp only[cB,Option.map_eq_some_iff]at h
   obtain⟨r,U,aa⟩:=h
   cases aa
   exact⟨id,ops,rfl,U⟩
  |true=>
   simp only[cB]at h
   split at h
   ·simp only[Option.map_eq_some_iff]at h
    obtain⟨r,U,aa⟩:=h
    cases aa
   ·cases h
 |seq a b=>simp only[cB]at h;split at h<;>cases h
 |cond c a b=>simp only[cB]at h;split at h<;>cases h
 |block id b=>simp only[cB,Option.map_eq_some_iff]at h;obtain⟨r,U,aa⟩:=h;cases aa
 |loop b=>simp only[cB,Option.map_eq_some_iff]at h;obtain⟨r,U,aa⟩:=h;cases aa
 |_=>simp[cB]at h
def w4 (C:bo) (f:FuncId) (fx:List Nat) (II m k:Nat) (T:(Exit→ag→Prop)→ag→Prop) (b:af):Prop:=
 ∃(ty:TypeId) (k0 d0 jR:Nat) (gL:List bh) (args:List au) (d1:Option Nat) (rest:List bh) (keep:List Nat),
  T=IE C f k k0 d0 ((List.range jR).map (·+m)) gL args d1 rest keep∧b=IF ty k d0 gL args d1 rest∧(C.T ty).flat=true∧BA (fun d=>d !=d0&&decide (m+jR≤d)) gL=true∧decide (m+jR≤d0)=true∧
  decide (k0<jR)=true∧k=m+k0∧((List.range jR).all fun ad=>fx.contains (m+ad))=true∧args.length=m∧m+jR=II
theorem mK.of_wp (aQ:C.c5) {f:FuncId} {fn:Func} {c:Code} {c3:af} {fx:List Nat} {as outs:List j} {r:j} {k m:Nat} (bc:C.P.funcs[f]? =some fn) (I:fn.body=some c)
  (h3:(fn.name== "runtime.NumGoroutine")=false) (R:cB ⟨fn.ntmps,fx⟩ c=some c3.strip) (aR:as.length≤fn.ntmps)
  (al:c3.lQ (w4 C f fx as.length m k))
  (h:∀Q:Exit→ag→Prop,(∀s,dN (Ends C fx fn.results.toList r outs) s→Q .ret s)→(∀s,dN (Ends C fx fn.results.toList r outs) s→Q .normal s)→bW C c3 Q (J (num 0 as))):mK C f m k as r outs:=by
 rintro w F X S vs hl ⟨b,IJ,fr,aG,aL,a1,b2⟩ aB
 refine z5 (fx:=fx) aQ bc I h3 aR hl aB fun a mB cJ=> ?_
 refine zZ aQ (H:=w4 C f fx as.length m k) ?_ c (by rw[af.zQ];exact R) (af.zR c3 al) (zX c3 ?_) mB
 ·rintro c T dr Q s aA oO ⟨ty,k0,d0,jR,gL,args,d1,rest,keep,rfl,rfl,ib,hm,jf,tE,al,e4,hlen,RP⟩ w2 IK ⟨aE,aO,bg,pG,bj,cd⟩
  replace hm:∀r∈gL,∀d,r.dst=some d→d≠d0∧m+jR≤d:=fun r aB d ab=>by
   have:=IC hm r aB d ab
   simpa using this
  replace jf:=of_decide_eq_true jf
  replace tE:=of_decide_eq_true tE
  replace e4:∀ad,ad<jR→m+ad∈fx:=fun ad aU=>by
   have:=List.all_eq_true.1 e4 ad (List.mem_range.2 aU)
   simpa using this
  obtain⟨id,ops,rfl,nw⟩:=IH w2
  have BB:∀ad,ad<jR→aA.tmps.getD (ad+m) undef=vs.getD (ad+m) undef:=fun ad aU=>by
   rw[Nat.add_comm];exact bg _ (e4 ad aU)
  have eQ:((List.range jR).map (·+m)).map (fun ad=>aA.tmps.getD ad undef)=vs.drop m:=by
   rw[IG vs m jR (by omega),List.map_map,List.map_map]
   apply List.map_congr_left
   intro ad aU
   exact BB ad (List.mem_range.1 aU)
  refine Ii (Q:=pO w F X ⟨fn.ntmps,fx⟩ (dW vs) Q) (K:=dN (Q .normal)) (b:=b) (ty:=IJ) (fr:=fr) (g:=f) (k0:=k0) (cs:=(List.range jR).map (·+m)) aQ nw ib (fun r aB d ab=>⟨(hm r aB d ab).1,fun r3=> ?_⟩) (fun r3=> ?_) ?_ aE aO bg cd (cd.er b a1) ?_ ?_ ?_ (fun aj bM aq al cU=>cU.dN al)
  ·obtain⟨ad,aU,rfl⟩:=List.mem_map.1 r3
   have:=(hm r aB _ ab).2;have:=List.mem_range.1 aU;omega
  ·obtain⟨ad,aU,e⟩:=List.mem_map.1 r3
   have:=List.mem_range.1 aU;omega
  ·rw[List.getElem?_map,List.getElem?_range tE,al];simp[Nat.add_comm]
  ·rw[al,Nat.add_comm,BB k0 tE,Nat.add_comm,←al];exact aG
  ·rw[eQ,cd.old b (aB.db b a1) b2];exact aL
  ·refine tp (fun _ s1=> ?_) IK
   rintro⟨ps,r,fe,ej,gp,gf,nd,oA,rJ⟩
   exact⟨ps,r,fe,ej,gp,gf,nd,oA,tp (fun _ s h=>.inr ⟨_,ID _ _,h⟩) rJ⟩
 ·rw[z8]
  exact h _ (fun s h=>⟨.inr rfl,h⟩) (fun s h=>⟨.inl rfl,h⟩)
end
end Go.bZ
