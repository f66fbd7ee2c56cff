/- Part of a proof that a law returns true for every input. No condition. -/
import Derived.Test.YtpddiknnnoomoaaFwD
import Derived.Laws.Tables
namespace Go.bZ
section
variable {C:bo} {w0 w:World} {F0 X F:Nat→Prop} {S:Nat→Nat→Prop} {s s1:ag} {ak:Nat→Value} {av:j}
theorem s_ (z:List Value):∀n,(List.range (n*z.length)).map (fun i=>z[i%z.length]!)=(List.replicate n z).flatten
 |0=>by simp
 |n+1=>by
  rw[Nat.add_mul,Nat.one_mul,List.range_add,List.map_append,s_ z n,List.replicate_succ',List.flatten_append]
  congr 1
  simp only[List.map_map,List.flatten_cons,List.flatten_nil,List.append_nil]
  apply List.ext_getElem
  ·simp
  ·intro i U aa
   have ay:i<z.length:=aa
   simp[Nat.mod_eq_of_lt ay,ay]
theorem aJ.replicate {d:j} {cs:List Value} (h:∀az,ai w F d cs az):∀n az,aJ w F (List.replicate n d) (List.replicate n cs).flatten az
 |0,az=>by simp only[List.replicate_zero,List.flatten_nil];rw[aJ]
 |n+1,az=>by
  rw[List.replicate_succ,List.replicate_succ,List.flatten_cons,aJ]
  exact⟨cs,_,fun _=>False,fun _=>False,rfl,h _,aJ.replicate h n _,fun _ h=>h.elim,fun _ h=>h.elim,fun _ h=>h.elim⟩
def eV (C:bo) (T:TypeId) (l c:j):Option j:=
 match(C.T T).k,l,c with
 | .slice e,.int .i64 n,.int .i64 m=>if n=m∧0≤n∧(C.T e).ok=true∧(C.T e).zero.wd=(C.T e).sz∧(flat (C.T e).zero).isSome=true∧(C.T e).sz≠0∧(C.T e).bytes*n≤140737488355328∧n≤9223372036854775807 then
   some (.aH (C.T e).sz (List.replicate n.toNat (C.T e).zero))else none
 |_,_,_=>none
theorem ER (aQ:C.c5) (h:aX w0 F0 X F S s ak w) {T:TypeId} {l c:j} {yT yU:Value} (hl:ar w F s ak l yT (fun _=>False)) (ae:ar w F s ak c yU (fun _=>False)) (he:eV C T l c=some av):
  Good C w0 F0 X ak w (Instr.makeSlice T yT yU) av s:=by
 unfold eV at he
 split at he
 ·rename_i e n m al
  have:=j1 hl;subst this
  have:=j1 ae;subst this
  obtain⟨vq,d,vr,aG,aL,a1,b2,cb,bp,bk⟩:=aQ.info (dF al (by simp))
  rw[al]at bk
  have:=hS bk;subst this
  split at he
  ·rename_i n8
   obtain⟨rfl,aR,kN,lD,mw,cm,yV,vu⟩:=n8
   simp only[Option.some.injEq]at he;subst he
   obtain⟨i,vt,z,f1,f2,f3,f4,f5,f6,f7⟩:=aQ.info kN
   obtain⟨c9,jh⟩:=Option.isSome_iff_exists.1 mw
   have mx:=f5 c9 jh
   have dP:∀az,ai w F (C.T e).zero c9 az:=fun az=>(ai.flat _).1 _ c9 az (Nat.le_refl _) jh
   have kP:c9.length=(C.T e).sz:=by rw[ai.length _ _ _ (dP (fun _=>False)),lD]
   obtain⟨n,rfl⟩:=Int.eq_ofNat_of_zero_le aR
   simp only[Int.toNat_natCast]
   have pz:IntKind.i64.wrap (n:Int)=n:=by
    rw[IntKind.wrap_i64];omega
   have px:∀k (w:World),(askRoom k).run C.P w= .ok () w:=by
    intro k w
    unfold askRoom
    split<;>rfl
   have kJ:((Array.range (n*(C.T e).sz)).map (c9.toArray[·%c9.toArray.size]!)).toList=(List.replicate n c9).flatten:=by
    have:=s_ c9 n
    rw[kP]at this
    simpa [kP]using this
   have cC:¬(281474976710656<(i.bytes:Int)*n):=by
    rw[f3];omega
   have ta:¬((n:Int)<0):=by omega
   have run:(Instr.makeSlice T (.int .i64 n) (.int .i64 n)).run C.P w= .ok (.slice (some ⟨w.heap.size,0,none⟩) n n)
     (w.alloc (.cells (if n*(C.T e).sz=0 then(Array.range (n*(C.T e).sz)).map (fun _=>default)else(Array.range (n*(C.T e).sz)).map (c9.toArray[·%c9.toArray.size]!)) e)):=by
    by_cases bu:n*(C.T e).sz=0
    ·simp[Instr.makeSlice,run_underlying bp,asInt,asIntOf,n5 f1,pz,cC,ta,px,g1 f1,f2,bu,newRow]
    ·simp only[bu,if_false]
     simp[Instr.makeSlice,run_underlying bp,asInt,asIntOf,n5 f1,pz,cC,ta,px,g1 f1,f2,bu,newRow,n6 f1 f4,mx]
   have hN:(if n*(C.T e).sz=0 then(Array.range (n*(C.T e).sz)).map (fun _=>(default:Value))else(Array.range (n*(C.T e).sz)).map (c9.toArray[·%c9.toArray.size]!)).toList=(List.replicate n c9).flatten:=by
    split
    ·rename_i bu
     have:n=0:=by
      rcases Nat.mul_eq_zero.1 bu with h|h
      ·exact h
      ·exact(cm h).elim
     subst this
     simp
    ·exact kJ
   generalize oo:(if n*(C.T e).sz=0 then(Array.range (n*(C.T e).sz)).map (fun _=>(default:Value))else(Array.range (n*(C.T e).sz)).map (c9.toArray[·%c9.toArray.size]!))=cur at run hN
   have gb:(List.replicate n c9).flatten.length=n*(C.T e).sz:=by simp[kP]
   have eQ:cur.size=n*(C.T e).sz:=by
    have:cur.size=cur.toList.length:=by simp
    rw[this,hN,gb]
   have hv:=h.re (aq:=w.alloc (.cells cur e)) (sz:=(C.T e).sz) (cap:=n) (xs:=List.replicate n (C.T e).zero) (cur:=cur) (e:=e) (fr:=(0,0)) (Sn:=fun _=>False) rfl rfl rfl ⟨rfl,fun _=>Nat.le_refl _⟩
    (fun o _ ⟨_,aa⟩=>absurd aa (Nat.not_lt_zero _)) (by simp) (by unfold maxLen;omega) eQ (by intro d ab;rw[List.eq_of_mem_replicate ab];exact lD)
    (by rw[hN,List.length_replicate,List.take_of_length_le (by rw[gb];exact Nat.le_refl _)];exact aJ.replicate dP n _) (fun _ h=>h.elim) (fun _ h=>h.elim) (fun _ _ h=>h.elim) (fun _ h=>h.elim)
   rw[List.length_replicate]at hv
   exact⟨_,_,F,S,run,hv.1,hv.2⟩
  ·cases he
 ·cases he
def j7 (C:bo) (T a5:TypeId) (x y:j):Option j:=
 match(C.T T).k,(C.T a5).k,x,y with
 | .slice e,.int _,.bt,.int .i64 n=>if 0≤n∧(C.T e).ok=true∧(C.T e).zero.wd=(C.T e).sz∧(flat (C.T e).zero).isSome=true∧(C.T e).sz≠0∧(C.T e).bytes*n≤140737488355328∧n≤9223372036854775807 then
   some (.aH (C.T e).sz (List.replicate n.toNat (C.T e).zero))else none
 |_,_,_,_=>none
theorem ES {P:Program} {T a5 ty e:TypeId} {k:IntKind} {i:TypeInfo} {z:Value} (aM:P.underlying T=some (.slice e)) (hu:P.underlying a5=some (.int k)) (ay:P.info? e=some i) (bf:i.zero=some z)
  (n:Nat) (bu:n≠0) (R:i.size≠0) (aR:n≤9223372036854775807) (I:n*i.bytes≤140737488355328):
  (Builtin.append_ #[T,a5] ty #[.slice none 0 0,.int .i64 n]).run P w= .ok (.slice (some ⟨w.heap.size,0,none⟩) n (grownCap w n 0 e))
   (w.drew.alloc (.cells (Builtin.zeroCells z.cells n++Builtin.zeroCells z.cells (grownCap w n 0 e-n)) e)):=by
 have pz:IntKind.i64.wrap (n:Int)=n:=by rw[IntKind.wrap_i64];omega
 have ta:¬((n:Int)<0):=by omega
 have hmul:(n:Int)*(i.bytes:Int)=((n*i.bytes:Nat):Int):=by simp
 have cC:¬(281474976710656<(n:Int)*(i.bytes:Int)):=by rw[hmul];omega
 have fh:¬(281474976710656<Builtin.nextslicecap n 0*i.bytes):=by
  have:Builtin.nextslicecap n 0=n:=by unfold Builtin.nextslicecap;rw[if_pos (by omega)]
  rw[this];omega
 have px:∀k (w:World),(askRoom k).run P w= .ok () w:=by
  intro k w
  unfold askRoom
  split<;>rfl
 have vn:¬(9223372036854775807<(n:Int)):=by omega
 have vA:n*i.size≠0:=Nat.mul_ne_zero bu R
 simp[Builtin.append_,run_underlying aM,run_underlying hu,g1 ay,n5 ay,asInt,asIntOf,pz,ta,cC,fh,bu,Question.forced,px,vn,n6 ay bf,newRow,grownCap,Builtin.firstCells]
 intro jc;exact(vA jc).elim
theorem ET (aQ:C.c5) (h:aX w0 F0 X F S s ak w) {T a5 ty:TypeId} {x y:j} {fb fE:Value} (ao:ar w F s ak x fb (fun _=>False)) (aT:ar w F s ak y fE (fun _=>False)) (he:j7 C T a5 x y=some av):
  Good C w0 F0 X ak w (Builtin.append_ #[T,a5] ty #[fb,fE]) av s:=by
 unfold j7 at he
 split at he
 ·rename_i e Rx n al yW
  have:=mr ao;subst this
  have:=j1 aT;subst this
  obtain⟨vq,d,vr,aG,aL,a1,b2,cb,bp,bk⟩:=aQ.info (dF al (by simp))
  rw[al]at bk
  have:=hS bk;subst this
  obtain⟨Ry,Rz,RA,nm,oq,RB,RC,RD,yX,yY⟩:=aQ.info (dF yW (by simp))
  rw[yW]at yY
  have:=q4 yY;subst this
  split at he
  ·rename_i n8
   obtain⟨aR,kN,lD,mw,cm,yV,vu⟩:=n8
   simp only[Option.some.injEq]at he;subst he
   obtain⟨i,vt,z,f1,f2,f3,f4,f5,f6,f7⟩:=aQ.info kN
   obtain⟨c9,jh⟩:=Option.isSome_iff_exists.1 mw
   have mx:=f5 c9 jh
   have dP:∀az,ai w F (C.T e).zero c9 az:=fun az=>(ai.flat _).1 _ c9 az (Nat.le_refl _) jh
   have kP:c9.length=(C.T e).sz:=by rw[ai.length _ _ _ (dP (fun _=>False)),lD]
   obtain⟨n,rfl⟩:=Int.eq_ofNat_of_zero_le aR
   simp only[Int.toNat_natCast]
   by_cases bu:n=0
   ·subst bu
    have run:(Builtin.append_ #[T,a5] ty #[.slice none 0 0,.int .i64 ((0:Nat):Int)]).run C.P w= .ok (.slice none 0 0) w:=by
     have pz:IntKind.i64.wrap 0=0:=by decide
     simp[Builtin.append_,run_underlying bp,run_underlying yX,g1 f1,n5 f1,asInt,asIntOf,pz]
    exact⟨_,w,F,S,run,h,.inr ⟨rfl,rfl,fun _=>False,by simp only[ba,e_];rw[ai];exact .inl ⟨rfl,_,rfl⟩,fun _ h=>h.elim,fun _ h=>h.elim,fun _ _ h=>h.elim,fun _ h=>h.elim⟩⟩
   ·have run:=ES (w:=w) (ty:=ty) bp yX f1 f4 n bu (by rw[f2];exact cm) (by omega) (by
     rw[f3]
     have:((C.T e).bytes:Int)*(n:Int)=(((C.T e).bytes*n:Nat):Int):=by simp
     rw[this]at yV
     rw[Nat.mul_comm];omega)
    rw[mx]at run
    have rj:=grownCap_ge w n 0 e
    have rk:=grownCap_le_maxLen w n 0 e (by unfold maxLen;omega)
    have yZ:∀m,(Builtin.zeroCells c9.toArray m).toList=(List.replicate m c9).flatten:=by
     intro m
     have:=s_ c9 m
     unfold Builtin.zeroCells
     simpa [kP]using this
    have gb:∀m,(List.replicate m c9).flatten.length=m*(C.T e).sz:=by intro m;simp[kP]
    generalize oo:Builtin.zeroCells c9.toArray n++Builtin.zeroCells c9.toArray (grownCap w n 0 e-n)=cur at run
    have hN:cur.toList=(List.replicate n c9).flatten++(List.replicate (grownCap w n 0 e-n) c9).flatten:=by rw[←oo,Array.toList_append,yZ,yZ]
    have eQ:cur.size=grownCap w n 0 e*(C.T e).sz:=by
     have:cur.size=cur.toList.length:=by simp
     rw[this,hN,List.length_append,gb,gb,←Nat.add_mul]
     congr 1;omega
    have hv:=h.re (aq:=w.drew.alloc (.cells cur e)) (sz:=(C.T e).sz) (cap:=grownCap w n 0 e) (xs:=List.replicate n (C.T e).zero) (cur:=cur) (e:=e) (fr:=(0,0)) (Sn:=fun _=>False) rfl rfl rfl ⟨rfl,fun _=>Nat.le_succ _⟩
     (fun o _ ⟨_,aa⟩=>absurd aa (Nat.not_lt_zero _)) (by simpa using rj) rk eQ (by intro d ab;rw[List.eq_of_mem_replicate ab];exact lD)
     (by rw[hN,List.length_replicate,List.take_left' (gb n)];exact aJ.replicate dP n _) (fun _ h=>h.elim) (fun _ h=>h.elim) (fun _ _ h=>h.elim) (fun _ h=>h.elim)
    rw[List.length_replicate]at hv
    exact⟨_,_,F,S,run,hv.1,hv.2⟩
  ·cases he
 ·cases he
def hd (s:ag) (f:FuncId) (cs:List au):Option j:=some (.fn f (cs.map (ax s)))
theorem tb {a:Act} (h:aX w0 F0 X F S s ak w) (cJ:∀t,ak t=a.tmps.getD t undef):∀(os:List Operand) (xs:List au),os.map cj=xs.map some→cE w F s ak (xs.map (ax s)) (os.map a.eval)
 |[],[],_=>by simp only[List.map_nil];rw[cE]
 |[],x::xs,h=>by simp at h
 |o::os,[],h=>by simp at h
 |o::os,x::xs,a2=>by
  simp only[List.map_cons,List.cons.injEq]at a2⊢
  rw[cE]
  exact⟨_,_,rfl,(dc h cJ a2.1).2,tb h cJ os xs a2.2⟩
theorem y0:∀(vs:List Value) (k off:Nat) (A:Array Value) (l m r:List Value),A.toList=l++(m++r)→l.length=off+k→m.length=vs.length→
  ((vs.zipIdx k).foldl (fun cs (x:Value×Nat)=>cs.setIfInBounds (off+x.2) x.1) A).toList=l++(vs++r)
 |[],k,off,A,l,m,r,fR,hl,hm=>by
  have:m=[]:=by simpa using hm
  subst this
  simpa using fR
 |v::vs,k,off,A,l,m,r,fR,hl,hm=>by
  obtain⟨x,m,rfl⟩:∃x gL,m=x::gL:=by
   cases m with
   |nil=>simp at hm
   |cons x m=>exact⟨x,m,rfl⟩
  rw[List.zipIdx_cons,List.foldl_cons]
  have:=y0 vs (k+1) off (A.setIfInBounds (off+k) v) (l++[v]) m r (by
   rw[Array.toList_setIfInBounds,fR,←hl,List.set_append_right _ _ (Nat.le_refl _)]
   simp) (by simp;omega) (by simpa using hm)
  simpa using this
def j8 (os:List (Option Nat)) (a:j):j:=os.foldl (fun a o=>hs o a) a
def j9 (place:Nat→Option (Nat×Nat)):ag→List j→List (Option Nat)→List (Nat×j)→Option (List j×ag)
 |s,ev,_,[]=>some (ev,s)
 |s,ev,os,(k,a)::r=>match bK s (j8 os a),place k,ev[k]? with
  |some (d,s1),some (off,n),some z=>match d with
   | .tuple _=>none
   |d=>if d.wd=n∧z.wd=n∧j.cF (ev.take k)=off then j9 place s1 (ev.set k d) (os++[(j8 os a).owner]) r else none
  |_,_,_=>none
def j_ (w:World) (F:Nat→Prop) (s:ag) (ak:Nat→Value):List (Nat×j)→List (Nat×Value)→Prop
 |[],[]=>True
 |(k,a)::r,(b3,v)::fq=>k=b3∧a.plain=true∧ar w F s ak a v (fun _=>False)∧j_ w F s ak r fq
 |_,_=>False
theorem EU (x:Nat):∀d:j,d.plain=true→(bn x d).plain=true
 | .h y q,_=>by simp only[bn];split<;>(try split)<;>rfl
 | .an y q,_=>by simp only[bn];split<;>rfl
 | .I y q,_=>rfl
 | .fn f c,_=>by simp only[bn];rfl
 | .hole,h=>h
 | .bool _,h=>h
 | .c2,h=>h
 | .int _ _,h=>h
 | .str _,h=>h
 | .cw,h=>h
 | .bt,h=>h
 | .slice _,h=>h
 | .aH _ _,h=>h
 | .ref _,h=>h
 | .bm _,h=>h
 | .agg _,h=>h
 | .tuple _,h=>h
theorem EV (o:Option Nat) (d:j) (h:d.plain=true):(hs o d).plain=true:=by
 cases o with
 |none=>exact h
 |some x=>exact EU x d h
theorem j_.bn {w:World} {F:Nat→Prop} {s s1:ag} {ak:Nat→Value} {o:Option Nat} (an:∀(aV:j) (dM:Value) (az:Nat→Prop),ar w F s ak aV dM az→ar w F s1 ak (hs o aV) dM az):
  ∀(r:List (Nat×j)) (fq:List (Nat×Value)),j_ w F s ak r fq→j_ w F s1 ak (r.map fun p=>(p.1,hs o p.2)) fq
 |[],[],_=>trivial
 |(k,a)::r,(b3,v)::fq,h=>by
  obtain⟨U,aa,aw,aN⟩:=h
  exact⟨U,EV _ _ aa,an _ _ _ aw,j_.bn an r fq aN⟩
 |[],_::_,h=>h.elim
 |_::_,[],h=>h.elim
theorem vB {place:Nat→Option (Nat×Nat)}:∀(ps:List (Nat×j)) (vs:List (Nat×Value)) (os:List (Option Nat)) (s:ag) (S:Nat→Nat→Prop) (ev:List j) (A:Array Value) (e0:Nat→Prop),
  aX w0 F0 X F S s ak w→j_ w F s ak (ps.map fun p=>(p.1,j8 os p.2)) vs→aJ w F ev A.toList e0→(∀b,e0 b→b<w.heap.size)→(∀b,e0 b→¬F b)→(∀u b,e0 b→¬S u b)→(∀b,e0 b→X b∨w0.heap.size≤b)→
  ∀ds s1,j9 place s ev os ps=some (ds,s1)→∃iQ bj eh,Instr.fill place A vs=some iQ∧aX w0 F0 X F bj s1 ak w∧aJ w F ds iQ.toList eh∧(∀b,eh b→b<w.heap.size)∧(∀b,eh b→¬F b)∧(∀u b,eh b→¬bj u b)∧
   (∀b,eh b→X b∨w0.heap.size≤b)∧ds.length=ev.length∧j.cF ds=j.cF ev∧(∀n,(∀d∈ev,d.wd=n)→∀d∈ds,d.wd=n)
 |[],[],os,s,S,ev,A,e0,h,_,U,aa,aw,aN,a8,ds,s1,he=>by
  simp only[j9,Option.some.injEq,Prod.mk.injEq]at he
  obtain⟨rfl,rfl⟩:=he
  exact⟨A,S,e0,rfl,h,U,aa,aw,aN,a8,rfl,rfl,fun _ h=>h⟩
 |(k,a)::ps,(b3,v)::vs,os,s,S,ev,A,e0,h,an,U,aa,aw,aN,a8,ds,s1,he=>by
  obtain⟨rfl,hx,kE,rp⟩:=an
  simp only[j9]at he
  split at he
  ·rename_i d rq off n z aM eE bf
   have key:∀d:j,(∀ah,d≠.tuple ah)→bK s (j8 os a)=some (d,rq)→(if d.wd=n∧z.wd=n∧j.cF (ev.take k)=off then j9 place rq (ev.set k d) (os++[(j8 os a).owner]) ps else none)=some (ds,s1)→
     ∃iQ bj eh,Instr.fill place A ((k,v)::vs)=some iQ∧aX w0 F0 X F bj s1 ak w∧aJ w F ds iQ.toList eh∧(∀b,eh b→b<w.heap.size)∧(∀b,eh b→¬F b)∧(∀u b,eh b→¬bj u b)∧
     (∀b,eh b→X b∨w0.heap.size≤b)∧ds.length=ev.length∧j.cF ds=j.cF ev∧(∀n,(∀d∈ev,d.wd=n)→∀d∈ds,d.wd=n):=by
    intro d mn aM he
    split at he
    ·rename_i ae
     obtain⟨nn,hT,y1⟩:=ae
     obtain⟨bj,dL,aE,aO,Sn,bg,cd,cQ,d_,eF,fQ,ji,s6⟩:=kF h hx kE aM
     obtain⟨bB,dB,bF,Sx,e9,fR,e1,dD,eK,fo,dK,iG⟩:=aJ.pick ev _ _ k z U bf
     have kJ:=q7 aO mn
     have jL:=ai.length _ _ _ bg
     have y2:=ai.length _ _ _ dK
     have nb:=iG w d (ba v) Sn (fun _ _=>rfl) (fun _ _=>rfl) bg (fun b EW EX=>by obtain⟨u,hu⟩:=ji b EW;exact aN u b (dD b EX) hu)
     have y3:=y0 (ba v) 0 off A bB dB bF fR (by rw[e1,y1];rfl) (by rw[y2,jL,nn,hT])
     generalize rr:((ba v).zipIdx 0).foldl (fun cs (x:Value×Nat)=>cs.setIfInBounds (off+x.2) x.1) A=sY at y3
     obtain⟨iQ,ch,eh,eb,fc,gn,kI,lz,eG,mo,ka,vC,lF⟩:=vB (place:=place) ps vs (os++[(j8 os a).owner]) rq bj (ev.set k d) sY (fun b=>Sx b∨Sn b) dL (by have:=j_.bn s6 _ _ rp;simpa [j8,List.foldl_append,Function.comp_def]using this) (by rw[y3];exact nb)
      (by rintro b (I|I);exact aa b (dD b I);exact cd b I) (by rintro b (I|I);exact aw b (dD b I);exact cQ b I)
      (by rintro u b (I|I);exact fun hu=>aN u b (dD b I) (fQ u b hu);exact d_ u b I) (by rintro b (I|I);exact a8 b (dD b I);exact eF b I) ds s1 he
     refine⟨iQ,ch,eh,?_,fc,gn,kI,lz,eG,mo,by rw[ka];simp,by rw[vC];exact uP _ _ _ _ bf (by rw[nn,hT]),?_⟩
     ·have vD:off+n≤A.size:=by
       have:A.size=A.toList.length:=by simp
       rw[this,fR];simp[e1,y1,y2,hT]
      simp only[Instr.fill,eE,kJ,List.size_toArray,jL,nn]
      have ic:¬(n≠n∨A.size<off+n):=by omega
      have EY:(ba v).toArray.zipIdx.foldl (fun cs (x:Value×Nat)=>cs.setIfInBounds (off+x.2) x.1) A=sY:=by
       rw[←rr,←Array.foldl_toList];simp
      simp only[ne_eq,not_true_eq_false,decide_false,Bool.false_or,decide_eq_true_eq,gt_iff_lt]
      rw[if_neg (by simp;omega)]
      rw[show(ba v).toArray.zipIdx.foldl (fun cs x=>match x with|(c,ad)=>cs.setIfInBounds (off+ad) c) A=sY from EY]
      exact eb
     ·intro EZ ru
      refine lF EZ (uQ ru ?_)
      rw[nn,←hT];exact ru z (List.mem_of_getElem? bf)
    ·cases he
   split at he
   ·cases he
   ·rename_i mn
    exact key _ (fun ah e=>mn ah e) aM he
  ·cases he
 |[],_::_,_,_,_,_,_,_,_,an,_,_,_,_,_,_,_,_=>an.elim
 |_::_,[],_,_,_,_,_,_,_,an,_,_,_,_,_,_,_,_=>an.elim
def dO (C:bo) (s:ag) (T:TypeId) (ps:List (Nat×j)):Option (j×ag):=
 match(C.T T).k,(C.T T).zero with
 | .struct ah,.agg ev=>if(flat (.agg ev)).isSome=true∧(∀f∈ah,(C.T f.1).ok=true)then
   (match j9 (fun k=>(ah[k]?).map fun f=>(f.2,(C.T f.1).sz)) s ev [] ps with
   |some (ds,s1)=>some (.agg ds,s1)
   |none=>none)else none
 |_,_=>none
def c0 (C:bo) (s:ag) (T:TypeId) (n:Nat) (ps:List (Nat×j)):Option (j×ag):=
 match(C.T T).k with
 | .slice e=>if(C.T e).ok=true∧(C.T e).zero.wd=(C.T e).sz∧(flat (C.T e).zero).isSome=true∧(C.T e).sz≠0∧n*(C.T e).sz≤16777216 then
   (match j9 (fun k=>some (k*(C.T e).sz,(C.T e).sz)) s (List.replicate n (C.T e).zero) [] ps with
   |some (ds,s1)=>some (.aH (C.T e).sz ds,s1)
   |none=>none)else none
 |_=>none
theorem E0 (aQ:C.c5):∀(gs:List Field),(∀g∈gs,(C.T g.type).ok=true)→
  gs.mapM (fun f=>(C.P.info? f.type).map fun i=>(f.offset,i.size))=some (gs.map fun g=>(g.offset,(C.T g.type).sz)):=by
 intro gs
 induction gs with
 |nil=>intro _;simp
 |cons g gs ih=>
  intro aY
  obtain⟨i,d,z,f1,f2,f3,f4,f5,f6,f7⟩:=aQ.info (aY g (by simp))
  have:=ih (fun g e3=>aY g (by simp[e3]))
  simp[List.mapM_cons,f1,f2,this]
theorem E1 (aQ:C.c5) (h:aX w0 F0 X F S s ak w) {T:TypeId} {ps:List (Nat×j)} {vs:List (Nat×Value)} (an:j_ w F s ak ps vs) (he:dO C s T ps=some (av,s1)):
  Good C w0 F0 X ak w (Instr.build T vs.toArray) av s1:=by
 unfold dO at he
 split at he
 ·rename_i ah ev al bf
  split at he
  ·rename_i ae
   obtain⟨mw,E2⟩:=ae
   split at he
   ·rename_i ds s2 gb
    simp only[Option.some.injEq,Prod.mk.injEq]at he
    obtain⟨rfl,rfl⟩:=he
    obtain⟨i,d,z,aG,aL,a1,b2,cb,bp,bk⟩:=aQ.info (dF al (by simp))
    rw[al]at bk
    obtain⟨gs,rfl,y4⟩:=q3 bk
    obtain⟨c9,jh⟩:=Option.isSome_iff_exists.1 mw
    have mx:=cb c9 (by rw[bf];exact jh)
    have dP:aJ w F ev c9.toArray.toList (fun _=>False):=by
     have:=(ai.flat (w:=w) (F:=F) _).1 (.agg ev) c9 (fun _=>False) (Nat.le_refl _) jh
     rw[ai]at this
     simpa using this
    have cV:j_ w F s ak (ps.map fun p=>(p.1,j8 [] p.2)) vs:=by simpa [j8]using an
    obtain⟨iQ,bj,eh,eb,fc,gn,kI,lz,eG,mo,ka,vC,lF⟩:=vB ps vs [] s S ev c9.toArray (fun _=>False) h cV dP (fun _ h=>h.elim) (fun _ h=>h.elim) (fun _ _ h=>h.elim) (fun _ h=>h.elim) ds s2 gb
    have eE:=E0 aQ gs.toList (fun g aY=>E2 (g.type,g.offset) (by rw[←y4];exact List.mem_map_of_mem aY))
    have E3:(fun(k:Nat)=>(ah[k]?).map fun(f:TypeId×Nat)=>(f.2,(C.T f.1).sz))=fun(k:Nat)=>((gs.toList.map fun g=>(g.offset,(C.T g.type).sz)).toArray)[k]? :=by
     funext k
     rw[←y4]
     simp only[List.getElem?_map,List.getElem?_toArray,Option.map_map]
     rfl
    rw[E3]at eb
    refine⟨.agg iQ,w,F,bj,run_build w T vs.toArray iQ ?_,fc,.inr ⟨rfl,⟨_,rfl⟩,eh,by simp only[ba,e_];rw[ai];exact gn,kI,lz,eG,mo⟩⟩
    unfold Program.built
    simp only[aG,bp,b2,eE,mx]
    exact eb
   ·cases he
  ·cases he
 ·cases he
theorem E4 (aQ:C.c5) (h:aX w0 F0 X F S s ak w) {T:TypeId} {n:Nat} {ps:List (Nat×j)} {vs:List (Nat×Value)} (an:j_ w F s ak ps vs) (he:c0 C s T n ps=some (av,s1)):
  Good C w0 F0 X ak w (Instr.buildSlice T n vs.toArray) av s1:=by
 unfold c0 at he
 split at he
 ·rename_i e al
  split at he
  ·rename_i ae
   obtain⟨kN,lD,mw,cm,RE⟩:=ae
   split at he
   ·rename_i ds s2 gb
    simp only[Option.some.injEq,Prod.mk.injEq]at he
    obtain⟨rfl,rfl⟩:=he
    obtain⟨vq,d,vr,aG,aL,a1,b2,cb,bp,bk⟩:=aQ.info (dF al (by simp))
    rw[al]at bk
    have:=hS bk;subst this
    obtain⟨i,vt,z,f1,f2,f3,f4,f5,f6,f7⟩:=aQ.info kN
    obtain⟨c9,jh⟩:=Option.isSome_iff_exists.1 mw
    have mx:=f5 c9 jh
    have dP:∀az,ai w F (C.T e).zero c9 az:=fun az=>(ai.flat _).1 _ c9 az (Nat.le_refl _) jh
    have kP:c9.length=(C.T e).sz:=by rw[ai.length _ _ _ (dP (fun _=>False)),lD]
    generalize fR:((Array.range (n*(C.T e).sz)).map ((if n*(C.T e).sz=0 then #[]else c9.toArray)[·%(if n*(C.T e).sz=0 then(#[]:Array Value)else c9.toArray).size]!))=A
    have vD:A.toList=(List.replicate n c9).flatten:=by
     rw[←fR]
     by_cases bu:n*(C.T e).sz=0
     ·have:n=0:=by
       rcases Nat.mul_eq_zero.1 bu with h|h
       ·exact h
       ·exact(cm h).elim
      subst this
      simp
     ·simp only[bu,if_false]
      have:=s_ c9 n
      rw[kP]at this
      simpa [kP]using this
    have cV:j_ w F s ak (ps.map fun p=>(p.1,j8 [] p.2)) vs:=by simpa [j8]using an
    obtain⟨iQ,bj,eh,eb,fc,gn,kI,lz,eG,mo,ka,vC,lF⟩:=vB ps vs [] s S (List.replicate n (C.T e).zero) A (fun _=>False) h cV (by rw[vD];exact aJ.replicate dP n _) (fun _ h=>h.elim) (fun _ h=>h.elim) (fun _ _ h=>h.elim) (fun _ h=>h.elim) ds s2 gb
    have hlen:ds.length=n:=by rw[ka];simp
    have y5:=lF (C.T e).sz (by intro d ab;rw[List.eq_of_mem_replicate ab];exact lD)
    have E5:iQ.toList.length=n*(C.T e).sz:=by rw[aJ.oh gn y5,hlen]
    have E6:iQ.size=n*(C.T e).sz:=by rw[←E5];simp
    have RF:n≤16777216:=by
     have:n*1≤n*(C.T e).sz:=Nat.mul_le_mul_left _ (by omega)
     omega
    have hv:=fc.re (aq:=w.alloc (.cells iQ e)) (sz:=(C.T e).sz) (cap:=n) (xs:=ds) (cur:=iQ) (e:=e) (fr:=(0,0)) (Sn:=eh) rfl rfl rfl ⟨rfl,fun _=>Nat.le_refl _⟩
     (fun o _ ⟨_,aa⟩=>absurd aa (Nat.not_lt_zero _)) (by omega) (by unfold maxLen;omega) E6 y5 (by rw[hlen,List.take_of_length_le (by omega)];exact gn) kI lz eG mo
    rw[hlen]at hv
    refine⟨_,_,F,bj,?_,hv.1,hv.2⟩
    by_cases bu:n*(C.T e).sz=0
    ·simp only[bu,if_true]at fR
     have pA:(Array.map (fun _=>(default:Value)) (Array.range 0))=A:=by
      have:n=0:=by
       rcases Nat.mul_eq_zero.1 bu with h|h
       ·exact h
       ·exact(cm h).elim
      apply Array.ext'
      rw[vD,this]
      simp
     simp[Instr.buildSlice,run_underlying bp,g1 f1,f2,bu,newRow]
     rw[pA,eb]
     simp
    ·simp only[bu,if_false]at fR
     have ic:¬(16777216<n*(C.T e).sz):=by omega
     simp[Instr.buildSlice,run_underlying bp,g1 f1,f2,bu,ic,n6 f1 f4,mx,newRow]
     have pA:(Array.map (fun x=>c9[x%c9.length]?.getD default) (Array.range (n*(C.T e).sz)))=A:=by
      rw[←fR];simp
     rw[pA,eb]
     simp
   ·cases he
  ·cases he
 ·cases he
end
inductive dI where
 |cA (x:au)
 |fs (x:au)
 |pick (c a b:au)
 |eR (T:TypeId)
 |dd (T:TypeId) (x:au)
 |dO (T:TypeId) (ps:List (Nat×au))
 |c0 (T:TypeId) (n:Nat) (ps:List (Nat×au))
 |cR (T:TypeId) (x:au)
 |ea (T:TypeId) (x y:au)
 |eH (x:au)
 |bV (op:BinOp) (T:TypeId) (x y:au)
 |un (op:UnOp) (x:au)
 |dH (A B:TypeId) (x:au)
 |hd (f:FuncId) (cs:List au)
 |eV (T:TypeId) (l c:au)
 |de (T:TypeId) (x:au) (bC ay:Option au)
 |dG (T:TypeId) (x:au) (k:Nat)
 |dx (T:TypeId) (x i:au)
 |idx (T:TypeId) (x i:au)
 |ex (x:au) (k:Nat)
 |iN (T:TypeId) (x:au) (k:Nat)
 |call (f:au) (args:List au)
 |len (T:TypeId) (x:au)
 |app (T a5:TypeId) (x y:au)
 |shr (a6:dI)
 |j7 (T a5:TypeId) (x y:au)
 |cap (T:TypeId) (x:au)
 |lG (e7:Bool) (x y:au)
 |bad
 |jm (f:au) (args:List au) (u x:Nat)
 |jn (f:au) (args:List au) (us:List Nat)
 |hU (T:TypeId) (x:au)
 |np (x:au)
 |ij (x:au)
 |rv
 |j6 (T:TypeId) (x i:au)
 |jl (T:TypeId) (x i v:au)
def dI.base:dI→dI
 | .shr a6=>a6
 | .j7 T a5 x y=>.app T a5 x y
 | .jm f args _ _=>.call f args
 | .jn f args _=>.call f args
 | .hU T x=>.dd T x
 | .np x=>.fs x
 | .ij x=>.cA x
 |a6=>a6
def pB:List Operand→Option (List au)
 |[]=>some []
 |o::os=>match cj o,pB os with
  |some x,some xs=>some (x::xs)
  |_,_=>none
def pC:List (Nat×Operand)→Option (List (Nat×au))
 |[]=>some []
 |(k,o)::os=>match cj o,pC os with
  |some x,some xs=>some ((k,x)::xs)
  |_,_=>none
def ry:Option Operand→Option (Option au)
 |none=>some none
 |some o=>(cj o).map some
def bQ:Op→Option dI
 | .move x=>(cj x).map .cA
 | .assign x=>(cj x).map .fs
 | .pick c a b=>match cj c,cj a,cj b with
   |some c,some a,some b=>some (.pick c a b)
   |_,_,_=>none
 | .alloc T=>some (.eR T)
 | .box T x=>(cj x).map (.dd T)
 | .build T ps=>(pC ps.toList).map (.dO T)
 | .buildSlice T n ps=>(pC ps.toList).map (.c0 T n)
 | .load T x=>(cj x).map (.cR T)
 | .store T x y=>match cj x,cj y with
   |some x,some y=>some (.ea T x y)
   |_,_=>none
 | .nilCheck x=>(cj x).map .eH
 | .binOp op T x y _=>match cj x,cj y with
   |some x,some y=>some (.bV op T x y)
   |_,_=>none
 | .unOp op _ x=>(cj x).map (.un op)
 | .convert A B x=>(cj x).map (.dH A B)
 | .makeFunc (.func f) first cs=>if first.isEmpty then(pB cs.toList).map (.hd f)else none
 | .makeSlice T l c=>match cj l,cj c with
   |some l,some c=>some (.eV T l c)
   |_,_=>none
 | .slice T x bC ay none=>match cj x,ry bC,ry ay with
   |some x,some bC,some ay=>some (.de T x bC ay)
   |_,_,_=>none
 | .fieldAddr T x k=>(cj x).map fun x=>.dG T x k
 | .indexAddr T x i=>match cj x,cj i with
   |some x,some i=>some (.dx T x i)
   |_,_=>none
 | .index T x i=>match cj x,cj i with
   |some x,some i=>some (.idx T x i)
   |_,_=>none
 | .extract x k=>(cj x).map fun x=>.ex x k
 | .field T x k=>(cj x).map fun x=>.iN T x k
 | .makeMap _ none=>some .rv
 | .lookup T x i false=>match cj x,cj i with
   |some x,some i=>some (.j6 T x i)
   |_,_=>none
 | .mapUpdate T x i v=>match cj x,cj i,cj v with
   |some x,some i,some v=>some (.jl T x i v)
   |_,_,_=>none
 | .call c=>match c.callee with
   | .value f=>match cj f,pB c.args.toList with
     |some f,some xs=>some (.call f xs)
     |_,_=>none
   | .builtin .len=>match c.args.toList,c.argTypes.toList with
     |[x],[T]=>(cj x).map (.len T)
     |_,_=>none
   | .builtin .cap=>match c.args.toList,c.argTypes.toList with
     |[x],[T]=>(cj x).map (.cap T)
     |_,_=>none
   | .builtin .min=>match c.args.toList with
     |[x,y]=>match cj x,cj y with
      |some x,some y=>some (.lG false x y)
      |_,_=>none
     |_=>none
   | .builtin .max=>match c.args.toList with
     |[x,y]=>match cj x,cj y with
      |some x,some y=>some (.lG true x y)
      |_,_=>none
     |_=>none
   | .builtin .append=>match c.args.toList,c.argTypes.toList with
     |[x,y],[T,a5]=>match cj x,cj y with
      |some x,some y=>some (.app T a5 x y)
      |_,_=>none
     |_,_=>none
   |_=>none
 |_=>none
def lG (e7:Bool):j→j→Option j
 | .str a,.str b=>some (.str (sM e7 a b))
 | .int k a,.int b3 b=>if k=b3 then some (.int k (uL e7 a b))else none
 |_,_=>none
def lH (s:ag):j→Option (j×ag)
 | .h y q=>bK s (.h y q)
 |d=>some (d,s)
def aW (C:bo) (s:ag):dI→Option (j×ag)
 | .cA x=>some (ax s x,s)
 | .fs x=>match ax s x with
   | .h y q=>bK s (.h y q)
   |d=>some (d,s)
 | .pick c a b=>match ax s c with
   | .bool dr=>some (if dr then ax s a else ax s b,s)
   |_=>none
 | .eR T=>(eR C T).map fun d=>(d,s)
 | .dd _ x=>dd s (ax s x)
 | .dO T ps=>dO C s T (ps.map fun p=>(p.1,ax s p.2))
 | .c0 T n ps=>c0 C s T n (ps.map fun p=>(p.1,ax s p.2))
 | .cR T x=>(cR C s T (ax s x)).map fun d=>(d,s)
 | .ea T x y=>(ea C s T (ax s x) (ax s y)).map fun s1=>(.hole,s1)
 | .eH x=>(eH s (ax s x)).map fun d=>(d,s)
 | .bV op T x y=>(bV C s op T (ax s x) (ax s y)).map fun d=>(d,s)
 | .un op x=>(un op (ax s x)).map fun d=>(d,s)
 | .dH A B x=>(dH C s A B (ax s x)).map fun d=>(d,s)
 | .hd f cs=>some (.fn f (cs.map (ax s)),s)
 | .eV T l c=>(eV C T (ax s l) (ax s c)).map fun d=>(d,s)
 | .de T x bC ay=>de C s T (ax s x) (bC.map (ax s)) (ay.map (ax s))
 | .dG T x k=>(dG C s T (ax s x) k).map fun d=>(d,s)
 | .dx T x i=>(dx C s T (ax s x) (ax s i)).map fun d=>(d,s)
 | .idx T x i=>(idx C T (ax s x) (ax s i)).map fun d=>(d,s)
 | .ex x k=>(ex s (ax s x) k).map fun d=>(d,s)
 | .iN T x k=>(iN C s T (ax s x) k).bind (lH s)
 | .call _ _=>none
 | .len T x=>(iO C s T (ax s x)).map fun d=>(d,s)
 | .app T a5 x y=>iP C s T a5 (ax s x) (ax s y)
 | .shr _=>none
 | .jm _ _ _ _=>none
 | .jn _ _ _=>none
 | .hU _ x=>hU s (ax s x)
 | .np x=>some (ax s x,s)
 | .ij x=>lH s (ax s x)
 | .rv=>some (.cx (.mp []),s)
 | .j6 T x i=>(j6 C s T (ax s x) (ax s i)).map fun d=>(d,s)
 | .jl T x i v=>(jl C s T (ax s x) (ax s i) (ax s v)).map fun s1=>(.hole,s1)
 | .j7 T a5 x y=>(j7 C T a5 (ax s x) (ax s y)).map fun d=>(d,s)
 | .cap T x=>match(C.T T).k,ax s x with
   | .slice _,.bt=>some (.int .i64 0,s)
   |_,_=>none
 | .lG e7 x y=>(lG e7 (ax s x) (ax s y)).map fun d=>(d,s)
 | .bad=>none
section
variable {C:bo} {w0 w:World} {F0 X F:Nat→Prop} {S:Nat→Nat→Prop} {s s1:ag} {a:Act} {av:j}
theorem ot:∀{os:List Operand} {xs:List au},pB os=some xs→os.map cj=xs.map some
 |[],xs,h=>by simp[pB]at h;subst h;rfl
 |o::os,xs,h=>by
  simp only[pB]at h
  split at h
  ·rename_i x E7 U aa
   simp at h;subst h
   simp[U,ot aa]
  ·cases h
theorem vE {ak:Nat→Value} (h:aX w0 F0 X F S s ak w) (cJ:∀t,ak t=a.tmps.getD t undef):∀{ps:List (Nat×Operand)} {xs:List (Nat×au)},pC ps=some xs→
  j_ w F s ak (xs.map fun p=>(p.1,ax s p.2)) (ps.map fun p=>(p.1,a.eval p.2))
 |[],xs,h=>by simp[pC]at h;subst h;trivial
 |(k,o)::ps,xs,a2=>by
  simp only[pC]at a2
  split at a2
  ·rename_i x E7 U aa
   simp at a2;subst a2
   obtain⟨aE,aO⟩:=dc h cJ U
   exact⟨rfl,aE,aO,vE h cJ aa⟩
  ·cases a2
def Next (C:bo) (w0:World) (F0 X:Nat→Prop) (ak:Nat→Value) (w:World) (m:Sem Go.Next) (av:j) (s1:ag):Prop:=
 ∃r aq v a7 az,m.run C.P w= .ok r aq∧(r= .value v∨r= .skip∧v=undef)∧aX w0 F0 X a7 az s1 ak aq∧hQ w0 X a7 az s1 ak aq av v
theorem Good.next {ak:Nat→Value} {m:Sem Value} (h:Good C w0 F0 X ak w m av s1):Next C w0 F0 X ak w (do pure (.value (←m))) av s1:=by
 obtain⟨v,aq,a7,az,U,aa,aw⟩:=h
 exact⟨.value v,aq,v,a7,az,by simp[U],.inl rfl,aa,aw⟩
theorem y6 {ak:Nat→Value} (h:aX w0 F0 X F S s ak w) {e7:Bool} {x y:j} {fb fE:Value} {m:Sem Go.Next} (U:ar w F s ak x fb (fun _=>False)) (aa:ar w F s ak y fE (fun _=>False))
  (he:(lG e7 x y).map (fun d=>(d,s))=some (av,s1)) (hm:m=(do pure (.value (←if e7 then Builtin.max2 fb fE else Builtin.min2 fb fE)))):Next C w0 F0 X ak w m av s1:=by
 simp only[Option.map_eq_some_iff,Prod.mk.injEq]at he
 obtain⟨d,ab,rfl,rfl⟩:=he
 unfold lG at ab
 split at ab
 ·rename_i a b
  simp only[Option.some.injEq]at ab;subst ab
  have aG:=jg U
  have aL:=jg aa
  subst aG aL
  subst hm
  refine⟨.value (.string ⟨⟨sM e7 a b⟩⟩),w,_,F,S,?_,.inl rfl,h,.inl ⟨rfl,kK _⟩⟩
  cases e7
  ·simp only[Builtin.min2,Op.stringOp,q8,sM,Bool.false_eq_true,if_false]
   cases I:(Op.bytesLess a b||a==b)<;>simp[asBool]
  ·simp only[Builtin.max2,Op.stringOp,q8,sM,if_true]
   cases I:Op.bytesLess a b<;>simp[asBool]
 ·rename_i k a b3 b
  split at ab
  ·rename_i al
   subst al
   simp only[Option.some.injEq]at ab;subst ab
   have aG:=j1 U
   have aL:=j1 aa
   subst aG aL
   subst hm
   refine⟨.value (.int k (uL e7 a b)),w,_,F,S,?_,.inl rfl,h,.inl ⟨rfl,of_int _ _⟩⟩
   cases e7<;>simp[Builtin.min2,Builtin.max2,uL]
  ·cases ab
 ·cases ab
theorem y7 (aQ:C.c5) {ak:Nat→Value} (h:aX w0 F0 X F S s ak w) (cJ:∀t,ak t=a.tmps.getD t undef) {o:Oper} {a6:dI} (R:bQ o.op=some a6) (he:aW C s a6=some (av,s1)):
  Next C w0 F0 X ak w (execOp a.eval o) av s1:=by
 obtain⟨dst,op,ty,pos,after,guard⟩:=o
 simp only at R
 cases op with
 |move x=>
  simp only[bQ,Option.map_eq_some_iff]at R
  obtain⟨b6,ao,rfl⟩:=R
  obtain⟨aE,aO⟩:=dc h cJ ao
  simp only[aW,Option.some.injEq,Prod.mk.injEq]at he
  obtain⟨rfl,rfl⟩:=he
  exact⟨_,w,_,F,S,rfl,.inl rfl,h,.inl ⟨aE,aO⟩⟩
 |assign x=>
  simp only[bQ,Option.map_eq_some_iff]at R
  obtain⟨b6,ao,rfl⟩:=R
  obtain⟨aE,aO⟩:=dc h cJ ao
  simp only[aW]at he
  split at he
  ·rename_i y q aT
   rw[aT]at aE aO
   obtain⟨bj,k0,bb,bq,Sn,cD,b1,cZ,cY,eT,_⟩:=kF h aE aO he
   exact⟨_,w,_,F,bj,rfl,.inl rfl,k0,.inr ⟨bb,bq,Sn,cD,b1,cZ,cY,eT⟩⟩
  ·simp only[Option.some.injEq,Prod.mk.injEq]at he
   obtain⟨rfl,rfl⟩:=he
   exact⟨_,w,_,F,S,rfl,.inl rfl,h,.inl ⟨aE,aO⟩⟩
 |pick c x y=>
  simp only[bQ]at R
  split at R
  ·rename_i y8 b6 hr ae ao aT
   simp only[Option.some.injEq]at R;subst R
   simp only[aW]at he
   split at he
   ·rename_i b I
    simp only[Option.some.injEq,Prod.mk.injEq]at he
    obtain⟨rfl,rfl⟩:=he
    have oo:=(dc h cJ ae).2
    rw[I]at oo
    have oo:=nc oo
    obtain⟨bd,bP⟩:=dc h cJ ao
    obtain⟨hy,rz⟩:=dc h cJ aT
    refine⟨.value (if b then a.eval x else a.eval y),w,_,F,S,?_,.inl rfl,h,.inl ?_⟩
    ·simp[execOp,oo,asBool]
    ·cases b
     ·exact⟨hy,rz⟩
     ·exact⟨bd,bP⟩
   ·cases he
  ·cases R
 |alloc T=>
  simp only[bQ,Option.some.injEq]at R;subst R
  simp only[aW,Option.map_eq_some_iff,Prod.mk.injEq]at he
  obtain⟨d,ab,rfl,rfl⟩:=he
  exact(D1 aQ h ab).next
 |box T x=>
  simp only[bQ,Option.map_eq_some_iff]at R
  obtain⟨b6,ao,rfl⟩:=R
  obtain⟨aE,aO⟩:=dc h cJ ao
  exact(D4 h aE aO he).next
 |build T ps=>
  simp only[bQ,Option.map_eq_some_iff]at R
  obtain⟨E8,an,rfl⟩:=R
  obtain⟨ps⟩:=ps
  have:=(E1 aQ h (vE h cJ an) he).next
  simpa [execOp]using this
 |buildSlice T n ps=>
  simp only[bQ,Option.map_eq_some_iff]at R
  obtain⟨E8,an,rfl⟩:=R
  obtain⟨ps⟩:=ps
  have:=(E4 aQ h (vE h cJ an) he).next
  simpa [execOp]using this
 |load T x=>
  simp only[bQ,Option.map_eq_some_iff]at R
  obtain⟨b6,ao,rfl⟩:=R
  obtain⟨aE,aO⟩:=dc h cJ ao
  simp only[aW,Option.map_eq_some_iff,Prod.mk.injEq]at he
  obtain⟨d,ab,rfl,rfl⟩:=he
  exact(DW aQ h aO ab).next
 |store T x y=>
  simp only[bQ]at R
  split at R
  ·rename_i b6 hr ao aT
   simp only[Option.some.injEq]at R;subst R
   simp only[aW,Option.map_eq_some_iff,Prod.mk.injEq]at he
   obtain⟨s2,ab,rfl,rfl⟩:=he
   obtain⟨aq,az,U,aa⟩:=DZ aQ h (dc h cJ ao).2 (dc h cJ aT).1 (dc h cJ aT).2 ab
   exact⟨.skip,aq,undef,F,az,by simp[execOp,U],.inr ⟨rfl,rfl⟩,aa,.inl ⟨rfl,by rw[ar];trivial⟩⟩
  ·cases R
 |nilCheck x=>
  simp only[bQ,Option.map_eq_some_iff]at R
  obtain⟨b6,ao,rfl⟩:=R
  obtain⟨aE,aO⟩:=dc h cJ ao
  simp only[aW,Option.map_eq_some_iff,Prod.mk.injEq]at he
  obtain⟨d,ab,rfl,rfl⟩:=he
  obtain⟨rfl,an,aC⟩:=Eg h aO ab
  refine⟨.value (a.eval x),w,_,F,S,?_,.inl rfl,h,.inl ⟨an,aO⟩⟩
  rcases aC with⟨b,I⟩|⟨f,c,I⟩<;>simp[execOp,I]
 |binOp op T x y RG=>
  simp only[bQ]at R
  split at R
  ·rename_i b6 hr ao aT
   simp only[Option.some.injEq]at R;subst R
   simp only[aW,Option.map_eq_some_iff,Prod.mk.injEq]at he
   obtain⟨d,ab,rfl,rfl⟩:=he
   exact(Ed aQ h x y (dc h cJ ao).2 (dc h cJ aT).2 ab).next
  ·cases R
 |unOp op T x=>
  simp only[bQ,Option.map_eq_some_iff]at R
  obtain⟨b6,ao,rfl⟩:=R
  simp only[aW,Option.map_eq_some_iff,Prod.mk.injEq]at he
  obtain⟨d,ab,rfl,rfl⟩:=he
  exact(Ee h (dc h cJ ao).2 ab).next
 |convert A B x=>
  simp only[bQ,Option.map_eq_some_iff]at R
  obtain⟨b6,ao,rfl⟩:=R
  simp only[aW,Option.map_eq_some_iff,Prod.mk.injEq]at he
  obtain⟨d,ab,rfl,rfl⟩:=he
  exact(Ep aQ h (dc h cJ ao).2 ab).next
 |makeFunc fn first cs=>
  cases fn with
  |func f=>
   simp only[bQ]at R
   split at R
   ·rename_i E9
    simp only[Option.map_eq_some_iff]at R
    obtain⟨nq,eQ,rfl⟩:=R
    simp only[aW,Option.some.injEq,Prod.mk.injEq]at he
    obtain⟨rfl,rfl⟩:=he
    have E_:first= #[]:=by simpa using E9
    subst E_
    refine⟨_,w,_,F,S,rfl,.inl rfl,h,.inl ⟨rfl,?_⟩⟩
    rw[ar]
    refine⟨cs.map a.eval,by simp,?_⟩
    simpa using tb h cJ _ _ (ot eQ)
   ·cases R
  |_=>simp[bQ]at R
 |makeSlice T l c=>
  simp only[bQ]at R
  split at R
  ·rename_i b6 hr ao aT
   simp only[Option.some.injEq]at R;subst R
   simp only[aW,Option.map_eq_some_iff,Prod.mk.injEq]at he
   obtain⟨d,ab,rfl,rfl⟩:=he
   exact(ER aQ h (dc h cJ ao).2 (dc h cJ aT).2 ab).next
  ·cases R
 |slice T x bC ay e7=>
  cases e7 with
  |some m=>simp[bQ]at R
  |none=>
   simp only[bQ]at R
   split at R
   ·rename_i b6 RH y9 ao hX hY
    simp only[Option.some.injEq]at R;subst R
    obtain⟨aE,aO⟩:=dc h cJ ao
    have opt:∀{o:Option Operand} {jM:Option au},ry o=some jM→mu w F s ak (jM.map (ax s)) (o.map a.eval):=by
     intro o jM bs
     cases o with
     |none=>simp[ry]at bs;subst bs;trivial
     |some o=>
      simp only[ry,Option.map_eq_some_iff]at bs
      obtain⟨x,ao,rfl⟩:=bs
      exact(dc h cJ ao).2
    exact(Et aQ h aE aO (opt hX) (opt hY) he).next
   ·cases R
 |fieldAddr T x k=>
  simp only[bQ,Option.map_eq_some_iff]at R
  obtain⟨b6,ao,rfl⟩:=R
  obtain⟨aE,aO⟩:=dc h cJ ao
  simp only[aW,Option.map_eq_some_iff,Prod.mk.injEq]at he
  obtain⟨d,ab,rfl,rfl⟩:=he
  exact(DQ aQ h aE aO ab).next
 |indexAddr T x i=>
  simp only[bQ]at R
  split at R
  ·rename_i b6 hr ao aT
   simp only[Option.some.injEq]at R;subst R
   simp only[aW,Option.map_eq_some_iff,Prod.mk.injEq]at he
   obtain⟨d,ab,rfl,rfl⟩:=he
   exact(DR aQ h (dc h cJ ao).2 (dc h cJ aT).2 ab).next
  ·cases R
 |index T x i=>
  simp only[bQ]at R
  split at R
  ·rename_i b6 hr ao aT
   simp only[Option.some.injEq]at R;subst R
   simp only[aW,Option.map_eq_some_iff,Prod.mk.injEq]at he
   obtain⟨d,ab,rfl,rfl⟩:=he
   exact(Em aQ h (dc h cJ ao).2 (dc h cJ aT).2 ab).next
  ·cases R
 |makeMap t r=>
  cases r with
  |none=>
   simp only[bQ,Option.some.injEq]at R;subst R
   simp only[aW,Option.some.injEq,Prod.mk.injEq]at he
   obtain⟨rfl,rfl⟩:=he
   exact(EP h t).next
  |some r=>simp[bQ]at R
 |lookup T x i c=>
  cases c with
  |true=>simp[bQ]at R
  |false=>
   simp only[bQ]at R
   split at R
   ·rename_i b6 ml ao ay
    simp only[Option.some.injEq]at R;subst R
    simp only[aW,Option.map_eq_some_iff,Prod.mk.injEq]at he
    obtain⟨d,ab,rfl,rfl⟩:=he
    exact(EM aQ h (dc h cJ ao).2 (dc h cJ ay).2 ab).next
   ·cases R
 |mapUpdate T x i v=>
  simp only[bQ]at R
  split at R
  ·rename_i b6 ml dM ao ay aC
   simp only[Option.some.injEq]at R;subst R
   simp only[aW,Option.map_eq_some_iff,Prod.mk.injEq]at he
   obtain⟨s2,ab,rfl,rfl⟩:=he
   obtain⟨aq,az,U,aa⟩:=EN aQ h (dc h cJ ao).2 (dc h cJ ay).2 (dc h cJ aC).2 ab
   exact⟨.skip,aq,undef,F,az,by simp[execOp,U],.inr ⟨rfl,rfl⟩,aa,.inl ⟨rfl,by rw[ar];trivial⟩⟩
  ·cases R
 |extract x k=>
  simp only[bQ,Option.map_eq_some_iff]at R
  obtain⟨b6,ao,rfl⟩:=R
  simp only[aW,Option.map_eq_some_iff,Prod.mk.injEq]at he
  obtain⟨d,ab,rfl,rfl⟩:=he
  exact(Ej h (dc h cJ ao).2 ab).next
 |field T x k=>
  simp only[bQ,Option.map_eq_some_iff]at R
  obtain⟨b6,ao,rfl⟩:=R
  simp only[aW,Option.bind_eq_some_iff]at he
  obtain⟨d,ab,he⟩:=he
  obtain⟨v,aq,a7,az,aB,iJ,kD⟩:=Ek aQ h (dc h cJ ao).2 ab
  unfold lH at he
  split at he
  ·rename_i y q
   have Fa:ar aq a7 s ak (.h y q) v (fun _=>False):=by
    rcases kD with⟨_,aO⟩|⟨aE,_⟩
    ·exact aO
    ·cases aE
   obtain⟨bj,k0,bb,bq,Sn,cD,b1,cZ,cY,eT,_⟩:=kF iJ rfl Fa he
   exact⟨.value v,aq,v,a7,bj,by simp[execOp,aB],.inl rfl,k0,.inr ⟨bb,bq,Sn,cD,b1,cZ,cY,eT⟩⟩
  ·simp only[Option.some.injEq,Prod.mk.injEq]at he
   obtain⟨rfl,rfl⟩:=he
   exact⟨.value v,aq,v,a7,az,by simp[execOp,aB],.inl rfl,iJ,kD⟩
 |call c=>
  obtain⟨callee,args,argTypes⟩:=c
  simp only[bQ]at R
  split at R
  ·split at R
   ·simp only[Option.some.injEq]at R;subst R
    simp[aW]at he
   ·cases R
  ·split at R
   ·rename_i x T jo ou
    simp only[Option.map_eq_some_iff]at R
    obtain⟨b6,ao,rfl⟩:=R
    simp only[aW,Option.map_eq_some_iff,Prod.mk.injEq]at he
    obtain⟨d,ab,rfl,rfl⟩:=he
    have:=(En (ty:=ty) aQ h (dc h cJ ao).2 ab).next
    have aG:args= #[x]:=by apply Array.ext';exact jo
    have aL:argTypes= #[T]:=by apply Array.ext';exact ou
    subst aG aL
    simpa [execOp,resolve,invoke,builtin]using this
   ·cases R
  ·split at R
   ·rename_i x T jo ou
    simp only[Option.map_eq_some_iff]at R
    obtain⟨b6,ao,rfl⟩:=R
    simp only[aW]at he
    split at he
    ·rename_i e al Fb
     simp only[Option.some.injEq,Prod.mk.injEq]at he
     obtain⟨rfl,rfl⟩:=he
     have aC:=(dc h cJ ao).2
     rw[Fb]at aC
     have:=mr aC
     obtain⟨i,d,z,aG,aL,a1,b2,cb,bp,bk⟩:=aQ.info (dF al (by simp))
     rw[al]at bk
     have ab:=hS bk;subst ab
     have Fe:args= #[x]:=by apply Array.ext';exact jo
     have Ff:argTypes= #[T]:=by apply Array.ext';exact ou
     subst Fe Ff
     have aB:(Builtin.cap_ #[T] ty #[a.eval x]).run C.P w= .ok (.int .i64 0) w:=by
      rw[this];simp[Builtin.cap_,run_underlying bp,goInt]
     have:=(Good.same (av:=.int .i64 0) h aB rfl (of_int _ _)).next
     simpa [execOp,resolve,invoke,builtin]using this
    ·cases he
   ·cases R
  ·split at R
   ·rename_i x y jo
    split at R
    ·rename_i b6 hr ao aT
     simp only[Option.some.injEq]at R;subst R
     have aG:args= #[x,y]:=by apply Array.ext';exact jo
     subst aG
     exact y6 h (dc h cJ ao).2 (dc h cJ aT).2 he (by simp[execOp,resolve,invoke,builtin,Builtin.min_])
    ·cases R
   ·cases R
  ·split at R
   ·rename_i x y jo
    split at R
    ·rename_i b6 hr ao aT
     simp only[Option.some.injEq]at R;subst R
     have aG:args= #[x,y]:=by apply Array.ext';exact jo
     subst aG
     exact y6 h (dc h cJ ao).2 (dc h cJ aT).2 he (by simp[execOp,resolve,invoke,builtin,Builtin.max_])
    ·cases R
   ·cases R
  ·split at R
   ·rename_i x y T a5 jo ou
    split at R
    ·rename_i b6 hr ao aT
     simp only[Option.some.injEq]at R;subst R
     have:=(ED (ty:=ty) aQ h (dc h cJ ao).2 (dc h cJ aT).2 he).next
     have aG:args= #[x,y]:=by apply Array.ext';exact jo
     have aL:argTypes= #[T,a5]:=by apply Array.ext';exact ou
     subst aG aL
     simpa [execOp,resolve,invoke,builtin]using this
    ·cases R
   ·cases R
  ·cases R
 |_=>simp[bQ]at R
end
mutual
def j.R:j→List Nat
 | .h x _=>[x]
 | .an x _=>[x]
 | .I x _=>[x]
 | .fn _ cap=>j.cP cap
 |_=>[]
def j.cP:List j→List Nat
 |[]=>[]
 |d::ds=>d.R++j.cP ds
end
inductive lI where
 |no
 |bn
 |bJ
structure el where
 k:lI
 x:Nat
 d:j
def lI.app (k:lI) (x:Nat) (a:j):j:=match k with
 | .no=>a
 | .bn=>bZ.bn x a
 | .bJ=>bZ.bJ x a
def el.at (m:el) (u:Nat) (a:j):j:=if u=m.x then m.d else m.k.app m.x a
def gN:List el→Nat→j→j
 |[],_,a=>a
 |m::ms,u,a=>gN ms u (m.at u a)
def cc (ms:List el) (s:ag):ag:=fun u=>gN ms u (s u)
theorem y_:∀(ms hz:List el) (u:Nat) (a:j),gN (ms++hz) u a=gN hz u (gN ms u a)
 |[],_,_,_=>rfl
 |m::ms,hz,u,a=>by simp only[List.cons_append,gN];exact y_ ms hz u _
theorem ik (ms hz:List el) (s:ag):cc (ms++hz) s=cc hz (cc ms s):=by
 funext u;simp[cc,y_]
theorem Fg {ms:List el} {s aj:ag} {u:Nat} (h:aj u=s u):cc ms aj u=cc ms s u:=by simp[cc,h]
theorem ov (s:ag) (x:Nat) (d:j):b4 (ff x s) x d=cc [⟨.bn,x,d⟩] s:=by
 funext u;simp only[cc,gN,el.at,b4,ff,lI.app]
theorem za (s:ag) (x:Nat) (d:j):b4 (ia x s) x d=cc [⟨.bJ,x,d⟩] s:=by
 funext u;simp only[cc,gN,el.at,b4,ia,lI.app]
theorem vF (s:ag) (x:Nat) (d:j):b4 s x d=cc [⟨.no,x,d⟩] s:=by
 funext u;simp only[cc,gN,el.at,b4,lI.app]
mutual
theorem rA {x:Nat}:∀a:j,x∉a.R→bn x a=a
 | .h y q,h=>by
   simp only[j.R,List.mem_singleton]at h
   simp only[bn];rw[if_neg (fun e=>h e.symm)]
 | .an y q,h=>by
   simp only[j.R,List.mem_singleton]at h
   simp only[bn];rw[if_neg (fun e=>h e.symm)]
 | .I y q,h=>rfl
 | .fn f cap,h=>by simp only[bn];rw[zb cap (by simpa [j.R]using h)]
 | .hole,_=>rfl
 | .bool _,_=>rfl
 | .c2,_=>rfl
 | .int _ _,_=>rfl
 | .str _,_=>rfl
 | .cw,_=>rfl
 | .bt,_=>rfl
 | .slice _,_=>rfl
 | .aH _ _,_=>rfl
 | .ref _,_=>rfl
 | .bm _,_=>rfl
 | .agg _,_=>rfl
 | .tuple _,_=>rfl
 | .cx _,_=>rfl
theorem zb {x:Nat}:∀ds:List j,x∉j.cP ds→fD x ds=ds
 |[],_=>rfl
 |d::ds,h=>by
  simp only[j.cP,List.mem_append,not_or]at h
  simp only[fD];rw[rA d h.1,zb ds h.2]
end
mutual
theorem vG {x:Nat}:∀a:j,x∉a.R→bJ x a=a
 | .h y q,h=>by
   simp only[j.R,List.mem_singleton]at h
   simp only[bJ];rw[if_neg (fun e=>h e.symm)]
 | .an y q,h=>by
   simp only[j.R,List.mem_singleton]at h
   simp only[bJ];rw[if_neg (fun e=>h e.symm)]
 | .I y q,h=>by
   simp only[j.R,List.mem_singleton]at h
   simp only[bJ];rw[if_neg (fun e=>h e.symm)]
 | .fn f cap,h=>by simp only[bJ];rw[zc cap (by simpa [j.R]using h)]
 | .hole,_=>rfl
 | .bool _,_=>rfl
 | .c2,_=>rfl
 | .int _ _,_=>rfl
 | .str _,_=>rfl
 | .cw,_=>rfl
 | .bt,_=>rfl
 | .slice _,_=>rfl
 | .aH _ _,_=>rfl
 | .ref _,_=>rfl
 | .bm _,_=>rfl
 | .agg _,_=>rfl
 | .tuple _,_=>rfl
 | .cx _,_=>rfl
theorem zc {x:Nat}:∀ds:List j,x∉j.cP ds→f_ x ds=ds
 |[],_=>rfl
 |d::ds,h=>by
  simp only[j.cP,List.mem_append,not_or]at h
  simp only[f_];rw[vG d h.1,zc ds h.2]
end
theorem rB {k:lI} {x:Nat} {a:j} (h:k= .no∨x∉a.R):k.app x a=a:=by
 cases k with
 |no=>rfl
 |bn=>exact rA a (by simpa using h)
 |bJ=>exact vG a (by simpa using h)
mutual
theorem zd (x y:Nat):∀a:j,bn x (bn y a)=bn y (bn x a)
 | .h z q=>by simp only[bn];by_cases U:z=x<;>by_cases aa:z=y<;>by_cases aw:q=[]<;>simp[U,aa,aw,bn]<;>(subst_vars;simp_all [bn])
 | .an z q=>by simp only[bn];by_cases U:z=x<;>by_cases aa:z=y<;>simp[U,aa,bn]<;>(subst_vars;simp_all [bn])
 | .I z q=>rfl
 | .fn f cap=>by simp only[bn];rw[ze x y cap]
 | .hole=>rfl
 | .bool _=>rfl
 | .c2=>rfl
 | .int _ _=>rfl
 | .str _=>rfl
 | .cw=>rfl
 | .bt=>rfl
 | .slice _=>rfl
 | .aH _ _=>rfl
 | .ref _=>rfl
 | .bm _=>rfl
 | .agg _=>rfl
 | .tuple _=>rfl
 | .cx _=>rfl
theorem ze (x y:Nat):∀ds:List j,fD x (fD y ds)=fD y (fD x ds)
 |[]=>rfl
 |d::ds=>by simp only[fD];rw[zd x y d,ze x y ds]
end
mutual
theorem zf (x y:Nat):∀a:j,bJ x (bJ y a)=bJ y (bJ x a)
 | .h z q=>by simp only[bJ];by_cases U:z=x<;>by_cases aa:z=y<;>simp[U,aa,bJ]<;>(subst_vars;simp_all [bJ])
 | .an z q=>by simp only[bJ];by_cases U:z=x<;>by_cases aa:z=y<;>simp[U,aa,bJ]<;>(subst_vars;simp_all [bJ])
 | .I z q=>by simp only[bJ];by_cases U:z=x<;>by_cases aa:z=y<;>simp[U,aa,bJ]<;>(subst_vars;simp_all [bJ])
 | .fn f cap=>by simp only[bJ];rw[zg x y cap]
 | .hole=>rfl
 | .bool _=>rfl
 | .c2=>rfl
 | .int _ _=>rfl
 | .str _=>rfl
 | .cw=>rfl
 | .bt=>rfl
 | .slice _=>rfl
 | .aH _ _=>rfl
 | .ref _=>rfl
 | .bm _=>rfl
 | .agg _=>rfl
 | .tuple _=>rfl
 | .cx _=>rfl
theorem zg (x y:Nat):∀ds:List j,f_ x (f_ y ds)=f_ y (f_ x ds)
 |[]=>rfl
 |d::ds=>by simp only[f_];rw[zf x y d,zg x y ds]
end
mutual
theorem vH (x y:Nat):∀a:j,bn x (bJ y a)=bJ y (bn x a)
 | .h z q=>by simp only[bJ,bn];by_cases U:z=x<;>by_cases aa:z=y<;>by_cases aw:q=[]<;>simp[U,aa,aw,bJ,bn]<;>(subst_vars;simp_all [bJ,bn])
 | .an z q=>by simp only[bJ,bn];by_cases U:z=x<;>by_cases aa:z=y<;>simp[U,aa,bJ,bn]<;>(subst_vars;simp_all [bJ,bn])
 | .I z q=>by simp only[bJ,bn];by_cases aa:z=y<;>simp[aa,bn]
 | .fn f cap=>by simp only[bJ,bn];rw[zh x y cap]
 | .hole=>rfl
 | .bool _=>rfl
 | .c2=>rfl
 | .int _ _=>rfl
 | .str _=>rfl
 | .cw=>rfl
 | .bt=>rfl
 | .slice _=>rfl
 | .aH _ _=>rfl
 | .ref _=>rfl
 | .bm _=>rfl
 | .agg _=>rfl
 | .tuple _=>rfl
 | .cx _=>rfl
theorem zh (x y:Nat):∀ds:List j,fD x (f_ y ds)=f_ y (fD x ds)
 |[]=>rfl
 |d::ds=>by simp only[f_,fD];rw[vH x y d,zh x y ds]
end
theorem Fh (k l:lI) (x y:Nat) (a:j):k.app x (l.app y a)=l.app y (k.app x a):=by
 cases k<;>cases l<;>simp only[lI.app]<;>first|rfl|exact zd .. |exact zf .. |exact vH .. |exact(vH ..).symm
def au.use (s:ag):au→List Nat
 | .t n=>n::(s n).R
 | .c av=>av.R
 | .f _=>[]
def au.kb (s:ag):List au→List Nat
 |[]=>[]
 |x::xs=>x.use s++au.kb s xs
def vI (s:ag):Option au→List Nat
 |none=>[]
 |some x=>x.use s
def use (s:ag):dI→List Nat
 | .cA x=>x.use s
 | .fs x=>x.use s
 | .pick c a b=>c.use s++(a.use s++b.use s)
 | .eR _=>[]
 | .dd _ x=>x.use s
 | .dO _ ps=>au.kb s (ps.map (·.2))
 | .c0 _ _ ps=>au.kb s (ps.map (·.2))
 | .cR _ x=>x.use s
 | .ea _ x y=>x.use s++y.use s
 | .eH x=>x.use s
 | .bV _ _ x y=>x.use s++y.use s
 | .un _ x=>x.use s
 | .dH _ _ x=>x.use s
 | .hd _ cs=>au.kb s cs
 | .eV _ l c=>l.use s++c.use s
 | .de _ x bC ay=>x.use s++(vI s bC++vI s ay)
 | .dG _ x _=>x.use s
 | .dx _ x i=>x.use s++i.use s
 | .idx _ x i=>x.use s++i.use s
 | .ex x _=>x.use s
 | .iN _ x _=>x.use s
 | .call f args=>f.use s++au.kb s args
 | .len _ x=>x.use s
 | .app _ _ x y=>x.use s++y.use s
 | .shr a6=>use s a6
 | .jm f args u x=>u::x::(f.use s++au.kb s args)
 | .jn f args us=>us.flatMap (fun u=>u::(s u).R)++(f.use s++au.kb s args)
 | .hU _ x=>x.use s
 | .np x=>x.use s
 | .ij x=>x.use s
 | .rv=>[]
 | .j6 _ x i=>x.use s++i.use s
 | .jl _ x i v=>x.use s++(i.use s++v.use s)
 | .j7 _ _ x y=>x.use s++y.use s
 | .cap _ x=>x.use s
 | .lG _ x y=>x.use s++y.use s
 | .bad=>[]
def b7 (s:ag):dI→List Nat
 | .fs x=>(ax s x).R
 | .dd _ x=>(ax s x).R
 | .dO _ ps=>j.cP (ps.map fun p=>ax s p.2)
 | .c0 _ _ ps=>j.cP (ps.map fun p=>ax s p.2)
 | .ea _ x y=>(ax s x).R++(ax s y).R
 | .iN _ x _=>(ax s x).R
 | .ij x=>(ax s x).R
 | .jl _ x _ _=>(ax s x).R
 | .de _ x _ _=>(ax s x).R
 | .app _ _ x y=>(ax s x).R++(ax s y).R
 | .shr a6=>b7 s a6
 |_=>[]
def cf (a5:List Nat) (aj s:ag):Prop:=∀u∈a5,aj u=s u
theorem cf.left {a5 V:List Nat} {aj s:ag} (h:cf (a5++V) aj s):cf a5 aj s:=fun u hu=>h u (List.mem_append_left _ hu)
theorem cf.right {a5 V:List Nat} {aj s:ag} (h:cf (a5++V) aj s):cf V aj s:=fun u hu=>h u (List.mem_append_right _ hu)
theorem cf.cc {a5:List Nat} {aj s:ag} (h:cf a5 aj s) (ms:List el):cf a5 (cc ms aj) (cc ms s):=fun u hu=>Fg (h u hu)
theorem cf.sub {a5 V:List Nat} {aj s:ag} (h:cf a5 aj s) (R:∀u∈V,u∈a5):cf V aj s:=fun u hu=>h u (R u hu)
theorem au.ow {s:ag} {x:au}:∀u∈(ax s x).R,u∈x.use s:=by
 intro u hu
 cases x with
 |t n=>
  simp only[ax,ga]at hu
  split at hu
  ·simp[au.use,hu]
  ·simp only[j.R,List.mem_singleton]at hu;simp[au.use,hu]
 |c av=>exact hu
 |f g=>simp[ax,j.R,j.cP]at hu
theorem au.dg {s aj:ag} {x:au} (h:cf (x.use s) aj s):ax aj x=ax s x:=by
 cases x with
 |t n=>simp only[ax];rw[h n (by simp[au.use])]
 |c av=>rfl
 |f g=>rfl
theorem cf.ax {s aj:ag} {x:au} (h:cf (x.use s) aj s):cf (ax s x).R aj s:=h.sub au.ow
theorem zi {s aj:ag} {x:Option au} (h:cf (vI s x) aj s):x.map (ax aj)=x.map (ax s):=by
 cases x with
 |none=>rfl
 |some x=>simp only[Option.map_some];rw[au.dg h]
theorem au.vJ {s aj:ag}:∀{xs:List au},cf (au.kb s xs) aj s→xs.map (ax aj)=xs.map (ax s)
 |[],_=>rfl
 |x::xs,h=>by
  simp only[List.map_cons]
  rw[au.dg (h.left),au.vJ (h.right)]
theorem au.vK {s aj:ag}:∀{ps:List (Nat×au)},cf (au.kb s (ps.map (·.2))) aj s→(ps.map fun p=>(p.1,ax aj p.2))=ps.map fun p=>(p.1,ax s p.2)
 |[],_=>rfl
 |x::xs,h=>by
  simp only[List.map_cons]at h⊢
  rw[au.dg (h.left),au.vK (h.right)]
theorem au.tc {s:ag}:∀{xs:List au},∀u∈j.cP (xs.map (ax s)),u∈au.kb s xs
 |[],u,h=>by simp[j.cP]at h
 |x::xs,u,h=>by
  simp only[List.map_cons,j.cP,List.mem_append]at h
  simp only[au.kb,List.mem_append]
  exact h.imp (au.ow u) (au.tc u)
section
variable {C:bo} {s aj:ag} {x y i:j} {T A B:TypeId}
theorem vL (h:cf x.R aj s):loc aj x=loc s x:=by
 cases x<;>first
  |rfl
  |(simp only[loc];rw[h _ (by simp[j.R])])
theorem vM {z:Nat} {q:List Nat} (h:loc s x=some (z,q)):z∈x.R:=by
 cases x with
 |h y p=>
  simp only[loc]at h
  split at h
  ·simp only[Option.some.injEq,Prod.mk.injEq]at h;simp[j.R,h.1]
  ·cases h
 |an y p=>
  simp only[loc]at h
  split at h
  ·simp only[Option.some.injEq,Prod.mk.injEq]at h;simp[j.R,h.1]
  ·cases h
 |_=>simp[loc]at h
theorem Fi (h:cf x.R aj s):cR C aj T x=cR C s T x:=by
 have hl:=vL h
 unfold cR
 split
 ·rfl
 ·rw[h _ (by simp[j.R])]
 ·rw[hl]
  split
  ·rename_i e
   rw[h _ (vM e)]
  ·rfl
theorem Fj {k:Nat} (h:cf x.R aj s):dG C aj T x k=dG C s T x k:=by
 have hl:=vL h
 unfold dG
 split
 ·split
  ·split
   ·split
    ·rfl
    ·rw[h _ (by simp[j.R])]
    ·rw[hl]
     split
     ·rename_i e
      rw[h _ (vM e)]
     ·rfl
   ·rfl
  ·rfl
 ·rfl
theorem Fk (h:cf x.R aj s):dx C aj T x i=dx C s T x i:=by
 cases x<;>first
  |rfl
  |(simp only[dx];rw[h _ (by simp[j.R])])
theorem Fl (h:cf x.R aj s):iO C aj T x=iO C s T x:=by
 unfold iO
 cases(C.T T).k<;>cases x<;>first
  |rfl
  |(simp only;rw[h _ (by simp[j.R])])
theorem Fm (h:cf x.R aj s):dH C aj A B x=dH C s A B x:=by
 unfold dH
 cases(C.T B).k<;>cases x<;>first
  |rfl
  |(simp only;rw[h _ (by simp[j.R])])
theorem Fo (h:cf x.R aj s):gE aj x=gE s x:=by
 cases x<;>first
  |rfl
  |(simp only[gE];rw[h _ (by simp[j.R])])
theorem Fp (h:cf x.R aj s):hV aj x=hV s x:=by
 cases x<;>first
  |rfl
  |(simp only[hV];rw[h _ (by simp[j.R])])
theorem Fq {op:BinOp} (h:cf x.R aj s):bV C aj op T x y=bV C s op T x y:=by
 have U:=Fo h
 have aa:=Fp h
 unfold bV
 split<;>first|rfl|simp only[U,aa]
theorem Fs (h:cf x.R aj s):eH aj x=eH s x:=by
 cases x<;>first
  |rfl
  |(simp only[eH];rw[h _ (by simp[j.R])])
theorem Ft {k y:Nat} {q:List Nat} (h:iN C s T x k=some (.h y q)):x.R=[y]:=by
 unfold iN at h
 split at h<;>try (cases h;done)
 split at h<;>try (cases h;done)
 split at h
 ·split at h<;>try (cases h;done)
  split at h
  ·rename_i ae
   simp only[Option.some.injEq]at h
   rw[h]at ae
   exact absurd ae.2.2.2 (by simp[j.tree])
  ·cases h
 ·split at h<;>try (cases h;done)
  split at h<;>try (cases h;done)
  split at h<;>try (cases h;done)
  rename_i d ab ae
  by_cases an:d.plain=true
  ·simp only[an,if_true,Option.some.injEq]at h
   rw[h]at ae
   exact absurd ae.2.2.2 (by simp[j.tree])
  ·simp only[an,Option.some.injEq]at h
   injection h with U aa
   subst U;rfl
 ·cases h
theorem zj {k:Nat} (h:cf x.R aj s):iN C aj T x k=iN C s T x k:=by
 unfold iN
 split<;>try rfl
 split<;>try rfl
 cases x<;>first
  |rfl
  |(simp only[];rw[h _ (by simp[j.R])])
theorem Fu {k:Nat} (h:cf x.R aj s):ex aj x k=ex s x k:=by
 cases x<;>first
  |rfl
  |(simp only[ex];rw[h _ (by simp[j.R])])
theorem pD:∀(q:List Nat) (a d e:j),j.sub q a=some d→(d.plain=false∨q≠[])→(q=[]→e.R=[])→(j.put q e a).R=[]:=by
 intro q a d e h an he
 cases q with
 |nil=>rw[j.put];exact he rfl
 |cons k q=>
  cases a<;>first
   |(simp[j.sub]at h;done)
   |skip
  all_goals
   unfold j.put
   repeat' split
   all_goals first|rfl|(simp_all;done)
end
def Loc {α:Type} (a5 pE:List Nat) (f:ag→Option (α×ag)) (s:ag) (av:α) (s1:ag):Prop:=
 ∃ms,s1=cc ms s∧(∀m∈ms,m.x∈pE∧m.d.R=[])∧∀aj,cf a5 aj s→f aj=some (av,cc ms aj)
theorem Loc.pure {α:Type} {a5 pE:List Nat} {f:ag→Option (α×ag)} {s:ag} {av:α} (h:∀aj,cf a5 aj s→f aj=some (av,aj)):Loc a5 pE f s av s:=
 ⟨[],rfl,by simp,fun aj R=>h aj R⟩
theorem Loc.mono {α:Type} {a5 pE td zk:List Nat} {f:ag→Option (α×ag)} {s s1:ag} {av:α} (h:Loc a5 pE f s av s1) (lE:∀u∈a5,u∈td) (ib:∀u∈pE,u∈zk):Loc td zk f s av s1:=by
 obtain⟨ms,U,aa,aw⟩:=h
 exact⟨ms,U,fun m hm=>⟨ib _ (aa m hm).1,(aa m hm).2⟩,fun aj R=>aw aj (R.sub lE)⟩
section
variable {C:bo} {s s1:ag} {x y d:j} {T A B:TypeId}
theorem my (h:bK s x=some (d,s1)):Loc x.R x.R (fun s=>bK s x) s d s1:=by
 cases x with
 |h y q=>
  simp only[bK]at h
  split at h
  ·rename_i e he
   split at h
   ·cases h
   ·rename_i an
    simp only[Option.some.injEq,Prod.mk.injEq]at h
    obtain⟨rfl,rfl⟩:=h
    have an:e.plain=false:=by simpa using an
    refine⟨[⟨.bn,y,j.put q e.bT (s y)⟩],ov _ _ _,?_,?_⟩
    ·intro m hm
     simp only[List.mem_singleton]at hm;subst hm
     refine⟨by simp[j.R],pD q _ _ _ he (.inl an) fun bX=> ?_⟩
     subst bX
     cases e<;>first|(simp[j.plain]at an;done)|rfl
    ·intro aj R
     have aG:aj y=s y:=R y (by simp[j.R])
     simp only[bK,aG,he,an]
     rw[←ov];rfl
  ·cases h
 |an y q=>simp[bK]at h
 |I y q=>simp[bK]at h
 |fn f c=>simp[bK]at h
 |hole=>simp[bK]at h
 |_=>
  simp only[bK,Option.some.injEq,Prod.mk.injEq]at h
  obtain⟨rfl,rfl⟩:=h
  exact .pure fun aj _=>rfl
mutual
theorem zl (x:Nat):∀a:j,∀u∈(bn x a).R,u∈a.R
 | .h y q,u,h=>by
   simp only[bn]at h
   split at h
   ·split at h
    ·exact h
    ·simp[j.R]at h
   ·exact h
 | .an y q,u,h=>by
   simp only[bn]at h
   split at h
   ·simp[j.R]at h
   ·exact h
 | .I y q,u,h=>h
 | .fn f cap,u,h=>by simp only[bn,j.R]at h⊢;exact zm x cap u h
 | .hole,u,h=>h
 | .bool _,u,h=>h
 | .c2,u,h=>h
 | .int _ _,u,h=>h
 | .str _,u,h=>h
 | .cw,u,h=>h
 | .bt,u,h=>h
 | .slice _,u,h=>h
 | .aH _ _,u,h=>h
 | .ref _,u,h=>h
 | .bm _,u,h=>h
 | .agg _,u,h=>h
 | .tuple _,u,h=>h
theorem zm (x:Nat):∀ds:List j,∀u∈j.cP (fD x ds),u∈j.cP ds
 |[],u,h=>h
 |d::ds,u,h=>by
  simp only[fD,j.cP,List.mem_append]at h⊢
  exact h.imp (zl x d u) (zm x ds u)
end
theorem vN (o:Option Nat) (a:j):∀u∈(hs o a).R,u∈a.R:=by
 intro u h
 cases o with
 |none=>exact h
 |some x=>exact zl x a u h
theorem zn:∀(os:List (Option Nat)) (a:j),∀u∈(j8 os a).R,u∈a.R:=by
 intro os
 induction os with
 |nil=>intro a u h;exact h
 |cons o os ih=>intro a u h;exact vN o a u (ih (hs o a) u h)
theorem zo {place:Nat→Option (Nat×Nat)}:∀{ps:List (Nat×j)} {s s1:ag} {ev ds:List j} {os:List (Option Nat)},j9 place s ev os ps=some (ds,s1)→
  Loc (j.cP (ps.map (·.2))) (j.cP (ps.map (·.2))) (fun s=>j9 place s ev os ps) s ds s1:=by
 intro ps
 induction ps with
 |nil=>
  intro s s1 ev ds os h
  simp only[j9,Option.some.injEq,Prod.mk.injEq]at h
  obtain⟨rfl,rfl⟩:=h
  exact .pure fun aj _=>rfl
 |cons p ps ih=>
  intro s s1 ev ds os h
  obtain⟨k,a⟩:=p
  simp only[j9]at h
  split at h
  ·rename_i d s2 off n z aM eE bf
   split at h
   ·cases h
   ·rename_i aV jq
    split at h
    ·rename_i ae
     obtain⟨kS,rfl,aa,aw⟩:=my aM
     obtain⟨nk,rfl,a8,bI⟩:=ih h
     refine⟨kS++nk,(ik _ _ _).symm,?_,?_⟩
     ·intro m hm
      simp only[List.map_cons,j.cP,List.mem_append]at hm⊢
      rcases hm with hm|hm
      ·exact⟨.inl (zn _ _ _ (aa m hm).1),(aa m hm).2⟩
      ·exact⟨.inr (a8 m hm).1,(a8 m hm).2⟩
     ·intro aj R
      simp only[List.map_cons,j.cP]at R
      have aG:=aw aj (R.left.sub (zn _ _))
      have aL:=bI (cc kS aj) (R.right.cc kS)
      simp only at aG aL
      simp only[j9,aG,eE,bf,ik]
      rw[if_pos ae];exact aL
    ·cases h
  ·cases h
theorem Fv {ps:List (Nat×j)} {av:j} (h:dO C s T ps=some (av,s1)):Loc (j.cP (ps.map (·.2))) (j.cP (ps.map (·.2))) (fun s=>dO C s T ps) s av s1:=by
 unfold dO at h
 split at h
 ·rename_i ah ev al bf
  split at h
  ·rename_i ae
   split at h
   ·rename_i ds s2 bc
    simp only[Option.some.injEq,Prod.mk.injEq]at h
    obtain⟨rfl,rfl⟩:=h
    obtain⟨ms,U,aa,aw⟩:=zo bc
    refine⟨ms,U,aa,fun aj R=> ?_⟩
    have:=aw aj R
    simp only at this
    simp only[dO,al,bf,if_pos ae,this]
   ·cases h
  ·cases h
 ·cases h
theorem Fw {n:Nat} {ps:List (Nat×j)} {av:j} (h:c0 C s T n ps=some (av,s1)):Loc (j.cP (ps.map (·.2))) (j.cP (ps.map (·.2))) (fun s=>c0 C s T n ps) s av s1:=by
 unfold c0 at h
 split at h
 ·rename_i e al
  split at h
  ·rename_i ae
   split at h
   ·rename_i ds s2 bc
    simp only[Option.some.injEq,Prod.mk.injEq]at h
    obtain⟨rfl,rfl⟩:=h
    obtain⟨ms,U,aa,aw⟩:=zo bc
    refine⟨ms,U,aa,fun aj R=> ?_⟩
    have:=aw aj R
    simp only at this
    simp only[c0,al,if_pos ae,this]
   ·cases h
  ·cases h
 ·cases h
theorem Fx {av:j} (h:dd s x=some (av,s1)):Loc x.R x.R (fun s=>dd s x) s av s1:=by
 unfold dd at h
 split at h
 ·cases h
 ·rename_i d s2 jq aM
  simp only[Option.some.injEq,Prod.mk.injEq]at h
  obtain⟨rfl,rfl⟩:=h
  obtain⟨ms,U,aa,aw⟩:=my aM
  refine⟨ms,U,aa,fun aj R=> ?_⟩
  have:=aw aj R
  simp only at this
  simp only[dd,this]
 ·cases h
theorem Fy {av:j} (h:hU s x=some (av,s1)):Loc x.R [] (fun s=>hU s x) s av s1:=by
 unfold hU at h
 split at h
 ·rename_i y q
  split at h
  ·rename_i ds jH
   split at h
   ·cases h
   ·rename_i q6
    simp only[Option.some.injEq,Prod.mk.injEq]at h
    obtain⟨rfl,rfl⟩:=h
    refine .pure fun aj R=> ?_
    have e:aj y=s y:=R y (by simp[j.R])
    simp only[hU,e,jH,if_neg q6]
  ·cases h
 ·split at h
  ·rename_i ae
   simp only[Option.some.injEq,Prod.mk.injEq]at h
   obtain⟨rfl,rfl⟩:=h
   exact .pure fun aj R=>by simp only[hU,ae,if_true]
  ·cases h
 ·cases h
theorem Fz {s2:ag} (h:ea C s T x y=some s2):Loc (x.R++y.R) (x.R++y.R) (fun s=>(ea C s T x y).map fun s1=>(j.hole,s1)) s .hole s2:=by
 unfold ea at h
 split at h
 ·rename_i d s1 z q aM hl
  obtain⟨ms,U,aa,aw⟩:=my aM
  have bf:=vM hl
  have bX:q≠[]:=by
   cases x with
   |h y p=>
    simp only[loc]at hl
    split at hl
    ·simp only[Option.some.injEq,Prod.mk.injEq]at hl;simp[←hl.2]
    ·cases hl
   |an y p=>
    simp only[loc]at hl
    split at hl
    ·rename_i kH
     simp only[Option.some.injEq,Prod.mk.injEq]at hl
     obtain⟨rfl,rfl⟩:=hl
     intro e;subst e;simp[j.dn]at kH
    ·cases hl
   |_=>simp[loc]at hl
  split at h
  ·cases h
  ·rename_i aV jq
   split at h
   ·rename_i d0 jf
    split at h
    ·rename_i ae
     simp only[Option.some.injEq]at h;subst h
     refine⟨ms++[⟨.bn,z,j.put q d (s z)⟩],?_,?_,?_⟩
     ·rw[ik,←U,ov]
     ·intro m hm
      simp only[List.mem_append,List.mem_singleton]at hm⊢
      rcases hm with hm|rfl
      ·exact⟨.inr (aa m hm).1,(aa m hm).2⟩
      ·exact⟨.inl bf,pD q _ _ _ jf (.inr bX) fun e=>(bX e).elim⟩
     ·intro aj R
      have aG:=aw aj R.right
      simp only at aG
      simp only[ea,aG,vL R.left,hl,R.left z bf,jf]
      cases d<;>first|(simp only[if_pos ae,Option.map_some,ik,ov];done)|exact(jq _ rfl).elim
    ·cases h
   ·cases h
 ·cases h
theorem FA {bC ay:Option j} {av:j} (h:de C s T x bC ay=some (av,s1)):Loc x.R x.R (fun s=>de C s T x bC ay) s av s1:=by
 cases x with
 |h y q=>
  unfold de at h
  split at h<;>first|(cases h;done)|skip
  all_goals (rename_i ao;try cases ao)
  rename_i e al
  split at h
  ·rename_i sz xs da
   split at h
   ·rename_i b hX hY
    split at h
    ·rename_i ae
     split at h
     ·rename_i d s2 aM
      simp only[Option.some.injEq,Prod.mk.injEq]at h
      obtain⟨rfl,rfl⟩:=h
      obtain⟨ms,U,aa,aw⟩:=my aM
      refine⟨ms,U,aa,fun aj R=> ?_⟩
      have:=aw aj R
      simp only at this
      have aG:aj y=s y:=R y (by simp[j.R])
      simp only[de,al,aG,da,hX,hY,if_pos ae,this]
     ·cases h
    ·cases h
   ·cases h
  ·cases h
 |_=>
  have lJ:s1=s:=by
   unfold de at h
   repeat' split at h
   all_goals first|(cases h;done)|(simp only[Option.some.injEq,Prod.mk.injEq]at h;exact h.2.symm)|simp_all
  subst lJ
  refine .pure fun aj _=> ?_
  unfold de at h⊢
  repeat' split at h
  all_goals first
   |(cases h;done)
   |(simp only[Option.some.injEq,Prod.mk.injEq]at h
     obtain⟨rfl,_⟩:=h
     simp_all)
def lK (C:bo) (e:TypeId) (s:ag):j→Option (j×ag)
 | .bt=>some (j.aH (C.T e).sz [],s)
 | .h a q=>bK s (.h a q)
 |_=>none
def h0 (s1:ag):j→Option (List j×ag)
 | .bt=>some ([],s1)
 | .slice ys=>some (ys,s1)
 | .str l=>some (l.map ha,s1)
 | .h a q=>match bK s1 (.h a q)with
   |some (.aH _ ys,s2)=>some (ys,s2)
   |_=>none
 |_=>none
theorem vO (C:bo) (s:ag) (T a5:TypeId) (x y:j):iP C s T a5 x y=(match(C.T T).k with
 | .slice e=>if(C.T e).ok=true∧(C.T e).zero.wd=(C.T e).sz∧(flat (C.T e).zero).isSome=true∧s4 C e a5=true then
   match lK C e s x with
   |some (.aH sz xs,s1)=>if sz=(C.T e).sz then
     match h0 s1 (hs x.owner y)with
     |some (ys,s2)=>if(∀d∈ys,d.wd=(C.T e).sz)∧(xs.length+ys.length)*(C.T e).bytes≤140737488355328∧xs.length+ys.length≤9223372036854775807 then some (.aH sz (xs++ys),s2)else none
     |none=>none
    else none
   |_=>none
   else none
 |_=>none):=by
 unfold iP
 generalize hs x.owner y=hr
 cases(C.T T).k<;>first
  |rfl
  |(cases x<;>cases hr<;>rfl)
theorem FB {e:TypeId} {d:j} (U:lK C e s x=some (d,s1)):Loc x.R x.R (fun s=>lK C e s x) s d s1:=by
 cases x with
 |bt=>
  simp only[lK,Option.some.injEq,Prod.mk.injEq]at U
  obtain⟨U,rfl⟩:=U
  exact .pure fun aj _=>by simp only[lK,U]
 |h a q=>exact my U
 |_=>simp[lK]at U
theorem FC {ys:List j} (aa:h0 s y=some (ys,s1)):Loc y.R y.R (fun s=>h0 s y) s ys s1:=by
 cases y with
 |bt=>
  simp only[h0,Option.some.injEq,Prod.mk.injEq]at aa
  obtain⟨rfl,rfl⟩:=aa
  exact .pure fun aj _=>rfl
 |slice ys=>
  simp only[h0,Option.some.injEq,Prod.mk.injEq]at aa
  obtain⟨rfl,rfl⟩:=aa
  exact .pure fun aj _=>rfl
 |str l=>
  simp only[h0,Option.some.injEq,Prod.mk.injEq]at aa
  obtain⟨rfl,rfl⟩:=aa
  exact .pure fun aj _=>rfl
 |h a q=>
  simp only[h0]at aa
  split at aa
  ·rename_i EE RI zp aM
   simp only[Option.some.injEq,Prod.mk.injEq]at aa
   obtain⟨rfl,rfl⟩:=aa
   obtain⟨ms,aE,aO,bg⟩:=my aM
   refine⟨ms,aE,aO,fun aj R=> ?_⟩
   have:=bg aj R
   simp only at this
   simp only[h0,this]
  ·cases aa
 |_=>simp[h0]at aa
theorem FD {av:j} (h:iP C s T A x y=some (av,s1)):Loc (x.R++y.R) (x.R++y.R) (fun s=>iP C s T A x y) s av s1:=by
 rw[vO]at h
 split at h
 ·rename_i e al
  split at h
  ·rename_i ae
   split at h
   ·rename_i sz xs s2 U
    split at h
    ·rename_i cm
     split at h
     ·rename_i ys ew aa
      split at h
      ·rename_i hT
       simp only[Option.some.injEq,Prod.mk.injEq]at h
       obtain⟨rfl,rfl⟩:=h
       obtain⟨kS,rfl,cn,a3⟩:=FB U
       obtain⟨nk,rfl,gd,kQ⟩:=(FC aa).mono (vN _ _) (vN _ _)
       refine⟨kS++nk,(ik _ _ _).symm,?_,?_⟩
       ·intro m hm
        simp only[List.mem_append]at hm⊢
        rcases hm with hm|hm
        ·exact⟨.inl (cn m hm).1,(cn m hm).2⟩
        ·exact⟨.inr (gd m hm).1,(gd m hm).2⟩
       ·intro aj R
        have aG:=a3 aj R.left
        have aL:=kQ (cc kS aj) (R.right.cc kS)
        simp only at aG aL
        simp only[vO,al,if_pos ae,aG,if_pos cm,aL,if_pos hT,ik]
      ·cases h
     ·cases h
    ·cases h
   ·cases h
  ·cases h
 ·cases h
theorem FE {aj:ag} {i:j} (h:cf x.R aj s):j6 C aj T x i=j6 C s T x i:=by
 cases x with
 |h y q=>cases i<;>simp only[j6,h y (by simp[j.R])]
 |_=>rfl
theorem FF {i v:j} {s2:ag} (h:jl C s T x i v=some s2):Loc x.R x.R (fun s=>(jl C s T x i v).map fun s1=>(j.hole,s1)) s .hole s2:=by
 unfold jl at h
 split at h
 ·rename_i y q k b
  split at h
  ·rename_i m ab
   split at h
   ·rename_i ib
    simp only[Option.some.injEq]at h;subst h
    refine⟨[⟨.bn,y,j.put q (.cx (.mp (lp k b m))) (s y)⟩],ov _ _ _,?_,fun aj R=> ?_⟩
    ·intro n aR
     simp only[List.mem_singleton]at aR;subst aR
     exact⟨by simp[j.R],pD q _ _ _ ab (.inl rfl) fun _=>rfl⟩
    ·have aG:aj y=s y:=R y (by simp[j.R])
     simp only[jl,aG,ab,ib,if_true,Option.map_some]
     rw[←ov]
   ·cases h
  ·cases h
 ·cases h
theorem zq {a6:dI} {av:j} (h:aW C s a6=some (av,s1)):Loc (use s a6) (b7 s a6) (fun s=>aW C s a6) s av s1:=by
 cases a6 with
 |shr a6=>simp[aW]at h
 |jm f args u x=>simp[aW]at h
 |jn f args L=>simp[aW]at h
 |ij x=>
  simp only[aW]at h
  unfold lH at h
  split at h
  ·rename_i y q ao
   obtain⟨ms,U,aa,aw⟩:=my h
   refine⟨ms,U,by simpa only[b7,ao]using aa,fun aj R=> ?_⟩
   have e:=au.dg (x:=x) R
   have aL:=aw aj (by rw[←ao];exact cf.ax R)
   simp only[aW,e,ao,lH]
   exact aL
  ·rename_i zr
   simp only[Option.some.injEq,Prod.mk.injEq]at h
   obtain⟨rfl,rfl⟩:=h
   refine .pure fun aj R=> ?_
   have e:=au.dg (x:=x) R
   simp only[aW,e,lH]
 |np x=>
  simp only[aW,Option.some.injEq,Prod.mk.injEq]at h
  obtain⟨rfl,rfl⟩:=h
  exact .pure fun aj R=>by simp only[aW,au.dg (x:=x) R]
 |hU T x=>
  obtain⟨ms,U,aa,aw⟩:=Fy h
  refine⟨ms,U,aa,fun aj R=> ?_⟩
  simp only[aW,au.dg (x:=x) R]
  exact aw aj (cf.ax R)
 |j7 T a5 x y=>
  simp only[aW,Option.map_eq_some_iff,Prod.mk.injEq]at h
  obtain⟨d,ab,rfl,rfl⟩:=h
  exact .pure fun aj R=>by
   simp only[use]at R
   simp only[aW,au.dg (x:=x) R.left,au.dg (x:=y) R.right,ab,Option.map_some]
 |bad=>simp[aW]at h
 |lG e7 x y=>
  simp only[aW,Option.map_eq_some_iff,Prod.mk.injEq]at h
  obtain⟨d,ab,rfl,rfl⟩:=h
  exact .pure fun aj R=>by
   simp only[use]at R
   simp only[aW,au.dg (x:=x) R.left,au.dg (x:=y) R.right,ab,Option.map_some]
 |cap T x=>
  simp only[aW]at h
  split at h
  ·rename_i e al ao
   simp only[Option.some.injEq,Prod.mk.injEq]at h
   obtain⟨rfl,rfl⟩:=h
   exact .pure fun aj R=>by simp only[aW,au.dg (x:=x) R,al,ao]
  ·cases h
 |cA x=>
  simp only[aW,Option.some.injEq,Prod.mk.injEq]at h
  obtain⟨rfl,rfl⟩:=h
  exact .pure fun aj R=>by simp only[aW,au.dg (x:=x) R]
 |fs x=>
  simp only[aW]at h
  split at h
  ·rename_i y q ao
   obtain⟨ms,U,aa,aw⟩:=my h
   refine⟨ms,U,by simpa only[b7,ao]using aa,fun aj R=> ?_⟩
   have e:=au.dg (x:=x) R
   have aL:=aw aj (by rw[←ao];exact cf.ax R)
   simp only[aW,e,ao]
   exact aL
  ·rename_i zr
   simp only[Option.some.injEq,Prod.mk.injEq]at h
   obtain⟨rfl,rfl⟩:=h
   refine .pure fun aj R=> ?_
   have e:=au.dg (x:=x) R
   simp only[aW,e]
 |pick c a b=>
  simp only[aW]at h
  split at h
  ·rename_i dr I
   simp only[Option.some.injEq,Prod.mk.injEq]at h
   obtain⟨rfl,rfl⟩:=h
   refine .pure fun aj R=> ?_
   simp only[use]at R
   simp only[aW,au.dg (x:=c) R.left,au.dg (x:=a) R.right.left,au.dg (x:=b) R.right.right,I]
  ·cases h
 |eR T=>
  simp only[aW,Option.map_eq_some_iff,Prod.mk.injEq]at h
  obtain⟨d,ab,rfl,rfl⟩:=h
  exact .pure fun aj R=>by simp only[aW,ab,Option.map_some]
 |dd T x=>
  obtain⟨ms,U,aa,aw⟩:=Fx h
  refine⟨ms,U,aa,fun aj R=> ?_⟩
  simp only[aW,au.dg (x:=x) R]
  exact aw aj (cf.ax R)
 |dO T ps=>
  obtain⟨ms,U,aa,aw⟩:=Fv h
  simp only[List.map_map,Function.comp_def]at aa aw
  refine⟨ms,U,aa,fun aj R=> ?_⟩
  simp only[aW,au.vK (ps:=ps) R]
  refine aw aj (R.sub fun u hu=> ?_)
  simp only[use]
  exact au.tc u (by simpa [List.map_map,Function.comp_def]using hu)
 |c0 T n ps=>
  obtain⟨ms,U,aa,aw⟩:=Fw h
  simp only[List.map_map,Function.comp_def]at aa aw
  refine⟨ms,U,aa,fun aj R=> ?_⟩
  simp only[aW,au.vK (ps:=ps) R]
  refine aw aj (R.sub fun u hu=> ?_)
  simp only[use]
  exact au.tc u (by simpa [List.map_map,Function.comp_def]using hu)
 |cR T x=>
  simp only[aW,Option.map_eq_some_iff,Prod.mk.injEq]at h
  obtain⟨d,ab,rfl,rfl⟩:=h
  exact .pure fun aj R=>by simp only[aW,au.dg (x:=x) R,Fi (cf.ax R),ab,Option.map_some]
 |ea T x y=>
  simp only[aW,Option.map_eq_some_iff,Prod.mk.injEq]at h
  obtain⟨s2,ab,rfl,rfl⟩:=h
  obtain⟨ms,U,aa,aw⟩:=Fz ab
  refine⟨ms,U,aa,fun aj R=> ?_⟩
  simp only[use]at R
  simp only[aW,au.dg (x:=x) R.left,au.dg (x:=y) R.right]
  exact aw aj (R.sub fun u hu=>by simp only[List.mem_append]at hu⊢;exact hu.imp (au.ow u) (au.ow u))
 |eH x=>
  simp only[aW,Option.map_eq_some_iff,Prod.mk.injEq]at h
  obtain⟨d,ab,rfl,rfl⟩:=h
  exact .pure fun aj R=>by simp only[aW,au.dg (x:=x) R,Fs (cf.ax R),ab,Option.map_some]
 |bV op T x y=>
  simp only[aW,Option.map_eq_some_iff,Prod.mk.injEq]at h
  obtain⟨d,ab,rfl,rfl⟩:=h
  refine .pure fun aj R=> ?_
  simp only[use]at R
  simp only[aW,au.dg (x:=x) R.left,au.dg (x:=y) R.right,Fq (cf.ax R.left),ab,Option.map_some]
 |un op x=>
  simp only[aW,Option.map_eq_some_iff,Prod.mk.injEq]at h
  obtain⟨d,ab,rfl,rfl⟩:=h
  exact .pure fun aj R=>by simp only[aW,au.dg (x:=x) R,ab,Option.map_some]
 |dH A B x=>
  simp only[aW,Option.map_eq_some_iff,Prod.mk.injEq]at h
  obtain⟨d,ab,rfl,rfl⟩:=h
  exact .pure fun aj R=>by simp only[aW,au.dg (x:=x) R,Fm (cf.ax R),ab,Option.map_some]
 |hd f cs=>
  simp only[aW,Option.some.injEq,Prod.mk.injEq]at h
  obtain⟨rfl,rfl⟩:=h
  exact .pure fun aj R=>by simp only[aW,au.vJ (xs:=cs) R]
 |eV T l c=>
  simp only[aW,Option.map_eq_some_iff,Prod.mk.injEq]at h
  obtain⟨d,ab,rfl,rfl⟩:=h
  refine .pure fun aj R=> ?_
  simp only[use]at R
  simp only[aW,au.dg (x:=l) R.left,au.dg (x:=c) R.right,ab,Option.map_some]
 |de T x bC ay=>
  simp only[aW]at h
  obtain⟨ms,U,aa,aw⟩:=FA h
  refine⟨ms,U,aa,fun aj R=> ?_⟩
  simp only[use]at R
  simp only[aW,au.dg (x:=x) R.left,zi R.right.left,zi R.right.right]
  exact aw aj (cf.ax R.left)
 |dG T x k=>
  simp only[aW,Option.map_eq_some_iff,Prod.mk.injEq]at h
  obtain⟨d,ab,rfl,rfl⟩:=h
  exact .pure fun aj R=>by simp only[aW,au.dg (x:=x) R,Fj (cf.ax R),ab,Option.map_some]
 |dx T x i=>
  simp only[aW,Option.map_eq_some_iff,Prod.mk.injEq]at h
  obtain⟨d,ab,rfl,rfl⟩:=h
  refine .pure fun aj R=> ?_
  simp only[use]at R
  simp only[aW,au.dg (x:=x) R.left,au.dg (x:=i) R.right,Fk (cf.ax R.left),ab,Option.map_some]
 |idx T x i=>
  simp only[aW,Option.map_eq_some_iff,Prod.mk.injEq]at h
  obtain⟨d,ab,rfl,rfl⟩:=h
  refine .pure fun aj R=> ?_
  simp only[use]at R
  simp only[aW,au.dg (x:=x) R.left,au.dg (x:=i) R.right,ab,Option.map_some]
 |ex x k=>
  simp only[aW,Option.map_eq_some_iff,Prod.mk.injEq]at h
  obtain⟨d,ab,rfl,rfl⟩:=h
  exact .pure fun aj R=>by simp only[aW,au.dg (x:=x) R,Fu (cf.ax R),ab,Option.map_some]
 |rv=>
  simp only[aW,Option.some.injEq,Prod.mk.injEq]at h
  obtain⟨rfl,rfl⟩:=h
  exact .pure fun aj R=>rfl
 |j6 T x i=>
  simp only[aW,Option.map_eq_some_iff,Prod.mk.injEq]at h
  obtain⟨d,ab,rfl,rfl⟩:=h
  refine .pure fun aj R=> ?_
  simp only[use]at R
  simp only[aW,au.dg (x:=x) R.left,au.dg (x:=i) R.right,FE (cf.ax R.left),ab,Option.map_some]
 |jl T x i v=>
  simp only[aW,Option.map_eq_some_iff,Prod.mk.injEq]at h
  obtain⟨s2,ab,rfl,rfl⟩:=h
  obtain⟨ms,U,aa,aw⟩:=FF ab
  refine⟨ms,U,aa,fun aj R=> ?_⟩
  simp only[use]at R
  simp only[aW,au.dg (x:=x) R.left,au.dg (x:=i) R.right.left,au.dg (x:=v) R.right.right]
  exact aw aj (cf.ax R.left)
 |iN T x k=>
  simp only[aW,Option.bind_eq_some_iff]at h
  obtain⟨d,ab,h⟩:=h
  unfold lH at h
  split at h
  ·rename_i y q
   have ao:=Ft ab
   obtain⟨ms,U,aa,aw⟩:=my h
   refine⟨ms,U,by simpa only[b7,ao,j.R]using aa,fun aj R=> ?_⟩
   have aL:=aw aj (by rw[show(j.h y q).R=(ax s x).R from ao.symm];exact cf.ax R)
   simp only[aW,au.dg (x:=x) R,zj (cf.ax R),ab,Option.bind_some,lH]
   exact aL
  ·rename_i zr
   simp only[Option.some.injEq,Prod.mk.injEq]at h
   obtain⟨rfl,rfl⟩:=h
   refine .pure fun aj R=> ?_
   simp only[aW,au.dg (x:=x) R,zj (cf.ax R),ab,Option.bind_some,lH]
 |call f args=>simp[aW]at h
 |len T x=>
  simp only[aW,Option.map_eq_some_iff,Prod.mk.injEq]at h
  obtain⟨d,ab,rfl,rfl⟩:=h
  exact .pure fun aj R=>by simp only[aW,au.dg (x:=x) R,Fl (cf.ax R),ab,Option.map_some]
 |app T a5 x y=>
  obtain⟨ms,U,aa,aw⟩:=FD h
  refine⟨ms,U,aa,fun aj R=> ?_⟩
  simp only[use]at R
  simp only[aW,au.dg (x:=x) R.left,au.dg (x:=y) R.right]
  exact aw aj (R.sub fun u hu=>by simp only[List.mem_append]at hu⊢;exact hu.imp (au.ow u) (au.ow u))
end
def j.one:j→Bool
 | .agg _=>false
 | .tuple _=>false
 |_=>true
mutual
def view (s:ag):j→Option j
 | .h x q=>match j.sub q (s x)with
   |some d=>(match d with| .tuple _=>none| .cx _=>none|d=>if d.plain then none else some d.share)
   |none=>none
 | .an x q=>if j.dn q (s x)then(match j.sub q (s x)with
   |some d=>(match d with| .tuple _=>none|d=>some (.ref d.share))
   |none=>none)else none
 | .I _ _=>none
 | .fn f cap=>(views s cap).map (.fn f)
 | .hole=>none
 |d=>some d
def views (s:ag):List j→Option (List j)
 |[]=>some []
 |d::ds=>match view s d,views s ds with
  |some a,some b=>some (a::b)
  |_,_=>none
end
mutual
theorem vP:∀d:j,d.share.plain=true
 | .hole=>rfl
 | .bool _=>rfl
 | .c2=>rfl
 | .int _ _=>rfl
 | .str _=>rfl
 | .cw=>rfl
 | .bt=>rfl
 | .slice _=>rfl
 | .aH _ _=>rfl
 | .ref _=>rfl
 | .bm _=>rfl
 | .agg ah=>by simp only[j.share,j.plain];exact vQ ah
 | .tuple ah=>by simp only[j.share,j.plain];exact vQ ah
 | .fn _ _=>rfl
 | .h _ _=>rfl
 | .an _ _=>rfl
 | .I _ _=>rfl
 | .cx _=>rfl
theorem vQ:∀ds:List j,j.dE (j.shares ds)=true
 |[]=>rfl
 |d::ds=>by simp only[j.shares,j.dE];rw[vP d,vQ ds];rfl
end
theorem FG {s:ag} {a d:j} (h:a.plain=true) (he:view s a=some d):d.plain=true:=by
 cases a with
 |h x q=>
  simp only[view]at he
  split at he
  ·rename_i e da
   cases e<;>simp only at he<;>first
    |(cases he;done)
    |(split at he
      ·cases he
      ·simp only[Option.some.injEq]at he
       subst he;exact vP _)
  ·cases he
 |an x q=>
  simp only[view]at he
  split at he
  ·split at he
   ·rename_i e da
    cases e<;>simp only at he<;>first
     |(cases he;done)
     |(simp only[Option.some.injEq]at he;subst he;rfl)
   ·cases he
  ·cases he
 |fn f cap=>
  simp only[view,Option.map_eq_some_iff]at he
  obtain⟨ds,_,rfl⟩:=he
  rfl
 |hole=>simp[view]at he
 |I y q=>simp[view]at he
 |_=>simp only[view,Option.some.injEq]at he;subst he;exact h
theorem vR {d:j} {v:Value} (U:∀vs,d≠.tuple vs) (h:ct d v):ct d.share v:=by
 cases d<;>first|exact h|exact(U _ rfl).elim
theorem FH (w:World):∀(q:List Nat) (av d aV:j) (cs bG:List Value) (a bM:Option (Nat×Nat)),j.sub q av=some d→aV.wd=d.wd→b0 w q av cs a=some (d,bG,bM)→
  b0 w q (j.put q aV av) cs a=some (aV,bG,bM):=by
 intro q
 induction q with
 |nil=>
  intro av d aV cs bG a bM ab hw h
  simp only[b0,Option.some.injEq,Prod.mk.injEq]at h
  obtain⟨rfl,rfl,rfl⟩:=h
  simp only[j.put,b0]
 |cons k q ih=>
  intro av d aV cs bG a bM ab hw h
  cases av with
  |agg ah=>
   simp only[j.sub]at ab
   split at ab
   ·rename_i x ao
    have al:k<ah.length:=(List.getElem?_eq_some_iff.1 ao).1
    simp only[b0,ao]at h
    simp only[j.put,ao,b0]
    rw[List.getElem?_set_self al]
    simp only[List.take_set_of_le (Nat.le_refl k),j.ph q x d aV ab hw]
    exact ih _ _ _ _ _ _ _ ab hw h
   ·cases ab
  |tuple ah=>
   simp only[j.sub]at ab
   split at ab
   ·rename_i x ao
    have al:k<ah.length:=(List.getElem?_eq_some_iff.1 ao).1
    simp only[b0,ao]at h
    simp only[j.put,ao,b0]
    rw[List.getElem?_set_self al]
    simp only[List.take_set_of_le (Nat.le_refl k),j.ph q x d aV ab hw]
    exact ih _ _ _ _ _ _ _ ab hw h
   ·cases ab
  |aH sz ah=>
   simp only[j.sub]at ab
   split at ab
   ·rename_i x ao
    have al:k<ah.length:=(List.getElem?_eq_some_iff.1 ao).1
    have ig:(ah.set k (j.put q aV x))[k]? =some (j.put q aV x):=List.getElem?_set_self al
    simp only[j.put,ao]
    rw[b0.eq_def]at h⊢
    simp only[ao]at h
    simp only
    rw[ig]
    split at h
    ·rename_i aG
     simp only[Option.some.injEq]at aG;subst aG
     exact ih _ _ _ _ _ _ _ ab hw h
    ·cases h
   ·cases ab
  |bm x=>
   cases k with
   |zero=>
    simp only[j.sub]at ab
    rw[b0.eq_def]at h⊢
    simp only at h
    simp only[j.put]
    split at h
    ·rw[j.ph q x d aV ab hw]
     exact ih _ _ _ _ _ _ _ ab hw h
    ·cases h
   |succ k=>simp[j.sub]at ab
  |_=>simp[j.sub]at ab
section
variable {w0 w aq:World} {F0 X F Fc:Nat→Prop} {S:Nat→Nat→Prop} {s aj:ag} {ak gZ:Nat→Value}
theorem FI (h:aX w0 F0 X F S s ak w) (aS:∀b,F b→Fc b):∀n,
  (∀(a:j) (v:Value) (d:j),SizeOf.sizeOf a≤n→(∀t∈a.R,∀b,S t b→Fc b)→view s a=some d→ar w F s ak a v (fun _=>False)→ar w Fc aj gZ d v (fun _=>False))∧
  (∀(as:List j) (vs:List Value) (ds:List j),SizeOf.sizeOf as≤n→(∀t∈j.cP as,∀b,S t b→Fc b)→views s as=some ds→cE w F s ak as vs→cE w Fc aj gZ ds vs):=by
 intro n
 induction n with
 |zero=>exact⟨fun a _ _ bf=>by cases a<;>simp at bf<;>omega,fun as _ _ bf=>by cases as<;>simp at bf<;>omega⟩
 |succ n ih=>
  refine⟨fun a v d bf a_ he aC=> ?_,fun as vs ds bf a_ he aC=> ?_⟩
  ·cases a with
   |h x q=>
    simp only[view]at he
    split at he
    ·rename_i e da
     have key:(∀ah,e≠.tuple ah)∧e.plain=false∧d=e.share∧∀o,e≠.cx o:=by
      cases e<;>simp only at he<;>first
       |(cases he;done)
       |(split at he
         ·cases he
         ·rename_i eE
          simp only[Option.some.injEq]at he
          exact⟨(fun _ h=>by cases h),by simpa using eE,he.symm,fun _ h=>by cases h⟩)
     obtain⟨jq,eE,rfl,ic⟩:=key
     rw[ar]at aC
     obtain⟨bG,bM,aE,aO,bg⟩:=aC e da eE
     have aM:=fa da (.inl eE)
     have ao:=(ar.bx aM).1 (h.b5 x)
     obtain⟨dC,cn,cI,df,k0,bb,bq,cD,b1,cZ⟩:=ctx q (s x) (ba (ak x)) (S x) none e ao.2 da
     rw[aE]at k0
     simp only[Option.some.injEq,Prod.mk.injEq,true_and]at k0
     obtain⟨rfl,rfl⟩:=k0
     have u4:e.share.tree=true:=by cases e<;>first|rfl|(simp[j.plain]at eE;done)|exact(ic _ rfl).elim
     have aB:=ai.shared aS e bG df (fun b I=>a_ x (by simp[j.R]) b (bq b I)) b1
     exact(ar.bx u4).2 ⟨vR jq bg,by rw[aO];exact aB⟩
    ·cases he
   |an x q=>
    simp only[view]at he
    split at he
    ·rename_i kH
     split at he
     ·rename_i e da
      have key:(∀ah,e≠.tuple ah)∧d= .ref e.share:=by
       cases e<;>simp only at he<;>first
        |(cases he;done)
        |(simp only[Option.some.injEq]at he;exact⟨(fun _ h=>by cases h),he.symm⟩)
      obtain⟨jq,rfl⟩:=key
      rw[ar]at aC
      obtain⟨bG,b,o,aE,rfl⟩:=aC e da kH
      have aM:=fa da (.inr kH)
      have ao:=(ar.bx aM).1 (h.b5 x)
      obtain⟨dC,cn,cI,df,k0,bb,bq,cD,b1,cZ⟩:=ctx q (s x) (ba (ak x)) (S x) none e ao.2 da
      rw[aE]at k0
      simp only[Option.some.injEq,Prod.mk.injEq,true_and]at k0
      obtain⟨rfl,rfl⟩:=k0
      have aB:=ai.shared aS e bG df (fun b I=>a_ x (by simp[j.R]) b (bq b I)) b1
      rcases cZ with⟨l,r,_,aL,_⟩|⟨dr,cur,ty,fr,l,r,aG,aL,a1,b2,cb,_⟩
      ·simp at aL
      ·simp only[Option.some.injEq,Prod.mk.injEq]at aG
       obtain⟨rfl,rfl⟩:=aG
       refine(ar.bx rfl).2 ⟨rfl,?_⟩
       rw[ai]
       refine⟨b,l.length,bG,rfl,a_ x (by simp[j.R]) b (bb b aL),?_,aB⟩
       intro ad c aU
       simp only[World.cell?,a1]
       have ae:cur[l.length+ad]? =some c:=by
        rw[←Array.getElem?_toList,cb,List.getElem?_append_right (by omega),List.getElem?_append_left (by
         have:=(List.getElem?_eq_some_iff.1 aU).1;omega)]
        rw[←aU];congr 1;omega
       simpa using ae
     ·cases he
    ·cases he
   |fn f cap=>
    simp only[view,Option.map_eq_some_iff]at he
    obtain⟨ds,gr,rfl⟩:=he
    rw[ar]at aC
    obtain⟨arr,rfl,ae⟩:=aC
    rw[ar]
    exact⟨arr,rfl,ih.2 cap _ _ (by simp at bf;omega) (by simpa [j.R]using a_) gr ae⟩
   |hole=>simp[view]at he
   |I y q=>simp[view]at he
   |_=>
    simp only[view,Option.some.injEq]at he;subst he
    have iK:=(ar.bx rfl).1 aC
    exact(ar.bx rfl).2 ⟨iK.1,ai.mono aS _ _ _ _ (fun _ h=>h) iK.2⟩
  ·cases as with
   |nil=>
    simp only[views,Option.some.injEq]at he;subst he
    rw[cE]at aC⊢;exact aC
   |cons a as=>
    simp only[views]at he
    split at he
    ·rename_i d ds U aa
     simp only[Option.some.injEq]at he;subst he
     rw[cE]at aC⊢
     obtain⟨v,gA,rfl,aE,aO⟩:=aC
     simp at bf
     simp only[j.cP,List.mem_append]at a_
     exact⟨v,gA,rfl,ih.1 a v d (by omega) (fun t aM=>a_ t (.inl aM)) U aE,ih.2 as gA ds (by omega) (fun t aM=>a_ t (.inr aM)) aa aO⟩
    ·cases he
theorem aX.fI (h:aX w0 F0 X F S s ak w) {x:Nat} {q:List Nat} {d0 aV:j} {bG:List Value} {a:Option (Nat×Nat)} {Sn:Nat→Prop}
  (ab:j.sub q (s x)=some d0) (bc:b0 w q (s x) (ba (ak x)) none=some (d0,bG,a)) (aa:∀vs,aV≠.tuple vs) (aM:q=[]→aV.tree=true∧ct aV (ak x))
  (aw:∀k p,q=k::p→(s x).tree=true∧(∀v,fp d0 v→fp aV v)) (hw:aV.wd=d0.wd)
  (aC:ai w F aV bG Sn) (cC:∀b,Sn b→b<w.heap.size) (aS:∀b,Sn b→¬F b) (a_:∀u b,Sn b→¬S u b) (bu:∀b,Sn b→X b∨w0.heap.size≤b):
  aX w0 F0 X F (dV S x (fun b=>S x b∨Sn b)) (b4 (ia x s) x (j.put q aV (s x))) ak w:=by
 have cJ:b4 ak x (ak x)=ak:=by funext u;simp only[b4];split<;>simp_all
 have main:(j.put q aV (s x)).tree=true∧ct (j.put q aV (s x)) (ak x)∧ai w F (j.put q aV (s x)) (ba (ak x)) (fun b=>S x b∨Sn b):=by
  cases q with
  |nil=>
   simp only[b0,Option.some.injEq,Prod.mk.injEq]at bc
   obtain⟨aG,aL,a1⟩:=bc
   obtain⟨aE,aO⟩:=aM rfl
   simp only[j.put]
   refine⟨aE,?_,?_⟩
   ·exact aO
   ·rw[aL];exact ai.mono (fun _ h=>h) _ _ _ _ (fun b I=>.inr I) aC
  |cons k p=>
   obtain⟨aE,aO⟩:=aw k p rfl
   have ao:=(ar.bx aE).1 (h.b5 x)
   obtain⟨dC,cn,cI,df,k0,bb,bq,cD,b1,cZ⟩:=ctx (k::p) (s x) (ba (ak x)) (S x) none d0 ao.2 ab
   rw[bc]at k0
   simp only[Option.some.injEq,Prod.mk.injEq,true_and]at k0
   obtain⟨rfl,rfl⟩:=k0
   refine⟨?_,?_,?_⟩
   ·rcases m7 k p aV (s x)with⟨ah,gs,aG,e⟩|⟨ah,gs,aG,e⟩|⟨sz,xs,ys,aG,e⟩|⟨y,z,aG,e⟩|e<;>rw[e]<;>first|rfl|exact aE
   ·refine qW ao.1 ab aO (fun _ vs e=>(aa vs e).elim) hw
   ·have mono:∀b,(cI b∨Sn b)→(S x b∨Sn b):=fun b I=>I.imp (bb b) id
    rcases cZ with⟨l,r,aG,aL,a1⟩|⟨b,cur,ty,fr,l,r,aG,aL,a1,b2,cb,bp⟩
    ·rw[aG]
     exact ai.mono (fun _ h=>h) _ _ _ _ mono (a1 w aV bG Sn (fun _ _=>rfl) (fun _ _=>rfl) hw aC (fun b I ae=>a_ x b I (bb b ae)))
    ·refine ai.mono (fun _ h=>h) _ _ _ _ mono (bp w aV bG Sn (fun _ _=>rfl) (fun _ _ _=>rfl) ?_ hw aC (fun b I ae=>a_ x b I (bb b ae)))
     rw[a1,←cb]
 have:=h.x9 (t:=x) main.1 main.2.1 main.2.2 (by rintro b (I|I);exact h.cT x b I;exact cC b I) (by rintro b (I|I);exact h.dp x b I;exact aS b I)
  (by rintro u b cr (I|I);exact fun hu=>h.c8 u x b cr hu I;exact a_ u b I) (by rintro b (I|I);exact h.cl x b I;exact bu b I)
 rwa [cJ]at this
end
mutual
def j.cS:j→Bool
 | .slice _=>false
 | .ref _=>false
 | .fn _ _=>false
 | .h _ _=>false
 | .an _ _=>false
 | .I _ _=>false
 | .aH _ xs=>j.il xs
 | .bm d=>d.cS
 | .agg ah=>j.il ah
 | .tuple ah=>j.il ah
 |_=>true
def j.il:List j→Bool
 |[]=>true
 |d::ds=>d.cS&&j.il ds
end
mutual
theorem ai.cS {w:World} {F a7:Nat→Prop}:∀(d:j) (cs:List Value) (S:Nat→Prop),d.cS=true→ai w F d cs S→ai w a7 d cs S
 | .hole,_,_,_,h=>h
 | .bool _,_,_,_,h=>h
 | .c2,_,_,_,h=>h
 | .int _ _,_,_,_,h=>h
 | .str _,_,_,_,h=>h
 | .cw,_,_,_,h=>h
 | .bt,_,_,_,h=>h
 | .slice xs,cs,S,aR,h=>by simp[j.cS]at aR
 | .ref d,cs,S,aR,h=>by simp[j.cS]at aR
 | .aH sz xs,cs,S,aR,h=>by
   rw[ai]at h⊢
   rcases h with h|⟨b,cap,cur,e,fr,az,U,aa,aw,aN,a8,bI,bO,di,eY,eZ,hq⟩
   ·exact .inl h
   ·exact .inr ⟨b,cap,cur,e,fr,az,U,aa,aw,aN,a8,bI,bO,di,aJ.cS xs _ _ aR eY,eZ,hq⟩
 | .bm d,cs,S,aR,h=>by
   rw[ai]at h⊢
   obtain⟨b,cur,e,fr,az,U,aa,aw,aN,a8,bI,bO⟩:=h
   exact⟨b,cur,e,fr,az,U,aa,aw,aN,ai.cS d _ _ aR a8,bI,bO⟩
 | .agg ah,cs,S,aR,h=>by rw[ai]at h⊢;exact aJ.cS ah _ _ aR h
 | .tuple ah,cs,S,aR,h=>by rw[ai]at h⊢;exact aJ.cS ah _ _ aR h
 | .fn _ _,_,_,aR,h=>by simp[j.cS]at aR
 | .h _ _,_,_,_,h=>h
 | .an _ _,_,_,_,h=>h
 | .I _ _,_,_,_,h=>h
 | .cx _,_,_,_,h=>h
theorem aJ.cS {w:World} {F a7:Nat→Prop}:∀(ds:List j) (cs:List Value) (S:Nat→Prop),j.il ds=true→aJ w F ds cs S→aJ w a7 ds cs S
 |[],_,_,_,h=>h
 |d::ds,cs,S,aR,h=>by
  simp only[j.il,Bool.and_eq_true]at aR
  rw[aJ]at h⊢
  obtain⟨bB,bF,bj,ch,U,aa,aw,aN,a8,bI⟩:=h
  exact⟨bB,bF,bj,ch,U,ai.cS d _ _ aR.1 aa,aJ.cS ds _ _ aR.2 aw,aN,a8,bI⟩
end
theorem zs:∀(q:List Nat) (av d e:j),j.sub q av=some d→j.sub q (j.put q e av)=some e:=by
 intro q
 induction q with
 |nil=>intro av d e _;simp[j.put,j.sub]
 |cons k q ih=>
  intro av d e h
  cases av with
  |agg ah=>
   simp only[j.sub]at h
   split at h
   ·rename_i x ao
    have al:k<ah.length:=(List.getElem?_eq_some_iff.1 ao).1
    simp only[j.put,ao,j.sub,List.getElem?_set_self al]
    exact ih _ _ _ h
   ·cases h
  |tuple ah=>
   simp only[j.sub]at h
   split at h
   ·rename_i x ao
    have al:k<ah.length:=(List.getElem?_eq_some_iff.1 ao).1
    simp only[j.put,ao,j.sub,List.getElem?_set_self al]
    exact ih _ _ _ h
   ·cases h
  |aH sz ah=>
   simp only[j.sub]at h
   split at h
   ·rename_i x ao
    have al:k<ah.length:=(List.getElem?_eq_some_iff.1 ao).1
    simp only[j.put,ao,j.sub,List.getElem?_set_self al]
    exact ih _ _ _ h
   ·cases h
  |bm x=>
   cases k with
   |zero=>simp only[j.sub]at h;simp only[j.put,j.sub];exact ih _ _ _ h
   |succ k=>simp[j.sub]at h
  |_=>simp[j.sub]at h
structure bH where
 a:j
 g:Bool
 d:j
 o:j
def j.own:j→Bool
 | .aH _ _=>true
 | .bm _=>true
 |_=>false
def j.dS:j→Bool
 | .aH _ _=>true
 | .bm _=>true
 | .cx _=>true
 | .agg ah=> !j.dE ah
 |_=>false
def nr (d o:j):Bool:=match d,o with
 | .agg a,.agg b=>j.cF a==j.cF b
 | .agg _,_=>false
 |_,.agg _=>false
 |_,_=>true
theorem ns {d:j} (h:d.dS=true):d.plain=false∧d.tree=true∧∀vs,d≠.tuple vs:=by
 cases d<;>simp[j.dS]at h<;>first|exact⟨rfl,rfl,fun vs e=>by cases e⟩|exact⟨by simp only[j.plain];exact h,rfl,fun vs e=>by cases e⟩
theorem FJ {d o:j} (h:d.dS=true) (bs:o.dS=true) (hl:nr d o=true):o.wd=d.wd∧(∀v,ct d v→ct o v)∧∀v,fp d.bT v→fp o v:=by
 cases d<;>simp[j.dS]at h<;>cases o<;>simp[j.dS]at bs<;>simp[nr]at hl<;>first
  |exact⟨rfl,fun _ h=>h,fun _ h=>h⟩
  |exact⟨by simp only[j.wd];exact hl.symm,fun _ h=>h,fun _ h=>h⟩
def bH.ok (s:ag) (p:bH):Prop:=
 if p.g then(match p.a with| .h x q=>j.sub q (s x)=some p.d∧p.d.dS=true∧(p.o= .hole∨(p.o.dS=true∧nr p.d p.o=true))|_=>False)
 else view s p.a=some p.d
def fS:List bH→Bool
 |[]=>true
 |p::r=>(r.all fun bE=> !(p.g||bE.g)||(p.a.R.all fun u=> !bE.a.R.contains u))&&fS r
def bH.take (s:ag) (p:bH):ag:=
 if p.g then(match p.a with| .h x q=>b4 (ff x s) x (j.put q p.d.bT (s x))|_=>s)else s
def bH.fI (s:ag) (p:bH):ag:=
 if p.g then(match p.a,p.o with|_,.hole=>s| .h x q,o=>b4 (ia x s) x (j.put q o (s x))|_,_=>s)else s
def dq (s:ag) (ps:List bH):ag:=ps.foldl bH.take s
def fJ (s:ag) (ps:List bH):ag:=ps.foldl bH.fI s
section
variable {w0 w aq:World} {F0 X F Fc:Nat→Prop} {S:Nat→Nat→Prop} {s aj:ag} {ak gZ:Nat→Value}
def FK (w:World) (F:Nat→Prop) (s1:ag) (ak:Nat→Value) (p:bH) (v:Value) (Sn:Nat→Prop):Prop:=
 ∃x q a0,p.a= .h x q∧j.sub q (s1 x)=some p.d.bT∧b0 w q (s1 x) (ba (ak x)) none=some (p.d.bT,ba v,a0)∧(s1 x).R=[]∧(q=[]→ct p.d (ak x))∧(q≠[]→(s1 x).tree=true)∧
  ct p.d v∧ai w F p.d (ba v) Sn
theorem FL {p:bH} {x:Nat} (h:(s x).R=[]) (an:p.g=true→x∉p.a.R):bH.take s p x=s x:=by
 unfold bH.take
 split
 ·rename_i aY
  cases bN:p.a with
  |h y q=>
   have:x≠y:=by
    have:=an aY
    rw[bN]at this
    simpa [j.R]using this
   simp only
   rw[gB _ _ this]
   exact rA _ (by rw[h];simp)
  |_=>rfl
 ·rfl
theorem vS:∀{ps:List bH} {s:ag} {x:Nat},(s x).R=[]→(∀p∈ps,p.g=true→x∉p.a.R)→dq s ps x=s x:=by
 intro ps
 induction ps with
 |nil=>intros;rfl
 |cons p ps ih=>
  intro s x h an
  have e:=FL (s:=s) (p:=p) h (an p (by simp))
  show dq (bH.take s p) ps x=s x
  rw[ih (by rw[e];exact h) (fun bE cV=>an bE (by simp[cV])),e]
theorem mz {d:j} (h:d.own=true):d.plain=false∧d.tree=true∧d.bT= .hole∧d.one=true∧d.wd=1∧(∀v,ct d v↔Value.dZ v=true):=by
 cases d<;>simp[j.own]at h<;>exact⟨rfl,rfl,rfl,rfl,rfl,fun v=>Iff.rfl⟩
theorem FM:∀(ps:List bH) (vs:List Value) (s:ag) (S:Nat→Nat→Prop),aX w0 F0 X F S s ak w→ps.length=vs.length→
  (∀(i:Nat) (p:bH) (v:Value),ps[i]? =some p→vs[i]? =some v→p.a.plain=true∧ar w F s ak p.a v (fun _=>False)∧(p.g=true→p.ok s))→fS ps=true→
  ∃(Sn bj:Nat→Nat→Prop),aX w0 F0 X F bj (dq s ps) ak w∧(∀u b,bj u b→S u b)∧
   (∀(i:Nat) (p:bH) (v:Value),ps[i]? =some p→vs[i]? =some v→p.g=true→FK w F (dq s ps) ak p v (Sn i))∧
   (∀i b,Sn i b→∃p,ps[i]? =some p∧p.g=true)∧
   (∀i b,Sn i b→∃u,S u b)∧(∀i u b,Sn i b→¬bj u b)∧(∀i ad b,i≠ad→Sn i b→¬Sn ad b)∧
   (∀(aV:j) (dM:Value) (az:Nat→Prop),(∀p∈ps,p.g=true→∀u∈p.a.R,u∉aV.R)→ar w F s ak aV dM az→ar w F (dq s ps) ak aV dM az):=by
 intro ps
 induction ps with
 |nil=>
  intro vs s S h hl _ _
  exact⟨fun _ _=>False,S,h,fun _ _ h=>h,fun i p v an=>by simp at an,fun _ _ h=>h.elim,fun _ _ h=>h.elim,fun _ _ _ h=>h.elim,fun _ _ _ _ h=>h.elim,fun _ _ _ _ h=>h⟩
 |cons p ps ih=>
  intro vs s S h hl rp hx
  cases vs with
  |nil=>simp at hl
  |cons v vs=>
   simp only[List.length_cons,Nat.add_right_cancel_iff]at hl
   simp only[fS,Bool.and_eq_true,List.all_eq_true,Bool.or_eq_true,Bool.not_eq_true']at hx
   obtain⟨kT,kc⟩:=hx
   have pF:∀bE∈ps,(p.g=true∨bE.g=true)→∀u∈p.a.R,u∉bE.a.R:=by
    intro bE cV aY u hu
    rcases kT bE cV with e|e
    ·rcases aY with aY|aY<;>simp[aY]at e
    ·simpa using e u hu
   obtain⟨f1,f2,f3⟩:=rp 0 p v rfl rfl
   cases aY:p.g with
   |false=>
    have eu:bH.take s p=s:=by simp[bH.take,aY]
    obtain⟨Sn,bj,aE,aO,bg,cd,cQ,d_,eF,fQ⟩:=ih vs s S h hl (fun i bE dM an aC=>rp (i+1) bE dM (by simpa using an) (by simpa using aC)) kc
    have aG:dq s (p::ps)=dq s ps:=by show dq (bH.take s p) ps=_;rw[eu]
    rw[aG]
    refine⟨fun i=>match i with|0=>fun _=>False|i+1=>Sn i,bj,aE,aO,?_,?_,?_,?_,?_,fun aV dM az ab=>fQ aV dM az fun bE cV=>ab bE (by simp[cV])⟩
    ·intro i bE dM an aC e3
     cases i with
     |zero=>simp at an;subst an;rw[aY]at e3;cases e3
     |succ i=>exact bg i bE dM (by simpa using an) (by simpa using aC) e3
    ·intro i b I
     cases i with
     |zero=>exact I.elim
     |succ i=>simpa using cd i b I
    ·intro i b I
     cases i with
     |zero=>exact I.elim
     |succ i=>exact cQ i b I
    ·intro i u b I
     cases i with
     |zero=>exact I.elim
     |succ i=>exact d_ i u b I
    ·intro i ad b cr ay aU
     cases i with
     |zero=>exact ay.elim
     |succ i=>
      cases ad with
      |zero=>exact aU.elim
      |succ ad=>exact eF i ad b (by omega) ay aU
   |true=>
    have en:=f3 aY
    simp only[bH.ok,aY,if_true]at en
    split at en
    ·rename_i x q bN
     obtain⟨da,vT,n2⟩:=en
     obtain⟨jN,kU,te⟩:=ns vT
     have FN:bK s p.a=some (p.d,b4 (ff x s) x (j.put q p.d.bT (s x))):=by
      rw[bN];simp only[bK,da,jN];rfl
     obtain⟨bj,t1,t2,t3,FO,t4,t5,t6,t7,t8,t9,t10,t11⟩:=kF h f1 f2 FN
     have eu:bH.take s p=b4 (ff x s) x (j.put q p.d.bT (s x)):=by simp[bH.take,aY,bN]
     have lL:∀bE∈ps,x∉bE.a.R:=fun bE cV=>pF bE cV (.inl aY) x (by rw[bN];simp[j.R])
     have vU:bH.take s p x=j.put q p.d.bT (s x):=by rw[eu,jb]
     have zt:(bH.take s p x).R=[]:=by
      rw[vU];exact pD q _ _ _ da (.inl jN) (fun _=>by cases ab:p.d<;>first|rfl|(rw[ab]at vT;simp[j.dS]at vT))
     obtain⟨Sn,ch,aE,aO,bg,cd,cQ,d_,eF,fQ⟩:=ih vs (bH.take s p) bj (by rw[eu];exact t1) hl (by
      intro i bE dM an aC
      obtain⟨bb,bq,cD⟩:=rp (i+1) bE dM (by simpa using an) (by simpa using aC)
      have hm:bE∈ps:=List.mem_of_getElem? an
      refine⟨bb,?_,?_⟩
      ·have:=t11 _ _ _ bq
       rw[bN]at this
       rw[eu]
       simp only[j.owner,hs]at this
       rwa [rA _ (lL bE hm)]at this
      ·intro e3
       have:=cD e3
       simp only[bH.ok,e3,if_true]at this⊢
       split at this
       ·rename_i y gm ox
        have cr:y≠x:=fun e=>lL bE hm (by rw[ox,e];simp[j.R])
        rw[eu,gB _ _ cr]
        have aM:=fa this.1 (.inl (ns this.2.1).1)
        simp only[ff,uY aM]
        exact this
       ·exact this.elim) kc
     have aG:dq s (p::ps)=dq (bH.take s p) ps:=rfl
     have nt:dq (bH.take s p) ps x=j.put q p.d.bT (s x):=by
      rw[vS zt (fun bE cV _=>lL bE cV),vU]
     rw[aG]
     refine⟨fun i=>match i with|0=>FO|i+1=>Sn i,ch,aE,fun u b I=>t9 u b (aO u b I),?_,?_,?_,?_,?_,?_⟩
     rotate_left 5
     ·intro aV dM az ab gg
      refine fQ aV dM az (fun bE cV=>ab bE (by simp[cV])) ?_
      have:=t11 _ _ _ gg
      rw[bN]at this
      rw[eu]
      simp only[j.owner,hs]at this
      rwa [rA _ (ab p (by simp) aY x (by rw[bN];simp[j.R]))]at this
     ·intro i bE dM an aC e3
      cases i with
      |zero=>
       simp at an aC;subst an aC
       have tf:=f2
       rw[bN,ar]at tf
       obtain⟨bG,a0,bB,bF,zu⟩:=tf _ da jN
       refine⟨x,q,a0,bN,?_,?_,?_,?_,?_,t3,t4⟩
       ·rw[nt];exact zs q _ _ _ da
       ·rw[nt,bF];exact FH w q _ _ _ _ _ _ _ da (j.m6 _) bB
       ·rw[nt,←vU];exact zt
       ·intro bX;subst bX
        simp only[j.sub,Option.some.injEq]at da
        have:=(ar.bx (by rw[da];exact kU)).1 (h.b5 x)
        rw[da]at this
        exact this.1
       ·intro bX
        have aM:=fa da (.inl jN)
        rw[nt]
        cases q with
        |nil=>exact(bX rfl).elim
        |cons k q=>rcases m7 k q p.d.bT (s x)with⟨ah,gs,aG,e⟩|⟨ah,gs,aG,e⟩|⟨sz,xs,ys,aG,e⟩|⟨y,z,aG,e⟩|e<;>rw[e]<;>first|rfl|exact aM
      |succ i=>exact bg i bE dM (by simpa using an) (by simpa using aC) e3
     ·intro i b I
      cases i with
      |zero=>exact⟨p,rfl,aY⟩
      |succ i=>simpa using cd i b I
     ·intro i b I
      cases i with
      |zero=>exact t10 b I
      |succ i=>obtain⟨u,hu⟩:=cQ i b I;exact⟨u,t9 u b hu⟩
     ·intro i u b I
      cases i with
      |zero=>exact fun hu=>t7 u b I (aO u b hu)
      |succ i=>exact d_ i u b I
     ·intro i ad b cr ay aU
      cases i with
      |zero=>
       cases ad with
       |zero=>exact cr rfl
       |succ ad=>obtain⟨u,hu⟩:=cQ ad b aU;exact t7 u b ay hu
      |succ i=>
       cases ad with
       |zero=>obtain⟨u,hu⟩:=cQ i b ay;exact t7 u b aU hu
       |succ ad=>exact eF i ad b (by omega) ay aU
    ·exact en.elim
end
def dh (l:List j):ag:=fun i=>l.getD i .hole
def dW (l:List Value):Nat→Value:=fun i=>l.getD i undef
def kV (P:Program) (f:FuncId) (args:Array Value) (w:World) (jr:Value→World→Prop):Prop:=
 ((callFunc f args).run P w= .ok (.enter f args) w∧Calls P f args w (fun e aq=>∃v,e= .returned v∧jr v aq))∨
 ∃v aq,(callFunc f args).run P w= .ok (.value v) aq∧jr v aq
theorem kV.mono {P:Program} {f:FuncId} {args:Array Value} {w:World} {jr zv:Value→World→Prop} (h:kV P f args w jr) (aB:∀v aq,jr v aq→zv v aq):kV P f args w zv:=by
 rcases h with⟨U,aa⟩|⟨v,aq,U,aa⟩
 ·exact .inl ⟨U,Calls.mono aa fun e aq ⟨v,e,h⟩=>⟨v,e,aB v aq h⟩⟩
 ·exact .inr ⟨v,aq,U,aB v aq aa⟩
def b8 (C:bo) (f:FuncId) (as:List j) (r:j) (outs:List j):Prop:=
 ∀(w:World) (F X:Nat→Prop) (S:Nat→Nat→Prop) (vs:List Value),vs.length=as.length→aX w F X F S (dh as) (dW vs) w→
  kV C.P f vs.toArray w fun v aq=>∃a7 az,aX w F X a7 az (dh (r::outs)) (dW (v::vs)) aq
def j.res:j→Bool
 | .h _ _=>false
 | .an _ _=>false
 | .I _ _=>false
 | .fn _ _=>false
 |_=>true
theorem zw {d:j} (h:d.tree=true):d.R=[]:=by cases d<;>first|rfl|(simp[j.tree]at h)
mutual
theorem vV {s aj:ag}:∀(a:j) (d:j),(∀u∈a.R,(s u).tree=true→aj u=s u)→view s a=some d→view aj a=some d
 | .h x q,d,hu,h=>by
   have aM:(s x).tree=true:=by
    simp only[view]at h
    split at h
    ·rename_i e da
     cases e<;>simp only at h<;>first
      |(cases h;done)
      |(split at h
        ·cases h
        ·rename_i an
         exact fa da (.inl (by simpa using an)))
    ·cases h
   simp only[view]at h⊢
   rw[hu x (by simp[j.R]) aM];exact h
 | .an x q,d,hu,h=>by
   have aM:(s x).tree=true:=by
    simp only[view]at h
    split at h
    ·rename_i ae
     split at h
     ·rename_i e da;exact fa da (.inr ae)
     ·cases h
    ·cases h
   simp only[view]at h⊢
   rw[hu x (by simp[j.R]) aM];exact h
 | .I x q,d,hu,h=>by simp[view]at h
 | .fn f cap,d,hu,h=>by
   simp only[view,Option.map_eq_some_iff]at h⊢
   obtain⟨ds,U,aa⟩:=h
   exact⟨ds,zx cap ds (by simpa [j.R]using hu) U,aa⟩
 | .hole,d,hu,h=>h
 | .bool _,d,hu,h=>h
 | .c2,d,hu,h=>h
 | .int _ _,d,hu,h=>h
 | .str _,d,hu,h=>h
 | .cw,d,hu,h=>h
 | .bt,d,hu,h=>h
 | .slice _,d,hu,h=>h
 | .aH _ _,d,hu,h=>h
 | .ref _,d,hu,h=>h
 | .bm _,d,hu,h=>h
 | .agg _,d,hu,h=>h
 | .tuple _,d,hu,h=>h
 | .cx _,d,hu,h=>h
theorem zx {s aj:ag}:∀(as:List j) (ds:List j),(∀u∈j.cP as,(s u).tree=true→aj u=s u)→views s as=some ds→views aj as=some ds
 |[],ds,hu,h=>h
 |a::as,ds,hu,h=>by
  simp only[j.cP,List.mem_append]at hu
  simp only[views]at h⊢
  split at h
  ·rename_i x y U aa
   rw[vV a x (fun u hm=>hu u (.inl hm)) U,zx as y (fun u hm=>hu u (.inr hm)) aa];exact h
  ·cases h
end
section
variable {C:bo} {w0 w aq:World} {F0 X F Fc:Nat→Prop} {S:Nat→Nat→Prop} {s aj:ag} {ak gZ:Nat→Value}
def FP (w:World) (F:Nat→Prop) (s:ag) (ak:Nat→Value) (p:bH) (v:Value) (kd:Nat→Prop):Prop:=
 p.g=true→p.o= .hole∨∃x q a0 d0,p.a= .h x q∧j.sub q (s x)=some d0∧b0 w q (s x) (ba (ak x)) none=some (d0,ba v,a0)∧(s x).R=[]∧
  (q=[]→ct p.o (ak x))∧(q≠[]→(s x).tree=true)∧p.o.dS=true∧ai w F p.o (ba v) kd∧p.o.wd=d0.wd∧∀v,fp d0 v→fp p.o v
theorem FQ:∀(ps:List bH) (vs:List Value) (s:ag) (S kd:Nat→Nat→Prop),aX w0 F0 X F S s ak w→ps.length=vs.length→
  (∀(i:Nat) (p:bH) (v:Value),ps[i]? =some p→vs[i]? =some v→FP w F s ak p v (kd i))→
  (∀i b,kd i b→b<w.heap.size∧¬F b∧(X b∨w0.heap.size≤b)∧∀u,¬S u b)→(∀i ad b,i≠ad→kd i b→¬kd ad b)→fS ps=true→
  ∃ch,aX w0 F0 X F ch (fJ s ps) ak w∧∀u b,ch u b→S u b∨∃i,kd i b:=by
 intro ps
 induction ps with
 |nil=>intro vs s S kd h _ _ _ _ _;exact⟨S,h,fun u b I=>.inl I⟩
 |cons p ps ih=>
  intro vs s S kd h hl vW I ab hx
  cases vs with
  |nil=>simp at hl
  |cons v vs=>
   simp only[List.length_cons,Nat.add_right_cancel_iff]at hl
   simp only[fS,Bool.and_eq_true,List.all_eq_true,Bool.or_eq_true,Bool.not_eq_true']at hx
   obtain⟨kT,kc⟩:=hx
   have pF:∀bE∈ps,(p.g=true∨bE.g=true)→∀u∈p.a.R,u∉bE.a.R:=by
    intro bE cV aY u hu
    rcases kT bE cV with e|e
    ·rcases aY with aY|aY<;>simp[aY]at e
    ·simpa using e u hu
   have skip:bH.fI s p=s→∃ch,aX w0 F0 X F ch (fJ s (p::ps)) ak w∧∀u b,ch u b→S u b∨∃i,kd i b:=by
    intro eu
    obtain⟨ch,aE,aO⟩:=ih vs s S (fun i=>kd (i+1)) h hl (fun i bE dM an aC=>vW (i+1) bE dM (by simpa using an) (by simpa using aC)) (fun i b h=>I (i+1) b h)
     (fun i ad b cr=>ab (i+1) (ad+1) b (by omega)) kc
    refine⟨ch,?_,fun u b hu=>(aO u b hu).imp id fun⟨i,ay⟩=>⟨i+1,ay⟩⟩
    show aX _ _ _ _ _ (fJ (bH.fI s p) ps) _ _
    rw[eu];exact aE
   cases aY:p.g with
   |false=>exact skip (by simp[bH.fI,aY])
   |true=>
    rcases vW 0 p v rfl rfl aY with bs|⟨x,q,a0,d0,bN,bB,bF,zu,po,FR,vX,FT,FU,vY⟩
    ·exact skip (by simp only[bH.fI,aY,bs,if_true])
    ·obtain⟨jN,kU,FV⟩:=ns vX
     have eu:bH.fI s p=b4 (ia x s) x (j.put q p.o (s x)):=by
      simp only[bH.fI,aY,if_true,bN]
      cases FW:p.o<;>first|rfl|(rw[FW]at vX;simp[j.dS]at vX)
     have step:=h.fI (x:=x) (q:=q) (aV:=p.o) bB bF FV (fun bX=>⟨kU,po bX⟩) (fun k r bX=>⟨FR (by rw[bX];simp),vY⟩) FU FT
      (fun b h=>(I 0 b h).1) (fun b h=>(I 0 b h).2.1) (fun u b h=>(I 0 b h).2.2.2 u) (fun b h=>(I 0 b h).2.2.1)
     rw[←eu]at step
     obtain⟨ch,aE,aO⟩:=ih vs (bH.fI s p) _ (fun i=>kd (i+1)) step hl (by
      intro i bE dM an aC e3
      have hm:bE∈ps:=List.mem_of_getElem? an
      rcases vW (i+1) bE dM (by simpa using an) (by simpa using aC) e3 with bs|⟨y,gm,aA,d1,bb,bq,cD,b1,cZ,cY,eT,fH,gM⟩
      ·exact .inl bs
      ·have cr:y≠x:=fun e=>pF bE hm (.inl aY) x (by rw[bN];simp[j.R]) (by rw[bb,e];simp[j.R])
       have jH:bH.fI s p y=s y:=by
        rw[eu,gB _ _ cr]
        exact vG _ (by rw[b1];simp)
       exact .inr ⟨y,gm,aA,d1,bb,by rw[jH];exact bq,by rw[jH];exact cD,by rw[jH];exact b1,cZ,by rw[jH];exact cY,eT,fH,gM⟩)
      (by
       intro i b ay
       obtain⟨iM,gd,kQ,dy⟩:=I (i+1) b ay
       refine⟨iM,gd,kQ,fun u hu=> ?_⟩
       simp only[dV]at hu
       split at hu
       ·rcases hu with hu|hu
        ·exact dy _ hu
        ·exact ab 0 (i+1) b (by omega) hu ay
       ·exact dy _ hu)
      (fun i ad b cr=>ab (i+1) (ad+1) b (by omega)) kc
     refine⟨ch,aE,fun u b hu=> ?_⟩
     rcases aO u b hu with hu|⟨i,ay⟩
     ·simp only[dV]at hu
      split at hu
      ·rename_i e;subst e
       exact hu.imp id fun h=>⟨0,h⟩
      ·exact .inl hu
     ·exact .inr ⟨i+1,ay⟩
def hA (ps:List bH):Bool:=ps.any fun p=> !p.g&& !p.a.R.isEmpty
theorem zy (h:aX w0 F0 X F S s ak w) {ps:List bH} {vs:List Value} {f:FuncId} {r:j} (hl:ps.length=vs.length)
  (gg:∀(i:Nat) (p:bH) (v:Value),ps[i]? =some p→vs[i]? =some v→p.a.plain=true∧ar w F s ak p.a v (fun _=>False))
  (en:∀p∈ps,p.ok s) (hx:fS ps=true) (bc:∀(Fc iR:Nat→Prop) (cI:Nat→Nat→Prop),(∀b,F b→Fc b)→(∀b,iR b→∃u,S u b)→aX w Fc iR Fc cI (dh (ps.map (·.d))) (dW vs) w→
   kV C.P f vs.toArray w fun v aq=>∃a7 az,aX w Fc iR a7 az (dh (r::ps.map (·.o))) (dW (v::vs)) aq) (aB:r.res=true)
  (aR:hA ps=true→r.cS=true∧∀p∈ps,p.o.cS=true):
  kV C.P f vs.toArray w fun v aq=>∃a7 az,aX w0 F0 X a7 az (fJ (dq s ps) ps) ak aq∧hQ w0 X a7 az (fJ (dq s ps) ps) ak aq r v∧∀b,F b→a7 b∧aq.heap[b]? =w.heap[b]? :=by
 obtain⟨Sn,bj,aE,aO,bg,cd,cQ,d_,eF,fQ⟩:=FM ps vs s S h hl (fun i p v an aC=>⟨(gg i p v an aC).1,(gg i p v an aC).2,fun _=>en p (List.mem_of_getElem? an)⟩) hx
 have apart:∀(i ad:Nat) (p bE:bH),ps[i]? =some p→ps[ad]? =some bE→i≠ad→(p.g=true∨bE.g=true)→∀u∈p.a.R,u∉bE.a.R:=by
  clear gg en bc aR aE bg cd fQ hl
  induction ps with
  |nil=>intro i ad p bE an;simp at an
  |cons e1 ps ih=>
   simp only[fS,Bool.and_eq_true,List.all_eq_true,Bool.or_eq_true,Bool.not_eq_true']at hx
   obtain⟨kT,kc⟩:=hx
   have pF:∀bE∈ps,(e1.g=true∨bE.g=true)→∀u∈e1.a.R,u∉bE.a.R:=by
    intro bE cV aY u hu
    rcases kT bE cV with e|e
    ·rcases aY with aY|aY<;>simp[aY]at e
    ·simpa using e u hu
   intro i ad p bE an cV cr aY u hu
   cases i with
   |zero=>
    simp at an;subst an
    cases ad with
    |zero=>exact(cr rfl).elim
    |succ ad=>exact pF bE (List.mem_of_getElem? (by simpa using cV)) aY u hu
   |succ i=>
    cases ad with
    |zero=>
     simp at cV;subst cV
     exact fun rC=>pF p (List.mem_of_getElem? (by simpa using an)) aY.symm u rC hu
    |succ ad=>exact ih kc i ad p bE (by simpa using an) (by simpa using cV) (by omega) aY u hu
 let Fc:Nat→Prop:=fun b=>F b∨(hA ps=true∧∃u,bj u b)
 let iR:Nat→Prop:=fun b=>∃i,Sn i b
 have vZ:∀b,F b→¬iR b:=fun b aS ⟨i,ay⟩=>by obtain⟨u,hu⟩:=cQ i b ay;exact h.dp u b hu aS
 have rD:∀u b,bj u b→¬iR b:=fun u b hu ⟨i,ay⟩=>d_ i u b ay hu
 have rE:∀b,iR b→(X b∨w0.heap.size≤b)∧b<w.heap.size:=fun b ⟨i,ay⟩=>by obtain⟨u,hu⟩:=cQ i b ay;exact⟨h.cl u b hu,h.cT u b hu⟩
 have pre:aX w Fc iR Fc Sn (dh (ps.map (·.d))) (dW vs) w:=by
  refine⟨fun _ h=>h,fun _ h=>.inl h,?_,fun i b ay=>(rE b ⟨i,ay⟩).2,?_,fun i ad b cr=>eF i ad b cr,fun i b ay=>.inl ⟨i,ay⟩,?_,fun _ _ _=>rfl,Nat.le_refl _,rfl,rfl,Out.refl _,h.et.next h.size h.old fun b I=>(rE b I).1⟩
  ·rintro b (I|⟨_,u,hu⟩)
   ·exact h.db b I
   ·exact aE.cT u b hu
  ·rintro i b ay (I|⟨_,u,hu⟩)
   ·exact vZ b I ⟨i,ay⟩
   ·exact d_ i u b ay hu
  ·intro t
   cases an:ps[t]? with
   |none=>
    have:dh (ps.map (·.d)) t= .hole:=by simp[dh,List.getD,an]
    rw[this,ar];trivial
   |some p=>
    have cC:t<vs.length:=by rw[←hl];exact(List.getElem?_eq_some_iff.1 an).1
    have aC:vs[t]? =some vs[t]:=List.getElem?_eq_getElem cC
    have aG:dh (ps.map (·.d)) t=p.d:=by simp[dh,List.getD,an]
    have aL:dW vs t=vs[t]:=by simp[dW,List.getD,aC]
    rw[aG,aL]
    have hm:p∈ps:=List.mem_of_getElem? an
    have al:=en p hm
    cases aY:p.g with
    |true=>
     obtain⟨x,q,a0,bb,bq,cD,b1,cZ,cY,eT,fH⟩:=bg t p _ an aC aY
     simp only[bH.ok,aY,if_true,bb]at al
     exact(ar.bx (ns al.2.1).2.1).2 ⟨eT,ai.mono (fun b I=>.inl I) _ _ _ _ (fun _ h=>h) fH⟩
    |false=>
     simp only[bH.ok,aY]at al
     obtain⟨f1,f2⟩:=gg t p _ an aC
     have zz:∀bE∈ps,bE.g=true→∀u∈bE.a.R,u∉p.a.R:=by
      intro bE cV e3 u hu
      obtain⟨ad,aU⟩:=List.getElem?_of_mem cV
      refine apart ad t bE p aU an (fun e=> ?_) (.inl e3) u hu
      subst e;rw[an]at aU;simp only[Option.some.injEq]at aU;rw[aU,e3]at aY;cases aY
     have tf:=fQ _ _ _ zz f2
     have ig:view (dq s ps) p.a=some p.d:=vV _ _ (fun u hu aM=>vS (zw aM) (fun bE cV e3 rC=>zz bE cV e3 u rC hu)) (by simpa using al)
     refine ar.nothing (FG f1 ig) ((FI aE (Fc:=Fc) (fun b I=>.inl I) (SizeOf.sizeOf p.a)).1 p.a _ p.d (Nat.le_refl _) ?_ ig tf)
     intro u hu b I
     refine .inr ⟨?_,u,I⟩
     simp only[hA,List.any_eq_true]
     refine⟨p,hm,?_⟩
     cases jc:p.a.R with
     |nil=>rw[jc]at hu;cases hu
     |cons _ _=>simp[aY]
 refine kV.mono (bc Fc iR Sn (fun b I=>.inl I) (fun b ⟨i,ay⟩=>cQ i b ay) pre) ?_
 rintro v aq ⟨a7,az,ae⟩
 have keep:∀b,b<w.heap.size→¬iR b→aq.heap[b]? =w.heap[b]? :=ae.old
 let kW:Nat→Prop:=fun b=>if hA ps=true then F b else a7 b
 have zA:∀b,F b→a7 b:=fun b I=>ae.er b (.inl I)
 have pG:∀b,F b→kW b:=fun b I=>by
  simp only[kW];split
  ·exact I
  ·exact zA b I
 have rF:∀b,kW b→a7 b:=fun b I=>by
  simp only[kW]at I;split at I
  ·exact zA b I
  ·exact I
 have zB:∀b,kW b→F b∨iR b∨w.heap.size≤b:=fun b I=>by
  simp only[kW]at I;split at I
  ·exact .inl I
  ·rename_i nj
   rcases ae.eL b I with(I|⟨U,_⟩)|I|I
   ·exact .inl I
   ·exact(nj U).elim
   ·exact .inr (.inl I)
   ·exact .inr (.inr I)
 have mid:aX w0 F0 X kW bj (dq s ps) ak aq:=by
  refine⟨fun b I=>pG b (aE.er b I),?_,fun b I=>ae.db b (rF b I),fun t b I=>Nat.lt_of_lt_of_le (aE.cT t b I) ae.size,?_,aE.c8,aE.cl,?_,?_,Nat.le_trans aE.size ae.size,ae.os.trans aE.os,ae.tape.trans aE.tape,ae.output.trans aE.output,aE.et⟩
  ·intro b I
   rcases zB b I with I|I|I
   ·exact aE.eL b I
   ·rcases(rE b I).1 with h|h
    ·exact .inr (.inl h)
    ·exact .inr (.inr h)
   ·exact .inr (.inr (Nat.le_trans aE.size I))
  ·intro t b aM I
   rcases zB b I with I|I|I
   ·exact aE.dp t b aM I
   ·exact rD t b aM I
   ·exact absurd (aE.cT t b aM) (by omega)
  ·intro t
   exact ar.frame (Sx:=bj) (fun b I=>keep b (h.db b I) (vZ b I)) pG (fun x b I=>keep b (aE.cT x b I) (rD x b I)) aE.b5 _ _ _ (fun b I=>keep b (aE.cT t b I) (rD t b I)) (aE.b5 t)
  ·intro b I gC
   refine(keep b (Nat.lt_of_lt_of_le I aE.size) fun ao=> ?_).trans (aE.old b I gC)
   rcases(rE b ao).1 with h|h
   ·exact gC h
   ·omega
 have zC:∀(d:j) (cs:List Value) (cl:Nat→Prop),(hA ps=true→d.cS=true)→ai aq a7 d cs cl→ai aq kW d cs cl:=by
  intro d cs cl vA dP
  by_cases hle:hA ps=true
  ·exact ai.cS d cs cl (vA hle) dP
  ·exact ai.mono (fun b I=>by simp only[kW];rw[if_neg hle];exact I) _ _ _ _ (fun _ h=>h) dP
 have bound:∀i b,az i b→b<aq.heap.size∧¬kW b∧(X b∨w0.heap.size≤b)∧∀u,¬bj u b:=by
  intro i b I
  refine⟨ae.cT i b I,fun aS=>ae.dp i b I (rF b aS),?_,fun u hu=> ?_⟩
  ·rcases ae.cl i b I with ao|ao
   ·exact(rE b ao).1
   ·exact .inr (Nat.le_trans aE.size ao)
  ·rcases ae.cl i b I with ao|ao
   ·exact rD u b hu ao
   ·exact absurd (aE.cT u b hu) (by omega)
 obtain⟨ch,bb,bq⟩:=FQ ps vs (dq s ps) bj (fun i=>az (i+1)) mid hl (by
  intro i p dM an aC aY
  have hm:p∈ps:=List.mem_of_getElem? an
  have al:=en p hm
  obtain⟨x,q,a0,aG,aL,a1,b2,cb,bp,bk,ie⟩:=bg i p dM an aC aY
  simp only[bH.ok,aY,if_true,aG]at al
  rcases al.2.2 with bs|bs
  ·exact .inl bs
  ·obtain⟨ed,l2,pH⟩:=FJ al.2.1 bs.1 bs.2
   refine .inr ⟨x,q,a0,p.d.bT,aG,aL,?_,b2,fun bX=>l2 _ (cb bX),bp,bs.1,?_,ed.trans (j.m6 _).symm,pH⟩
   ·cases q with
    |nil=>simpa only[b0]using a1
    |cons k q=>
     have aM:=bp (by simp)
     rw[sP (k::q) _ _ (bj x) none _ ((ar.bx aM).1 (aE.b5 x)).2 aL (fun b I=>keep b (aE.cT x b I) (rD x b I))]
     exact a1
   ·have:=ae.b5 (i+1)
    have hW:dh (r::ps.map (·.o)) (i+1)=p.o:=by simp[dh,List.getD,an]
    have jJ:dW (v::vs) (i+1)=dM:=by simp[dW,List.getD,aC]
    rw[hW,jJ]at this
    exact zC _ _ _ (fun hle=>(aR hle).2 p hm) ((ar.bx (ns bs.1).2.1).1 this).2)
  (fun i b I=>bound (i+1) b I) (fun i ad b cr=>ae.c8 (i+1) (ad+1) b (by omega)) hx
 refine⟨kW,ch,bb,?_,fun b I=>⟨pG b I,keep b (h.db b I) (vZ b I)⟩⟩
 have bu:=ae.b5 0
 have hW:dh (r::ps.map (·.o)) 0=r:=rfl
 have jJ:dW (v::vs) 0=v:=rfl
 rw[hW,jJ]at bu
 cases aM:r.tree with
 |false=>
  cases r<;>first
   |(simp[j.tree]at aM;done)
   |(simp[j.res]at aB;done)
   |exact .inl ⟨rfl,by rw[ar];trivial⟩
 |true=>
  obtain⟨s1,s2⟩:=(ar.bx aM).1 bu
  have ew:=zC _ _ _ (fun hle=>(aR hle).1) s2
  refine .inr ⟨aM,s1,az 0,ew,fun b I=>(bound 0 b I).1,fun b I=>(bound 0 b I).2.1,fun u b I hu=> ?_,fun b I=>(bound 0 b I).2.2.1⟩
  rcases bq u b hu with hu|⟨i,ay⟩
  ·exact(bound 0 b I).2.2.2 u hu
  ·exact ae.c8 0 (i+1) b (by omega) I ay
theorem FX (h:aX w0 F0 X F S s ak w) {ps:List bH} {vs:List Value} {f:FuncId} {r:j} (hl:ps.length=vs.length)
  (gg:∀(i:Nat) (p:bH) (v:Value),ps[i]? =some p→vs[i]? =some v→p.a.plain=true∧ar w F s ak p.a v (fun _=>False))
  (en:∀p∈ps,p.ok s) (hx:fS ps=true) (bc:b8 C f (ps.map (·.d)) r (ps.map (·.o))) (aB:r.res=true)
  (aR:hA ps=true→r.cS=true∧∀p∈ps,p.o.cS=true):
  kV C.P f vs.toArray w fun v aq=>∃a7 az,aX w0 F0 X a7 az (fJ (dq s ps) ps) ak aq∧hQ w0 X a7 az (fJ (dq s ps) ps) ak aq r v∧∀b,F b→a7 b∧aq.heap[b]? =w.heap[b]? :=
 zy h hl gg en hx (fun Fc iR cI _ _ an=>bc w Fc iR cI vs (by simp[hl]) an) aB aR
end
structure bh where
 dst:Option Nat
 a6:dI
 guard:Option (Nat×Bool)
def rG (ops:Array Oper):Option (Nat×Bool)→Option (Option (Nat×Bool))
 |none=>some none
 |some (ad,b)=>match(ops[ad]?).bind (·.dst)with
  |some t=>some (some (t,b))
  |none=>none
structure Fr where
 n:Nat
 fx:List Nat
def iS (n:Fr):Option Nat→Bool
 |none=>true
 |some t=>decide (t<n.n)&& !n.fx.contains t
def nu (op:Op):dI:=match bQ op with
 |some a6=>a6
 |none=>.bad
def lM (n:Fr) (ops:Array Oper) (o:Oper):Option bh:=
 if iS n o.dst=true then match rG ops o.guard with
  |some g=>some ⟨o.dst,nu o.op,g⟩
  |none=>none
 else none
def lN (n:Fr) (ops:Array Oper):List Oper→Option (List bh)
 |[]=>some []
 |o::os=>match lM n ops o,lN n ops os with
  |some r,some rs=>some (r::rs)
  |_,_=>none
def tg (C:bo) (s:ag) (f:au) (args:List au) (K:j→ag→Prop):Prop:=
 ∃(g:FuncId) (caps:List j) (ps:List bH) (r:j),ax s f= .fn g caps∧j.dE caps=true∧ps.map (·.a)=args.map (ax s)++caps∧(∀p∈ps,p.ok s)∧fS ps=true∧
   b8 C g (ps.map (·.d)) r (ps.map (·.o))∧r.res=true∧(hA ps=true→r.cS=true∧∀p∈ps,p.o.cS=true)∧K r (fJ (dq s ps) ps)
mutual
def j.eW (s:ag):j→Bool
 | .h x q=>q.isEmpty&&(s x).own
 | .I x _=> !(s x).plain
 | .an _ _=>false
 | .hole=>true
 | .fn _ cap=>j.nv s cap
 |d=>d.plain
def j.nv (s:ag):List j→Bool
 |[]=>true
 |d::ds=>d.eW s&&j.nv s ds
end
def mA (s:ag):List (Nat×j)→ag
 |[]=>s
 |p::L=>mA (b4 s p.1 p.2) L
def lO (s:ag):List (Nat×j)→Bool
 |[]=>true
 |p::L=>p.2.eW s&&lO s L
def iT (s:ag) (us:List Nat):List (Nat×j):=us.map fun u=>(u,s u)
def ke (C:bo) (s:ag) (a6:dI) (K:j→ag→Prop):Prop:=
 match a6 with
 | .call f args=>∃(g:FuncId) (caps:List j) (ps:List bH) (r:j),ax s f= .fn g caps∧j.dE caps=true∧ps.map (·.a)=args.map (ax s)++caps∧(∀p∈ps,p.ok s)∧fS ps=true∧
   b8 C g (ps.map (·.d)) r (ps.map (·.o))∧r.res=true∧(hA ps=true→r.cS=true∧∀p∈ps,p.o.cS=true)∧K r (fJ (dq s ps) ps)
 | .shr a6=>∃av s1,aW C s a6=some (av,s1)∧av.tree=true∧(∀vs,av≠.tuple vs)∧K av.share s1
 | .jm f args u x=>s u= .h x []∧(s x).own=true∧tg C s f args fun av s1=>s1 u= .hole∧(s1 x).own=true∧K av (b4 s1 u (.h x []))
 | .jn f args us=>lO s (iT s us)=true∧tg C s f args fun av s1=>lO s1 (iT s us)=true∧K av (mA s1 (iT s us))
 |a6=>∃av s1,aW C s a6=some (av,s1)∧K av s1
theorem th {C:bo} {s:ag} {a6:dI} {K b9:j→ag→Prop} (h:ke C s a6 K) (al:∀av s,K av s→b9 av s):ke C s a6 b9:=by
 cases a6 with
 |call f args=>
  obtain⟨g,caps,ps,r,U,ee,aa,aw,aN,a8,bI,bO,di⟩:=h
  exact⟨g,caps,ps,r,U,ee,aa,aw,aN,a8,bI,bO,al _ _ di⟩
 |shr a6=>
  obtain⟨av,s1,U,aa,aw,aN⟩:=h
  exact⟨av,s1,U,aa,aw,al _ _ aN⟩
 |jm f args u x=>
  obtain⟨bb,bq,g,caps,ps,r,U,ee,aa,aw,aN,a8,bI,bO,di,eY,eZ⟩:=h
  exact⟨bb,bq,g,caps,ps,r,U,ee,aa,aw,aN,a8,bI,bO,di,eY,al _ _ eZ⟩
 |jn f args us=>
  obtain⟨bq,g,caps,ps,r,U,ee,aa,aw,aN,a8,bI,bO,di,eY⟩:=h
  exact⟨bq,g,caps,ps,r,U,ee,aa,aw,aN,a8,bI,bO,di,al _ _ eY⟩
 |_=>
  obtain⟨av,s1,U,aa⟩:=h
  exact⟨av,s1,U,al _ _ aa⟩
def im (C:bo) (s:ag) (o:bh) (K:ag→Prop):Prop:=
 match o.guard with
 |none=>ke C s o.a6 fun av s1=>K (fin s1 o.dst av)
 |some (t,b)=>match s t with
  | .bool dr=>if dr=b then ke C s o.a6 (fun av s1=>K (fin s1 o.dst av))else K (fin s o.dst (.tuple []))
  | .tuple []=>K (fin s o.dst (.tuple []))
  |_=>False
def h1 (C:bo) (s:ag):List bh→(ag→Prop)→Prop
 |[],K=>K s
 |o::os,K=>im C s o fun s1=>h1 C s1 os K
def fK (C:bo) (ros:List bh) (s:ag):List Nat→(ag→Prop)→Prop
 |[],K=>K s
 |i::l,K=>match ros[i]? with
  |none=>fK C ros s l K
  |some o=>im C s o fun s1=>fK C ros s1 l K
theorem FY (C:bo) (K:ag→Prop):∀(rs pre:List bh) (s:ag),h1 C s rs K→fK C (pre++rs) s ((List.range rs.length).map (·+pre.length)) K:=by
 intro rs
 induction rs with
 |nil=>intro pre s h;exact h
 |cons r rs ih=>
  intro pre s h
  rw[List.length_cons,List.range_succ_eq_map,List.map_cons,List.map_map]
  simp only[fK,Nat.zero_add]
  rw[List.getElem?_append_right (Nat.le_refl _)]
  simp only[Nat.sub_self,List.getElem?_cons_zero]
  have key:∀s1,h1 C s1 rs K→fK C (pre++r::rs) s1 ((List.range rs.length).map ((fun x=>x+pre.length)∘Nat.succ)) K:=by
   intro s1 U
   have:=ih (pre++[r]) s1 U
   simp only[List.append_assoc,List.singleton_append,List.length_append,List.length_singleton]at this
   have e:((fun x=>x+pre.length)∘Nat.succ)=fun x=>x+(pre.length+1):=by funext x;simp;omega
   rw[e];exact this
  simp only[h1]at h
  unfold im at h⊢
  split
  ·rename_i aY;rw[aY]at h;exact th h fun av s1=>key _
  ·rename_i t b aY
   rw[aY]at h
   simp only at h
   split
   ·rename_i dr R
    rw[R]at h
    simp only at h
    split
    ·rename_i I;rw[if_pos I]at h;exact th h fun av s1=>key _
    ·rename_i I;rw[if_neg I]at h;exact key _ h
   ·rename_i R;rw[R]at h;exact key _ h
   ·rename_i U aa
    split at h
    ·exact U _ (by assumption)
    ·exact aa (by assumption)
    ·exact h
structure Rel (w0:World) (F0 X:Nat→Prop) (n:Fr) (ρ:Nat→Value) (s:ag) (a:Act) (w:World):Prop where
 defers:a.defers=[]
 size:a.tmps.size=n.n
 fixed:∀i∈n.fx,a.tmps.getD i undef=ρ i
 rel:∃F S,aX w0 F0 X F S s (fun t=>a.tmps.getD t undef) w
section
variable {C:bo} {w0 w:World} {F0 X:Nat→Prop} {n:Fr} {ρ:Nat→Value} {s s1:ag} {a:Act} {av:j} {Q:Exit→Act→World→Prop}
theorem v5 {dst:Option Nat} (v:Value) (R:a.tmps.size=n.n) (ab:iS n dst=true):
  (fun t=>(a.put dst v).tmps.getD t undef)=mj (fun t=>a.tmps.getD t undef) dst v∧(a.put dst v).tmps.size=n.n∧(a.put dst v).defers=a.defers:=by
 cases dst with
 |none=>exact⟨rfl,R,rfl⟩
 |some d=>
  simp only[iS,Bool.and_eq_true,decide_eq_true_eq]at ab
  refine⟨?_,by simp[Act.put,R],rfl⟩
  funext t
  simp only[Act.put,mj,b4,Array.getD_eq_getD_getElem?]
  by_cases h:t=d
  ·subst h
   rw[if_pos rfl,Array.getElem?_setIfInBounds_self_of_lt (by omega)];rfl
  ·rw[if_neg h,Array.getElem?_setIfInBounds_ne (fun e=>h e.symm)]
theorem Rel.put {F S} (ab:a.defers=[]) (R:a.tmps.size=n.n) (bc:∀i∈n.fx,a.tmps.getD i undef=ρ i) {aq:World} (aB:aX w0 F0 X F S s (fun t=>a.tmps.getD t undef) aq) {v:Value} (aC:hQ w0 X F S s (fun t=>a.tmps.getD t undef) aq av v)
  {dst:Option Nat} (en:iS n dst=true):Rel w0 F0 X n ρ (fin s dst av) (a.put dst v) aq:=by
 obtain⟨aG,aL,a1⟩:=v5 (n:=n) (dst:=dst) v R en
 obtain⟨az,a2⟩:=aB.fin aC dst
 refine⟨a1.trans ab,aL,fun i ay=> ?_,F,az,by rw[aG];exact a2⟩
 rw[congrFun aG i]
 cases dst with
 |none=>exact bc i ay
 |some d=>
  simp only[iS,Bool.and_eq_true,Bool.not_eq_true',List.contains_eq_mem,decide_eq_false_iff_not]at en
  have cr:i≠d:=fun e=>en.2 (by rw[←e];exact ay)
  simp only[mj]
  rw[gB _ _ cr]
  exact bc i ay
theorem Rel.skip (h:Rel w0 F0 X n ρ s a w) {dst:Option Nat} (en:iS n dst=true):Rel w0 F0 X n ρ (fin s dst (.tuple [])) (a.put dst undef) w:=by
 obtain⟨ab,R,bc,F,S,aB⟩:=h
 refine Rel.put (av:=.tuple []) ab R bc aB (.inl ⟨rfl,(ar.bx (d:=.tuple []) rfl).2 ⟨?_,?_⟩⟩) en
 ·exact⟨#[],rfl,rfl,fun k d x al=>by simp at al⟩
 ·rw[ai,aJ];rfl
theorem zD {F:Nat→Prop} {ak:Nat→Value} {w:World}:∀{ds es:List j} {vs us:List Value},cE w F s ak ds vs→cE w F s ak es us→cE w F s ak (ds++es) (vs++us):=by
 intro ds
 induction ds with
 |nil=>intro es vs us U aa;rw[cE]at U;subst U;exact aa
 |cons d ds ih=>
  intro es vs us U aa
  rw[cE]at U
  obtain⟨v,gA,rfl,aE,aO⟩:=U
  rw[List.cons_append,List.cons_append,cE]
  exact⟨v,_,rfl,aE,ih aO aa⟩
theorem zE {F:Nat→Prop} {ak:Nat→Value} {w:World}:∀{ds:List j} {vs:List Value},cE w F s ak ds vs→ds.length=vs.length∧∀(i:Nat) (d:j) (v:Value),ds[i]? =some d→vs[i]? =some v→ar w F s ak d v (fun _=>False):=by
 intro ds
 induction ds with
 |nil=>intro vs h;rw[cE]at h;subst h;exact⟨rfl,fun i d v h=>by simp at h⟩
 |cons d ds ih=>
  intro vs h
  rw[cE]at h
  obtain⟨v,gA,rfl,aE,aO⟩:=h
  obtain⟨bb,bq⟩:=ih aO
  refine⟨by simp[bb],fun i aV dM ab aC=> ?_⟩
  cases i with
  |zero=>simp at ab aC;subst ab aC;exact aE
  |succ i=>exact bq i aV dM (by simpa using ab) (by simpa using aC)
theorem lP {op:Op} {a6:dI} (h:nu op=a6):a6= .bad∨bQ op=some a6:=by
 unfold nu at h
 split at h
 ·subst h;right;assumption
 ·exact .inl h.symm
theorem FZ {op:Op} {a6:dI}:bQ op≠some (.shr a6):=by
 intro h
 unfold bQ at h
 split at h<;>(try split at h)<;>(try split at h)<;>(try split at h)<;>(try simp[Option.map_eq_some_iff]at h)
theorem F1 {op:Op} {f:au} {args:List au} {u x:Nat}:bQ op≠some (.jm f args u x):=by
 intro h
 unfold bQ at h
 split at h<;>(try split at h)<;>(try split at h)<;>(try split at h)<;>(try simp[Option.map_eq_some_iff]at h)
theorem F2 {op:Op} {f:au} {args:List au} {us:List Nat}:bQ op≠some (.jn f args us):=by
 intro h
 unfold bQ at h
 split at h<;>(try split at h)<;>(try split at h)<;>(try split at h)<;>(try simp[Option.map_eq_some_iff]at h)
theorem F3 {op:Op} {T:TypeId} {x:au}:bQ op≠some (.hU T x):=by
 intro h
 unfold bQ at h
 split at h<;>(try split at h)<;>(try split at h)<;>(try split at h)<;>(try simp[Option.map_eq_some_iff]at h)
theorem F4 {op:Op} {x:au}:bQ op≠some (.np x):=by
 intro h
 unfold bQ at h
 split at h<;>(try split at h)<;>(try split at h)<;>(try split at h)<;>(try simp[Option.map_eq_some_iff]at h)
theorem F5 {op:Op} {x:au}:bQ op≠some (.ij x):=by
 intro h
 unfold bQ at h
 split at h<;>(try split at h)<;>(try split at h)<;>(try split at h)<;>(try simp[Option.map_eq_some_iff]at h)
theorem F6 {op:Op} {x:au} (h:bQ op=some (.cA x)):∃b6,op= .move b6∧cj b6=some x:=by
 unfold bQ at h
 split at h<;>(try split at h)<;>(try split at h)<;>(try split at h)<;>(try simp[Option.map_eq_some_iff]at h)
 exact⟨_,rfl,h⟩
theorem F7 {op:Op} {x:au} (h:bQ op=some (.fs x)):∃b6,op= .assign b6∧cj b6=some x:=by
 unfold bQ at h
 split at h<;>(try split at h)<;>(try split at h)<;>(try split at h)<;>(try simp[Option.map_eq_some_iff]at h)
 exact⟨_,rfl,h⟩
theorem F8 {op:Op} {T a5:TypeId} {x y:au}:bQ op≠some (.j7 T a5 x y):=by
 intro h
 unfold bQ at h
 split at h<;>(try split at h)<;>(try split at h)<;>(try split at h)<;>(try simp[Option.map_eq_some_iff]at h)
theorem F9 {op:Op} {T a5:TypeId} {x y:au} (h:bQ op=some (.app T a5 x y)):∃a b,op= .call ⟨.builtin .append,#[a,b],#[T,a5]⟩∧cj a=some x∧cj b=some y:=by
 cases op with
 |call c=>
  obtain⟨callee,args,argTypes⟩:=c
  simp only[bQ]at h
  split at h
  ·split at h<;>simp at h
  ·split at h<;>simp at h
  ·split at h<;>simp at h
  ·(split at h<;>try split at h)<;>simp at h
  ·(split at h<;>try split at h)<;>simp at h
  ·split at h
   ·rename_i a b v7 td jo ou
    split at h
    ·rename_i b6 hr ao aT
     simp only[Option.some.injEq,dI.app.injEq]at h
     obtain⟨rfl,rfl,rfl,rfl⟩:=h
     refine⟨a,b,?_,ao,aT⟩
     have aG:args= #[a,b]:=by apply Array.ext';exact jo
     have aL:argTypes= #[v7,td]:=by apply Array.ext';exact ou
     subst aG aL
     rfl
    ·cases h
   ·cases h
  ·cases h
 |makeFunc fn first cs=>
  cases fn<;>simp only[bQ]at h<;>first|(cases h;done)|(split at h<;>simp at h)
 |slice T x bC ay e7=>
  cases e7<;>simp only[bQ]at h<;>first|(cases h;done)|(split at h<;>simp at h)
 |makeMap T r=>cases r<;>simp only[bQ]at h<;>simp at h
 |lookup T x i c=>cases c<;>simp only[bQ]at h<;>first|(cases h;done)|(split at h<;>simp at h)
 |_=>simp only[bQ]at h<;>first|(cases h;done)|(simp at h;done)|(split at h<;>simp at h)
theorem aX.alias {F:Nat→Prop} {S:Nat→Nat→Prop} {ak:Nat→Value} {u x:Nat} (h:aX w0 F0 X F S s ak w) (hu:s u= .hole) (ao:(s x).own=true) (aC:ba (ak u)=ba (ak x)) (U:Value.dZ (ak u)=true):
  aX w0 F0 X F (dV S u (fun _=>False)) (b4 s u (.h x [])) ak w:=by
 have cJ:b4 ak u (ak u)=ak:=by funext y;simp only[b4];split<;>simp_all
 have:=h.qV (t:=u) (d:=.h x []) (v:=ak u) rfl (by
  rw[ar]
  intro d ab an
  simp only[j.sub,Option.some.injEq]at ab
  subst ab
  exact⟨ba (ak x),none,rfl,aC,((mz ao).2.2.2.2.2 _).2 U⟩)
 rwa [cJ]at this
theorem hQ.less {F:Nat→Prop} {S az:Nat→Nat→Prop} {ak:Nat→Value} {s1:ag} {v:Value} (a_:∀u b,az u b→S u b) (aB:av.res=true) (h:hQ w0 X F S s ak w av v):hQ w0 X F az s1 ak w av v:=by
 rcases h with⟨U,aa⟩|⟨U,aa,Sn,aw,aN,a8,bI,bO⟩
 ·refine .inl ⟨U,?_⟩
  cases av<;>first
   |(simp[j.res]at aB;done)
   |(rw[ar];trivial)
   |(rw[ar]at aa⊢;exact aa)
 ·exact .inr ⟨U,aa,Sn,aw,aN,a8,fun u b I hu=>bI u b I (a_ u b hu),bO⟩
theorem v8 (aQ:C.c5) (h:Rel w0 F0 X n ρ s a w) {o:Oper} {f:au} {args:List au} (br:bQ o.op=some (.call f args)) (ab:iS n o.dst=true) {K:j→ag→Prop} {L:ag→Prop} {next:Act→World→Prop}
  (hw:tg C s f args K) (oy:∀F S a7 az w aq av s1 v,aX w0 F0 X F S s (fun t=>a.tmps.getD t undef) w→K av s1→av.res=true→aX w0 F0 X a7 az s1 (fun t=>a.tmps.getD t undef) aq→hQ w0 X a7 az s1 (fun t=>a.tmps.getD t undef) aq av v→(∀b,F b→a7 b∧aq.heap[b]? =w.heap[b]?)→
   ∃s2 ch,L (fin s2 o.dst av)∧aX w0 F0 X a7 ch s2 (fun t=>a.tmps.getD t undef) aq∧hQ w0 X a7 ch s2 (fun t=>a.tmps.getD t undef) aq av v)
  (aR:∀aj bM aq,L aj→Rel w0 F0 X n ρ aj bM aq→next bM aq):o.wp C.P a w next Q:=by
 have mB:=h
 obtain⟨fT,cm,e4,F,S,aB⟩:=h
 obtain⟨g,caps,ps,r,U,ee,aa,aw,aN,a8,bI,bO,di⟩:=hw
 obtain⟨dst,op,ty,pos,after,guard⟩:=o
 simp only at br ab oy
 cases op with
 |call c=>
  obtain⟨callee,kX,argTypes⟩:=c
  simp only[bQ]at br
  split at br
  ·split at br
   ·rename_i rH _ _ F_ xs bc lL
    simp only[Option.some.injEq,dI.call.injEq]at br
    obtain⟨rfl,rfl⟩:=br
    obtain⟨f1,f2⟩:=dc aB (fun _=>rfl) bc
    rw[U,ar]at f2
    obtain⟨arr,f3,f4⟩:=f2
    have oz:execOp a.eval {dst,op:=.call {callee:=.value rH,args:=kX,argTypes},type:=ty,pos,after,guard}=callFunc g ((kX.toList.map a.eval++arr.toList).toArray):=by
     have:a.eval rH= .func (.func g) #[] arr:=f3
     simp only[execOp,resolve,this,Deferred.ofValue,pure_bind,invoke]
     congr 1
     apply Array.ext';simp
    unfold Oper.wp
    rw[oz]
    have rI:cE w F s (fun t=>a.tmps.getD t undef) (xs.map (ax s)++caps) (kX.toList.map a.eval++arr.toList):=zD (tb aB (fun _=>rfl) _ _ (ot lL)) f4
    rw[←aa]at rI
    obtain⟨ed,l2⟩:=zE rI
    have eE:∀d∈xs.map (ax s)++caps,d.plain=true:=by
     intro d ab
     rcases List.mem_append.1 ab with ab|ab
     ·obtain⟨x,ao,rfl⟩:=List.mem_map.1 ab
      exact ye s x fun av e=>by
       subst e
       have hm:=ot lL
       have:some (au.c av)∈xs.map some:=List.mem_map.2 ⟨_,ao,rfl⟩
       rw[←hm]at this
       obtain⟨o,_,bs⟩:=List.mem_map.1 this
       cases o with
       |const v=>simp only[cj,Option.map_eq_some_iff]at bs;obtain⟨c,ae,e⟩:=bs;cases e;exact u3 ae
       |tmp n=>simp[cj]at bs
       |func g=>simp[cj]at bs
       |global g=>simp[cj]at bs
     ·obtain⟨k,al⟩:=List.getElem?_of_mem ab
      exact sO ee al
    have v_:=FX (C:=C) aB (ps:=ps) (vs:=kX.toList.map a.eval++arr.toList) (f:=g) (r:=r) (by simpa using ed)
     (fun i p v an aC=>⟨eE p.a (by rw[←aa];exact List.mem_map.2 ⟨p,List.mem_of_getElem? an,rfl⟩),l2 i p.a v (by simp[an]) aC⟩) aw aN a8 bI bO
    rcases v_ with⟨dw,cy⟩|⟨v,aq,dw,a7,az,cy,fu,fv⟩
    ·rw[dw,Oper.upon_enter]
     refine Calls.mono cy ?_
     rintro e aq ⟨v,rfl,a7,az,bb,bq,cD⟩
     obtain⟨s2,ch,eb,fc,gn⟩:=oy _ _ _ _ _ _ _ _ _ aB di bI bb bq cD
     exact aR _ _ _ eb (Rel.put fT cm e4 fc gn ab)
    ·rw[dw,Oper.upon_value]
     obtain⟨s2,ch,eb,fc,gn⟩:=oy _ _ _ _ _ _ _ _ _ aB di bI cy fu fv
     exact aR _ _ _ eb (Rel.put fT cm e4 fc gn ab)
   ·cases br
  ·split at br
   ·simp only[Option.map_eq_some_iff]at br;obtain⟨_,_,br⟩:=br;cases br
   ·cases br
  ·split at br
   ·simp only[Option.map_eq_some_iff]at br;obtain⟨_,_,br⟩:=br;cases br
   ·cases br
  iterate 3
   ·split at br
    ·split at br<;>cases br
    ·cases br
  ·cases br
 |makeFunc fn first cs=>
  cases fn<;>simp only[bQ]at br<;>first|(cases br;done)|(split at br<;>simp at br)
 |slice T x bC ay e7=>
  cases e7<;>simp only[bQ]at br<;>first|(cases br;done)|(split at br<;>simp at br)
 |makeMap T r=>cases r<;>simp only[bQ]at br<;>simp at br
 |lookup T x i c=>cases c<;>simp only[bQ]at br<;>first|(cases br;done)|(split at br<;>simp at br)
 |_=>simp only[bQ]at br<;>first|(cases br;done)|(simp at br;done)|(split at br<;>simp at br)
theorem Ga (aQ:C.c5) (h:Rel w0 F0 X n ρ s a w) {o:Oper} {a6:dI} (br:bQ o.op=some a6) (ab:iS n o.dst=true) {K:ag→Prop} {next:Act→World→Prop}
  (hw:ke C s a6 fun av s1=>K (fin s1 o.dst av)) (aR:∀aj bM aq,K aj→Rel w0 F0 X n ρ aj bM aq→next bM aq):o.wp C.P a w next Q:=by
 have mB:=h
 obtain⟨fT,cm,e4,F,S,aB⟩:=h
 have plain:∀av s1,aW C s a6=some (av,s1)→K (fin s1 o.dst av)→o.wp C.P a w next Q:=by
  intro av s1 he al
  obtain⟨r,aq,v,a7,az,U,aa,aw,aN⟩:=y7 (a:=a) aQ aB (fun _=>rfl) br he
  unfold Oper.wp
  rw[U]
  rcases aa with rfl|⟨rfl,rfl⟩
  ·exact aR _ _ _ al (Rel.put fT cm e4 aw aN ab)
  ·exact aR _ _ _ al (Rel.put fT cm e4 aw aN ab)
 cases a6 with
 |shr a6=>exact(FZ br).elim
 |j7 T a5 x y=>exact(F8 br).elim
 |call f args=>exact v8 aQ ⟨fT,cm,e4,F,S,aB⟩ br ab (K:=fun av s1=>K (fin s1 o.dst av)) hw (fun _ _ _ az _ _ _ s1 _ _ aa _ aw aN _=>⟨s1,az,aa,aw,aN⟩) aR
 |jm f args u x=>exact(F1 br).elim
 |jn f args L=>exact(F2 br).elim
 |hU T x=>exact(F3 br).elim
 |np x=>exact(F4 br).elim
 |ij x=>exact(F5 br).elim
 |_=>
  obtain⟨av,s1,he,al⟩:=hw
  exact plain av s1 he al
theorem hQ.share {F:Nat→Prop} {S:Nat→Nat→Prop} {ak:Nat→Value} {v:Value} (h:aX w0 F0 X F S s ak w) (aC:hQ w0 X F S s ak w av v) (aM:av.tree=true) (aR:∀vs,av≠.tuple vs):
  ∃a7,aX w0 F0 X a7 S s ak w∧hQ w0 X a7 S s ak w av.share v:=by
 obtain⟨Sn,fe,ej,gp,gf,nd,oA⟩:∃Sn:Nat→Prop,ct av v∧ai w F av (ba v) Sn∧(∀b,Sn b→b<w.heap.size)∧(∀b,Sn b→¬F b)∧(∀u b,Sn b→¬S u b)∧(∀b,Sn b→X b∨w0.heap.size≤b):=by
  rcases aC with⟨U,aa⟩|⟨_,aa,Sn,aw,aN,a8,bI,bO⟩
  ·rw[ar.bx aM]at aa
   exact⟨fun _=>False,aa.1,aa.2,fun _ h=>h.elim,fun _ h=>h.elim,fun _ _ h=>h.elim,fun _ h=>h.elim⟩
  ·exact⟨Sn,aa,aw,aN,a8,bI,bO⟩
 refine⟨fun b=>F b∨Sn b,?_,.inl ⟨vP av,?_⟩⟩
 ·exact {
   er:=fun b I=>.inl (h.er b I)
   eL:=fun b I=>by
    rcases I with I|I
    ·exact h.eL b I
    ·exact .inr (oA b I)
   db:=fun b I=>I.elim (h.db b) (gp b)
   cT:=h.cT
   dp:=fun t b I bc=>bc.elim (h.dp t b I) (fun R=>nd t b R I)
   c8:=h.c8
   cl:=h.cl
   b5:=fun t=>ar.frame (fun _ _=>rfl) (fun b I=>.inl I) (fun _ _ _=>rfl) h.b5 _ _ _ (fun _ _=>rfl) (h.b5 t)
   old:=h.old
   size:=h.size
   os:=h.os
   tape:=h.tape
   output:=h.output
   et:=h.et}
 ·by_cases bs:∃o,av= .cx o
  ·obtain⟨o,rfl⟩:=bs
   rw[j.share,ar];trivial
  have Gb:av.share.tree=true:=by cases av<;>first|exact aM|rfl|exact(bs ⟨_,rfl⟩).elim
  rw[ar.bx Gb]
  exact⟨vR aR fe,ai.shared (fun b I=>.inl I) av _ Sn (fun b I=>.inr I) ej⟩
theorem Gc {op:Op} {T:TypeId} {x:au} (h:bQ op=some (.dd T x)):∃a,op= .box T a∧cj a=some x:=by
 cases op with
 |box v7 a=>
  simp only[bQ,Option.map_eq_some_iff,dI.dd.injEq]at h
  obtain⟨y,aT,rfl,rfl⟩:=h
  exact⟨a,rfl,aT⟩
 |_=>
  exfalso
  unfold bQ at h
  split at h<;>(try split at h)<;>(try split at h)<;>(try split at h)<;>(try simp[Option.map_eq_some_iff]at h)<;>contradiction
theorem Gd {aq:World} {F a7:Nat→Prop} {s s1:ag} {ak:Nat→Value} (aS:∀b,F b→a7 b∧aq.heap[b]? =w.heap[b]?):∀(n:Nat),
  (∀(d:j) (v:Value) (S:Nat→Prop),SizeOf.sizeOf d≤n→d.eW s=true→d.eW s1=true→ar w F s ak d v S→ar aq a7 s1 ak d v (fun _=>False))∧
  (∀(ds:List j) (vs:List Value),SizeOf.sizeOf ds≤n→j.nv s ds=true→j.nv s1 ds=true→cE w F s ak ds vs→cE aq a7 s1 ak ds vs):=by
 intro n
 induction n with
 |zero=>
  refine⟨fun d v S bf=> ?_,fun ds vs bf=> ?_⟩
  ·cases d<;>simp at bf<;>omega
  ·cases ds<;>simp at bf<;>omega
 |succ n ih=>
  refine⟨fun d v S bf bb bq h=> ?_,fun ds vs bf bb bq h=> ?_⟩
  ·cases d with
   |hole=>rw[ar];trivial
   |h x q=>
    simp only[j.eW,Bool.and_eq_true,List.isEmpty_iff]at bb bq
    obtain⟨rfl,bb⟩:=bb
    rw[ar]at h⊢
    obtain⟨bG,a,dD,eK,fo⟩:=h (s x) (by simp only[j.sub]) (mz bb).1
    simp only[b0,Option.some.injEq,Prod.mk.injEq,true_and]at dD
    intro d ab _
    simp only[j.sub,Option.some.injEq]at ab
    subst ab
    exact⟨ba (ak x),none,by simp only[b0],by rw[eK,←dD.1],((mz bq.2).2.2.2.2.2 _).2 (((mz bb).2.2.2.2.2 _).1 fo)⟩
   |an x q=>simp[j.eW]at bb
   |I x k=>
    simp only[j.eW,Bool.not_eq_true']at bb
    rw[ar]at h⊢
    obtain⟨b,cur,e,fr,U,aa,aw,aN⟩:=h bb
    exact fun _=>⟨b,cur,e,fr,U,(aS b aa).1,(aS b aa).2.trans aw,aN⟩
   |fn f cap=>
    simp only[j.eW]at bb bq
    rw[ar]at h⊢
    obtain⟨arr,rfl,ae⟩:=h
    exact⟨arr,rfl,ih.2 _ _ (by simp at bf;omega) bb bq ae⟩
   |_=>
    simp only[j.eW]at bb
    have a2:=(ar.bx rfl).1 h
    exact(ar.bx rfl).2 ⟨a2.1,ai.mono (fun b I=>(aS b I).1) _ _ _ _ (fun _ h=>h) (ai.frame (fun b I=>(aS b I).2) _ _ _ (fun _ h=>h.elim) (ai.plain _ _ _ _ bb a2.2))⟩
  ·cases ds with
   |nil=>rw[cE]at h⊢;exact h
   |cons d ds=>
    simp only[j.nv,Bool.and_eq_true]at bb bq
    rw[cE]at h⊢
    obtain⟨v,gA,rfl,U,aa⟩:=h
    simp at bf
    exact⟨v,gA,rfl,ih.1 _ _ _ (by omega) bb.1 bq.1 U,ih.2 _ _ (by omega) bb.2 bq.2 aa⟩
theorem Ge {s:ag} {d:j} (h:d.eW s=true):d.plain=true:=by
 cases d<;>first|rfl|(simpa [j.eW]using h)
theorem aX.mA {F:Nat→Prop} {ak:Nat→Value}:∀(L:List (Nat×j)) (s:ag) (S:Nat→Nat→Prop),aX w0 F0 X F S s ak w→(∀p∈L,p.2.plain=true∧ar w F s ak p.2 (ak p.1) (fun _=>False))→
  ∃az,aX w0 F0 X F az (bZ.mA s L) ak w∧∀u b,az u b→S u b:=by
 intro L
 induction L with
 |nil=>intro s S h _;exact⟨S,h,fun _ _ h=>h⟩
 |cons p L ih=>
  intro s S h oy
  obtain⟨U,aa⟩:=oy p (by simp)
  have cJ:b4 ak p.1 (ak p.1)=ak:=by funext u;simp only[b4];split<;>simp_all
  have aw:=h.qV (t:=p.1) U aa
  rw[cJ]at aw
  have eD:∀x,x≠p.1→(b4 s p.1 p.2 x).tree=true→b4 s p.1 p.2 x=s x∧ak x=ak x:=fun x ao _=>⟨gB _ _ ao,rfl⟩
  obtain⟨az,aE,aO⟩:=ih _ _ aw (fun q bX=>⟨(oy q (by simp[bX])).1,(ar.void (t:=p.1) eD (by rw[jb];exact U) _).1 _ _ _ (Nat.le_refl _) (oy q (by simp[bX])).2⟩)
  refine⟨az,aE,fun u b I=> ?_⟩
  have:=aO u b I
  simp only[dV]at this
  split at this
  ·exact this.elim
  ·exact this
theorem wa {s:ag}:∀{L:List (Nat×j)},lO s L=true→∀p∈L,p.2.eW s=true
 |q::L,U,p,an=>by
  simp only[lO,Bool.and_eq_true]at U
  rcases List.mem_cons.1 an with rfl|an
  ·exact U.1
  ·exact wa U.2 p an
theorem Gf {s:ag} {us:List Nat} {p:Nat×j} (h:p∈iT s us):p.1∈us∧s p.1=p.2:=by
 obtain⟨u,hu,rfl⟩:=List.mem_map.1 h
 exact⟨hu,rfl⟩
theorem Gg (aQ:C.c5) (h:Rel w0 F0 X n ρ s a w) {o:Oper} {a6:dI} (br:nu o.op=a6.base) (ab:iS n o.dst=true) {K:ag→Prop} {next:Act→World→Prop}
  (hw:ke C s a6 fun av s1=>K (fin s1 o.dst av)) (aR:∀aj bM aq,K aj→Rel w0 F0 X n ρ aj bM aq→next bM aq):o.wp C.P a w next Q:=by
 cases a6 with
 |shr a6=>
  obtain⟨av,s1,he,aM,jq,al⟩:=hw
  rcases lP br with br|br
  ·change a6= .bad at br
   subst br;cases he
  obtain⟨fT,cm,e4,F,S,aB⟩:=h
  obtain⟨r,aq,v,a7,az,U,aa,aw,aN⟩:=y7 (a:=a) aQ aB (fun _=>rfl) br he
  obtain⟨rF,bg,cd⟩:=hQ.share aw aN aM jq
  unfold Oper.wp
  rw[U]
  rcases aa with rfl|⟨rfl,rfl⟩
  ·exact aR _ _ _ al (Rel.put fT cm e4 bg cd ab)
  ·exact aR _ _ _ al (Rel.put fT cm e4 bg cd ab)
 |bad=>obtain⟨av,s1,he,_⟩:=hw;cases he
 |jm f args u x=>
  obtain⟨aG,aL,hw⟩:=hw
  rcases lP br with I|I
  ·cases I
  ·refine v8 aQ h I ab hw ?_ aR
   rintro F S a7 az w aq av s1 v fe ⟨ej,gp,gf⟩ nd oA rJ _
   have sT:=fe.b5 u
   rw[aG,ar]at sT
   obtain⟨bG,a0,dD,eK,fo⟩:=sT (s x) (by simp only[j.sub]) (mz aL).1
   simp only[b0,Option.some.injEq,Prod.mk.injEq,true_and]at dD
   have wb:∀y b,dV az u (fun _=>False) y b→az y b:=by
    intro y b I
    simp only[dV]at I
    split at I
    ·exact I.elim
    ·exact I
   exact⟨_,_,gf,oA.alias ej gp (by rw[eK,←dD.1]) (((mz aL).2.2.2.2.2 _).1 fo),rJ.less wb nd⟩
 |jn f args L=>
  obtain⟨aL,hw⟩:=hw
  rcases lP br with I|I
  ·cases I
  ·refine v8 aQ h I ab hw ?_ aR
   rintro F S a7 az w aq av s1 v fe ⟨ej,gf⟩ nd oA rJ Gh
   obtain⟨ch,aE,aO⟩:=oA.mA (iT s L) s1 az (fun p an=>by
    have dw:=(Gf an).2
    have cy:=wa aL p an
    have fu:=wa ej p an
    refine⟨Ge cy,(Gd Gh _).1 _ _ (S p.1) (Nat.le_refl _) cy fu ?_⟩
    have:=fe.b5 p.1
    rw[dw]at this
    exact this)
   exact⟨_,ch,gf,aE,rJ.less aO nd⟩
 |hU T x=>
  obtain⟨av,s1,he,al⟩:=hw
  rcases lP br with I|I
  ·cases I
  ·obtain⟨b6,kY,ao⟩:=Gc I
   obtain⟨fT,cm,e4,F,S,aB⟩:=h
   obtain⟨dst,op,ty,pos,after,guard⟩:=o
   simp only at kY ab al
   subst kY
   obtain⟨r,aq,v,a7,az,U,aa,aw,aN⟩:Next C w0 F0 X (fun t=>a.tmps.getD t undef) w (execOp a.eval ⟨dst,.box T b6,ty,pos,after,guard⟩) av s1:=(D3 (T:=T) aB (dc aB (fun _=>rfl) ao).2 he).next
   unfold Oper.wp
   rw[U]
   rcases aa with rfl|⟨rfl,rfl⟩
   ·exact aR _ _ _ al (Rel.put fT cm e4 aw aN ab)
   ·exact aR _ _ _ al (Rel.put fT cm e4 aw aN ab)
 |ij x=>
  obtain⟨av,s1,he,al⟩:=hw
  rcases lP br with I|I
  ·cases I
  ·obtain⟨b6,kY,ao⟩:=F6 I
   obtain⟨fT,cm,e4,F,S,aB⟩:=h
   obtain⟨dst,op,ty,pos,after,guard⟩:=o
   simp only at kY ab al
   subst kY
   simp only[aW]at he
   obtain⟨aE,aO⟩:=dc aB (fun _=>rfl) ao
   obtain⟨r,aq,v,a7,az,U,aa,aw,aN⟩:Next C w0 F0 X (fun t=>a.tmps.getD t undef) w (execOp a.eval ⟨dst,.move b6,ty,pos,after,guard⟩) av s1:=by
    unfold lH at he
    split at he
    ·rename_i y q aT
     rw[aT]at aE aO
     obtain⟨bj,k0,bb,bq,Sn,cD,b1,cZ,cY,eT,_⟩:=kF aB aE aO he
     exact⟨_,w,_,F,bj,rfl,.inl rfl,k0,.inr ⟨bb,bq,Sn,cD,b1,cZ,cY,eT⟩⟩
    ·simp only[Option.some.injEq,Prod.mk.injEq]at he
     obtain⟨rfl,rfl⟩:=he
     exact⟨_,w,_,F,S,rfl,.inl rfl,aB,.inl ⟨aE,aO⟩⟩
   unfold Oper.wp
   rw[U]
   rcases aa with rfl|⟨rfl,rfl⟩
   ·exact aR _ _ _ al (Rel.put fT cm e4 aw aN ab)
   ·exact aR _ _ _ al (Rel.put fT cm e4 aw aN ab)
 |np x=>
  obtain⟨av,s1,he,al⟩:=hw
  rcases lP br with I|I
  ·cases I
  ·obtain⟨b6,kY,ao⟩:=F7 I
   obtain⟨fT,cm,e4,F,S,aB⟩:=h
   obtain⟨dst,op,ty,pos,after,guard⟩:=o
   simp only at kY ab al
   subst kY
   simp only[aW,Option.some.injEq,Prod.mk.injEq]at he
   obtain⟨rfl,rfl⟩:=he
   obtain⟨aE,aO⟩:=dc aB (fun _=>rfl) ao
   obtain⟨r,aq,v,a7,az,U,aa,aw,aN⟩:Next C w0 F0 X (fun t=>a.tmps.getD t undef) w (execOp a.eval ⟨dst,.assign b6,ty,pos,after,guard⟩) (ax s x) s:=⟨_,w,_,F,S,rfl,.inl rfl,aB,.inl ⟨aE,aO⟩⟩
   unfold Oper.wp
   rw[U]
   rcases aa with rfl|⟨rfl,rfl⟩
   ·exact aR _ _ _ al (Rel.put fT cm e4 aw aN ab)
   ·exact aR _ _ _ al (Rel.put fT cm e4 aw aN ab)
 |j7 T a5 x y=>
  obtain⟨av,s1,he,al⟩:=hw
  rcases lP br with I|I
  ·cases I
  ·obtain⟨b6,hr,kY,ao,aT⟩:=F9 I
   obtain⟨fT,cm,e4,F,S,aB⟩:=h
   simp only[aW,Option.map_eq_some_iff,Prod.mk.injEq]at he
   obtain⟨d,eJ,rfl,rfl⟩:=he
   obtain⟨v,aq,a7,az,U,aa,aw⟩:=ET (ty:=o.type) aQ aB (dc aB (fun _=>rfl) ao).2 (dc aB (fun _=>rfl) aT).2 eJ
   have oz:execOp a.eval o=(do pure (.value (←Builtin.append_ #[T,a5] o.type #[a.eval b6,a.eval hr]))):=by
    obtain⟨dst,op,ty,pos,after,guard⟩:=o
    simp only at kY
    subst kY
    simp[execOp,resolve,invoke,builtin]
   unfold Oper.wp
   rw[oz]
   simp only[Sem.run_bind,U,Result.andThen]
   exact aR _ _ _ al (Rel.put fT cm e4 aa aw ab)
 |_=>
  rcases lP br with I|I
  ·cases I
  ·exact Ga aQ h I ab hw aR
end
end Go.bZ
