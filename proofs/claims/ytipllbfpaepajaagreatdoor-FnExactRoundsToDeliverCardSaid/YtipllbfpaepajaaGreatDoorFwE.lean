/- Part of a proof that a law returns true for every input. No condition. -/
import Derived.Test.YtipllbfpaepajaaGreatDoorFwD
import Derived.Laws.Tables
namespace Go.b9
section
variable {C:bq} {w0 w:World} {F0 X F:Nat→Prop} {S:Nat→Nat→Prop} {s s1:aj} {an:Nat→Value} {av:I}
theorem uM (z:List Value):∀n,(List.range (n*z.length)).map (fun i=>z[i%z.length]!)=(List.replicate n z).flatten
 |0=>by simp
 |n+1=>by
  rw[Nat.add_mul,Nat.one_mul,List.range_add,List.map_append,uM z n,List.replicate_succ',List.flatten_append]
  congr 1
  simp only[List.map_map,List.flatten_cons,List.flatten_nil,List.append_nil]
  apply List.ext_getElem
  ·simp
  ·intro i aa ad
   have aA:i<z.length:=ad
   simp[Nat.mod_eq_of_lt aA,aA]
theorem aM.replicate {d:I} {cs:List Value} (h:∀aD,al w F d cs aD):∀n aD,aM w F (List.replicate n d) (List.replicate n cs).flatten aD
 |0,aD=>by simp only[List.replicate_zero,List.flatten_nil];rw[aM]
 |n+1,aD=>by
  rw[List.replicate_succ,List.replicate_succ,List.flatten_cons,aM]
  exact⟨cs,_,fun _=>False,fun _=>False,rfl,h _,aM.replicate h n _,fun _ h=>h.elim,fun _ h=>h.elim,fun _ h=>h.elim⟩
def eh (C:bq) (T:TypeId) (l c:I):Option I:=
 match(C.T T).k,l,c with
 | .slice e,.int .i64 n,.int .i64 m=>if n=m∧0≤n∧(C.T e).ok=true∧(C.T e).zero.wd=(C.T e).sz∧(flat (C.T e).zero).isSome=true∧(C.T e).sz≠0∧(C.T e).bytes*n≤140737488355328∧n≤9223372036854775807 then
   some (.aK (C.T e).sz (List.replicate n.toNat (C.T e).zero))else none
 |_,_,_=>none
theorem HN (aT:C.db) (h:a7 w0 F0 X F S s an w) {T:TypeId} {l c:I} {Bn Bo:Value} (aJ:ax w F s an l Bn (fun _=>False)) (ai:ax w F s an c Bo (fun _=>False)) (he:eh C T l c=some av):
  Good C w0 F0 X an w (Instr.makeSlice T Bn Bo) av s:=by
 unfold eh at he
 split at he
 ·rename_i e n m ar
  have:=jV aJ;subst this
  have:=jV ai;subst this
  obtain⟨xA,d,xB,aF,aI,aL,bX,b7,bs,bj⟩:=aT.info (dX ar (by simp))
  rw[ar]at bj
  have:=ix bj;subst this
  split at he
  ·rename_i pb
   obtain⟨rfl,aW,lA,me,nk,cP,Bp,n1⟩:=pb
   simp only[Option.some.injEq]at he;subst he
   obtain⟨i,xC,z,f1,f2,f3,f4,f5,f6,f7⟩:=aT.info lA
   obtain⟨de,jX⟩:=Option.isSome_iff_exists.1 nk
   have nm:=f5 de jX
   have eG:∀aD,al w F (C.T e).zero de aD:=fun aD=>(al.flat _).1 _ de aD (Nat.le_refl _) jX
   have lC:de.length=(C.T e).sz:=by rw[al.length _ _ _ (eG (fun _=>False)),me]
   obtain⟨n,rfl⟩:=Int.eq_ofNat_of_zero_le aW
   simp only[Int.toNat_natCast]
   have qv:IntKind.i64.wrap (n:Int)=n:=by
    rw[IntKind.wrap_i64];omega
   have qt:∀k (w:World),(askRoom k).run C.P w= .ok () w:=by
    intro k w
    unfold askRoom
    split<;>rfl
   have ly:((Array.range (n*(C.T e).sz)).map (de.toArray[·%de.toArray.size]!)).toList=(List.replicate n de).flatten:=by
    have:=uM de n
    rw[lC]at this
    simpa [lC]using this
   have cY:¬(281474976710656<(i.bytes:Int)*n):=by
    rw[f3];omega
   have uN:¬((n:Int)<0):=by omega
   have run:(Instr.makeSlice T (.int .i64 n) (.int .i64 n)).run C.P w= .ok (.slice (some ⟨w.heap.size,0,none⟩) n n)
     (w.alloc (.cells (if n*(C.T e).sz=0 then(Array.range (n*(C.T e).sz)).map (fun _=>default)else(Array.range (n*(C.T e).sz)).map (de.toArray[·%de.toArray.size]!)) e)):=by
    by_cases bz:n*(C.T e).sz=0
    ·simp[Instr.makeSlice,run_underlying bs,asInt,asIntOf,o7 f1,qv,cY,uN,qt,hv f1,f2,bz,newRow]
    ·simp only[bz,if_false]
     simp[Instr.makeSlice,run_underlying bs,asInt,asIntOf,o7 f1,qv,cY,uN,qt,hv f1,f2,bz,newRow,o8 f1 f4,nm]
   have ir:(if n*(C.T e).sz=0 then(Array.range (n*(C.T e).sz)).map (fun _=>(default:Value))else(Array.range (n*(C.T e).sz)).map (de.toArray[·%de.toArray.size]!)).toList=(List.replicate n de).flatten:=by
    split
    ·rename_i bz
     have:n=0:=by
      rcases Nat.mul_eq_zero.1 bz with h|h
      ·exact h
      ·exact(cP h).elim
     subst this
     simp
    ·exact ly
   generalize po:(if n*(C.T e).sz=0 then(Array.range (n*(C.T e).sz)).map (fun _=>(default:Value))else(Array.range (n*(C.T e).sz)).map (de.toArray[·%de.toArray.size]!))=cur at run ir
   have gr:(List.replicate n de).flatten.length=n*(C.T e).sz:=by simp[lC]
   have hx:cur.size=n*(C.T e).sz:=by
    have:cur.size=cur.toList.length:=by simp
    rw[this,ir,gr]
   have h3:=h.sv (aw:=w.alloc (.cells cur e)) (sz:=(C.T e).sz) (cap:=n) (xs:=List.replicate n (C.T e).zero) (cur:=cur) (e:=e) (fr:=(0,0)) (Sn:=fun _=>False) rfl rfl rfl ⟨rfl,fun _=>Nat.le_refl _⟩
    (fun o _ ⟨_,ad⟩=>absurd ad (Nat.not_lt_zero _)) (by simp) (by unfold maxLen;omega) hx (by intro d ae;rw[List.eq_of_mem_replicate ae];exact me)
    (by rw[ir,List.length_replicate,List.take_of_length_le (by rw[gr];exact Nat.le_refl _)];exact aM.replicate eG n _) (fun _ h=>h.elim) (fun _ h=>h.elim) (fun _ _ h=>h.elim) (fun _ h=>h.elim)
   rw[List.length_replicate]at h3
   exact⟨_,_,F,S,run,h3.1,h3.2⟩
  ·cases he
 ·cases he
def kV (C:bq) (T a8:TypeId) (x y:I):Option I:=
 match(C.T T).k,(C.T a8).k,x,y with
 | .slice e,.int _,.bH,.int .i64 n=>if 0≤n∧(C.T e).ok=true∧(C.T e).zero.wd=(C.T e).sz∧(flat (C.T e).zero).isSome=true∧(C.T e).sz≠0∧(C.T e).bytes*n≤140737488355328∧n≤9223372036854775807 then
   some (.aK (C.T e).sz (List.replicate n.toNat (C.T e).zero))else none
 |_,_,_,_=>none
theorem HO {P:Program} {T a8 ty e:TypeId} {k:IntKind} {i:TypeInfo} {z:Value} (aN:P.underlying T=some (.slice e)) (hu:P.underlying a8=some (.int k)) (aA:P.info? e=some i) (bl:i.zero=some z)
  (n:Nat) (bz:n≠0) (U:i.size≠0) (aW:n≤9223372036854775807) (R:n*i.bytes≤140737488355328):
  (Builtin.append_ #[T,a8] ty #[.slice none 0 0,.int .i64 n]).run P w= .ok (.slice (some ⟨w.heap.size,0,none⟩) n (grownCap w n 0 e))
   (w.drew.alloc (.cells (Builtin.zeroCells z.cells n++Builtin.zeroCells z.cells (grownCap w n 0 e-n)) e)):=by
 have qv:IntKind.i64.wrap (n:Int)=n:=by rw[IntKind.wrap_i64];omega
 have uN:¬((n:Int)<0):=by omega
 have hmul:(n:Int)*(i.bytes:Int)=((n*i.bytes:Nat):Int):=by simp
 have cY:¬(281474976710656<(n:Int)*(i.bytes:Int)):=by rw[hmul];omega
 have fB:¬(281474976710656<Builtin.nextslicecap n 0*i.bytes):=by
  have:Builtin.nextslicecap n 0=n:=by unfold Builtin.nextslicecap;rw[if_pos (by omega)]
  rw[this];omega
 have qt:∀k (w:World),(askRoom k).run P w= .ok () w:=by
  intro k w
  unfold askRoom
  split<;>rfl
 have xx:¬(9223372036854775807<(n:Int)):=by omega
 have xI:n*i.size≠0:=Nat.mul_ne_zero bz U
 simp[Builtin.append_,run_underlying aN,run_underlying hu,hv aA,o7 aA,asInt,asIntOf,qv,uN,cY,fB,bz,Question.forced,qt,xx,o8 aA bl,newRow,grownCap,Builtin.firstCells]
 intro fb;exact(xI fb).elim
theorem HP (aT:C.db) (h:a7 w0 F0 X F S s an w) {T a8 ty:TypeId} {x y:I} {fq fU:Value} (ao:ax w F s an x fq (fun _=>False)) (hy:ax w F s an y fU (fun _=>False)) (he:kV C T a8 x y=some av):
  Good C w0 F0 X an w (Builtin.append_ #[T,a8] ty #[fq,fU]) av s:=by
 unfold kV at he
 split at he
 ·rename_i e YR n ar Bq
  have:=nh ao;subst this
  have:=jV hy;subst this
  obtain⟨xA,d,xB,aF,aI,aL,bX,b7,bs,bj⟩:=aT.info (dX ar (by simp))
  rw[ar]at bj
  have:=ix bj;subst this
  obtain⟨YS,YT,YU,sD,Br,YV,YW,YX,Bs,Bt⟩:=aT.info (dX Bq (by simp))
  rw[Bq]at Bt
  have:=si Bt;subst this
  split at he
  ·rename_i pb
   obtain⟨aW,lA,me,nk,cP,Bp,n1⟩:=pb
   simp only[Option.some.injEq]at he;subst he
   obtain⟨i,xC,z,f1,f2,f3,f4,f5,f6,f7⟩:=aT.info lA
   obtain⟨de,jX⟩:=Option.isSome_iff_exists.1 nk
   have nm:=f5 de jX
   have eG:∀aD,al w F (C.T e).zero de aD:=fun aD=>(al.flat _).1 _ de aD (Nat.le_refl _) jX
   have lC:de.length=(C.T e).sz:=by rw[al.length _ _ _ (eG (fun _=>False)),me]
   obtain⟨n,rfl⟩:=Int.eq_ofNat_of_zero_le aW
   simp only[Int.toNat_natCast]
   by_cases bz:n=0
   ·subst bz
    have run:(Builtin.append_ #[T,a8] ty #[.slice none 0 0,.int .i64 ((0:Nat):Int)]).run C.P w= .ok (.slice none 0 0) w:=by
     have qv:IntKind.i64.wrap 0=0:=by decide
     simp[Builtin.append_,run_underlying bs,run_underlying Bs,hv f1,o7 f1,asInt,asIntOf,qv]
    exact⟨_,w,F,S,run,h,.inr ⟨rfl,rfl,fun _=>False,by simp only[bw,fl];rw[al];exact .inl ⟨rfl,_,rfl⟩,fun _ h=>h.elim,fun _ h=>h.elim,fun _ _ h=>h.elim,fun _ h=>h.elim⟩⟩
   ·have run:=HO (w:=w) (ty:=ty) bs Bs f1 f4 n bz (by rw[f2];exact cP) (by omega) (by
     rw[f3]
     have:((C.T e).bytes:Int)*(n:Int)=(((C.T e).bytes*n:Nat):Int):=by simp
     rw[this]at Bp
     rw[Nat.mul_comm];omega)
    rw[nm]at run
    have sy:=grownCap_ge w n 0 e
    have sA:=grownCap_le_maxLen w n 0 e (by unfold maxLen;omega)
    have Bu:∀m,(Builtin.zeroCells de.toArray m).toList=(List.replicate m de).flatten:=by
     intro m
     have:=uM de m
     unfold Builtin.zeroCells
     simpa [lC]using this
    have gr:∀m,(List.replicate m de).flatten.length=m*(C.T e).sz:=by intro m;simp[lC]
    generalize po:Builtin.zeroCells de.toArray n++Builtin.zeroCells de.toArray (grownCap w n 0 e-n)=cur at run
    have ir:cur.toList=(List.replicate n de).flatten++(List.replicate (grownCap w n 0 e-n) de).flatten:=by rw[←po,Array.toList_append,Bu,Bu]
    have hx:cur.size=grownCap w n 0 e*(C.T e).sz:=by
     have:cur.size=cur.toList.length:=by simp
     rw[this,ir,List.length_append,gr,gr,←Nat.add_mul]
     congr 1;omega
    have h3:=h.sv (aw:=w.drew.alloc (.cells cur e)) (sz:=(C.T e).sz) (cap:=grownCap w n 0 e) (xs:=List.replicate n (C.T e).zero) (cur:=cur) (e:=e) (fr:=(0,0)) (Sn:=fun _=>False) rfl rfl rfl ⟨rfl,fun _=>Nat.le_succ _⟩
     (fun o _ ⟨_,ad⟩=>absurd ad (Nat.not_lt_zero _)) (by simpa using sy) sA hx (by intro d ae;rw[List.eq_of_mem_replicate ae];exact me)
     (by rw[ir,List.length_replicate,List.take_left' (gr n)];exact aM.replicate eG n _) (fun _ h=>h.elim) (fun _ h=>h.elim) (fun _ _ h=>h.elim) (fun _ h=>h.elim)
    rw[List.length_replicate]at h3
    exact⟨_,_,F,S,run,h3.1,h3.2⟩
  ·cases he
 ·cases he
def hL (s:aj) (f:FuncId) (cs:List ay):Option I:=some (.fn f (cs.map (az s)))
theorem uO {a:Act} (h:a7 w0 F0 X F S s an w) (cM:∀t,an t=a.tmps.getD t undef):∀(os:List Operand) (xs:List ay),os.map cq=xs.map some→cG w F s an (xs.map (az s)) (os.map a.eval)
 |[],[],_=>by simp only[List.map_nil];rw[cG]
 |[],x::xs,h=>by simp at h
 |o::os,[],h=>by simp at h
 |o::os,x::xs,aQ=>by
  simp only[List.map_cons,List.cons.injEq]at aQ⊢
  rw[cG]
  exact⟨_,_,rfl,(dk h cM aQ.1).2,uO h cM os xs aQ.2⟩
theorem Bv:∀(vs:List Value) (k off:Nat) (A:Array Value) (l m r:List Value),A.toList=l++(m++r)→l.length=off+k→m.length=vs.length→
  ((vs.zipIdx k).foldl (fun cs (x:Value×Nat)=>cs.setIfInBounds (off+x.2) x.1) A).toList=l++(vs++r)
 |[],k,off,A,l,m,r,er,aJ,hm=>by
  have:m=[]:=by simpa using hm
  subst this
  simpa using er
 |v::vs,k,off,A,l,m,r,er,aJ,hm=>by
  obtain⟨x,m,rfl⟩:∃x gY,m=x::gY:=by
   cases m with
   |nil=>simp at hm
   |cons x m=>exact⟨x,m,rfl⟩
  rw[List.zipIdx_cons,List.foldl_cons]
  have:=Bv vs (k+1) off (A.setIfInBounds (off+k) v) (l++[v]) m r (by
   rw[Array.toList_setIfInBounds,er,←aJ,List.set_append_right _ _ (Nat.le_refl _)]
   simp) (by simp;omega) (by simpa using hm)
  simpa using this
def kW (os:List (Option Nat)) (a:I):I:=os.foldl (fun a o=>h1 o a) a
def kX (place:Nat→Option (Nat×Nat)):aj→List I→List (Option Nat)→List (Nat×I)→Option (List I×aj)
 |s,eB,_,[]=>some (eB,s)
 |s,eB,os,(k,a)::r=>match bR s (kW os a),place k,eB[k]? with
  |some (d,s1),some (off,n),some z=>match d with
   | .tuple _=>none
   |d=>if d.wd=n∧z.wd=n∧I.cH (eB.take k)=off then kX place s1 (eB.set k d) (os++[(kW os a).owner]) r else none
  |_,_,_=>none
def kY (w:World) (F:Nat→Prop) (s:aj) (an:Nat→Value):List (Nat×I)→List (Nat×Value)→Prop
 |[],[]=>True
 |(k,a)::r,(cy,v)::gZ=>k=cy∧a.plain=true∧ax w F s an a v (fun _=>False)∧kY w F s an r gZ
 |_,_=>False
theorem HQ (x:Nat):∀d:I,d.plain=true→(bn x d).plain=true
 | .h y q,_=>by simp only[bn];split<;>(try split)<;>rfl
 | .ak y q,_=>by simp only[bn];split<;>rfl
 | .R y q,_=>rfl
 | .fn f c,_=>by simp only[bn];rfl
 | .hole,h=>h
 | .bool _,h=>h
 | .dd,h=>h
 | .int _ _,h=>h
 | .str _,h=>h
 | .cn,h=>h
 | .bH,h=>h
 | .slice _,h=>h
 | .aK _ _,h=>h
 | .ref _,h=>h
 | .a1 _,h=>h
 | .agg _,h=>h
 | .tuple _,h=>h
theorem HR (o:Option Nat) (d:I) (h:d.plain=true):(h1 o d).plain=true:=by
 cases o with
 |none=>exact h
 |some x=>exact HQ x d h
theorem kY.bn {w:World} {F:Nat→Prop} {s s1:aj} {an:Nat→Value} {o:Option Nat} (ak:∀(aV:I) (ef:Value) (aD:Nat→Prop),ax w F s an aV ef aD→ax w F s1 an (h1 o aV) ef aD):
  ∀(r:List (Nat×I)) (gZ:List (Nat×Value)),kY w F s an r gZ→kY w F s1 an (r.map fun p=>(p.1,h1 o p.2)) gZ
 |[],[],_=>trivial
 |(k,a)::r,(cy,v)::gZ,h=>by
  obtain⟨aa,ad,aB,aO⟩:=h
  exact⟨aa,HR _ _ ad,ak _ _ _ aB,kY.bn ak r gZ aO⟩
 |[],_::_,h=>h.elim
 |_::_,[],h=>h.elim
theorem xJ {place:Nat→Option (Nat×Nat)}:∀(ps:List (Nat×I)) (vs:List (Nat×Value)) (os:List (Option Nat)) (s:aj) (S:Nat→Nat→Prop) (eB:List I) (A:Array Value) (e_:Nat→Prop),
  a7 w0 F0 X F S s an w→kY w F s an (ps.map fun p=>(p.1,kW os p.2)) vs→aM w F eB A.toList e_→(∀b,e_ b→b<w.heap.size)→(∀b,e_ b→¬F b)→(∀u b,e_ b→¬S u b)→(∀b,e_ b→X b∨w0.heap.size≤b)→
  ∀ds s1,kX place s eB os ps=some (ds,s1)→∃cQ bk eM,Instr.fill place A vs=some cQ∧a7 w0 F0 X F bk s1 an w∧aM w F ds cQ.toList eM∧(∀b,eM b→b<w.heap.size)∧(∀b,eM b→¬F b)∧(∀u b,eM b→¬bk u b)∧
   (∀b,eM b→X b∨w0.heap.size≤b)∧ds.length=eB.length∧I.cH ds=I.cH eB∧(∀n,(∀d∈eB,d.wd=n)→∀d∈ds,d.wd=n)
 |[],[],os,s,S,eB,A,e_,h,_,aa,ad,aB,aO,a6,ds,s1,he=>by
  simp only[kX,Option.some.injEq,Prod.mk.injEq]at he
  obtain⟨rfl,rfl⟩:=he
  exact⟨A,S,e_,rfl,h,aa,ad,aB,aO,a6,rfl,rfl,fun _ h=>h⟩
 |(k,a)::ps,(cy,v)::vs,os,s,S,eB,A,e_,h,ak,aa,ad,aB,aO,a6,ds,s1,he=>by
  obtain⟨rfl,h4,lr,sE⟩:=ak
  simp only[kX]at he
  split at he
  ·rename_i d sF off n z aN e5 bl
   have key:∀d:I,(∀af,d≠.tuple af)→bR s (kW os a)=some (d,sF)→(if d.wd=n∧z.wd=n∧I.cH (eB.take k)=off then kX place sF (eB.set k d) (os++[(kW os a).owner]) ps else none)=some (ds,s1)→
     ∃cQ bk eM,Instr.fill place A ((k,v)::vs)=some cQ∧a7 w0 F0 X F bk s1 an w∧aM w F ds cQ.toList eM∧(∀b,eM b→b<w.heap.size)∧(∀b,eM b→¬F b)∧(∀u b,eM b→¬bk u b)∧
     (∀b,eM b→X b∨w0.heap.size≤b)∧ds.length=eB.length∧I.cH ds=I.cH eB∧(∀n,(∀d∈eB,d.wd=n)→∀d∈ds,d.wd=n):=by
    intro d nf aN he
    split at he
    ·rename_i ai
     obtain⟨uP,o9,Bw⟩:=ai
     obtain⟨bk,g0,g1,g2,Sn,g3,g4,g5,g6,g7,g8,g9,g10⟩:=lu h h4 lr aN
     obtain⟨bN,dT,c2,Sx,fk,er,fa,dV,eY,fH,ee,jl⟩:=aM.pick eB _ _ k z aa bl
     have ly:=sl g2 nf
     have kp:=al.length _ _ _ g3
     have Bx:=al.length _ _ _ ee
     have nX:=jl w d (bw v) Sn (fun _ _=>rfl) (fun _ _=>rfl) g3 (fun b HS HT=>by obtain⟨u,hu⟩:=g9 b HS;exact aO u b (dV b HT) hu)
     have Bz:=Bv (bw v) 0 off A bN dT c2 er (by rw[fa,Bw];rfl) (by rw[Bx,kp,uP,o9])
     generalize HU:((bw v).zipIdx 0).foldl (fun cs (x:Value×Nat)=>cs.setIfInBounds (off+x.2) x.1) A=uA at Bz
     obtain⟨cQ,cp,eM,m1,m2,m3,m4,m5,m6,m7,m8,m9,m10⟩:=xJ (place:=place) ps vs (os++[(kW os a).owner]) sF bk (eB.set k d) uA (fun b=>Sx b∨Sn b) g0 (by have:=kY.bn g10 _ _ sE;simpa [kW,List.foldl_append,Function.comp_def]using this) (by rw[Bz];exact nX)
      (by rintro b (R|R);exact ad b (dV b R);exact g4 b R) (by rintro b (R|R);exact aB b (dV b R);exact g5 b R)
      (by rintro u b (R|R);exact fun hu=>aO u b (dV b R) (g8 u b hu);exact g6 u b R) (by rintro b (R|R);exact a6 b (dV b R);exact g7 b R) ds s1 he
     refine⟨cQ,cp,eM,?_,m2,m3,m4,m5,m6,m7,by rw[m8];simp,by rw[m9];exact wS _ _ _ _ bl (by rw[uP,o9]),?_⟩
     ·have xK:off+n≤A.size:=by
       have:A.size=A.toList.length:=by simp
       rw[this,er];simp[fa,Bw,Bx,o9]
      simp only[Instr.fill,e5,ly,List.size_toArray,kp,uP]
      have hZ:¬(n≠n∨A.size<off+n):=by omega
      have HV:(bw v).toArray.zipIdx.foldl (fun cs (x:Value×Nat)=>cs.setIfInBounds (off+x.2) x.1) A=uA:=by
       rw[←HU,←Array.foldl_toList];simp
      simp only[ne_eq,not_true_eq_false,decide_false,Bool.false_or,decide_eq_true_eq,gt_iff_lt]
      rw[if_neg (by simp;omega)]
      rw[show(bw v).toArray.zipIdx.foldl (fun cs x=>match x with|(c,j)=>cs.setIfInBounds (off+j) c) A=uA from HV]
      exact m1
     ·intro HW mg
      refine m10 HW (wT mg ?_)
      rw[uP,←o9];exact mg z (List.mem_of_getElem? bl)
    ·cases he
   split at he
   ·cases he
   ·rename_i nf
    exact key _ (fun af e=>nf af e) aN he
  ·cases he
 |[],_::_,_,_,_,_,_,_,_,ak,_,_,_,_,_,_,_,_=>ak.elim
 |_::_,[],_,_,_,_,_,_,_,ak,_,_,_,_,_,_,_,_=>ak.elim
def dH (C:bq) (s:aj) (T:TypeId) (ps:List (Nat×I)):Option (I×aj):=
 match(C.T T).k,(C.T T).zero with
 | .struct af,.agg eB=>if(flat (.agg eB)).isSome=true∧(∀f∈af,(C.T f.1).ok=true)then
   (match kX (fun k=>(af[k]?).map fun f=>(f.2,(C.T f.1).sz)) s eB [] ps with
   |some (ds,s1)=>some (.agg ds,s1)
   |none=>none)else none
 |_,_=>none
def df (C:bq) (s:aj) (T:TypeId) (n:Nat) (ps:List (Nat×I)):Option (I×aj):=
 match(C.T T).k with
 | .slice e=>if(C.T e).ok=true∧(C.T e).zero.wd=(C.T e).sz∧(flat (C.T e).zero).isSome=true∧(C.T e).sz≠0∧n*(C.T e).sz≤16777216 then
   (match kX (fun k=>some (k*(C.T e).sz,(C.T e).sz)) s (List.replicate n (C.T e).zero) [] ps with
   |some (ds,s1)=>some (.aK (C.T e).sz ds,s1)
   |none=>none)else none
 |_=>none
theorem HX (aT:C.db):∀(gs:List Field),(∀g∈gs,(C.T g.type).ok=true)→
  gs.mapM (fun f=>(C.P.info? f.type).map fun i=>(f.offset,i.size))=some (gs.map fun g=>(g.offset,(C.T g.type).sz)):=by
 intro gs
 induction gs with
 |nil=>intro _;simp
 |cons g gs ih=>
  intro hg
  obtain⟨i,d,z,f1,f2,f3,f4,f5,f6,f7⟩:=aT.info (hg g (by simp))
  have:=ih (fun g e1=>hg g (by simp[e1]))
  simp[List.mapM_cons,f1,f2,this]
theorem HY (aT:C.db) (h:a7 w0 F0 X F S s an w) {T:TypeId} {ps:List (Nat×I)} {vs:List (Nat×Value)} (ak:kY w F s an ps vs) (he:dH C s T ps=some (av,s1)):
  Good C w0 F0 X an w (Instr.build T vs.toArray) av s1:=by
 unfold dH at he
 split at he
 ·rename_i af eB ar bl
  split at he
  ·rename_i ai
   obtain⟨nk,HZ⟩:=ai
   split at he
   ·rename_i ds s2 gr
    simp only[Option.some.injEq,Prod.mk.injEq]at he
    obtain⟨rfl,rfl⟩:=he
    obtain⟨i,d,z,aF,aI,aL,bX,b7,bs,bj⟩:=aT.info (dX ar (by simp))
    rw[ar]at bj
    obtain⟨gs,rfl,BA⟩:=sg bj
    obtain⟨de,jX⟩:=Option.isSome_iff_exists.1 nk
    have nm:=b7 de (by rw[bl];exact jX)
    have eG:aM w F eB de.toArray.toList (fun _=>False):=by
     have:=(al.flat (w:=w) (F:=F) _).1 (.agg eB) de (fun _=>False) (Nat.le_refl _) jX
     rw[al]at this
     simpa using this
    have cW:kY w F s an (ps.map fun p=>(p.1,kW [] p.2)) vs:=by simpa [kW]using ak
    obtain⟨cQ,bk,eM,m1,m2,m3,m4,m5,m6,m7,m8,m9,m10⟩:=xJ ps vs [] s S eB de.toArray (fun _=>False) h cW eG (fun _ h=>h.elim) (fun _ h=>h.elim) (fun _ _ h=>h.elim) (fun _ h=>h.elim) ds s2 gr
    have e5:=HX aT gs.toList (fun g hg=>HZ (g.type,g.offset) (by rw[←BA];exact List.mem_map_of_mem hg))
    have H0:(fun(k:Nat)=>(af[k]?).map fun(f:TypeId×Nat)=>(f.2,(C.T f.1).sz))=fun(k:Nat)=>((gs.toList.map fun g=>(g.offset,(C.T g.type).sz)).toArray)[k]? :=by
     funext k
     rw[←BA]
     simp only[List.getElem?_map,List.getElem?_toArray,Option.map_map]
     rfl
    rw[H0]at m1
    refine⟨.agg cQ,w,F,bk,run_build w T vs.toArray cQ ?_,m2,.inr ⟨rfl,⟨_,rfl⟩,eM,by simp only[bw,fl];rw[al];exact m3,m4,m5,m6,m7⟩⟩
    unfold Program.built
    simp only[aF,bs,bX,e5,nm]
    exact m1
   ·cases he
  ·cases he
 ·cases he
theorem H2 (aT:C.db) (h:a7 w0 F0 X F S s an w) {T:TypeId} {n:Nat} {ps:List (Nat×I)} {vs:List (Nat×Value)} (ak:kY w F s an ps vs) (he:df C s T n ps=some (av,s1)):
  Good C w0 F0 X an w (Instr.buildSlice T n vs.toArray) av s1:=by
 unfold df at he
 split at he
 ·rename_i e ar
  split at he
  ·rename_i ai
   obtain⟨lA,me,nk,cP,YY⟩:=ai
   split at he
   ·rename_i ds s2 gr
    simp only[Option.some.injEq,Prod.mk.injEq]at he
    obtain⟨rfl,rfl⟩:=he
    obtain⟨xA,d,xB,aF,aI,aL,bX,b7,bs,bj⟩:=aT.info (dX ar (by simp))
    rw[ar]at bj
    have:=ix bj;subst this
    obtain⟨i,xC,z,f1,f2,f3,f4,f5,f6,f7⟩:=aT.info lA
    obtain⟨de,jX⟩:=Option.isSome_iff_exists.1 nk
    have nm:=f5 de jX
    have eG:∀aD,al w F (C.T e).zero de aD:=fun aD=>(al.flat _).1 _ de aD (Nat.le_refl _) jX
    have lC:de.length=(C.T e).sz:=by rw[al.length _ _ _ (eG (fun _=>False)),me]
    generalize er:((Array.range (n*(C.T e).sz)).map ((if n*(C.T e).sz=0 then #[]else de.toArray)[·%(if n*(C.T e).sz=0 then(#[]:Array Value)else de.toArray).size]!))=A
    have xK:A.toList=(List.replicate n de).flatten:=by
     rw[←er]
     by_cases bz:n*(C.T e).sz=0
     ·have:n=0:=by
       rcases Nat.mul_eq_zero.1 bz with h|h
       ·exact h
       ·exact(cP h).elim
      subst this
      simp
     ·simp only[bz,if_false]
      have:=uM de n
      rw[lC]at this
      simpa [lC]using this
    have cW:kY w F s an (ps.map fun p=>(p.1,kW [] p.2)) vs:=by simpa [kW]using ak
    obtain⟨cQ,bk,eM,m1,m2,m3,m4,m5,m6,m7,m8,m9,m10⟩:=xJ ps vs [] s S (List.replicate n (C.T e).zero) A (fun _=>False) h cW (by rw[xK];exact aM.replicate eG n _) (fun _ h=>h.elim) (fun _ h=>h.elim) (fun _ _ h=>h.elim) (fun _ h=>h.elim) ds s2 gr
    have hlen:ds.length=n:=by rw[m8];simp
    have BB:=m10 (C.T e).sz (by intro d ae;rw[List.eq_of_mem_replicate ae];exact me)
    have H3:cQ.toList.length=n*(C.T e).sz:=by rw[aM.ph m3 BB,hlen]
    have H4:cQ.size=n*(C.T e).sz:=by rw[←H3];simp
    have YZ:n≤16777216:=by
     have:n*1≤n*(C.T e).sz:=Nat.mul_le_mul_left _ (by omega)
     omega
    have h3:=m2.sv (aw:=w.alloc (.cells cQ e)) (sz:=(C.T e).sz) (cap:=n) (xs:=ds) (cur:=cQ) (e:=e) (fr:=(0,0)) (Sn:=eM) rfl rfl rfl ⟨rfl,fun _=>Nat.le_refl _⟩
     (fun o _ ⟨_,ad⟩=>absurd ad (Nat.not_lt_zero _)) (by omega) (by unfold maxLen;omega) H4 BB (by rw[hlen,List.take_of_length_le (by omega)];exact m3) m4 m5 m6 m7
    rw[hlen]at h3
    refine⟨_,_,F,bk,?_,h3.1,h3.2⟩
    by_cases bz:n*(C.T e).sz=0
    ·simp only[bz,if_true]at er
     have qw:(Array.map (fun _=>(default:Value)) (Array.range 0))=A:=by
      have:n=0:=by
       rcases Nat.mul_eq_zero.1 bz with h|h
       ·exact h
       ·exact(cP h).elim
      apply Array.ext'
      rw[xK,this]
      simp
     simp[Instr.buildSlice,run_underlying bs,hv f1,f2,bz,newRow]
     rw[qw,m1]
     simp
    ·simp only[bz,if_false]at er
     have hZ:¬(16777216<n*(C.T e).sz):=by omega
     simp[Instr.buildSlice,run_underlying bs,hv f1,f2,bz,hZ,o8 f1 f4,nm,newRow]
     have qw:(Array.map (fun x=>de[x%de.length]?.getD default) (Array.range (n*(C.T e).sz)))=A:=by
      rw[←er];simp
     rw[qw,m1]
     simp
   ·cases he
  ·cases he
 ·cases he
end
inductive dZ where
 |b8 (x:ay)
 |d_ (x:ay)
 |pick (c a b:ay)
 |fc (T:TypeId)
 |eg (T:TypeId) (x:ay)
 |dH (T:TypeId) (ps:List (Nat×ay))
 |df (T:TypeId) (n:Nat) (ps:List (Nat×ay))
 |c8 (T:TypeId) (x:ay)
 |dY (T:TypeId) (x y:ay)
 |el (x:ay)
 |bG (op:BinOp) (T:TypeId) (x y:ay)
 |un (op:UnOp) (x:ay)
 |eP (A B:TypeId) (x:ay)
 |hL (f:FuncId) (cs:List ay)
 |eh (T:TypeId) (l c:ay)
 |cC (T:TypeId) (x:ay) (b_ aA:Option ay)
 |ek (T:TypeId) (x:ay) (k:Nat)
 |eA (T:TypeId) (x i:ay)
 |idx (T:TypeId) (x i:ay)
 |ex (x:ay) (k:Nat)
 |jr (T:TypeId) (x:ay) (k:Nat)
 |call (f:ay) (args:List ay)
 |len (T:TypeId) (x:ay)
 |app (T a8:TypeId) (x y:ay)
 |shr (a_:dZ)
 |kV (T a8:TypeId) (x y:ay)
 |cap (T:TypeId) (x:ay)
 |fL (da:Bool) (x y:ay)
 |bad
 |jZ (f:ay) (args:List ay) (u x:Nat)
 |j0 (f:ay) (args:List ay) (us:List Nat)
 |iA (T:TypeId) (x:ay)
 |n6 (x:ay)
 |nn (x:ay)
 |sG
 |kU (T:TypeId) (x i:ay)
 |jY (T:TypeId) (x i v:ay)
def dZ.base:dZ→dZ
 | .shr a_=>a_
 | .kV T a8 x y=>.app T a8 x y
 | .jZ f args _ _=>.call f args
 | .j0 f args _=>.call f args
 | .iA T x=>.eg T x
 | .n6 x=>.d_ x
 | .nn x=>.b8 x
 |a_=>a_
def qx:List Operand→Option (List ay)
 |[]=>some []
 |o::os=>match cq o,qx os with
  |some x,some xs=>some (x::xs)
  |_,_=>none
def qy:List (Nat×Operand)→Option (List (Nat×ay))
 |[]=>some []
 |(k,o)::os=>match cq o,qy os with
  |some x,some xs=>some ((k,x)::xs)
  |_,_=>none
def sH:Option Operand→Option (Option ay)
 |none=>some none
 |some o=>(cq o).map some
def b4:Op→Option dZ
 | .move x=>(cq x).map .b8
 | .assign x=>(cq x).map .d_
 | .pick c a b=>match cq c,cq a,cq b with
   |some c,some a,some b=>some (.pick c a b)
   |_,_,_=>none
 | .alloc T=>some (.fc T)
 | .box T x=>(cq x).map (.eg T)
 | .build T ps=>(qy ps.toList).map (.dH T)
 | .buildSlice T n ps=>(qy ps.toList).map (.df T n)
 | .load T x=>(cq x).map (.c8 T)
 | .store T x y=>match cq x,cq y with
   |some x,some y=>some (.dY T x y)
   |_,_=>none
 | .nilCheck x=>(cq x).map .el
 | .binOp op T x y _=>match cq x,cq y with
   |some x,some y=>some (.bG op T x y)
   |_,_=>none
 | .unOp op _ x=>(cq x).map (.un op)
 | .convert A B x=>(cq x).map (.eP A B)
 | .makeFunc (.func f) first cs=>if first.isEmpty then(qx cs.toList).map (.hL f)else none
 | .makeSlice T l c=>match cq l,cq c with
   |some l,some c=>some (.eh T l c)
   |_,_=>none
 | .slice T x b_ aA none=>match cq x,sH b_,sH aA with
   |some x,some b_,some aA=>some (.cC T x b_ aA)
   |_,_,_=>none
 | .fieldAddr T x k=>(cq x).map fun x=>.ek T x k
 | .indexAddr T x i=>match cq x,cq i with
   |some x,some i=>some (.eA T x i)
   |_,_=>none
 | .index T x i=>match cq x,cq i with
   |some x,some i=>some (.idx T x i)
   |_,_=>none
 | .extract x k=>(cq x).map fun x=>.ex x k
 | .field T x k=>(cq x).map fun x=>.jr T x k
 | .makeMap _ none=>some .sG
 | .lookup T x i false=>match cq x,cq i with
   |some x,some i=>some (.kU T x i)
   |_,_=>none
 | .mapUpdate T x i v=>match cq x,cq i,cq v with
   |some x,some i,some v=>some (.jY T x i v)
   |_,_,_=>none
 | .call c=>match c.callee with
   | .value f=>match cq f,qx c.args.toList with
     |some f,some xs=>some (.call f xs)
     |_,_=>none
   | .builtin .len=>match c.args.toList,c.argTypes.toList with
     |[x],[T]=>(cq x).map (.len T)
     |_,_=>none
   | .builtin .cap=>match c.args.toList,c.argTypes.toList with
     |[x],[T]=>(cq x).map (.cap T)
     |_,_=>none
   | .builtin .min=>match c.args.toList with
     |[x,y]=>match cq x,cq y with
      |some x,some y=>some (.fL false x y)
      |_,_=>none
     |_=>none
   | .builtin .max=>match c.args.toList with
     |[x,y]=>match cq x,cq y with
      |some x,some y=>some (.fL true x y)
      |_,_=>none
     |_=>none
   | .builtin .append=>match c.args.toList,c.argTypes.toList with
     |[x,y],[T,a8]=>match cq x,cq y with
      |some x,some y=>some (.app T a8 x y)
      |_,_=>none
     |_,_=>none
   |_=>none
 |_=>none
def fL (da:Bool):I→I→Option I
 | .str a,.str b=>some (.str (uj da a b))
 | .int k a,.int cy b=>if k=cy then some (.int k (eo da a b))else none
 |_,_=>none
def mh (s:aj):I→Option (I×aj)
 | .h y q=>bR s (.h y q)
 |d=>some (d,s)
def aZ (C:bq) (s:aj):dZ→Option (I×aj)
 | .b8 x=>some (az s x,s)
 | .d_ x=>match az s x with
   | .h y q=>bR s (.h y q)
   |d=>some (d,s)
 | .pick c a b=>match az s c with
   | .bool dG=>some (if dG then az s a else az s b,s)
   |_=>none
 | .fc T=>(fc C T).map fun d=>(d,s)
 | .eg _ x=>eg s (az s x)
 | .dH T ps=>dH C s T (ps.map fun p=>(p.1,az s p.2))
 | .df T n ps=>df C s T n (ps.map fun p=>(p.1,az s p.2))
 | .c8 T x=>(c8 C s T (az s x)).map fun d=>(d,s)
 | .dY T x y=>(dY C s T (az s x) (az s y)).map fun s1=>(.hole,s1)
 | .el x=>(el s (az s x)).map fun d=>(d,s)
 | .bG op T x y=>(bG C s op T (az s x) (az s y)).map fun d=>(d,s)
 | .un op x=>(un op (az s x)).map fun d=>(d,s)
 | .eP A B x=>(eP C s A B (az s x)).map fun d=>(d,s)
 | .hL f cs=>some (.fn f (cs.map (az s)),s)
 | .eh T l c=>(eh C T (az s l) (az s c)).map fun d=>(d,s)
 | .cC T x b_ aA=>cC C s T (az s x) (b_.map (az s)) (aA.map (az s))
 | .ek T x k=>(ek C s T (az s x) k).map fun d=>(d,s)
 | .eA T x i=>(eA C s T (az s x) (az s i)).map fun d=>(d,s)
 | .idx T x i=>(idx C T (az s x) (az s i)).map fun d=>(d,s)
 | .ex x k=>(ex s (az s x) k).map fun d=>(d,s)
 | .jr T x k=>(jr C s T (az s x) k).bind (mh s)
 | .call _ _=>none
 | .len T x=>(js C s T (az s x)).map fun d=>(d,s)
 | .app T a8 x y=>jt C s T a8 (az s x) (az s y)
 | .shr _=>none
 | .jZ _ _ _ _=>none
 | .j0 _ _ _=>none
 | .iA _ x=>iA s (az s x)
 | .n6 x=>some (az s x,s)
 | .nn x=>mh s (az s x)
 | .sG=>some (.cA (.mp []),s)
 | .kU T x i=>(kU C s T (az s x) (az s i)).map fun d=>(d,s)
 | .jY T x i v=>(jY C s T (az s x) (az s i) (az s v)).map fun s1=>(.hole,s1)
 | .kV T a8 x y=>(kV C T a8 (az s x) (az s y)).map fun d=>(d,s)
 | .cap T x=>match(C.T T).k,az s x with
   | .slice _,.bH=>some (.int .i64 0,s)
   |_,_=>none
 | .fL da x y=>(fL da (az s x) (az s y)).map fun d=>(d,s)
 | .bad=>none
section
variable {C:bq} {w0 w:World} {F0 X F:Nat→Prop} {S:Nat→Nat→Prop} {s s1:aj} {a:Act} {av:I}
theorem pq:∀{os:List Operand} {xs:List ay},qx os=some xs→os.map cq=xs.map some
 |[],xs,h=>by simp[qx]at h;subst h;rfl
 |o::os,xs,h=>by
  simp only[qx]at h
  split at h
  ·rename_i x H5 aa ad
   simp at h;subst h
   simp[aa,pq ad]
  ·cases h
theorem xL {an:Nat→Value} (h:a7 w0 F0 X F S s an w) (cM:∀t,an t=a.tmps.getD t undef):∀{ps:List (Nat×Operand)} {xs:List (Nat×ay)},qy ps=some xs→
  kY w F s an (xs.map fun p=>(p.1,az s p.2)) (ps.map fun p=>(p.1,a.eval p.2))
 |[],xs,h=>by simp[qy]at h;subst h;trivial
 |(k,o)::ps,xs,aQ=>by
  simp only[qy]at aQ
  split at aQ
  ·rename_i x H5 aa ad
   simp at aQ;subst aQ
   obtain⟨g1,g2⟩:=dk h cM aa
   exact⟨rfl,g1,g2,xL h cM ad⟩
  ·cases aQ
def Next (C:bq) (w0:World) (F0 X:Nat→Prop) (an:Nat→Value) (w:World) (m:Sem Go.Next) (av:I) (s1:aj):Prop:=
 ∃r aw v bc aD,m.run C.P w= .ok r aw∧(r= .value v∨r= .skip∧v=undef)∧a7 w0 F0 X bc aD s1 an aw∧iw w0 X bc aD s1 an aw av v
theorem Good.next {an:Nat→Value} {m:Sem Value} (h:Good C w0 F0 X an w m av s1):Next C w0 F0 X an w (do pure (.value (←m))) av s1:=by
 obtain⟨v,aw,bc,aD,aa,ad,aB⟩:=h
 exact⟨.value v,aw,v,bc,aD,by simp[aa],.inl rfl,ad,aB⟩
theorem BC {an:Nat→Value} (h:a7 w0 F0 X F S s an w) {da:Bool} {x y:I} {fq fU:Value} {m:Sem Go.Next} (aa:ax w F s an x fq (fun _=>False)) (ad:ax w F s an y fU (fun _=>False))
  (he:(fL da x y).map (fun d=>(d,s))=some (av,s1)) (hm:m=(do pure (.value (←if da then Builtin.max2 fq fU else Builtin.min2 fq fU)))):Next C w0 F0 X an w m av s1:=by
 simp only[Option.map_eq_some_iff,Prod.mk.injEq]at he
 obtain⟨d,ae,rfl,rfl⟩:=he
 unfold fL at ae
 split at ae
 ·rename_i a b
  simp only[Option.some.injEq]at ae;subst ae
  have aF:=jo aa
  have aI:=jo ad
  subst aF aI
  subst hm
  refine⟨.value (.string ⟨⟨uj da a b⟩⟩),w,_,F,S,?_,.inl rfl,h,.inl ⟨rfl,lz _⟩⟩
  cases da
  ·simp only[Builtin.min2,Op.stringOp,so,uj,Bool.false_eq_true,if_false]
   cases R:(Op.bytesLess a b||a==b)<;>simp[asBool]
  ·simp only[Builtin.max2,Op.stringOp,so,uj,if_true]
   cases R:Op.bytesLess a b<;>simp[asBool]
 ·rename_i k a cy b
  split at ae
  ·rename_i ar
   subst ar
   simp only[Option.some.injEq]at ae;subst ae
   have aF:=jV aa
   have aI:=jV ad
   subst aF aI
   subst hm
   refine⟨.value (.int k (eo da a b)),w,_,F,S,?_,.inl rfl,h,.inl ⟨rfl,of_int _ _⟩⟩
   cases da<;>simp[Builtin.min2,Builtin.max2,eo]
  ·cases ae
 ·cases ae
theorem BD (aT:C.db) {an:Nat→Value} (h:a7 w0 F0 X F S s an w) (cM:∀t,an t=a.tmps.getD t undef) {o:Oper} {a_:dZ} (U:b4 o.op=some a_) (he:aZ C s a_=some (av,s1)):
  Next C w0 F0 X an w (execOp a.eval o) av s1:=by
 obtain⟨dst,op,ty,pos,after,guard⟩:=o
 simp only at U
 cases op with
 |move x=>
  simp only[b4,Option.map_eq_some_iff]at U
  obtain⟨cD,ao,rfl⟩:=U
  obtain⟨g1,g2⟩:=dk h cM ao
  simp only[aZ,Option.some.injEq,Prod.mk.injEq]at he
  obtain⟨rfl,rfl⟩:=he
  exact⟨_,w,_,F,S,rfl,.inl rfl,h,.inl ⟨g1,g2⟩⟩
 |assign x=>
  simp only[b4,Option.map_eq_some_iff]at U
  obtain⟨cD,ao,rfl⟩:=U
  obtain⟨g1,g2⟩:=dk h cM ao
  simp only[aZ]at he
  split at he
  ·rename_i y q hy
   rw[hy]at g1 g2
   obtain⟨bk,k0,bx,bF,Sn,c7,ct,dr,eH,fV,_⟩:=lu h g1 g2 he
   exact⟨_,w,_,F,bk,rfl,.inl rfl,k0,.inr ⟨bx,bF,Sn,c7,ct,dr,eH,fV⟩⟩
  ·simp only[Option.some.injEq,Prod.mk.injEq]at he
   obtain⟨rfl,rfl⟩:=he
   exact⟨_,w,_,F,S,rfl,.inl rfl,h,.inl ⟨g1,g2⟩⟩
 |pick c x y=>
  simp only[b4]at U
  split at U
  ·rename_i xM cD h0 ai ao hy
   simp only[Option.some.injEq]at U;subst U
   simp only[aZ]at he
   split at he
   ·rename_i b R
    simp only[Option.some.injEq,Prod.mk.injEq]at he
    obtain⟨rfl,rfl⟩:=he
    have po:=(dk h cM ai).2
    rw[R]at po
    have po:=nY po
    obtain⟨aG,aU⟩:=dk h cM ao
    obtain⟨kq,sI⟩:=dk h cM hy
    refine⟨.value (if b then a.eval x else a.eval y),w,_,F,S,?_,.inl rfl,h,.inl ?_⟩
    ·simp[execOp,po,asBool]
    ·cases b
     ·exact⟨kq,sI⟩
     ·exact⟨aG,aU⟩
   ·cases he
  ·cases U
 |alloc T=>
  simp only[b4,Option.some.injEq]at U;subst U
  simp only[aZ,Option.map_eq_some_iff,Prod.mk.injEq]at he
  obtain⟨d,ae,rfl,rfl⟩:=he
  exact(GY aT h ae).next
 |box T x=>
  simp only[b4,Option.map_eq_some_iff]at U
  obtain⟨cD,ao,rfl⟩:=U
  obtain⟨g1,g2⟩:=dk h cM ao
  exact(G2 h g1 g2 he).next
 |build T ps=>
  simp only[b4,Option.map_eq_some_iff]at U
  obtain⟨H6,ak,rfl⟩:=U
  obtain⟨ps⟩:=ps
  have:=(HY aT h (xL h cM ak) he).next
  simpa [execOp]using this
 |buildSlice T n ps=>
  simp only[b4,Option.map_eq_some_iff]at U
  obtain⟨H6,ak,rfl⟩:=U
  obtain⟨ps⟩:=ps
  have:=(H2 aT h (xL h cM ak) he).next
  simpa [execOp]using this
 |load T x=>
  simp only[b4,Option.map_eq_some_iff]at U
  obtain⟨cD,ao,rfl⟩:=U
  obtain⟨g1,g2⟩:=dk h cM ao
  simp only[aZ,Option.map_eq_some_iff,Prod.mk.injEq]at he
  obtain⟨d,ae,rfl,rfl⟩:=he
  exact(GS aT h g2 ae).next
 |store T x y=>
  simp only[b4]at U
  split at U
  ·rename_i cD h0 ao hy
   simp only[Option.some.injEq]at U;subst U
   simp only[aZ,Option.map_eq_some_iff,Prod.mk.injEq]at he
   obtain⟨s2,ae,rfl,rfl⟩:=he
   obtain⟨aw,aD,aa,ad⟩:=GW aT h (dk h cM ao).2 (dk h cM hy).1 (dk h cM hy).2 ae
   exact⟨.skip,aw,undef,F,aD,by simp[execOp,aa],.inr ⟨rfl,rfl⟩,ad,.inl ⟨rfl,by rw[ax];trivial⟩⟩
  ·cases U
 |nilCheck x=>
  simp only[b4,Option.map_eq_some_iff]at U
  obtain⟨cD,ao,rfl⟩:=U
  obtain⟨g1,g2⟩:=dk h cM ao
  simp only[aZ,Option.map_eq_some_iff,Prod.mk.injEq]at he
  obtain⟨d,ae,rfl,rfl⟩:=he
  obtain⟨rfl,ak,aE⟩:=Hf h g2 ae
  refine⟨.value (a.eval x),w,_,F,S,?_,.inl rfl,h,.inl ⟨ak,g2⟩⟩
  rcases aE with⟨b,R⟩|⟨f,c,R⟩<;>simp[execOp,R]
 |binOp op T x y Y0=>
  simp only[b4]at U
  split at U
  ·rename_i cD h0 ao hy
   simp only[Option.some.injEq]at U;subst U
   simp only[aZ,Option.map_eq_some_iff,Prod.mk.injEq]at he
   obtain⟨d,ae,rfl,rfl⟩:=he
   exact(Hc aT h x y (dk h cM ao).2 (dk h cM hy).2 ae).next
  ·cases U
 |unOp op T x=>
  simp only[b4,Option.map_eq_some_iff]at U
  obtain⟨cD,ao,rfl⟩:=U
  simp only[aZ,Option.map_eq_some_iff,Prod.mk.injEq]at he
  obtain⟨d,ae,rfl,rfl⟩:=he
  exact(Hd h (dk h cM ao).2 ae).next
 |convert A B x=>
  simp only[b4,Option.map_eq_some_iff]at U
  obtain⟨cD,ao,rfl⟩:=U
  simp only[aZ,Option.map_eq_some_iff,Prod.mk.injEq]at he
  obtain⟨d,ae,rfl,rfl⟩:=he
  exact(Hn aT h (dk h cM ao).2 ae).next
 |makeFunc fn first cs=>
  cases fn with
  |func f=>
   simp only[b4]at U
   split at U
   ·rename_i H7
    simp only[Option.map_eq_some_iff]at U
    obtain⟨n7,hx,rfl⟩:=U
    simp only[aZ,Option.some.injEq,Prod.mk.injEq]at he
    obtain⟨rfl,rfl⟩:=he
    have H8:first= #[]:=by simpa using H7
    subst H8
    refine⟨_,w,_,F,S,rfl,.inl rfl,h,.inl ⟨rfl,?_⟩⟩
    rw[ax]
    refine⟨cs.map a.eval,by simp,?_⟩
    simpa using uO h cM _ _ (pq hx)
   ·cases U
  |_=>simp[b4]at U
 |makeSlice T l c=>
  simp only[b4]at U
  split at U
  ·rename_i cD h0 ao hy
   simp only[Option.some.injEq]at U;subst U
   simp only[aZ,Option.map_eq_some_iff,Prod.mk.injEq]at he
   obtain⟨d,ae,rfl,rfl⟩:=he
   exact(HN aT h (dk h cM ao).2 (dk h cM hy).2 ae).next
  ·cases U
 |slice T x b_ aA da=>
  cases da with
  |some m=>simp[b4]at U
  |none=>
   simp only[b4]at U
   split at U
   ·rename_i cD Y1 BE ao kP kQ
    simp only[Option.some.injEq]at U;subst U
    obtain⟨g1,g2⟩:=dk h cM ao
    have opt:∀{o:Option Operand} {kr:Option ay},sH o=some kr→ni w F s an (kr.map (az s)) (o.map a.eval):=by
     intro o kr bI
     cases o with
     |none=>simp[sH]at bI;subst bI;trivial
     |some o=>
      simp only[sH,Option.map_eq_some_iff]at bI
      obtain⟨x,ao,rfl⟩:=bI
      exact(dk h cM ao).2
    exact(Hq aT h g1 g2 (opt kP) (opt kQ) he).next
   ·cases U
 |fieldAddr T x k=>
  simp only[b4,Option.map_eq_some_iff]at U
  obtain⟨cD,ao,rfl⟩:=U
  obtain⟨g1,g2⟩:=dk h cM ao
  simp only[aZ,Option.map_eq_some_iff,Prod.mk.injEq]at he
  obtain⟨d,ae,rfl,rfl⟩:=he
  exact(GM aT h g1 g2 ae).next
 |indexAddr T x i=>
  simp only[b4]at U
  split at U
  ·rename_i cD h0 ao hy
   simp only[Option.some.injEq]at U;subst U
   simp only[aZ,Option.map_eq_some_iff,Prod.mk.injEq]at he
   obtain⟨d,ae,rfl,rfl⟩:=he
   exact(GN aT h (dk h cM ao).2 (dk h cM hy).2 ae).next
  ·cases U
 |index T x i=>
  simp only[b4]at U
  split at U
  ·rename_i cD h0 ao hy
   simp only[Option.some.injEq]at U;subst U
   simp only[aZ,Option.map_eq_some_iff,Prod.mk.injEq]at he
   obtain⟨d,ae,rfl,rfl⟩:=he
   exact(Hl aT h (dk h cM ao).2 (dk h cM hy).2 ae).next
  ·cases U
 |makeMap t r=>
  cases r with
  |none=>
   simp only[b4,Option.some.injEq]at U;subst U
   simp only[aZ,Option.some.injEq,Prod.mk.injEq]at he
   obtain⟨rfl,rfl⟩:=he
   exact(HM h t).next
  |some r=>simp[b4]at U
 |lookup T x i c=>
  cases c with
  |true=>simp[b4]at U
  |false=>
   simp only[b4]at U
   split at U
   ·rename_i cD nc ao aA
    simp only[Option.some.injEq]at U;subst U
    simp only[aZ,Option.map_eq_some_iff,Prod.mk.injEq]at he
    obtain⟨d,ae,rfl,rfl⟩:=he
    exact(HJ aT h (dk h cM ao).2 (dk h cM aA).2 ae).next
   ·cases U
 |mapUpdate T x i v=>
  simp only[b4]at U
  split at U
  ·rename_i cD nc ef ao aA aE
   simp only[Option.some.injEq]at U;subst U
   simp only[aZ,Option.map_eq_some_iff,Prod.mk.injEq]at he
   obtain⟨s2,ae,rfl,rfl⟩:=he
   obtain⟨aw,aD,aa,ad⟩:=HK aT h (dk h cM ao).2 (dk h cM aA).2 (dk h cM aE).2 ae
   exact⟨.skip,aw,undef,F,aD,by simp[execOp,aa],.inr ⟨rfl,rfl⟩,ad,.inl ⟨rfl,by rw[ax];trivial⟩⟩
  ·cases U
 |extract x k=>
  simp only[b4,Option.map_eq_some_iff]at U
  obtain⟨cD,ao,rfl⟩:=U
  simp only[aZ,Option.map_eq_some_iff,Prod.mk.injEq]at he
  obtain⟨d,ae,rfl,rfl⟩:=he
  exact(Hi h (dk h cM ao).2 ae).next
 |field T x k=>
  simp only[b4,Option.map_eq_some_iff]at U
  obtain⟨cD,ao,rfl⟩:=U
  simp only[aZ,Option.bind_eq_some_iff]at he
  obtain⟨d,ae,he⟩:=he
  obtain⟨v,aw,bc,aD,aC,jn,lq⟩:=Hj aT h (dk h cM ao).2 ae
  unfold mh at he
  split at he
  ·rename_i y q
   have H9:ax aw bc s an (.h y q) v (fun _=>False):=by
    rcases lq with⟨_,g2⟩|⟨g1,_⟩
    ·exact g2
    ·cases g1
   obtain⟨bk,k0,bx,bF,Sn,c7,ct,dr,eH,fV,_⟩:=lu jn rfl H9 he
   exact⟨.value v,aw,v,bc,bk,by simp[execOp,aC],.inl rfl,k0,.inr ⟨bx,bF,Sn,c7,ct,dr,eH,fV⟩⟩
  ·simp only[Option.some.injEq,Prod.mk.injEq]at he
   obtain⟨rfl,rfl⟩:=he
   exact⟨.value v,aw,v,bc,aD,by simp[execOp,aC],.inl rfl,jn,lq⟩
 |call c=>
  obtain⟨callee,args,argTypes⟩:=c
  simp only[b4]at U
  split at U
  ·split at U
   ·simp only[Option.some.injEq]at U;subst U
    simp[aZ]at he
   ·cases U
  ·split at U
   ·rename_i x T j1 pr
    simp only[Option.map_eq_some_iff]at U
    obtain⟨cD,ao,rfl⟩:=U
    simp only[aZ,Option.map_eq_some_iff,Prod.mk.injEq]at he
    obtain⟨d,ae,rfl,rfl⟩:=he
    have:=(Hm (ty:=ty) aT h (dk h cM ao).2 ae).next
    have aF:args= #[x]:=by apply Array.ext';exact j1
    have aI:argTypes= #[T]:=by apply Array.ext';exact pr
    subst aF aI
    simpa [execOp,resolve,invoke,builtin]using this
   ·cases U
  ·split at U
   ·rename_i x T j1 pr
    simp only[Option.map_eq_some_iff]at U
    obtain⟨cD,ao,rfl⟩:=U
    simp only[aZ]at he
    split at he
    ·rename_i e ar H_
     simp only[Option.some.injEq,Prod.mk.injEq]at he
     obtain⟨rfl,rfl⟩:=he
     have aE:=(dk h cM ao).2
     rw[H_]at aE
     have:=nh aE
     obtain⟨i,d,z,aF,aI,aL,bX,b7,bs,bj⟩:=aT.info (dX ar (by simp))
     rw[ar]at bj
     have ae:=ix bj;subst ae
     have Ia:args= #[x]:=by apply Array.ext';exact j1
     have Ib:argTypes= #[T]:=by apply Array.ext';exact pr
     subst Ia Ib
     have aC:(Builtin.cap_ #[T] ty #[a.eval x]).run C.P w= .ok (.int .i64 0) w:=by
      rw[this];simp[Builtin.cap_,run_underlying bs,goInt]
     have:=(Good.same (av:=.int .i64 0) h aC rfl (of_int _ _)).next
     simpa [execOp,resolve,invoke,builtin]using this
    ·cases he
   ·cases U
  ·split at U
   ·rename_i x y j1
    split at U
    ·rename_i cD h0 ao hy
     simp only[Option.some.injEq]at U;subst U
     have aF:args= #[x,y]:=by apply Array.ext';exact j1
     subst aF
     exact BC h (dk h cM ao).2 (dk h cM hy).2 he (by simp[execOp,resolve,invoke,builtin,Builtin.min_])
    ·cases U
   ·cases U
  ·split at U
   ·rename_i x y j1
    split at U
    ·rename_i cD h0 ao hy
     simp only[Option.some.injEq]at U;subst U
     have aF:args= #[x,y]:=by apply Array.ext';exact j1
     subst aF
     exact BC h (dk h cM ao).2 (dk h cM hy).2 he (by simp[execOp,resolve,invoke,builtin,Builtin.max_])
    ·cases U
   ·cases U
  ·split at U
   ·rename_i x y T a8 j1 pr
    split at U
    ·rename_i cD h0 ao hy
     simp only[Option.some.injEq]at U;subst U
     have:=(HA (ty:=ty) aT h (dk h cM ao).2 (dk h cM hy).2 he).next
     have aF:args= #[x,y]:=by apply Array.ext';exact j1
     have aI:argTypes= #[T,a8]:=by apply Array.ext';exact pr
     subst aF aI
     simpa [execOp,resolve,invoke,builtin]using this
    ·cases U
   ·cases U
  ·cases U
 |_=>simp[b4]at U
end
mutual
def I.U:I→List Nat
 | .h x _=>[x]
 | .ak x _=>[x]
 | .R x _=>[x]
 | .fn _ cap=>I.cR cap
 |_=>[]
def I.cR:List I→List Nat
 |[]=>[]
 |d::ds=>d.U++I.cR ds
end
inductive mi where
 |no
 |bn
 |bT
structure eQ where
 k:mi
 x:Nat
 d:I
def mi.app (k:mi) (x:Nat) (a:I):I:=match k with
 | .no=>a
 | .bn=>b9.bn x a
 | .bT=>b9.bT x a
def eQ.at (m:eQ) (u:Nat) (a:I):I:=if u=m.x then m.d else m.k.app m.x a
def ha:List eQ→Nat→I→I
 |[],_,a=>a
 |m::ms,u,a=>ha ms u (m.at u a)
def cj (ms:List eQ) (s:aj):aj:=fun u=>ha ms u (s u)
theorem BF:∀(ms h5:List eQ) (u:Nat) (a:I),ha (ms++h5) u a=ha h5 u (ha ms u a)
 |[],_,_,_=>rfl
 |m::ms,h5,u,a=>by simp only[List.cons_append,ha];exact BF ms h5 u _
theorem iZ (ms h5:List eQ) (s:aj):cj (ms++h5) s=cj h5 (cj ms s):=by
 funext u;simp[cj,BF]
theorem Ic {ms:List eQ} {s aq:aj} {u:Nat} (h:aq u=s u):cj ms aq u=cj ms s u:=by simp[cj,h]
theorem pt (s:aj) (x:Nat) (d:I):cg (fz x s) x d=cj [⟨.bn,x,d⟩] s:=by
 funext u;simp only[cj,ha,eQ.at,cg,fz,mi.app]
theorem BG (s:aj) (x:Nat) (d:I):cg (iV x s) x d=cj [⟨.bT,x,d⟩] s:=by
 funext u;simp only[cj,ha,eQ.at,cg,iV,mi.app]
theorem xN (s:aj) (x:Nat) (d:I):cg s x d=cj [⟨.no,x,d⟩] s:=by
 funext u;simp only[cj,ha,eQ.at,cg,mi.app]
mutual
theorem sJ {x:Nat}:∀a:I,x∉a.U→bn x a=a
 | .h y q,h=>by
   simp only[I.U,List.mem_singleton]at h
   simp only[bn];rw[if_neg (fun e=>h e.symm)]
 | .ak y q,h=>by
   simp only[I.U,List.mem_singleton]at h
   simp only[bn];rw[if_neg (fun e=>h e.symm)]
 | .R y q,h=>rfl
 | .fn f cap,h=>by simp only[bn];rw[BH cap (by simpa [I.U]using h)]
 | .hole,_=>rfl
 | .bool _,_=>rfl
 | .dd,_=>rfl
 | .int _ _,_=>rfl
 | .str _,_=>rfl
 | .cn,_=>rfl
 | .bH,_=>rfl
 | .slice _,_=>rfl
 | .aK _ _,_=>rfl
 | .ref _,_=>rfl
 | .a1 _,_=>rfl
 | .agg _,_=>rfl
 | .tuple _,_=>rfl
 | .cA _,_=>rfl
theorem BH {x:Nat}:∀ds:List I,x∉I.cR ds→fS x ds=ds
 |[],_=>rfl
 |d::ds,h=>by
  simp only[I.cR,List.mem_append,not_or]at h
  simp only[fS];rw[sJ d h.1,BH ds h.2]
end
mutual
theorem xO {x:Nat}:∀a:I,x∉a.U→bT x a=a
 | .h y q,h=>by
   simp only[I.U,List.mem_singleton]at h
   simp only[bT];rw[if_neg (fun e=>h e.symm)]
 | .ak y q,h=>by
   simp only[I.U,List.mem_singleton]at h
   simp only[bT];rw[if_neg (fun e=>h e.symm)]
 | .R y q,h=>by
   simp only[I.U,List.mem_singleton]at h
   simp only[bT];rw[if_neg (fun e=>h e.symm)]
 | .fn f cap,h=>by simp only[bT];rw[BI cap (by simpa [I.U]using h)]
 | .hole,_=>rfl
 | .bool _,_=>rfl
 | .dd,_=>rfl
 | .int _ _,_=>rfl
 | .str _,_=>rfl
 | .cn,_=>rfl
 | .bH,_=>rfl
 | .slice _,_=>rfl
 | .aK _ _,_=>rfl
 | .ref _,_=>rfl
 | .a1 _,_=>rfl
 | .agg _,_=>rfl
 | .tuple _,_=>rfl
 | .cA _,_=>rfl
theorem BI {x:Nat}:∀ds:List I,x∉I.cR ds→gn x ds=ds
 |[],_=>rfl
 |d::ds,h=>by
  simp only[I.cR,List.mem_append,not_or]at h
  simp only[gn];rw[xO d h.1,BI ds h.2]
end
theorem sK {k:mi} {x:Nat} {a:I} (h:k= .no∨x∉a.U):k.app x a=a:=by
 cases k with
 |no=>rfl
 |bn=>exact sJ a (by simpa using h)
 |bT=>exact xO a (by simpa using h)
mutual
theorem BJ (x y:Nat):∀a:I,bn x (bn y a)=bn y (bn x a)
 | .h z q=>by simp only[bn];by_cases aa:z=x<;>by_cases ad:z=y<;>by_cases aB:q=[]<;>simp[aa,ad,aB,bn]<;>(subst_vars;simp_all [bn])
 | .ak z q=>by simp only[bn];by_cases aa:z=x<;>by_cases ad:z=y<;>simp[aa,ad,bn]<;>(subst_vars;simp_all [bn])
 | .R z q=>rfl
 | .fn f cap=>by simp only[bn];rw[BK x y cap]
 | .hole=>rfl
 | .bool _=>rfl
 | .dd=>rfl
 | .int _ _=>rfl
 | .str _=>rfl
 | .cn=>rfl
 | .bH=>rfl
 | .slice _=>rfl
 | .aK _ _=>rfl
 | .ref _=>rfl
 | .a1 _=>rfl
 | .agg _=>rfl
 | .tuple _=>rfl
 | .cA _=>rfl
theorem BK (x y:Nat):∀ds:List I,fS x (fS y ds)=fS y (fS x ds)
 |[]=>rfl
 |d::ds=>by simp only[fS];rw[BJ x y d,BK x y ds]
end
mutual
theorem BL (x y:Nat):∀a:I,bT x (bT y a)=bT y (bT x a)
 | .h z q=>by simp only[bT];by_cases aa:z=x<;>by_cases ad:z=y<;>simp[aa,ad,bT]<;>(subst_vars;simp_all [bT])
 | .ak z q=>by simp only[bT];by_cases aa:z=x<;>by_cases ad:z=y<;>simp[aa,ad,bT]<;>(subst_vars;simp_all [bT])
 | .R z q=>by simp only[bT];by_cases aa:z=x<;>by_cases ad:z=y<;>simp[aa,ad,bT]<;>(subst_vars;simp_all [bT])
 | .fn f cap=>by simp only[bT];rw[BM x y cap]
 | .hole=>rfl
 | .bool _=>rfl
 | .dd=>rfl
 | .int _ _=>rfl
 | .str _=>rfl
 | .cn=>rfl
 | .bH=>rfl
 | .slice _=>rfl
 | .aK _ _=>rfl
 | .ref _=>rfl
 | .a1 _=>rfl
 | .agg _=>rfl
 | .tuple _=>rfl
 | .cA _=>rfl
theorem BM (x y:Nat):∀ds:List I,gn x (gn y ds)=gn y (gn x ds)
 |[]=>rfl
 |d::ds=>by simp only[gn];rw[BL x y d,BM x y ds]
end
mutual
theorem xP (x y:Nat):∀a:I,bn x (bT y a)=bT y (bn x a)
 | .h z q=>by simp only[bT,bn];by_cases aa:z=x<;>by_cases ad:z=y<;>by_cases aB:q=[]<;>simp[aa,ad,aB,bT,bn]<;>(subst_vars;simp_all [bT,bn])
 | .ak z q=>by simp only[bT,bn];by_cases aa:z=x<;>by_cases ad:z=y<;>simp[aa,ad,bT,bn]<;>(subst_vars;simp_all [bT,bn])
 | .R z q=>by simp only[bT,bn];by_cases ad:z=y<;>simp[ad,bn]
 | .fn f cap=>by simp only[bT,bn];rw[BN x y cap]
 | .hole=>rfl
 | .bool _=>rfl
 | .dd=>rfl
 | .int _ _=>rfl
 | .str _=>rfl
 | .cn=>rfl
 | .bH=>rfl
 | .slice _=>rfl
 | .aK _ _=>rfl
 | .ref _=>rfl
 | .a1 _=>rfl
 | .agg _=>rfl
 | .tuple _=>rfl
 | .cA _=>rfl
theorem BN (x y:Nat):∀ds:List I,fS x (gn y ds)=gn y (fS x ds)
 |[]=>rfl
 |d::ds=>by simp only[gn,fS];rw[xP x y d,BN x y ds]
end
theorem Ie (k l:mi) (x y:Nat) (a:I):k.app x (l.app y a)=l.app y (k.app x a):=by
 cases k<;>cases l<;>simp only[mi.app]<;>first|rfl|exact BJ .. |exact BL .. |exact xP .. |exact(xP ..).symm
def ay.use (s:aj):ay→List Nat
 | .t n=>n::(s n).U
 | .c av=>av.U
 | .f _=>[]
def ay.kZ (s:aj):List ay→List Nat
 |[]=>[]
 |x::xs=>x.use s++ay.kZ s xs
def xQ (s:aj):Option ay→List Nat
 |none=>[]
 |some x=>x.use s
def use (s:aj):dZ→List Nat
 | .b8 x=>x.use s
 | .d_ x=>x.use s
 | .pick c a b=>c.use s++(a.use s++b.use s)
 | .fc _=>[]
 | .eg _ x=>x.use s
 | .dH _ ps=>ay.kZ s (ps.map (·.2))
 | .df _ _ ps=>ay.kZ s (ps.map (·.2))
 | .c8 _ x=>x.use s
 | .dY _ x y=>x.use s++y.use s
 | .el x=>x.use s
 | .bG _ _ x y=>x.use s++y.use s
 | .un _ x=>x.use s
 | .eP _ _ x=>x.use s
 | .hL _ cs=>ay.kZ s cs
 | .eh _ l c=>l.use s++c.use s
 | .cC _ x b_ aA=>x.use s++(xQ s b_++xQ s aA)
 | .ek _ x _=>x.use s
 | .eA _ x i=>x.use s++i.use s
 | .idx _ x i=>x.use s++i.use s
 | .ex x _=>x.use s
 | .jr _ x _=>x.use s
 | .call f args=>f.use s++ay.kZ s args
 | .len _ x=>x.use s
 | .app _ _ x y=>x.use s++y.use s
 | .shr a_=>use s a_
 | .jZ f args u x=>u::x::(f.use s++ay.kZ s args)
 | .j0 f args us=>us.flatMap (fun u=>u::(s u).U)++(f.use s++ay.kZ s args)
 | .iA _ x=>x.use s
 | .n6 x=>x.use s
 | .nn x=>x.use s
 | .sG=>[]
 | .kU _ x i=>x.use s++i.use s
 | .jY _ x i v=>x.use s++(i.use s++v.use s)
 | .kV _ _ x y=>x.use s++y.use s
 | .cap _ x=>x.use s
 | .fL _ x y=>x.use s++y.use s
 | .bad=>[]
def cf (s:aj):dZ→List Nat
 | .d_ x=>(az s x).U
 | .eg _ x=>(az s x).U
 | .dH _ ps=>I.cR (ps.map fun p=>az s p.2)
 | .df _ _ ps=>I.cR (ps.map fun p=>az s p.2)
 | .dY _ x y=>(az s x).U++(az s y).U
 | .jr _ x _=>(az s x).U
 | .nn x=>(az s x).U
 | .jY _ x _ _=>(az s x).U
 | .cC _ x _ _=>(az s x).U
 | .app _ _ x y=>(az s x).U++(az s y).U
 | .shr a_=>cf s a_
 |_=>[]
def cm (a8:List Nat) (aq s:aj):Prop:=∀u∈a8,aq u=s u
theorem cm.left {a8 V:List Nat} {aq s:aj} (h:cm (a8++V) aq s):cm a8 aq s:=fun u hu=>h u (List.mem_append_left _ hu)
theorem cm.right {a8 V:List Nat} {aq s:aj} (h:cm (a8++V) aq s):cm V aq s:=fun u hu=>h u (List.mem_append_right _ hu)
theorem cm.cj {a8:List Nat} {aq s:aj} (h:cm a8 aq s) (ms:List eQ):cm a8 (cj ms aq) (cj ms s):=fun u hu=>Ic (h u hu)
theorem cm.sub {a8 V:List Nat} {aq s:aj} (h:cm a8 aq s) (U:∀u∈V,u∈a8):cm V aq s:=fun u hu=>h u (U u hu)
theorem ay.pv {s:aj} {x:ay}:∀u∈(az s x).U,u∈x.use s:=by
 intro u hu
 cases x with
 |t n=>
  simp only[az,gp]at hu
  split at hu
  ·simp[ay.use,hu]
  ·simp only[I.U,List.mem_singleton]at hu;simp[ay.use,hu]
 |c av=>exact hu
 |f g=>simp[az,I.U,I.cR]at hu
theorem ay.dt {s aq:aj} {x:ay} (h:cm (x.use s) aq s):az aq x=az s x:=by
 cases x with
 |t n=>simp only[az];rw[h n (by simp[ay.use])]
 |c av=>rfl
 |f g=>rfl
theorem cm.az {s aq:aj} {x:ay} (h:cm (x.use s) aq s):cm (az s x).U aq s:=h.sub ay.pv
theorem BO {s aq:aj} {x:Option ay} (h:cm (xQ s x) aq s):x.map (az aq)=x.map (az s):=by
 cases x with
 |none=>rfl
 |some x=>simp only[Option.map_some];rw[ay.dt h]
theorem ay.xR {s aq:aj}:∀{xs:List ay},cm (ay.kZ s xs) aq s→xs.map (az aq)=xs.map (az s)
 |[],_=>rfl
 |x::xs,h=>by
  simp only[List.map_cons]
  rw[ay.dt (h.left),ay.xR (h.right)]
theorem ay.xS {s aq:aj}:∀{ps:List (Nat×ay)},cm (ay.kZ s (ps.map (·.2))) aq s→(ps.map fun p=>(p.1,az aq p.2))=ps.map fun p=>(p.1,az s p.2)
 |[],_=>rfl
 |x::xs,h=>by
  simp only[List.map_cons]at h⊢
  rw[ay.dt (h.left),ay.xS (h.right)]
theorem ay.uQ {s:aj}:∀{xs:List ay},∀u∈I.cR (xs.map (az s)),u∈ay.kZ s xs
 |[],u,h=>by simp[I.cR]at h
 |x::xs,u,h=>by
  simp only[List.map_cons,I.cR,List.mem_append]at h
  simp only[ay.kZ,List.mem_append]
  exact h.imp (ay.pv u) (ay.uQ u)
section
variable {C:bq} {s aq:aj} {x y i:I} {T A B:TypeId}
theorem xT (h:cm x.U aq s):loc aq x=loc s x:=by
 cases x<;>first
  |rfl
  |(simp only[loc];rw[h _ (by simp[I.U])])
theorem xU {z:Nat} {q:List Nat} (h:loc s x=some (z,q)):z∈x.U:=by
 cases x with
 |h y p=>
  simp only[loc]at h
  split at h
  ·simp only[Option.some.injEq,Prod.mk.injEq]at h;simp[I.U,h.1]
  ·cases h
 |ak y p=>
  simp only[loc]at h
  split at h
  ·simp only[Option.some.injEq,Prod.mk.injEq]at h;simp[I.U,h.1]
  ·cases h
 |_=>simp[loc]at h
theorem Ig (h:cm x.U aq s):c8 C aq T x=c8 C s T x:=by
 have aJ:=xT h
 unfold c8
 split
 ·rfl
 ·rw[h _ (by simp[I.U])]
 ·rw[aJ]
  split
  ·rename_i e
   rw[h _ (xU e)]
  ·rfl
theorem Ih {k:Nat} (h:cm x.U aq s):ek C aq T x k=ek C s T x k:=by
 have aJ:=xT h
 unfold ek
 split
 ·split
  ·split
   ·split
    ·rfl
    ·rw[h _ (by simp[I.U])]
    ·rw[aJ]
     split
     ·rename_i e
      rw[h _ (xU e)]
     ·rfl
   ·rfl
  ·rfl
 ·rfl
theorem Ii (h:cm x.U aq s):eA C aq T x i=eA C s T x i:=by
 cases x<;>first
  |rfl
  |(simp only[eA];rw[h _ (by simp[I.U])])
theorem Ij (h:cm x.U aq s):js C aq T x=js C s T x:=by
 unfold js
 cases(C.T T).k<;>cases x<;>first
  |rfl
  |(simp only;rw[h _ (by simp[I.U])])
theorem Ik (h:cm x.U aq s):eP C aq A B x=eP C s A B x:=by
 unfold eP
 cases(C.T B).k<;>cases x<;>first
  |rfl
  |(simp only;rw[h _ (by simp[I.U])])
theorem Il (h:cm x.U aq s):iB aq x=iB s x:=by
 cases x<;>first
  |rfl
  |(simp only[iB];rw[h _ (by simp[I.U])])
theorem Im (h:cm x.U aq s):iC aq x=iC s x:=by
 cases x<;>first
  |rfl
  |(simp only[iC];rw[h _ (by simp[I.U])])
theorem Io {op:BinOp} (h:cm x.U aq s):bG C aq op T x y=bG C s op T x y:=by
 have aa:=Il h
 have ad:=Im h
 unfold bG
 split<;>first|rfl|simp only[aa,ad]
theorem Ip (h:cm x.U aq s):el aq x=el s x:=by
 cases x<;>first
  |rfl
  |(simp only[el];rw[h _ (by simp[I.U])])
theorem Iq {k y:Nat} {q:List Nat} (h:jr C s T x k=some (.h y q)):x.U=[y]:=by
 unfold jr at h
 split at h<;>try (cases h;done)
 split at h<;>try (cases h;done)
 split at h
 ·split at h<;>try (cases h;done)
  split at h
  ·rename_i ai
   simp only[Option.some.injEq]at h
   rw[h]at ai
   exact absurd ai.2.2.2 (by simp[I.tree])
  ·cases h
 ·split at h<;>try (cases h;done)
  split at h<;>try (cases h;done)
  split at h<;>try (cases h;done)
  rename_i d ae ai
  by_cases ak:d.plain=true
  ·simp only[ak,if_true,Option.some.injEq]at h
   rw[h]at ai
   exact absurd ai.2.2.2 (by simp[I.tree])
  ·simp only[ak,Option.some.injEq]at h
   injection h with aa ad
   subst aa;rfl
 ·cases h
theorem BP {k:Nat} (h:cm x.U aq s):jr C aq T x k=jr C s T x k:=by
 unfold jr
 split<;>try rfl
 split<;>try rfl
 cases x<;>first
  |rfl
  |(simp only[];rw[h _ (by simp[I.U])])
theorem Ir {k:Nat} (h:cm x.U aq s):ex aq x k=ex s x k:=by
 cases x<;>first
  |rfl
  |(simp only[ex];rw[h _ (by simp[I.U])])
theorem qz:∀(q:List Nat) (a d e:I),I.sub q a=some d→(d.plain=false∨q≠[])→(q=[]→e.U=[])→(I.put q e a).U=[]:=by
 intro q a d e h ak he
 cases q with
 |nil=>rw[I.put];exact he rfl
 |cons k q=>
  cases a<;>first
   |(simp[I.sub]at h;done)
   |skip
  all_goals
   unfold I.put
   repeat' split
   all_goals first|rfl|(simp_all;done)
end
def Loc {α:Type} (a8 qA:List Nat) (f:aj→Option (α×aj)) (s:aj) (av:α) (s1:aj):Prop:=
 ∃ms,s1=cj ms s∧(∀m∈ms,m.x∈qA∧m.d.U=[])∧∀aq,cm a8 aq s→f aq=some (av,cj ms aq)
theorem Loc.pure {α:Type} {a8 qA:List Nat} {f:aj→Option (α×aj)} {s:aj} {av:α} (h:∀aq,cm a8 aq s→f aq=some (av,aq)):Loc a8 qA f s av s:=
 ⟨[],rfl,by simp,fun aq U=>h aq U⟩
theorem Loc.mono {α:Type} {a8 qA uR BQ:List Nat} {f:aj→Option (α×aj)} {s s1:aj} {av:α} (h:Loc a8 qA f s av s1) (mf:∀u∈a8,u∈uR) (iW:∀u∈qA,u∈BQ):Loc uR BQ f s av s1:=by
 obtain⟨ms,aa,ad,aB⟩:=h
 exact⟨ms,aa,fun m hm=>⟨iW _ (ad m hm).1,(ad m hm).2⟩,fun aq U=>aB aq (U.sub mf)⟩
section
variable {C:bq} {s s1:aj} {x y d:I} {T A B:TypeId}
theorem np (h:bR s x=some (d,s1)):Loc x.U x.U (fun s=>bR s x) s d s1:=by
 cases x with
 |h y q=>
  simp only[bR]at h
  split at h
  ·rename_i e he
   split at h
   ·cases h
   ·rename_i ak
    simp only[Option.some.injEq,Prod.mk.injEq]at h
    obtain⟨rfl,rfl⟩:=h
    have ak:e.plain=false:=by simpa using ak
    refine⟨[⟨.bn,y,I.put q e.b6 (s y)⟩],pt _ _ _,?_,?_⟩
    ·intro m hm
     simp only[List.mem_singleton]at hm;subst hm
     refine⟨by simp[I.U],qz q _ _ _ he (.inl ak) fun ca=> ?_⟩
     subst ca
     cases e<;>first|(simp[I.plain]at ak;done)|rfl
    ·intro aq U
     have aF:aq y=s y:=U y (by simp[I.U])
     simp only[bR,aF,he,ak]
     rw[←pt];rfl
  ·cases h
 |ak y q=>simp[bR]at h
 |R y q=>simp[bR]at h
 |fn f c=>simp[bR]at h
 |hole=>simp[bR]at h
 |_=>
  simp only[bR,Option.some.injEq,Prod.mk.injEq]at h
  obtain⟨rfl,rfl⟩:=h
  exact .pure fun aq _=>rfl
mutual
theorem BR (x:Nat):∀a:I,∀u∈(bn x a).U,u∈a.U
 | .h y q,u,h=>by
   simp only[bn]at h
   split at h
   ·split at h
    ·exact h
    ·simp[I.U]at h
   ·exact h
 | .ak y q,u,h=>by
   simp only[bn]at h
   split at h
   ·simp[I.U]at h
   ·exact h
 | .R y q,u,h=>h
 | .fn f cap,u,h=>by simp only[bn,I.U]at h⊢;exact BS x cap u h
 | .hole,u,h=>h
 | .bool _,u,h=>h
 | .dd,u,h=>h
 | .int _ _,u,h=>h
 | .str _,u,h=>h
 | .cn,u,h=>h
 | .bH,u,h=>h
 | .slice _,u,h=>h
 | .aK _ _,u,h=>h
 | .ref _,u,h=>h
 | .a1 _,u,h=>h
 | .agg _,u,h=>h
 | .tuple _,u,h=>h
theorem BS (x:Nat):∀ds:List I,∀u∈I.cR (fS x ds),u∈I.cR ds
 |[],u,h=>h
 |d::ds,u,h=>by
  simp only[fS,I.cR,List.mem_append]at h⊢
  exact h.imp (BR x d u) (BS x ds u)
end
theorem xV (o:Option Nat) (a:I):∀u∈(h1 o a).U,u∈a.U:=by
 intro u h
 cases o with
 |none=>exact h
 |some x=>exact BR x a u h
theorem BT:∀(os:List (Option Nat)) (a:I),∀u∈(kW os a).U,u∈a.U:=by
 intro os
 induction os with
 |nil=>intro a u h;exact h
 |cons o os ih=>intro a u h;exact xV o a u (ih (h1 o a) u h)
theorem BU {place:Nat→Option (Nat×Nat)}:∀{ps:List (Nat×I)} {s s1:aj} {eB ds:List I} {os:List (Option Nat)},kX place s eB os ps=some (ds,s1)→
  Loc (I.cR (ps.map (·.2))) (I.cR (ps.map (·.2))) (fun s=>kX place s eB os ps) s ds s1:=by
 intro ps
 induction ps with
 |nil=>
  intro s s1 eB ds os h
  simp only[kX,Option.some.injEq,Prod.mk.injEq]at h
  obtain⟨rfl,rfl⟩:=h
  exact .pure fun aq _=>rfl
 |cons p ps ih=>
  intro s s1 eB ds os h
  obtain⟨k,a⟩:=p
  simp only[kX]at h
  split at h
  ·rename_i d s2 off n z aN e5 bl
   split at h
   ·cases h
   ·rename_i aV j2
    split at h
    ·rename_i ai
     obtain⟨lE,rfl,ad,aB⟩:=np aN
     obtain⟨n5,rfl,a6,bp⟩:=ih h
     refine⟨lE++n5,(iZ _ _ _).symm,?_,?_⟩
     ·intro m hm
      simp only[List.map_cons,I.cR,List.mem_append]at hm⊢
      rcases hm with hm|hm
      ·exact⟨.inl (BT _ _ _ (ad m hm).1),(ad m hm).2⟩
      ·exact⟨.inr (a6 m hm).1,(a6 m hm).2⟩
     ·intro aq U
      simp only[List.map_cons,I.cR]at U
      have aF:=aB aq (U.left.sub (BT _ _))
      have aI:=bp (cj lE aq) (U.right.cj lE)
      simp only at aF aI
      simp only[kX,aF,e5,bl,iZ]
      rw[if_pos ai];exact aI
    ·cases h
  ·cases h
theorem Is {ps:List (Nat×I)} {av:I} (h:dH C s T ps=some (av,s1)):Loc (I.cR (ps.map (·.2))) (I.cR (ps.map (·.2))) (fun s=>dH C s T ps) s av s1:=by
 unfold dH at h
 split at h
 ·rename_i af eB ar bl
  split at h
  ·rename_i ai
   split at h
   ·rename_i ds s2 bh
    simp only[Option.some.injEq,Prod.mk.injEq]at h
    obtain⟨rfl,rfl⟩:=h
    obtain⟨ms,aa,ad,aB⟩:=BU bh
    refine⟨ms,aa,ad,fun aq U=> ?_⟩
    have:=aB aq U
    simp only at this
    simp only[dH,ar,bl,if_pos ai,this]
   ·cases h
  ·cases h
 ·cases h
theorem It {n:Nat} {ps:List (Nat×I)} {av:I} (h:df C s T n ps=some (av,s1)):Loc (I.cR (ps.map (·.2))) (I.cR (ps.map (·.2))) (fun s=>df C s T n ps) s av s1:=by
 unfold df at h
 split at h
 ·rename_i e ar
  split at h
  ·rename_i ai
   split at h
   ·rename_i ds s2 bh
    simp only[Option.some.injEq,Prod.mk.injEq]at h
    obtain⟨rfl,rfl⟩:=h
    obtain⟨ms,aa,ad,aB⟩:=BU bh
    refine⟨ms,aa,ad,fun aq U=> ?_⟩
    have:=aB aq U
    simp only at this
    simp only[df,ar,if_pos ai,this]
   ·cases h
  ·cases h
 ·cases h
theorem Iu {av:I} (h:eg s x=some (av,s1)):Loc x.U x.U (fun s=>eg s x) s av s1:=by
 unfold eg at h
 split at h
 ·cases h
 ·rename_i d s2 j2 aN
  simp only[Option.some.injEq,Prod.mk.injEq]at h
  obtain⟨rfl,rfl⟩:=h
  obtain⟨ms,aa,ad,aB⟩:=np aN
  refine⟨ms,aa,ad,fun aq U=> ?_⟩
  have:=aB aq U
  simp only at this
  simp only[eg,this]
 ·cases h
theorem Iv {av:I} (h:iA s x=some (av,s1)):Loc x.U [] (fun s=>iA s x) s av s1:=by
 unfold iA at h
 split at h
 ·rename_i y q
  split at h
  ·rename_i ds kl
   split at h
   ·cases h
   ·rename_i sk
    simp only[Option.some.injEq,Prod.mk.injEq]at h
    obtain⟨rfl,rfl⟩:=h
    refine .pure fun aq U=> ?_
    have e:aq y=s y:=U y (by simp[I.U])
    simp only[iA,e,kl,if_neg sk]
  ·cases h
 ·split at h
  ·rename_i ai
   simp only[Option.some.injEq,Prod.mk.injEq]at h
   obtain⟨rfl,rfl⟩:=h
   exact .pure fun aq U=>by simp only[iA,ai,if_true]
  ·cases h
 ·cases h
theorem Iw {s2:aj} (h:dY C s T x y=some s2):Loc (x.U++y.U) (x.U++y.U) (fun s=>(dY C s T x y).map fun s1=>(I.hole,s1)) s .hole s2:=by
 unfold dY at h
 split at h
 ·rename_i d s1 z q aN aJ
  obtain⟨ms,aa,ad,aB⟩:=np aN
  have bl:=xU aJ
  have ca:q≠[]:=by
   cases x with
   |h y p=>
    simp only[loc]at aJ
    split at aJ
    ·simp only[Option.some.injEq,Prod.mk.injEq]at aJ;simp[←aJ.2]
    ·cases aJ
   |ak y p=>
    simp only[loc]at aJ
    split at aJ
    ·rename_i lx
     simp only[Option.some.injEq,Prod.mk.injEq]at aJ
     obtain⟨rfl,rfl⟩:=aJ
     intro e;subst e;simp[I.dC]at lx
    ·cases aJ
   |_=>simp[loc]at aJ
  split at h
  ·cases h
  ·rename_i aV j2
   split at h
   ·rename_i d0 jU
    split at h
    ·rename_i ai
     simp only[Option.some.injEq]at h;subst h
     refine⟨ms++[⟨.bn,z,I.put q d (s z)⟩],?_,?_,?_⟩
     ·rw[iZ,←aa,pt]
     ·intro m hm
      simp only[List.mem_append,List.mem_singleton]at hm⊢
      rcases hm with hm|rfl
      ·exact⟨.inr (ad m hm).1,(ad m hm).2⟩
      ·exact⟨.inl bl,qz q _ _ _ jU (.inr ca) fun e=>(ca e).elim⟩
     ·intro aq U
      have aF:=aB aq U.right
      simp only at aF
      simp only[dY,aF,xT U.left,aJ,U.left z bl,jU]
      cases d<;>first|(simp only[if_pos ai,Option.map_some,iZ,pt];done)|exact(j2 _ rfl).elim
    ·cases h
   ·cases h
 ·cases h
theorem Ix {b_ aA:Option I} {av:I} (h:cC C s T x b_ aA=some (av,s1)):Loc x.U x.U (fun s=>cC C s T x b_ aA) s av s1:=by
 cases x with
 |h y q=>
  unfold cC at h
  split at h<;>first|(cases h;done)|skip
  all_goals (rename_i ao;try cases ao)
  rename_i e ar
  split at h
  ·rename_i sz xs dj
   split at h
   ·rename_i b kP kQ
    split at h
    ·rename_i ai
     split at h
     ·rename_i d s2 aN
      simp only[Option.some.injEq,Prod.mk.injEq]at h
      obtain⟨rfl,rfl⟩:=h
      obtain⟨ms,aa,ad,aB⟩:=np aN
      refine⟨ms,aa,ad,fun aq U=> ?_⟩
      have:=aB aq U
      simp only at this
      have aF:aq y=s y:=U y (by simp[I.U])
      simp only[cC,ar,aF,dj,kP,kQ,if_pos ai,this]
     ·cases h
    ·cases h
   ·cases h
  ·cases h
 |_=>
  have nq:s1=s:=by
   unfold cC at h
   repeat' split at h
   all_goals first|(cases h;done)|(simp only[Option.some.injEq,Prod.mk.injEq]at h;exact h.2.symm)|simp_all
  subst nq
  refine .pure fun aq _=> ?_
  unfold cC at h⊢
  repeat' split at h
  all_goals first
   |(cases h;done)
   |(simp only[Option.some.injEq,Prod.mk.injEq]at h
     obtain⟨rfl,_⟩:=h
     simp_all)
def mj (C:bq) (e:TypeId) (s:aj):I→Option (I×aj)
 | .bH=>some (I.aK (C.T e).sz [],s)
 | .h a q=>bR s (.h a q)
 |_=>none
def iE (s1:aj):I→Option (List I×aj)
 | .bH=>some ([],s1)
 | .slice bD=>some (bD,s1)
 | .str l=>some (l.map kO,s1)
 | .h a q=>match bR s1 (.h a q)with
   |some (.aK _ bD,s2)=>some (bD,s2)
   |_=>none
 |_=>none
theorem xW (C:bq) (s:aj) (T a8:TypeId) (x y:I):jt C s T a8 x y=(match(C.T T).k with
 | .slice e=>if(C.T e).ok=true∧(C.T e).zero.wd=(C.T e).sz∧(flat (C.T e).zero).isSome=true∧uF C e a8=true then
   match mj C e s x with
   |some (.aK sz xs,s1)=>if sz=(C.T e).sz then
     match iE s1 (h1 x.owner y)with
     |some (bD,s2)=>if(∀d∈bD,d.wd=(C.T e).sz)∧(xs.length+bD.length)*(C.T e).bytes≤140737488355328∧xs.length+bD.length≤9223372036854775807 then some (.aK sz (xs++bD),s2)else none
     |none=>none
    else none
   |_=>none
   else none
 |_=>none):=by
 unfold jt
 generalize h1 x.owner y=h0
 cases(C.T T).k<;>first
  |rfl
  |(cases x<;>cases h0<;>rfl)
theorem Iy {e:TypeId} {d:I} (aa:mj C e s x=some (d,s1)):Loc x.U x.U (fun s=>mj C e s x) s d s1:=by
 cases x with
 |bH=>
  simp only[mj,Option.some.injEq,Prod.mk.injEq]at aa
  obtain⟨aa,rfl⟩:=aa
  exact .pure fun aq _=>by simp only[mj,aa]
 |h a q=>exact np aa
 |_=>simp[mj]at aa
theorem Iz {bD:List I} (ad:iE s y=some (bD,s1)):Loc y.U y.U (fun s=>iE s y) s bD s1:=by
 cases y with
 |bH=>
  simp only[iE,Option.some.injEq,Prod.mk.injEq]at ad
  obtain⟨rfl,rfl⟩:=ad
  exact .pure fun aq _=>rfl
 |slice bD=>
  simp only[iE,Option.some.injEq,Prod.mk.injEq]at ad
  obtain⟨rfl,rfl⟩:=ad
  exact .pure fun aq _=>rfl
 |str l=>
  simp only[iE,Option.some.injEq,Prod.mk.injEq]at ad
  obtain⟨rfl,rfl⟩:=ad
  exact .pure fun aq _=>rfl
 |h a q=>
  simp only[iE]at ad
  split at ad
  ·rename_i HC Y2 i1 aN
   simp only[Option.some.injEq,Prod.mk.injEq]at ad
   obtain⟨rfl,rfl⟩:=ad
   obtain⟨ms,g1,g2,g3⟩:=np aN
   refine⟨ms,g1,g2,fun aq U=> ?_⟩
   have:=g3 aq U
   simp only at this
   simp only[iE,this]
  ·cases ad
 |_=>simp[iE]at ad
theorem IA {av:I} (h:jt C s T A x y=some (av,s1)):Loc (x.U++y.U) (x.U++y.U) (fun s=>jt C s T A x y) s av s1:=by
 rw[xW]at h
 split at h
 ·rename_i e ar
  split at h
  ·rename_i ai
   split at h
   ·rename_i sz xs s2 aa
    split at h
    ·rename_i cP
     split at h
     ·rename_i bD eI ad
      split at h
      ·rename_i o9
       simp only[Option.some.injEq,Prod.mk.injEq]at h
       obtain⟨rfl,rfl⟩:=h
       obtain⟨lE,rfl,a2,a3⟩:=Iy aa
       obtain⟨n5,rfl,gu,iY⟩:=(Iz ad).mono (xV _ _) (xV _ _)
       refine⟨lE++n5,(iZ _ _ _).symm,?_,?_⟩
       ·intro m hm
        simp only[List.mem_append]at hm⊢
        rcases hm with hm|hm
        ·exact⟨.inl (a2 m hm).1,(a2 m hm).2⟩
        ·exact⟨.inr (gu m hm).1,(gu m hm).2⟩
       ·intro aq U
        have aF:=a3 aq U.left
        have aI:=iY (cj lE aq) (U.right.cj lE)
        simp only at aF aI
        simp only[xW,ar,if_pos ai,aF,if_pos cP,aI,if_pos o9,iZ]
      ·cases h
     ·cases h
    ·cases h
   ·cases h
  ·cases h
 ·cases h
theorem IB {aq:aj} {i:I} (h:cm x.U aq s):kU C aq T x i=kU C s T x i:=by
 cases x with
 |h y q=>cases i<;>simp only[kU,h y (by simp[I.U])]
 |_=>rfl
theorem IC {i v:I} {s2:aj} (h:jY C s T x i v=some s2):Loc x.U x.U (fun s=>(jY C s T x i v).map fun s1=>(I.hole,s1)) s .hole s2:=by
 unfold jY at h
 split at h
 ·rename_i y q k b
  split at h
  ·rename_i m ae
   split at h
   ·rename_i iW
    simp only[Option.some.injEq]at h;subst h
    refine⟨[⟨.bn,y,I.put q (.cA (.mp (l4 k b m))) (s y)⟩],pt _ _ _,?_,fun aq U=> ?_⟩
    ·intro n aW
     simp only[List.mem_singleton]at aW;subst aW
     exact⟨by simp[I.U],qz q _ _ _ ae (.inl rfl) fun _=>rfl⟩
    ·have aF:aq y=s y:=U y (by simp[I.U])
     simp only[jY,aF,ae,iW,if_true,Option.map_some]
     rw[←pt]
   ·cases h
  ·cases h
 ·cases h
theorem BV {a_:dZ} {av:I} (h:aZ C s a_=some (av,s1)):Loc (use s a_) (cf s a_) (fun s=>aZ C s a_) s av s1:=by
 cases a_ with
 |shr a_=>simp[aZ]at h
 |jZ f args u x=>simp[aZ]at h
 |j0 f args L=>simp[aZ]at h
 |nn x=>
  simp only[aZ]at h
  unfold mh at h
  split at h
  ·rename_i y q ao
   obtain⟨ms,aa,ad,aB⟩:=np h
   refine⟨ms,aa,by simpa only[cf,ao]using ad,fun aq U=> ?_⟩
   have e:=ay.dt (x:=x) U
   have aI:=aB aq (by rw[←ao];exact cm.az U)
   simp only[aZ,e,ao,mh]
   exact aI
  ·rename_i BW
   simp only[Option.some.injEq,Prod.mk.injEq]at h
   obtain⟨rfl,rfl⟩:=h
   refine .pure fun aq U=> ?_
   have e:=ay.dt (x:=x) U
   simp only[aZ,e,mh]
 |n6 x=>
  simp only[aZ,Option.some.injEq,Prod.mk.injEq]at h
  obtain⟨rfl,rfl⟩:=h
  exact .pure fun aq U=>by simp only[aZ,ay.dt (x:=x) U]
 |iA T x=>
  obtain⟨ms,aa,ad,aB⟩:=Iv h
  refine⟨ms,aa,ad,fun aq U=> ?_⟩
  simp only[aZ,ay.dt (x:=x) U]
  exact aB aq (cm.az U)
 |kV T a8 x y=>
  simp only[aZ,Option.map_eq_some_iff,Prod.mk.injEq]at h
  obtain⟨d,ae,rfl,rfl⟩:=h
  exact .pure fun aq U=>by
   simp only[use]at U
   simp only[aZ,ay.dt (x:=x) U.left,ay.dt (x:=y) U.right,ae,Option.map_some]
 |bad=>simp[aZ]at h
 |fL da x y=>
  simp only[aZ,Option.map_eq_some_iff,Prod.mk.injEq]at h
  obtain⟨d,ae,rfl,rfl⟩:=h
  exact .pure fun aq U=>by
   simp only[use]at U
   simp only[aZ,ay.dt (x:=x) U.left,ay.dt (x:=y) U.right,ae,Option.map_some]
 |cap T x=>
  simp only[aZ]at h
  split at h
  ·rename_i e ar ao
   simp only[Option.some.injEq,Prod.mk.injEq]at h
   obtain⟨rfl,rfl⟩:=h
   exact .pure fun aq U=>by simp only[aZ,ay.dt (x:=x) U,ar,ao]
  ·cases h
 |b8 x=>
  simp only[aZ,Option.some.injEq,Prod.mk.injEq]at h
  obtain⟨rfl,rfl⟩:=h
  exact .pure fun aq U=>by simp only[aZ,ay.dt (x:=x) U]
 |d_ x=>
  simp only[aZ]at h
  split at h
  ·rename_i y q ao
   obtain⟨ms,aa,ad,aB⟩:=np h
   refine⟨ms,aa,by simpa only[cf,ao]using ad,fun aq U=> ?_⟩
   have e:=ay.dt (x:=x) U
   have aI:=aB aq (by rw[←ao];exact cm.az U)
   simp only[aZ,e,ao]
   exact aI
  ·rename_i BW
   simp only[Option.some.injEq,Prod.mk.injEq]at h
   obtain⟨rfl,rfl⟩:=h
   refine .pure fun aq U=> ?_
   have e:=ay.dt (x:=x) U
   simp only[aZ,e]
 |pick c a b=>
  simp only[aZ]at h
  split at h
  ·rename_i dG R
   simp only[Option.some.injEq,Prod.mk.injEq]at h
   obtain⟨rfl,rfl⟩:=h
   refine .pure fun aq U=> ?_
   simp only[use]at U
   simp only[aZ,ay.dt (x:=c) U.left,ay.dt (x:=a) U.right.left,ay.dt (x:=b) U.right.right,R]
  ·cases h
 |fc T=>
  simp only[aZ,Option.map_eq_some_iff,Prod.mk.injEq]at h
  obtain⟨d,ae,rfl,rfl⟩:=h
  exact .pure fun aq U=>by simp only[aZ,ae,Option.map_some]
 |eg T x=>
  obtain⟨ms,aa,ad,aB⟩:=Iu h
  refine⟨ms,aa,ad,fun aq U=> ?_⟩
  simp only[aZ,ay.dt (x:=x) U]
  exact aB aq (cm.az U)
 |dH T ps=>
  obtain⟨ms,aa,ad,aB⟩:=Is h
  simp only[List.map_map,Function.comp_def]at ad aB
  refine⟨ms,aa,ad,fun aq U=> ?_⟩
  simp only[aZ,ay.xS (ps:=ps) U]
  refine aB aq (U.sub fun u hu=> ?_)
  simp only[use]
  exact ay.uQ u (by simpa [List.map_map,Function.comp_def]using hu)
 |df T n ps=>
  obtain⟨ms,aa,ad,aB⟩:=It h
  simp only[List.map_map,Function.comp_def]at ad aB
  refine⟨ms,aa,ad,fun aq U=> ?_⟩
  simp only[aZ,ay.xS (ps:=ps) U]
  refine aB aq (U.sub fun u hu=> ?_)
  simp only[use]
  exact ay.uQ u (by simpa [List.map_map,Function.comp_def]using hu)
 |c8 T x=>
  simp only[aZ,Option.map_eq_some_iff,Prod.mk.injEq]at h
  obtain⟨d,ae,rfl,rfl⟩:=h
  exact .pure fun aq U=>by simp only[aZ,ay.dt (x:=x) U,Ig (cm.az U),ae,Option.map_some]
 |dY T x y=>
  simp only[aZ,Option.map_eq_some_iff,Prod.mk.injEq]at h
  obtain⟨s2,ae,rfl,rfl⟩:=h
  obtain⟨ms,aa,ad,aB⟩:=Iw ae
  refine⟨ms,aa,ad,fun aq U=> ?_⟩
  simp only[use]at U
  simp only[aZ,ay.dt (x:=x) U.left,ay.dt (x:=y) U.right]
  exact aB aq (U.sub fun u hu=>by simp only[List.mem_append]at hu⊢;exact hu.imp (ay.pv u) (ay.pv u))
 |el x=>
  simp only[aZ,Option.map_eq_some_iff,Prod.mk.injEq]at h
  obtain⟨d,ae,rfl,rfl⟩:=h
  exact .pure fun aq U=>by simp only[aZ,ay.dt (x:=x) U,Ip (cm.az U),ae,Option.map_some]
 |bG op T x y=>
  simp only[aZ,Option.map_eq_some_iff,Prod.mk.injEq]at h
  obtain⟨d,ae,rfl,rfl⟩:=h
  refine .pure fun aq U=> ?_
  simp only[use]at U
  simp only[aZ,ay.dt (x:=x) U.left,ay.dt (x:=y) U.right,Io (cm.az U.left),ae,Option.map_some]
 |un op x=>
  simp only[aZ,Option.map_eq_some_iff,Prod.mk.injEq]at h
  obtain⟨d,ae,rfl,rfl⟩:=h
  exact .pure fun aq U=>by simp only[aZ,ay.dt (x:=x) U,ae,Option.map_some]
 |eP A B x=>
  simp only[aZ,Option.map_eq_some_iff,Prod.mk.injEq]at h
  obtain⟨d,ae,rfl,rfl⟩:=h
  exact .pure fun aq U=>by simp only[aZ,ay.dt (x:=x) U,Ik (cm.az U),ae,Option.map_some]
 |hL f cs=>
  simp only[aZ,Option.some.injEq,Prod.mk.injEq]at h
  obtain⟨rfl,rfl⟩:=h
  exact .pure fun aq U=>by simp only[aZ,ay.xR (xs:=cs) U]
 |eh T l c=>
  simp only[aZ,Option.map_eq_some_iff,Prod.mk.injEq]at h
  obtain⟨d,ae,rfl,rfl⟩:=h
  refine .pure fun aq U=> ?_
  simp only[use]at U
  simp only[aZ,ay.dt (x:=l) U.left,ay.dt (x:=c) U.right,ae,Option.map_some]
 |cC T x b_ aA=>
  simp only[aZ]at h
  obtain⟨ms,aa,ad,aB⟩:=Ix h
  refine⟨ms,aa,ad,fun aq U=> ?_⟩
  simp only[use]at U
  simp only[aZ,ay.dt (x:=x) U.left,BO U.right.left,BO U.right.right]
  exact aB aq (cm.az U.left)
 |ek T x k=>
  simp only[aZ,Option.map_eq_some_iff,Prod.mk.injEq]at h
  obtain⟨d,ae,rfl,rfl⟩:=h
  exact .pure fun aq U=>by simp only[aZ,ay.dt (x:=x) U,Ih (cm.az U),ae,Option.map_some]
 |eA T x i=>
  simp only[aZ,Option.map_eq_some_iff,Prod.mk.injEq]at h
  obtain⟨d,ae,rfl,rfl⟩:=h
  refine .pure fun aq U=> ?_
  simp only[use]at U
  simp only[aZ,ay.dt (x:=x) U.left,ay.dt (x:=i) U.right,Ii (cm.az U.left),ae,Option.map_some]
 |idx T x i=>
  simp only[aZ,Option.map_eq_some_iff,Prod.mk.injEq]at h
  obtain⟨d,ae,rfl,rfl⟩:=h
  refine .pure fun aq U=> ?_
  simp only[use]at U
  simp only[aZ,ay.dt (x:=x) U.left,ay.dt (x:=i) U.right,ae,Option.map_some]
 |ex x k=>
  simp only[aZ,Option.map_eq_some_iff,Prod.mk.injEq]at h
  obtain⟨d,ae,rfl,rfl⟩:=h
  exact .pure fun aq U=>by simp only[aZ,ay.dt (x:=x) U,Ir (cm.az U),ae,Option.map_some]
 |sG=>
  simp only[aZ,Option.some.injEq,Prod.mk.injEq]at h
  obtain⟨rfl,rfl⟩:=h
  exact .pure fun aq U=>rfl
 |kU T x i=>
  simp only[aZ,Option.map_eq_some_iff,Prod.mk.injEq]at h
  obtain⟨d,ae,rfl,rfl⟩:=h
  refine .pure fun aq U=> ?_
  simp only[use]at U
  simp only[aZ,ay.dt (x:=x) U.left,ay.dt (x:=i) U.right,IB (cm.az U.left),ae,Option.map_some]
 |jY T x i v=>
  simp only[aZ,Option.map_eq_some_iff,Prod.mk.injEq]at h
  obtain⟨s2,ae,rfl,rfl⟩:=h
  obtain⟨ms,aa,ad,aB⟩:=IC ae
  refine⟨ms,aa,ad,fun aq U=> ?_⟩
  simp only[use]at U
  simp only[aZ,ay.dt (x:=x) U.left,ay.dt (x:=i) U.right.left,ay.dt (x:=v) U.right.right]
  exact aB aq (cm.az U.left)
 |jr T x k=>
  simp only[aZ,Option.bind_eq_some_iff]at h
  obtain⟨d,ae,h⟩:=h
  unfold mh at h
  split at h
  ·rename_i y q
   have ao:=Iq ae
   obtain⟨ms,aa,ad,aB⟩:=np h
   refine⟨ms,aa,by simpa only[cf,ao,I.U]using ad,fun aq U=> ?_⟩
   have aI:=aB aq (by rw[show(I.h y q).U=(az s x).U from ao.symm];exact cm.az U)
   simp only[aZ,ay.dt (x:=x) U,BP (cm.az U),ae,Option.bind_some,mh]
   exact aI
  ·rename_i BW
   simp only[Option.some.injEq,Prod.mk.injEq]at h
   obtain⟨rfl,rfl⟩:=h
   refine .pure fun aq U=> ?_
   simp only[aZ,ay.dt (x:=x) U,BP (cm.az U),ae,Option.bind_some,mh]
 |call f args=>simp[aZ]at h
 |len T x=>
  simp only[aZ,Option.map_eq_some_iff,Prod.mk.injEq]at h
  obtain⟨d,ae,rfl,rfl⟩:=h
  exact .pure fun aq U=>by simp only[aZ,ay.dt (x:=x) U,Ij (cm.az U),ae,Option.map_some]
 |app T a8 x y=>
  obtain⟨ms,aa,ad,aB⟩:=IA h
  refine⟨ms,aa,ad,fun aq U=> ?_⟩
  simp only[use]at U
  simp only[aZ,ay.dt (x:=x) U.left,ay.dt (x:=y) U.right]
  exact aB aq (U.sub fun u hu=>by simp only[List.mem_append]at hu⊢;exact hu.imp (ay.pv u) (ay.pv u))
end
def I.one:I→Bool
 | .agg _=>false
 | .tuple _=>false
 |_=>true
mutual
def view (s:aj):I→Option I
 | .h x q=>match I.sub q (s x)with
   |some d=>(match d with| .tuple _=>none| .cA _=>none|d=>if d.plain then none else some d.share)
   |none=>none
 | .ak x q=>if I.dC q (s x)then(match I.sub q (s x)with
   |some d=>(match d with| .tuple _=>none|d=>some (.ref d.share))
   |none=>none)else none
 | .R _ _=>none
 | .fn f cap=>(views s cap).map (.fn f)
 | .hole=>none
 |d=>some d
def views (s:aj):List I→Option (List I)
 |[]=>some []
 |d::ds=>match view s d,views s ds with
  |some a,some b=>some (a::b)
  |_,_=>none
end
mutual
theorem xX:∀d:I,d.share.plain=true
 | .hole=>rfl
 | .bool _=>rfl
 | .dd=>rfl
 | .int _ _=>rfl
 | .str _=>rfl
 | .cn=>rfl
 | .bH=>rfl
 | .slice _=>rfl
 | .aK _ _=>rfl
 | .ref _=>rfl
 | .a1 _=>rfl
 | .agg af=>by simp only[I.share,I.plain];exact xY af
 | .tuple af=>by simp only[I.share,I.plain];exact xY af
 | .fn _ _=>rfl
 | .h _ _=>rfl
 | .ak _ _=>rfl
 | .R _ _=>rfl
 | .cA _=>rfl
theorem xY:∀ds:List I,I.dW (I.shares ds)=true
 |[]=>rfl
 |d::ds=>by simp only[I.shares,I.dW];rw[xX d,xY ds];rfl
end
theorem ID {s:aj} {a d:I} (h:a.plain=true) (he:view s a=some d):d.plain=true:=by
 cases a with
 |h x q=>
  simp only[view]at he
  split at he
  ·rename_i e dj
   cases e<;>simp only at he<;>first
    |(cases he;done)
    |(split at he
      ·cases he
      ·simp only[Option.some.injEq]at he
       subst he;exact xX _)
  ·cases he
 |ak x q=>
  simp only[view]at he
  split at he
  ·split at he
   ·rename_i e dj
    cases e<;>simp only at he<;>first
     |(cases he;done)
     |(simp only[Option.some.injEq]at he;subst he;rfl)
   ·cases he
  ·cases he
 |fn f cap=>
  simp only[view,Option.map_eq_some_iff]at he
  obtain⟨ds,_,rfl⟩:=he
  rfl
 |hole=>simp[view]at he
 |R y q=>simp[view]at he
 |_=>simp only[view,Option.some.injEq]at he;subst he;exact h
theorem xZ {d:I} {v:Value} (aa:∀vs,d≠.tuple vs) (h:cx d v):cx d.share v:=by
 cases d<;>first|exact h|exact(aa _ rfl).elim
theorem IE (w:World):∀(q:List Nat) (av d aV:I) (cs bP:List Value) (a b2:Option (Nat×Nat)),I.sub q av=some d→aV.wd=d.wd→cb w q av cs a=some (d,bP,b2)→
  cb w q (I.put q aV av) cs a=some (aV,bP,b2):=by
 intro q
 induction q with
 |nil=>
  intro av d aV cs bP a b2 ae hw h
  simp only[cb,Option.some.injEq,Prod.mk.injEq]at h
  obtain⟨rfl,rfl,rfl⟩:=h
  simp only[I.put,cb]
 |cons k q ih=>
  intro av d aV cs bP a b2 ae hw h
  cases av with
  |agg af=>
   simp only[I.sub]at ae
   split at ae
   ·rename_i x ao
    have ar:k<af.length:=(List.getElem?_eq_some_iff.1 ao).1
    simp only[cb,ao]at h
    simp only[I.put,ao,cb]
    rw[List.getElem?_set_self ar]
    simp only[List.take_set_of_le (Nat.le_refl k),I.qi q x d aV ae hw]
    exact ih _ _ _ _ _ _ _ ae hw h
   ·cases ae
  |tuple af=>
   simp only[I.sub]at ae
   split at ae
   ·rename_i x ao
    have ar:k<af.length:=(List.getElem?_eq_some_iff.1 ao).1
    simp only[cb,ao]at h
    simp only[I.put,ao,cb]
    rw[List.getElem?_set_self ar]
    simp only[List.take_set_of_le (Nat.le_refl k),I.qi q x d aV ae hw]
    exact ih _ _ _ _ _ _ _ ae hw h
   ·cases ae
  |aK sz af=>
   simp only[I.sub]at ae
   split at ae
   ·rename_i x ao
    have ar:k<af.length:=(List.getElem?_eq_some_iff.1 ao).1
    have iX:(af.set k (I.put q aV x))[k]? =some (I.put q aV x):=List.getElem?_set_self ar
    simp only[I.put,ao]
    rw[cb.eq_def]at h⊢
    simp only[ao]at h
    simp only
    rw[iX]
    split at h
    ·rename_i aF
     simp only[Option.some.injEq]at aF;subst aF
     exact ih _ _ _ _ _ _ _ ae hw h
    ·cases h
   ·cases ae
  |a1 x=>
   cases k with
   |zero=>
    simp only[I.sub]at ae
    rw[cb.eq_def]at h⊢
    simp only at h
    simp only[I.put]
    split at h
    ·rw[I.qi q x d aV ae hw]
     exact ih _ _ _ _ _ _ _ ae hw h
    ·cases h
   |succ k=>simp[I.sub]at ae
  |_=>simp[I.sub]at ae
section
variable {w0 w aw:World} {F0 X F Fc:Nat→Prop} {S:Nat→Nat→Prop} {s aq:aj} {an hs:Nat→Value}
theorem IF (h:a7 w0 F0 X F S s an w) (aX:∀b,F b→Fc b):∀n,
  (∀(a:I) (v:Value) (d:I),SizeOf.sizeOf a≤n→(∀t∈a.U,∀b,S t b→Fc b)→view s a=some d→ax w F s an a v (fun _=>False)→ax w Fc aq hs d v (fun _=>False))∧
  (∀(as:List I) (vs:List Value) (ds:List I),SizeOf.sizeOf as≤n→(∀t∈I.cR as,∀b,S t b→Fc b)→views s as=some ds→cG w F s an as vs→cG w Fc aq hs ds vs):=by
 intro n
 induction n with
 |zero=>exact⟨fun a _ _ bl=>by cases a<;>simp at bl<;>omega,fun as _ _ bl=>by cases as<;>simp at bl<;>omega⟩
 |succ n ih=>
  refine⟨fun a v d bl bd he aE=> ?_,fun as vs ds bl bd he aE=> ?_⟩
  ·cases a with
   |h x q=>
    simp only[view]at he
    split at he
    ·rename_i e dj
     have key:(∀af,e≠.tuple af)∧e.plain=false∧d=e.share∧∀o,e≠.cA o:=by
      cases e<;>simp only at he<;>first
       |(cases he;done)
       |(split at he
         ·cases he
         ·rename_i e5
          simp only[Option.some.injEq]at he
          exact⟨(fun _ h=>by cases h),by simpa using e5,he.symm,fun _ h=>by cases h⟩)
     obtain⟨j2,e5,rfl,hZ⟩:=key
     rw[ax]at aE
     obtain⟨bP,b2,g1,g2,g3⟩:=aE e dj e5
     have aN:=fm dj (.inl e5)
     have ao:=(ax.bJ aN).1 (h.cd x)
     obtain⟨dU,a2,cL,dp,k0,bx,bF,c7,ct,dr⟩:=ctx q (s x) (bw (an x)) (S x) none e ao.2 dj
     rw[g1]at k0
     simp only[Option.some.injEq,Prod.mk.injEq,true_and]at k0
     obtain⟨rfl,rfl⟩:=k0
     have xe:e.share.tree=true:=by cases e<;>first|rfl|(simp[I.plain]at e5;done)|exact(hZ _ rfl).elim
     have aC:=al.shared aX e bP dp (fun b R=>bd x (by simp[I.U]) b (bF b R)) ct
     exact(ax.bJ xe).2 ⟨xZ j2 g3,by rw[g2];exact aC⟩
    ·cases he
   |ak x q=>
    simp only[view]at he
    split at he
    ·rename_i lx
     split at he
     ·rename_i e dj
      have key:(∀af,e≠.tuple af)∧d= .ref e.share:=by
       cases e<;>simp only at he<;>first
        |(cases he;done)
        |(simp only[Option.some.injEq]at he;exact⟨(fun _ h=>by cases h),he.symm⟩)
      obtain⟨j2,rfl⟩:=key
      rw[ax]at aE
      obtain⟨bP,b,o,g1,rfl⟩:=aE e dj lx
      have aN:=fm dj (.inr lx)
      have ao:=(ax.bJ aN).1 (h.cd x)
      obtain⟨dU,a2,cL,dp,k0,bx,bF,c7,ct,dr⟩:=ctx q (s x) (bw (an x)) (S x) none e ao.2 dj
      rw[g1]at k0
      simp only[Option.some.injEq,Prod.mk.injEq,true_and]at k0
      obtain⟨rfl,rfl⟩:=k0
      have aC:=al.shared aX e bP dp (fun b R=>bd x (by simp[I.U]) b (bF b R)) ct
      rcases dr with⟨l,r,_,aI,_⟩|⟨dG,cur,ty,fr,l,r,aF,aI,aL,bX,b7,_⟩
      ·simp at aI
      ·simp only[Option.some.injEq,Prod.mk.injEq]at aF
       obtain⟨rfl,rfl⟩:=aF
       refine(ax.bJ rfl).2 ⟨rfl,?_⟩
       rw[al]
       refine⟨b,l.length,bP,rfl,bd x (by simp[I.U]) b (bx b aI),?_,aC⟩
       intro j c bY
       simp only[World.cell?,aL]
       have ai:cur[l.length+j]? =some c:=by
        rw[←Array.getElem?_toList,b7,List.getElem?_append_right (by omega),List.getElem?_append_left (by
         have:=(List.getElem?_eq_some_iff.1 bY).1;omega)]
        rw[←bY];congr 1;omega
       simpa using ai
     ·cases he
    ·cases he
   |fn f cap=>
    simp only[view,Option.map_eq_some_iff]at he
    obtain⟨ds,hb,rfl⟩:=he
    rw[ax]at aE
    obtain⟨arr,rfl,ai⟩:=aE
    rw[ax]
    exact⟨arr,rfl,ih.2 cap _ _ (by simp at bl;omega) (by simpa [I.U]using bd) hb ai⟩
   |hole=>simp[view]at he
   |R y q=>simp[view]at he
   |_=>
    simp only[view,Option.some.injEq]at he;subst he
    have iy:=(ax.bJ rfl).1 aE
    exact(ax.bJ rfl).2 ⟨iy.1,al.mono aX _ _ _ _ (fun _ h=>h) iy.2⟩
  ·cases as with
   |nil=>
    simp only[views,Option.some.injEq]at he;subst he
    rw[cG]at aE⊢;exact aE
   |cons a as=>
    simp only[views]at he
    split at he
    ·rename_i d ds aa ad
     simp only[Option.some.injEq]at he;subst he
     rw[cG]at aE⊢
     obtain⟨v,gQ,rfl,g1,g2⟩:=aE
     simp at bl
     simp only[I.cR,List.mem_append]at bd
     exact⟨v,gQ,rfl,ih.1 a v d (by omega) (fun t aN=>bd t (.inl aN)) aa g1,ih.2 as gQ ds (by omega) (fun t aN=>bd t (.inr aN)) ad g2⟩
    ·cases he
theorem a7.fW (h:a7 w0 F0 X F S s an w) {x:Nat} {q:List Nat} {d0 aV:I} {bP:List Value} {a:Option (Nat×Nat)} {Sn:Nat→Prop}
  (ae:I.sub q (s x)=some d0) (bh:cb w q (s x) (bw (an x)) none=some (d0,bP,a)) (ad:∀vs,aV≠.tuple vs) (aN:q=[]→aV.tree=true∧cx aV (an x))
  (aB:∀k p,q=k::p→(s x).tree=true∧(∀v,fI d0 v→fI aV v)) (hw:aV.wd=d0.wd)
  (aE:al w F aV bP Sn) (cY:∀b,Sn b→b<w.heap.size) (aX:∀b,Sn b→¬F b) (bd:∀u b,Sn b→¬S u b) (bz:∀b,Sn b→X b∨w0.heap.size≤b):
  a7 w0 F0 X F (ey S x (fun b=>S x b∨Sn b)) (cg (iV x s) x (I.put q aV (s x))) an w:=by
 have cM:cg an x (an x)=an:=by funext u;simp only[cg];split<;>simp_all
 have main:(I.put q aV (s x)).tree=true∧cx (I.put q aV (s x)) (an x)∧al w F (I.put q aV (s x)) (bw (an x)) (fun b=>S x b∨Sn b):=by
  cases q with
  |nil=>
   simp only[cb,Option.some.injEq,Prod.mk.injEq]at bh
   obtain⟨aF,aI,aL⟩:=bh
   obtain⟨g1,g2⟩:=aN rfl
   simp only[I.put]
   refine⟨g1,?_,?_⟩
   ·exact g2
   ·rw[aI];exact al.mono (fun _ h=>h) _ _ _ _ (fun b R=>.inr R) aE
  |cons k p=>
   obtain⟨g1,g2⟩:=aB k p rfl
   have ao:=(ax.bJ g1).1 (h.cd x)
   obtain⟨dU,a2,cL,dp,k0,bx,bF,c7,ct,dr⟩:=ctx (k::p) (s x) (bw (an x)) (S x) none d0 ao.2 ae
   rw[bh]at k0
   simp only[Option.some.injEq,Prod.mk.injEq,true_and]at k0
   obtain⟨rfl,rfl⟩:=k0
   refine⟨?_,?_,?_⟩
   ·rcases nV k p aV (s x)with⟨af,gs,aF,e⟩|⟨af,gs,aF,e⟩|⟨sz,xs,bD,aF,e⟩|⟨y,z,aF,e⟩|e<;>rw[e]<;>first|rfl|exact g1
   ·refine r_ ao.1 ae g2 (fun _ vs e=>(ad vs e).elim) hw
   ·have mono:∀b,(cL b∨Sn b)→(S x b∨Sn b):=fun b R=>R.imp (bx b) id
    rcases dr with⟨l,r,aF,aI,aL⟩|⟨b,cur,ty,fr,l,r,aF,aI,aL,bX,b7,bs⟩
    ·rw[aF]
     exact al.mono (fun _ h=>h) _ _ _ _ mono (aL w aV bP Sn (fun _ _=>rfl) (fun _ _=>rfl) hw aE (fun b R ai=>bd x b R (bx b ai)))
    ·refine al.mono (fun _ h=>h) _ _ _ _ mono (bs w aV bP Sn (fun _ _=>rfl) (fun _ _ _=>rfl) ?_ hw aE (fun b R ai=>bd x b R (bx b ai)))
     rw[aL,←b7]
 have:=h.Ay (t:=x) main.1 main.2.1 main.2.2 (by rintro b (R|R);exact h.c6 x b R;exact cY b R) (by rintro b (R|R);exact h.dP x b R;exact aX b R)
  (by rintro u b cB (R|R);exact fun hu=>h.dq u x b cB hu R;exact bd u b R) (by rintro b (R|R);exact h.cz x b R;exact bz b R)
 rwa [cM]at this
end
mutual
def I.dc:I→Bool
 | .slice _=>false
 | .ref _=>false
 | .fn _ _=>false
 | .h _ _=>false
 | .ak _ _=>false
 | .R _ _=>false
 | .aK _ xs=>I.lF xs
 | .a1 d=>d.dc
 | .agg af=>I.lF af
 | .tuple af=>I.lF af
 |_=>true
def I.lF:List I→Bool
 |[]=>true
 |d::ds=>d.dc&&I.lF ds
end
mutual
theorem al.dc {w:World} {F bc:Nat→Prop}:∀(d:I) (cs:List Value) (S:Nat→Prop),d.dc=true→al w F d cs S→al w bc d cs S
 | .hole,_,_,_,h=>h
 | .bool _,_,_,_,h=>h
 | .dd,_,_,_,h=>h
 | .int _ _,_,_,_,h=>h
 | .str _,_,_,_,h=>h
 | .cn,_,_,_,h=>h
 | .bH,_,_,_,h=>h
 | .slice xs,cs,S,aW,h=>by simp[I.dc]at aW
 | .ref d,cs,S,aW,h=>by simp[I.dc]at aW
 | .aK sz xs,cs,S,aW,h=>by
   rw[al]at h⊢
   rcases h with h|⟨b,cap,cur,e,fr,aD,aa,ad,aB,aO,a6,bp,bB,cE,eL,fj,iU⟩
   ·exact .inl h
   ·exact .inr ⟨b,cap,cur,e,fr,aD,aa,ad,aB,aO,a6,bp,bB,cE,aM.dc xs _ _ aW eL,fj,iU⟩
 | .a1 d,cs,S,aW,h=>by
   rw[al]at h⊢
   obtain⟨b,cur,e,fr,aD,aa,ad,aB,aO,a6,bp,bB⟩:=h
   exact⟨b,cur,e,fr,aD,aa,ad,aB,aO,al.dc d _ _ aW a6,bp,bB⟩
 | .agg af,cs,S,aW,h=>by rw[al]at h⊢;exact aM.dc af _ _ aW h
 | .tuple af,cs,S,aW,h=>by rw[al]at h⊢;exact aM.dc af _ _ aW h
 | .fn _ _,_,_,aW,h=>by simp[I.dc]at aW
 | .h _ _,_,_,_,h=>h
 | .ak _ _,_,_,_,h=>h
 | .R _ _,_,_,_,h=>h
 | .cA _,_,_,_,h=>h
theorem aM.dc {w:World} {F bc:Nat→Prop}:∀(ds:List I) (cs:List Value) (S:Nat→Prop),I.lF ds=true→aM w F ds cs S→aM w bc ds cs S
 |[],_,_,_,h=>h
 |d::ds,cs,S,aW,h=>by
  simp only[I.lF,Bool.and_eq_true]at aW
  rw[aM]at h⊢
  obtain⟨bN,c2,bk,cp,aa,ad,aB,aO,a6,bp⟩:=h
  exact⟨bN,c2,bk,cp,aa,al.dc d _ _ aW.1 ad,aM.dc ds _ _ aW.2 aB,aO,a6,bp⟩
end
theorem BX:∀(q:List Nat) (av d e:I),I.sub q av=some d→I.sub q (I.put q e av)=some e:=by
 intro q
 induction q with
 |nil=>intro av d e _;simp[I.put,I.sub]
 |cons k q ih=>
  intro av d e h
  cases av with
  |agg af=>
   simp only[I.sub]at h
   split at h
   ·rename_i x ao
    have ar:k<af.length:=(List.getElem?_eq_some_iff.1 ao).1
    simp only[I.put,ao,I.sub,List.getElem?_set_self ar]
    exact ih _ _ _ h
   ·cases h
  |tuple af=>
   simp only[I.sub]at h
   split at h
   ·rename_i x ao
    have ar:k<af.length:=(List.getElem?_eq_some_iff.1 ao).1
    simp only[I.put,ao,I.sub,List.getElem?_set_self ar]
    exact ih _ _ _ h
   ·cases h
  |aK sz af=>
   simp only[I.sub]at h
   split at h
   ·rename_i x ao
    have ar:k<af.length:=(List.getElem?_eq_some_iff.1 ao).1
    simp only[I.put,ao,I.sub,List.getElem?_set_self ar]
    exact ih _ _ _ h
   ·cases h
  |a1 x=>
   cases k with
   |zero=>simp only[I.sub]at h;simp only[I.put,I.sub];exact ih _ _ _ h
   |succ k=>simp[I.sub]at h
  |_=>simp[I.sub]at h
structure bS where
 a:I
 g:Bool
 d:I
 o:I
def I.own:I→Bool
 | .aK _ _=>true
 | .a1 _=>true
 |_=>false
def I.et:I→Bool
 | .aK _ _=>true
 | .a1 _=>true
 | .cA _=>true
 | .agg af=> !I.dW af
 |_=>false
def n8 (d o:I):Bool:=match d,o with
 | .agg a,.agg b=>I.cH a==I.cH b
 | .agg _,_=>false
 |_,.agg _=>false
 |_,_=>true
theorem n9 {d:I} (h:d.et=true):d.plain=false∧d.tree=true∧∀vs,d≠.tuple vs:=by
 cases d<;>simp[I.et]at h<;>first|exact⟨rfl,rfl,fun vs e=>by cases e⟩|exact⟨by simp only[I.plain];exact h,rfl,fun vs e=>by cases e⟩
theorem IG {d o:I} (h:d.et=true) (bI:o.et=true) (aJ:n8 d o=true):o.wd=d.wd∧(∀v,cx d v→cx o v)∧∀v,fI d.b6 v→fI o v:=by
 cases d<;>simp[I.et]at h<;>cases o<;>simp[I.et]at bI<;>simp[n8]at aJ<;>first
  |exact⟨rfl,fun _ h=>h,fun _ h=>h⟩
  |exact⟨by simp only[I.wd];exact aJ.symm,fun _ h=>h,fun _ h=>h⟩
def bS.ok (s:aj) (p:bS):Prop:=
 if p.g then(match p.a with| .h x q=>I.sub q (s x)=some p.d∧p.d.et=true∧(p.o= .hole∨(p.o.et=true∧n8 p.d p.o=true))|_=>False)
 else view s p.a=some p.d
def fX:List bS→Bool
 |[]=>true
 |p::r=>(r.all fun bO=> !(p.g||bO.g)||(p.a.U.all fun u=> !bO.a.U.contains u))&&fX r
def bS.take (s:aj) (p:bS):aj:=
 if p.g then(match p.a with| .h x q=>cg (fz x s) x (I.put q p.d.b6 (s x))|_=>s)else s
def bS.fW (s:aj) (p:bS):aj:=
 if p.g then(match p.a,p.o with|_,.hole=>s| .h x q,o=>cg (iV x s) x (I.put q o (s x))|_,_=>s)else s
def dx (s:aj) (ps:List bS):aj:=ps.foldl bS.take s
def fM (s:aj) (ps:List bS):aj:=ps.foldl bS.fW s
section
variable {w0 w aw:World} {F0 X F Fc:Nat→Prop} {S:Nat→Nat→Prop} {s aq:aj} {an hs:Nat→Value}
def IH (w:World) (F:Nat→Prop) (s1:aj) (an:Nat→Value) (p:bS) (v:Value) (Sn:Nat→Prop):Prop:=
 ∃x q a0,p.a= .h x q∧I.sub q (s1 x)=some p.d.b6∧cb w q (s1 x) (bw (an x)) none=some (p.d.b6,bw v,a0)∧(s1 x).U=[]∧(q=[]→cx p.d (an x))∧(q≠[]→(s1 x).tree=true)∧
  cx p.d v∧al w F p.d (bw v) Sn
theorem II {p:bS} {x:Nat} (h:(s x).U=[]) (ak:p.g=true→x∉p.a.U):bS.take s p x=s x:=by
 unfold bS.take
 split
 ·rename_i hg
  cases bQ:p.a with
  |h y q=>
   have:x≠y:=by
    have:=ak hg
    rw[bQ]at this
    simpa [I.U]using this
   simp only
   rw[gR _ _ this]
   exact sJ _ (by rw[h];simp)
  |_=>rfl
 ·rfl
theorem x0:∀{ps:List bS} {s:aj} {x:Nat},(s x).U=[]→(∀p∈ps,p.g=true→x∉p.a.U)→dx s ps x=s x:=by
 intro ps
 induction ps with
 |nil=>intros;rfl
 |cons p ps ih=>
  intro s x h ak
  have e:=II (s:=s) (p:=p) h (ak p (by simp))
  show dx (bS.take s p) ps x=s x
  rw[ih (by rw[e];exact h) (fun bO cW=>ak bO (by simp[cW])),e]
theorem nr {d:I} (h:d.own=true):d.plain=false∧d.tree=true∧d.b6= .hole∧d.one=true∧d.wd=1∧(∀v,cx d v↔Value.eF v=true):=by
 cases d<;>simp[I.own]at h<;>exact⟨rfl,rfl,rfl,rfl,rfl,fun v=>Iff.rfl⟩
theorem IJ:∀(ps:List bS) (vs:List Value) (s:aj) (S:Nat→Nat→Prop),a7 w0 F0 X F S s an w→ps.length=vs.length→
  (∀(i:Nat) (p:bS) (v:Value),ps[i]? =some p→vs[i]? =some v→p.a.plain=true∧ax w F s an p.a v (fun _=>False)∧(p.g=true→p.ok s))→fX ps=true→
  ∃(Sn bk:Nat→Nat→Prop),a7 w0 F0 X F bk (dx s ps) an w∧(∀u b,bk u b→S u b)∧
   (∀(i:Nat) (p:bS) (v:Value),ps[i]? =some p→vs[i]? =some v→p.g=true→IH w F (dx s ps) an p v (Sn i))∧
   (∀i b,Sn i b→∃p,ps[i]? =some p∧p.g=true)∧
   (∀i b,Sn i b→∃u,S u b)∧(∀i u b,Sn i b→¬bk u b)∧(∀i j b,i≠j→Sn i b→¬Sn j b)∧
   (∀(aV:I) (ef:Value) (aD:Nat→Prop),(∀p∈ps,p.g=true→∀u∈p.a.U,u∉aV.U)→ax w F s an aV ef aD→ax w F (dx s ps) an aV ef aD):=by
 intro ps
 induction ps with
 |nil=>
  intro vs s S h aJ _ _
  exact⟨fun _ _=>False,S,h,fun _ _ h=>h,fun i p v ak=>by simp at ak,fun _ _ h=>h.elim,fun _ _ h=>h.elim,fun _ _ _ h=>h.elim,fun _ _ _ _ h=>h.elim,fun _ _ _ _ h=>h⟩
 |cons p ps ih=>
  intro vs s S h aJ sE h4
  cases vs with
  |nil=>simp at aJ
  |cons v vs=>
   simp only[List.length_cons,Nat.add_right_cancel_iff]at aJ
   simp only[fX,Bool.and_eq_true,List.all_eq_true,Bool.or_eq_true,Bool.not_eq_true']at h4
   obtain⟨lG,k1⟩:=h4
   have qB:∀bO∈ps,(p.g=true∨bO.g=true)→∀u∈p.a.U,u∉bO.a.U:=by
    intro bO cW hg u hu
    rcases lG bO cW with e|e
    ·rcases hg with hg|hg<;>simp[hg]at e
    ·simpa using e u hu
   obtain⟨f1,f2,f3⟩:=sE 0 p v rfl rfl
   cases hg:p.g with
   |false=>
    have eS:bS.take s p=s:=by simp[bS.take,hg]
    obtain⟨Sn,bk,g1,g2,g3,g4,g5,g6,g7,g8⟩:=ih vs s S h aJ (fun i bO ef ak aE=>sE (i+1) bO ef (by simpa using ak) (by simpa using aE)) k1
    have aF:dx s (p::ps)=dx s ps:=by show dx (bS.take s p) ps=_;rw[eS]
    rw[aF]
    refine⟨fun i=>match i with|0=>fun _=>False|i+1=>Sn i,bk,g1,g2,?_,?_,?_,?_,?_,fun aV ef aD ae=>g8 aV ef aD fun bO cW=>ae bO (by simp[cW])⟩
    ·intro i bO ef ak aE e1
     cases i with
     |zero=>simp at ak;subst ak;rw[hg]at e1;cases e1
     |succ i=>exact g3 i bO ef (by simpa using ak) (by simpa using aE) e1
    ·intro i b R
     cases i with
     |zero=>exact R.elim
     |succ i=>simpa using g4 i b R
    ·intro i b R
     cases i with
     |zero=>exact R.elim
     |succ i=>exact g5 i b R
    ·intro i u b R
     cases i with
     |zero=>exact R.elim
     |succ i=>exact g6 i u b R
    ·intro i j b cB aA bY
     cases i with
     |zero=>exact aA.elim
     |succ i=>
      cases j with
      |zero=>exact bY.elim
      |succ j=>exact g7 i j b (by omega) aA bY
   |true=>
    have eR:=f3 hg
    simp only[bS.ok,hg,if_true]at eR
    split at eR
    ·rename_i x q bQ
     obtain⟨dj,x1,o4⟩:=eR
     obtain⟨ks,lH,uS⟩:=n9 x1
     have IK:bR s p.a=some (p.d,cg (fz x s) x (I.put q p.d.b6 (s x))):=by
      rw[bQ];simp only[bR,dj,ks];rfl
     obtain⟨bk,t1,t2,t3,IL,t4,t5,t6,t7,t8,t9,t10,t11⟩:=lu h f1 f2 IK
     have eS:bS.take s p=cg (fz x s) x (I.put q p.d.b6 (s x)):=by simp[bS.take,hg,bQ]
     have ml:∀bO∈ps,x∉bO.a.U:=fun bO cW=>qB bO cW (.inl hg) x (by rw[bQ];simp[I.U])
     have x2:bS.take s p x=I.put q p.d.b6 (s x):=by rw[eS,jS]
     have BZ:(bS.take s p x).U=[]:=by
      rw[x2];exact qz q _ _ _ dj (.inl ks) (fun _=>by cases ae:p.d<;>first|rfl|(rw[ae]at x1;simp[I.et]at x1))
     obtain⟨Sn,cp,g1,g2,g3,g4,g5,g6,g7,g8⟩:=ih vs (bS.take s p) bk (by rw[eS];exact t1) aJ (by
      intro i bO ef ak aE
      obtain⟨bx,bF,c7⟩:=sE (i+1) bO ef (by simpa using ak) (by simpa using aE)
      have hm:bO∈ps:=List.mem_of_getElem? ak
      refine⟨bx,?_,?_⟩
      ·have:=t11 _ _ _ bF
       rw[bQ]at this
       rw[eS]
       simp only[I.owner,h1]at this
       rwa [sJ _ (ml bO hm)]at this
      ·intro e1
       have:=c7 e1
       simp only[bS.ok,e1,if_true]at this⊢
       split at this
       ·rename_i y fT ns
        have cB:y≠x:=fun e=>ml bO hm (by rw[ns,e];simp[I.U])
        rw[eS,gR _ _ cB]
        have aN:=fm this.1 (.inl (n9 this.2.1).1)
        simp only[fz,w3 aN]
        exact this
       ·exact this.elim) k1
     have aF:dx s (p::ps)=dx (bS.take s p) ps:=rfl
     have n_:dx (bS.take s p) ps x=I.put q p.d.b6 (s x):=by
      rw[x0 BZ (fun bO cW _=>ml bO cW),x2]
     rw[aF]
     refine⟨fun i=>match i with|0=>IL|i+1=>Sn i,cp,g1,fun u b R=>t9 u b (g2 u b R),?_,?_,?_,?_,?_,?_⟩
     rotate_left 5
     ·intro aV ef aD ae gx
      refine g8 aV ef aD (fun bO cW=>ae bO (by simp[cW])) ?_
      have:=t11 _ _ _ gx
      rw[bQ]at this
      rw[eS]
      simp only[I.owner,h1]at this
      rwa [sJ _ (ae p (by simp) hg x (by rw[bQ];simp[I.U]))]at this
     ·intro i bO ef ak aE e1
      cases i with
      |zero=>
       simp at ak aE;subst ak aE
       have uT:=f2
       rw[bQ,ax]at uT
       obtain⟨bP,a0,bN,c2,c3⟩:=uT _ dj ks
       refine⟨x,q,a0,bQ,?_,?_,?_,?_,?_,t3,t4⟩
       ·rw[n_];exact BX q _ _ _ dj
       ·rw[n_,c2];exact IE w q _ _ _ _ _ _ _ dj (I.nU _) bN
       ·rw[n_,←x2];exact BZ
       ·intro ca;subst ca
        simp only[I.sub,Option.some.injEq]at dj
        have:=(ax.bJ (by rw[dj];exact lH)).1 (h.cd x)
        rw[dj]at this
        exact this.1
       ·intro ca
        have aN:=fm dj (.inl ks)
        rw[n_]
        cases q with
        |nil=>exact(ca rfl).elim
        |cons k q=>rcases nV k q p.d.b6 (s x)with⟨af,gs,aF,e⟩|⟨af,gs,aF,e⟩|⟨sz,xs,bD,aF,e⟩|⟨y,z,aF,e⟩|e<;>rw[e]<;>first|rfl|exact aN
      |succ i=>exact g3 i bO ef (by simpa using ak) (by simpa using aE) e1
     ·intro i b R
      cases i with
      |zero=>exact⟨p,rfl,hg⟩
      |succ i=>simpa using g4 i b R
     ·intro i b R
      cases i with
      |zero=>exact t10 b R
      |succ i=>obtain⟨u,hu⟩:=g5 i b R;exact⟨u,t9 u b hu⟩
     ·intro i u b R
      cases i with
      |zero=>exact fun hu=>t7 u b R (g2 u b hu)
      |succ i=>exact g6 i u b R
     ·intro i j b cB aA bY
      cases i with
      |zero=>
       cases j with
       |zero=>exact cB rfl
       |succ j=>obtain⟨u,hu⟩:=g5 j b bY;exact t7 u b aA hu
      |succ i=>
       cases j with
       |zero=>obtain⟨u,hu⟩:=g5 i b aA;exact t7 u b bY hu
       |succ j=>exact g7 i j b (by omega) aA bY
    ·exact eR.elim
end
def dJ (l:List I):aj:=fun i=>l.getD i .hole
def eT (l:List Value):Nat→Value:=fun i=>l.getD i undef
def lI (P:Program) (f:FuncId) (args:Array Value) (w:World) (j3:Value→World→Prop):Prop:=
 ((callFunc f args).run P w= .ok (.enter f args) w∧Calls P f args w (fun e aw=>∃v,e= .returned v∧j3 v aw))∨
 ∃v aw,(callFunc f args).run P w= .ok (.value v) aw∧j3 v aw
theorem lI.mono {P:Program} {f:FuncId} {args:Array Value} {w:World} {j3 B0:Value→World→Prop} (h:lI P f args w j3) (aC:∀v aw,j3 v aw→B0 v aw):lI P f args w B0:=by
 rcases h with⟨aa,ad⟩|⟨v,aw,aa,ad⟩
 ·exact .inl ⟨aa,Calls.mono ad fun e aw ⟨v,e,h⟩=>⟨v,e,aC v aw h⟩⟩
 ·exact .inr ⟨v,aw,aa,aC v aw ad⟩
def br (C:bq) (f:FuncId) (as:List I) (r:I) (outs:List I):Prop:=
 ∀(w:World) (F X:Nat→Prop) (S:Nat→Nat→Prop) (vs:List Value),vs.length=as.length→a7 w F X F S (dJ as) (eT vs) w→
  lI C.P f vs.toArray w fun v aw=>∃bc aD,a7 w F X bc aD (dJ (r::outs)) (eT (v::vs)) aw
def I.res:I→Bool
 | .h _ _=>false
 | .ak _ _=>false
 | .R _ _=>false
 | .fn _ _=>false
 |_=>true
theorem B1 {d:I} (h:d.tree=true):d.U=[]:=by cases d<;>first|rfl|(simp[I.tree]at h)
mutual
theorem x3 {s aq:aj}:∀(a:I) (d:I),(∀u∈a.U,(s u).tree=true→aq u=s u)→view s a=some d→view aq a=some d
 | .h x q,d,hu,h=>by
   have aN:(s x).tree=true:=by
    simp only[view]at h
    split at h
    ·rename_i e dj
     cases e<;>simp only at h<;>first
      |(cases h;done)
      |(split at h
        ·cases h
        ·rename_i ak
         exact fm dj (.inl (by simpa using ak)))
    ·cases h
   simp only[view]at h⊢
   rw[hu x (by simp[I.U]) aN];exact h
 | .ak x q,d,hu,h=>by
   have aN:(s x).tree=true:=by
    simp only[view]at h
    split at h
    ·rename_i ai
     split at h
     ·rename_i e dj;exact fm dj (.inr ai)
     ·cases h
    ·cases h
   simp only[view]at h⊢
   rw[hu x (by simp[I.U]) aN];exact h
 | .R x q,d,hu,h=>by simp[view]at h
 | .fn f cap,d,hu,h=>by
   simp only[view,Option.map_eq_some_iff]at h⊢
   obtain⟨ds,aa,ad⟩:=h
   exact⟨ds,B2 cap ds (by simpa [I.U]using hu) aa,ad⟩
 | .hole,d,hu,h=>h
 | .bool _,d,hu,h=>h
 | .dd,d,hu,h=>h
 | .int _ _,d,hu,h=>h
 | .str _,d,hu,h=>h
 | .cn,d,hu,h=>h
 | .bH,d,hu,h=>h
 | .slice _,d,hu,h=>h
 | .aK _ _,d,hu,h=>h
 | .ref _,d,hu,h=>h
 | .a1 _,d,hu,h=>h
 | .agg _,d,hu,h=>h
 | .tuple _,d,hu,h=>h
 | .cA _,d,hu,h=>h
theorem B2 {s aq:aj}:∀(as:List I) (ds:List I),(∀u∈I.cR as,(s u).tree=true→aq u=s u)→views s as=some ds→views aq as=some ds
 |[],ds,hu,h=>h
 |a::as,ds,hu,h=>by
  simp only[I.cR,List.mem_append]at hu
  simp only[views]at h⊢
  split at h
  ·rename_i x y aa ad
   rw[x3 a x (fun u hm=>hu u (.inl hm)) aa,B2 as y (fun u hm=>hu u (.inr hm)) ad];exact h
  ·cases h
end
section
variable {C:bq} {w0 w aw:World} {F0 X F Fc:Nat→Prop} {S:Nat→Nat→Prop} {s aq:aj} {an hs:Nat→Value}
def IM (w:World) (F:Nat→Prop) (s:aj) (an:Nat→Value) (p:bS) (v:Value) (k2:Nat→Prop):Prop:=
 p.g=true→p.o= .hole∨∃x q a0 d0,p.a= .h x q∧I.sub q (s x)=some d0∧cb w q (s x) (bw (an x)) none=some (d0,bw v,a0)∧(s x).U=[]∧
  (q=[]→cx p.o (an x))∧(q≠[]→(s x).tree=true)∧p.o.et=true∧al w F p.o (bw v) k2∧p.o.wd=d0.wd∧∀v,fI d0 v→fI p.o v
theorem IP:∀(ps:List bS) (vs:List Value) (s:aj) (S k2:Nat→Nat→Prop),a7 w0 F0 X F S s an w→ps.length=vs.length→
  (∀(i:Nat) (p:bS) (v:Value),ps[i]? =some p→vs[i]? =some v→IM w F s an p v (k2 i))→
  (∀i b,k2 i b→b<w.heap.size∧¬F b∧(X b∨w0.heap.size≤b)∧∀u,¬S u b)→(∀i j b,i≠j→k2 i b→¬k2 j b)→fX ps=true→
  ∃cp,a7 w0 F0 X F cp (fM s ps) an w∧∀u b,cp u b→S u b∨∃i,k2 i b:=by
 intro ps
 induction ps with
 |nil=>intro vs s S k2 h _ _ _ _ _;exact⟨S,h,fun u b R=>.inl R⟩
 |cons p ps ih=>
  intro vs s S k2 h aJ x4 R ae h4
  cases vs with
  |nil=>simp at aJ
  |cons v vs=>
   simp only[List.length_cons,Nat.add_right_cancel_iff]at aJ
   simp only[fX,Bool.and_eq_true,List.all_eq_true,Bool.or_eq_true,Bool.not_eq_true']at h4
   obtain⟨lG,k1⟩:=h4
   have qB:∀bO∈ps,(p.g=true∨bO.g=true)→∀u∈p.a.U,u∉bO.a.U:=by
    intro bO cW hg u hu
    rcases lG bO cW with e|e
    ·rcases hg with hg|hg<;>simp[hg]at e
    ·simpa using e u hu
   have skip:bS.fW s p=s→∃cp,a7 w0 F0 X F cp (fM s (p::ps)) an w∧∀u b,cp u b→S u b∨∃i,k2 i b:=by
    intro eS
    obtain⟨cp,g1,g2⟩:=ih vs s S (fun i=>k2 (i+1)) h aJ (fun i bO ef ak aE=>x4 (i+1) bO ef (by simpa using ak) (by simpa using aE)) (fun i b h=>R (i+1) b h)
     (fun i j b cB=>ae (i+1) (j+1) b (by omega)) k1
    refine⟨cp,?_,fun u b hu=>(g2 u b hu).imp id fun⟨i,aA⟩=>⟨i+1,aA⟩⟩
    show a7 _ _ _ _ _ (fM (bS.fW s p) ps) _ _
    rw[eS];exact g1
   cases hg:p.g with
   |false=>exact skip (by simp[bS.fW,hg])
   |true=>
    rcases x4 0 p v rfl rfl hg with bI|⟨x,q,a0,d0,bQ,bN,c2,c3,c4,c5,x5,IQ,IU,c9⟩
    ·exact skip (by simp only[bS.fW,hg,bI,if_true])
    ·obtain⟨ks,lH,IV⟩:=n9 x5
     have eS:bS.fW s p=cg (iV x s) x (I.put q p.o (s x)):=by
      simp only[bS.fW,hg,if_true,bQ]
      cases IW:p.o<;>first|rfl|(rw[IW]at x5;simp[I.et]at x5)
     have step:=h.fW (x:=x) (q:=q) (aV:=p.o) bN c2 IV (fun ca=>⟨lH,c4 ca⟩) (fun k r ca=>⟨c5 (by rw[ca];simp),c9⟩) IU IQ
      (fun b h=>(R 0 b h).1) (fun b h=>(R 0 b h).2.1) (fun u b h=>(R 0 b h).2.2.2 u) (fun b h=>(R 0 b h).2.2.1)
     rw[←eS]at step
     obtain⟨cp,g1,g2⟩:=ih vs (bS.fW s p) _ (fun i=>k2 (i+1)) step aJ (by
      intro i bO ef ak aE e1
      have hm:bO∈ps:=List.mem_of_getElem? ak
      rcases x4 (i+1) bO ef (by simpa using ak) (by simpa using aE) e1 with bI|⟨y,fT,ah,d1,bx,bF,c7,ct,dr,eH,fV,gH,hz⟩
      ·exact .inl bI
      ·have cB:y≠x:=fun e=>qB bO hm (.inl hg) x (by rw[bQ];simp[I.U]) (by rw[bx,e];simp[I.U])
       have kl:bS.fW s p y=s y:=by
        rw[eS,gR _ _ cB]
        exact xO _ (by rw[ct];simp)
       exact .inr ⟨y,fT,ah,d1,bx,by rw[kl];exact bF,by rw[kl];exact c7,by rw[kl];exact ct,dr,by rw[kl];exact eH,fV,gH,hz⟩)
      (by
       intro i b aA
       obtain⟨jq,gu,iY,dI⟩:=R (i+1) b aA
       refine⟨jq,gu,iY,fun u hu=> ?_⟩
       simp only[ey]at hu
       split at hu
       ·rcases hu with hu|hu
        ·exact dI _ hu
        ·exact ae 0 (i+1) b (by omega) hu aA
       ·exact dI _ hu)
      (fun i j b cB=>ae (i+1) (j+1) b (by omega)) k1
     refine⟨cp,g1,fun u b hu=> ?_⟩
     rcases g2 u b hu with hu|⟨i,aA⟩
     ·simp only[ey]at hu
      split at hu
      ·rename_i e;subst e
       exact hu.imp id fun h=>⟨0,h⟩
      ·exact .inl hu
     ·exact .inr ⟨i+1,aA⟩
def hM (ps:List bS):Bool:=ps.any fun p=> !p.g&& !p.a.U.isEmpty
theorem B3 (h:a7 w0 F0 X F S s an w) {ps:List bS} {vs:List Value} {f:FuncId} {r:I} (aJ:ps.length=vs.length)
  (gx:∀(i:Nat) (p:bS) (v:Value),ps[i]? =some p→vs[i]? =some v→p.a.plain=true∧ax w F s an p.a v (fun _=>False))
  (eR:∀p∈ps,p.ok s) (h4:fX ps=true) (bh:∀(Fc ju:Nat→Prop) (cL:Nat→Nat→Prop),(∀b,F b→Fc b)→(∀b,ju b→∃u,S u b)→a7 w Fc ju Fc cL (dJ (ps.map (·.d))) (eT vs) w→
   lI C.P f vs.toArray w fun v aw=>∃bc aD,a7 w Fc ju bc aD (dJ (r::ps.map (·.o))) (eT (v::vs)) aw) (aC:r.res=true)
  (aW:hM ps=true→r.dc=true∧∀p∈ps,p.o.dc=true):
  lI C.P f vs.toArray w fun v aw=>∃bc aD,a7 w0 F0 X bc aD (fM (dx s ps) ps) an aw∧iw w0 X bc aD (fM (dx s ps) ps) an aw r v∧∀b,F b→bc b∧aw.heap[b]? =w.heap[b]? :=by
 obtain⟨Sn,bk,g1,g2,g3,g4,g5,g6,g7,g8⟩:=IJ ps vs s S h aJ (fun i p v ak aE=>⟨(gx i p v ak aE).1,(gx i p v ak aE).2,fun _=>eR p (List.mem_of_getElem? ak)⟩) h4
 have apart:∀(i j:Nat) (p bO:bS),ps[i]? =some p→ps[j]? =some bO→i≠j→(p.g=true∨bO.g=true)→∀u∈p.a.U,u∉bO.a.U:=by
  clear gx eR bh aW g1 g3 g4 g8 aJ
  induction ps with
  |nil=>intro i j p bO ak;simp at ak
  |cons fa ps ih=>
   simp only[fX,Bool.and_eq_true,List.all_eq_true,Bool.or_eq_true,Bool.not_eq_true']at h4
   obtain⟨lG,k1⟩:=h4
   have qB:∀bO∈ps,(fa.g=true∨bO.g=true)→∀u∈fa.a.U,u∉bO.a.U:=by
    intro bO cW hg u hu
    rcases lG bO cW with e|e
    ·rcases hg with hg|hg<;>simp[hg]at e
    ·simpa using e u hu
   intro i j p bO ak cW cB hg u hu
   cases i with
   |zero=>
    simp at ak;subst ak
    cases j with
    |zero=>exact(cB rfl).elim
    |succ j=>exact qB bO (List.mem_of_getElem? (by simpa using cW)) hg u hu
   |succ i=>
    cases j with
    |zero=>
     simp at cW;subst cW
     exact fun sL=>qB p (List.mem_of_getElem? (by simpa using ak)) hg.symm u sL hu
    |succ j=>exact ih k1 i j p bO (by simpa using ak) (by simpa using cW) (by omega) hg u hu
 let Fc:Nat→Prop:=fun b=>F b∨(hM ps=true∧∃u,bk u b)
 let ju:Nat→Prop:=fun b=>∃i,Sn i b
 have x6:∀b,F b→¬ju b:=fun b aX ⟨i,aA⟩=>by obtain⟨u,hu⟩:=g5 i b aA;exact h.dP u b hu aX
 have sM:∀u b,bk u b→¬ju b:=fun u b hu ⟨i,aA⟩=>g6 i u b aA hu
 have sN:∀b,ju b→(X b∨w0.heap.size≤b)∧b<w.heap.size:=fun b ⟨i,aA⟩=>by obtain⟨u,hu⟩:=g5 i b aA;exact⟨h.cz u b hu,h.c6 u b hu⟩
 have pre:a7 w Fc ju Fc Sn (dJ (ps.map (·.d))) (eT vs) w:=by
  refine⟨fun _ h=>h,fun _ h=>.inl h,?_,fun i b aA=>(sN b ⟨i,aA⟩).2,?_,fun i j b cB=>g7 i j b cB,fun i b aA=>.inl ⟨i,aA⟩,?_,fun _ _ _=>rfl,Nat.le_refl _,rfl,rfl,Out.refl _,h.eN.next h.size h.old fun b R=>(sN b R).1⟩
  ·rintro b (R|⟨_,u,hu⟩)
   ·exact h.dw b R
   ·exact g1.c6 u b hu
  ·rintro i b aA (R|⟨_,u,hu⟩)
   ·exact x6 b R ⟨i,aA⟩
   ·exact g6 i u b aA hu
  ·intro t
   cases ak:ps[t]? with
   |none=>
    have:dJ (ps.map (·.d)) t= .hole:=by simp[dJ,List.getD,ak]
    rw[this,ax];trivial
   |some p=>
    have cY:t<vs.length:=by rw[←aJ];exact(List.getElem?_eq_some_iff.1 ak).1
    have aE:vs[t]? =some vs[t]:=List.getElem?_eq_getElem cY
    have aF:dJ (ps.map (·.d)) t=p.d:=by simp[dJ,List.getD,ak]
    have aI:eT vs t=vs[t]:=by simp[eT,List.getD,aE]
    rw[aF,aI]
    have hm:p∈ps:=List.mem_of_getElem? ak
    have ar:=eR p hm
    cases hg:p.g with
    |true=>
     obtain⟨x,q,a0,bx,bF,c7,ct,dr,eH,fV,gH⟩:=g3 t p _ ak aE hg
     simp only[bS.ok,hg,if_true,bx]at ar
     exact(ax.bJ (n9 ar.2.1).2.1).2 ⟨fV,al.mono (fun b R=>.inl R) _ _ _ _ (fun _ h=>h) gH⟩
    |false=>
     simp only[bS.ok,hg]at ar
     obtain⟨f1,f2⟩:=gx t p _ ak aE
     have B4:∀bO∈ps,bO.g=true→∀u∈bO.a.U,u∉p.a.U:=by
      intro bO cW e1 u hu
      obtain⟨j,bY⟩:=List.getElem?_of_mem cW
      refine apart j t bO p bY ak (fun e=> ?_) (.inl e1) u hu
      subst e;rw[ak]at bY;simp only[Option.some.injEq]at bY;rw[bY,e1]at hg;cases hg
     have uT:=g8 _ _ _ B4 f2
     have iX:view (dx s ps) p.a=some p.d:=x3 _ _ (fun u hu aN=>x0 (B1 aN) (fun bO cW e1 sL=>B4 bO cW e1 u sL hu)) (by simpa using ar)
     refine ax.nothing (ID f1 iX) ((IF g1 (Fc:=Fc) (fun b R=>.inl R) (SizeOf.sizeOf p.a)).1 p.a _ p.d (Nat.le_refl _) ?_ iX uT)
     intro u hu b R
     refine .inr ⟨?_,u,R⟩
     simp only[hM,List.any_eq_true]
     refine⟨p,hm,?_⟩
     cases fb:p.a.U with
     |nil=>rw[fb]at hu;cases hu
     |cons _ _=>simp[hg]
 refine lI.mono (bh Fc ju Sn (fun b R=>.inl R) (fun b ⟨i,aA⟩=>g5 i b aA) pre) ?_
 rintro v aw ⟨bc,aD,ai⟩
 have keep:∀b,b<w.heap.size→¬ju b→aw.heap[b]? =w.heap[b]? :=ai.old
 let lJ:Nat→Prop:=fun b=>if hM ps=true then F b else bc b
 have B5:∀b,F b→bc b:=fun b R=>ai.eU b (.inl R)
 have qC:∀b,F b→lJ b:=fun b R=>by
  simp only[lJ];split
  ·exact R
  ·exact B5 b R
 have sO:∀b,lJ b→bc b:=fun b R=>by
  simp only[lJ]at R;split at R
  ·exact B5 b R
  ·exact R
 have B6:∀b,lJ b→F b∨ju b∨w.heap.size≤b:=fun b R=>by
  simp only[lJ]at R;split at R
  ·exact .inl R
  ·rename_i n3
   rcases ai.e4 b R with(R|⟨aa,_⟩)|R|R
   ·exact .inl R
   ·exact(n3 aa).elim
   ·exact .inr (.inl R)
   ·exact .inr (.inr R)
 have mid:a7 w0 F0 X lJ bk (dx s ps) an aw:=by
  refine⟨fun b R=>qC b (g1.eU b R),?_,fun b R=>ai.dw b (sO b R),fun t b R=>Nat.lt_of_lt_of_le (g1.c6 t b R) ai.size,?_,g1.dq,g1.cz,?_,?_,Nat.le_trans g1.size ai.size,ai.os.trans g1.os,ai.tape.trans g1.tape,ai.output.trans g1.output,g1.eN⟩
  ·intro b R
   rcases B6 b R with R|R|R
   ·exact g1.e4 b R
   ·rcases(sN b R).1 with h|h
    ·exact .inr (.inl h)
    ·exact .inr (.inr h)
   ·exact .inr (.inr (Nat.le_trans g1.size R))
  ·intro t b aN R
   rcases B6 b R with R|R|R
   ·exact g1.dP t b aN R
   ·exact sM t b aN R
   ·exact absurd (g1.c6 t b aN) (by omega)
  ·intro t
   exact ax.frame (Sx:=bk) (fun b R=>keep b (h.dw b R) (x6 b R)) qC (fun x b R=>keep b (g1.c6 x b R) (sM x b R)) g1.cd _ _ _ (fun b R=>keep b (g1.c6 t b R) (sM t b R)) (g1.cd t)
  ·intro b R ht
   refine(keep b (Nat.lt_of_lt_of_le R g1.size) fun ao=> ?_).trans (g1.old b R ht)
   rcases(sN b ao).1 with h|h
   ·exact ht h
   ·omega
 have B7:∀(d:I) (cs:List Value) (cz:Nat→Prop),(hM ps=true→d.dc=true)→al aw bc d cs cz→al aw lJ d cs cz:=by
  intro d cs cz xI eG
  by_cases hle:hM ps=true
  ·exact al.dc d cs cz (xI hle) eG
  ·exact al.mono (fun b R=>by simp only[lJ];rw[if_neg hle];exact R) _ _ _ _ (fun _ h=>h) eG
 have bound:∀i b,aD i b→b<aw.heap.size∧¬lJ b∧(X b∨w0.heap.size≤b)∧∀u,¬bk u b:=by
  intro i b R
  refine⟨ai.c6 i b R,fun aX=>ai.dP i b R (sO b aX),?_,fun u hu=> ?_⟩
  ·rcases ai.cz i b R with ao|ao
   ·exact(sN b ao).1
   ·exact .inr (Nat.le_trans g1.size ao)
  ·rcases ai.cz i b R with ao|ao
   ·exact sM u b hu ao
   ·exact absurd (g1.c6 u b hu) (by omega)
 obtain⟨cp,bx,bF⟩:=IP ps vs (dx s ps) bk (fun i=>aD (i+1)) mid aJ (by
  intro i p ef ak aE hg
  have hm:p∈ps:=List.mem_of_getElem? ak
  have ar:=eR p hm
  obtain⟨x,q,a0,aF,aI,aL,bX,b7,bs,bj,gX⟩:=g3 i p ef ak aE hg
  simp only[bS.ok,hg,if_true,aF]at ar
  rcases ar.2.2 with bI|bI
  ·exact .inl bI
  ·obtain⟨eV,l2,x7⟩:=IG ar.2.1 bI.1 bI.2
   refine .inr ⟨x,q,a0,p.d.b6,aF,aI,?_,bX,fun ca=>l2 _ (b7 ca),bs,bI.1,?_,eV.trans (I.nU _).symm,x7⟩
   ·cases q with
    |nil=>simpa only[cb]using aL
    |cons k q=>
     have aN:=bs (by simp)
     rw[uo (k::q) _ _ (bk x) none _ ((ax.bJ aN).1 (g1.cd x)).2 aI (fun b R=>keep b (g1.c6 x b R) (sM x b R))]
     exact aL
   ·have:=ai.cd (i+1)
    have h2:dJ (r::ps.map (·.o)) (i+1)=p.o:=by simp[dJ,List.getD,ak]
    have jW:eT (v::vs) (i+1)=ef:=by simp[eT,List.getD,aE]
    rw[h2,jW]at this
    exact B7 _ _ _ (fun hle=>(aW hle).2 p hm) ((ax.bJ (n9 bI.1).2.1).1 this).2)
  (fun i b R=>bound (i+1) b R) (fun i j b cB=>ai.dq (i+1) (j+1) b (by omega)) h4
 refine⟨lJ,cp,bx,?_,fun b R=>⟨qC b R,keep b (h.dw b R) (x6 b R)⟩⟩
 have bz:=ai.cd 0
 have h2:dJ (r::ps.map (·.o)) 0=r:=rfl
 have jW:eT (v::vs) 0=v:=rfl
 rw[h2,jW]at bz
 cases aN:r.tree with
 |false=>
  cases r<;>first
   |(simp[I.tree]at aN;done)
   |(simp[I.res]at aC;done)
   |exact .inl ⟨rfl,by rw[ax];trivial⟩
 |true=>
  obtain⟨s1,s2⟩:=(ax.bJ aN).1 bz
  have eI:=B7 _ _ _ (fun hle=>(aW hle).1) s2
  refine .inr ⟨aN,s1,aD 0,eI,fun b R=>(bound 0 b R).1,fun b R=>(bound 0 b R).2.1,fun u b R hu=> ?_,fun b R=>(bound 0 b R).2.2.1⟩
  rcases bF u b hu with hu|⟨i,aA⟩
  ·exact(bound 0 b R).2.2.2 u hu
  ·exact ai.dq 0 (i+1) b (by omega) R aA
theorem IX (h:a7 w0 F0 X F S s an w) {ps:List bS} {vs:List Value} {f:FuncId} {r:I} (aJ:ps.length=vs.length)
  (gx:∀(i:Nat) (p:bS) (v:Value),ps[i]? =some p→vs[i]? =some v→p.a.plain=true∧ax w F s an p.a v (fun _=>False))
  (eR:∀p∈ps,p.ok s) (h4:fX ps=true) (bh:br C f (ps.map (·.d)) r (ps.map (·.o))) (aC:r.res=true)
  (aW:hM ps=true→r.dc=true∧∀p∈ps,p.o.dc=true):
  lI C.P f vs.toArray w fun v aw=>∃bc aD,a7 w0 F0 X bc aD (fM (dx s ps) ps) an aw∧iw w0 X bc aD (fM (dx s ps) ps) an aw r v∧∀b,F b→bc b∧aw.heap[b]? =w.heap[b]? :=
 B3 h aJ gx eR h4 (fun Fc ju cL _ _ ak=>bh w Fc ju cL vs (by simp[aJ]) ak) aC aW
end
structure bm where
 dst:Option Nat
 a_:dZ
 guard:Option (Nat×Bool)
def sP (ops:Array Oper):Option (Nat×Bool)→Option (Option (Nat×Bool))
 |none=>some none
 |some (j,b)=>match(ops[j]?).bind (·.dst)with
  |some t=>some (some (t,b))
  |none=>none
structure Fr where
 n:Nat
 fx:List Nat
def jv (n:Fr):Option Nat→Bool
 |none=>true
 |some t=>decide (t<n.n)&& !n.fx.contains t
def oa (op:Op):dZ:=match b4 op with
 |some a_=>a_
 |none=>.bad
def mm (n:Fr) (ops:Array Oper) (o:Oper):Option bm:=
 if jv n o.dst=true then match sP ops o.guard with
  |some g=>some ⟨o.dst,oa o.op,g⟩
  |none=>none
 else none
def mn (n:Fr) (ops:Array Oper):List Oper→Option (List bm)
 |[]=>some []
 |o::os=>match mm n ops o,mn n ops os with
  |some r,some rs=>some (r::rs)
  |_,_=>none
def uU (C:bq) (s:aj) (f:ay) (args:List ay) (K:I→aj→Prop):Prop:=
 ∃(g:FuncId) (caps:List I) (ps:List bS) (r:I),az s f= .fn g caps∧I.dW caps=true∧ps.map (·.a)=args.map (az s)++caps∧(∀p∈ps,p.ok s)∧fX ps=true∧
   br C g (ps.map (·.d)) r (ps.map (·.o))∧r.res=true∧(hM ps=true→r.dc=true∧∀p∈ps,p.o.dc=true)∧K r (fM (dx s ps) ps)
mutual
def I.e7 (s:aj):I→Bool
 | .h x q=>q.isEmpty&&(s x).own
 | .R x _=> !(s x).plain
 | .ak _ _=>false
 | .hole=>true
 | .fn _ cap=>I.ob s cap
 |d=>d.plain
def I.ob (s:aj):List I→Bool
 |[]=>true
 |d::ds=>d.e7 s&&I.ob s ds
end
def nt (s:aj):List (Nat×I)→aj
 |[]=>s
 |p::L=>nt (cg s p.1 p.2) L
def mo (s:aj):List (Nat×I)→Bool
 |[]=>true
 |p::L=>p.2.e7 s&&mo s L
def jw (s:aj) (us:List Nat):List (Nat×I):=us.map fun u=>(u,s u)
def k3 (C:bq) (s:aj) (a_:dZ) (K:I→aj→Prop):Prop:=
 match a_ with
 | .call f args=>∃(g:FuncId) (caps:List I) (ps:List bS) (r:I),az s f= .fn g caps∧I.dW caps=true∧ps.map (·.a)=args.map (az s)++caps∧(∀p∈ps,p.ok s)∧fX ps=true∧
   br C g (ps.map (·.d)) r (ps.map (·.o))∧r.res=true∧(hM ps=true→r.dc=true∧∀p∈ps,p.o.dc=true)∧K r (fM (dx s ps) ps)
 | .shr a_=>∃av s1,aZ C s a_=some (av,s1)∧av.tree=true∧(∀vs,av≠.tuple vs)∧K av.share s1
 | .jZ f args u x=>s u= .h x []∧(s x).own=true∧uU C s f args fun av s1=>s1 u= .hole∧(s1 x).own=true∧K av (cg s1 u (.h x []))
 | .j0 f args us=>mo s (jw s us)=true∧uU C s f args fun av s1=>mo s1 (jw s us)=true∧K av (nt s1 (jw s us))
 |a_=>∃av s1,aZ C s a_=some (av,s1)∧K av s1
theorem uV {C:bq} {s:aj} {a_:dZ} {K bC:I→aj→Prop} (h:k3 C s a_ K) (ar:∀av s,K av s→bC av s):k3 C s a_ bC:=by
 cases a_ with
 |call f args=>
  obtain⟨g,caps,ps,r,aa,eJ,ad,aB,aO,a6,bp,bB,cE⟩:=h
  exact⟨g,caps,ps,r,aa,eJ,ad,aB,aO,a6,bp,bB,ar _ _ cE⟩
 |shr a_=>
  obtain⟨av,s1,aa,ad,aB,aO⟩:=h
  exact⟨av,s1,aa,ad,aB,ar _ _ aO⟩
 |jZ f args u x=>
  obtain⟨bx,bF,g,caps,ps,r,aa,eJ,ad,aB,aO,a6,bp,bB,cE,eL,fj⟩:=h
  exact⟨bx,bF,g,caps,ps,r,aa,eJ,ad,aB,aO,a6,bp,bB,cE,eL,ar _ _ fj⟩
 |j0 f args us=>
  obtain⟨bF,g,caps,ps,r,aa,eJ,ad,aB,aO,a6,bp,bB,cE,eL⟩:=h
  exact⟨bF,g,caps,ps,r,aa,eJ,ad,aB,aO,a6,bp,bB,cE,ar _ _ eL⟩
 |_=>
  obtain⟨av,s1,aa,ad⟩:=h
  exact⟨av,s1,aa,ar _ _ ad⟩
def i6 (C:bq) (s:aj) (o:bm) (K:aj→Prop):Prop:=
 match o.guard with
 |none=>k3 C s o.a_ fun av s1=>K (fin s1 o.dst av)
 |some (t,b)=>match s t with
  | .bool dG=>if dG=b then k3 C s o.a_ (fun av s1=>K (fin s1 o.dst av))else K (fin s o.dst (.tuple []))
  | .tuple []=>K (fin s o.dst (.tuple []))
  |_=>False
def iF (C:bq) (s:aj):List bm→(aj→Prop)→Prop
 |[],K=>K s
 |o::os,K=>i6 C s o fun s1=>iF C s1 os K
def hc (C:bq) (ros:List bm) (s:aj):List Nat→(aj→Prop)→Prop
 |[],K=>K s
 |i::l,K=>match ros[i]? with
  |none=>hc C ros s l K
  |some o=>i6 C s o fun s1=>hc C ros s1 l K
theorem IY (C:bq) (K:aj→Prop):∀(rs pre:List bm) (s:aj),iF C s rs K→hc C (pre++rs) s ((List.range rs.length).map (·+pre.length)) K:=by
 intro rs
 induction rs with
 |nil=>intro pre s h;exact h
 |cons r rs ih=>
  intro pre s h
  rw[List.length_cons,List.range_succ_eq_map,List.map_cons,List.map_map]
  simp only[hc,Nat.zero_add]
  rw[List.getElem?_append_right (Nat.le_refl _)]
  simp only[Nat.sub_self,List.getElem?_cons_zero]
  have key:∀s1,iF C s1 rs K→hc C (pre++r::rs) s1 ((List.range rs.length).map ((fun x=>x+pre.length)∘Nat.succ)) K:=by
   intro s1 aa
   have:=ih (pre++[r]) s1 aa
   simp only[List.append_assoc,List.singleton_append,List.length_append,List.length_singleton]at this
   have e:((fun x=>x+pre.length)∘Nat.succ)=fun x=>x+(pre.length+1):=by funext x;simp;omega
   rw[e];exact this
  simp only[iF]at h
  unfold i6 at h⊢
  split
  ·rename_i hg;rw[hg]at h;exact uV h fun av s1=>key _
  ·rename_i t b hg
   rw[hg]at h
   simp only at h
   split
   ·rename_i dG U
    rw[U]at h
    simp only at h
    split
    ·rename_i R;rw[if_pos R]at h;exact uV h fun av s1=>key _
    ·rename_i R;rw[if_neg R]at h;exact key _ h
   ·rename_i U;rw[U]at h;exact key _ h
   ·rename_i aa ad
    split at h
    ·exact aa _ (by assumption)
    ·exact ad (by assumption)
    ·exact h
structure Rel (w0:World) (F0 X:Nat→Prop) (n:Fr) (ρ:Nat→Value) (s:aj) (a:Act) (w:World):Prop where
 defers:a.defers=[]
 size:a.tmps.size=n.n
 fixed:∀i∈n.fx,a.tmps.getD i undef=ρ i
 rel:∃F S,a7 w0 F0 X F S s (fun t=>a.tmps.getD t undef) w
section
variable {C:bq} {w0 w:World} {F0 X:Nat→Prop} {n:Fr} {ρ:Nat→Value} {s s1:aj} {a:Act} {av:I} {Q:Exit→Act→World→Prop}
theorem x8 {dst:Option Nat} (v:Value) (U:a.tmps.size=n.n) (ae:jv n dst=true):
  (fun t=>(a.put dst v).tmps.getD t undef)=nb (fun t=>a.tmps.getD t undef) dst v∧(a.put dst v).tmps.size=n.n∧(a.put dst v).defers=a.defers:=by
 cases dst with
 |none=>exact⟨rfl,U,rfl⟩
 |some d=>
  simp only[jv,Bool.and_eq_true,decide_eq_true_eq]at ae
  refine⟨?_,by simp[Act.put,U],rfl⟩
  funext t
  simp only[Act.put,nb,cg,Array.getD_eq_getD_getElem?]
  by_cases h:t=d
  ·subst h
   rw[if_pos rfl,Array.getElem?_setIfInBounds_self_of_lt (by omega)];rfl
  ·rw[if_neg h,Array.getElem?_setIfInBounds_ne (fun e=>h e.symm)]
theorem Rel.put {F S} (ae:a.defers=[]) (U:a.tmps.size=n.n) (bh:∀i∈n.fx,a.tmps.getD i undef=ρ i) {aw:World} (aC:a7 w0 F0 X F S s (fun t=>a.tmps.getD t undef) aw) {v:Value} (aE:iw w0 X F S s (fun t=>a.tmps.getD t undef) aw av v)
  {dst:Option Nat} (eR:jv n dst=true):Rel w0 F0 X n ρ (fin s dst av) (a.put dst v) aw:=by
 obtain⟨aF,aI,aL⟩:=x8 (n:=n) (dst:=dst) v U eR
 obtain⟨aD,aQ⟩:=aC.fin aE dst
 refine⟨aL.trans ae,aI,fun i aA=> ?_,F,aD,by rw[aF];exact aQ⟩
 rw[congrFun aF i]
 cases dst with
 |none=>exact bh i aA
 |some d=>
  simp only[jv,Bool.and_eq_true,Bool.not_eq_true',List.contains_eq_mem,decide_eq_false_iff_not]at eR
  have cB:i≠d:=fun e=>eR.2 (by rw[←e];exact aA)
  simp only[nb]
  rw[gR _ _ cB]
  exact bh i aA
theorem Rel.skip (h:Rel w0 F0 X n ρ s a w) {dst:Option Nat} (eR:jv n dst=true):Rel w0 F0 X n ρ (fin s dst (.tuple [])) (a.put dst undef) w:=by
 obtain⟨ae,U,bh,F,S,aC⟩:=h
 refine Rel.put (av:=.tuple []) ae U bh aC (.inl ⟨rfl,(ax.bJ (d:=.tuple []) rfl).2 ⟨?_,?_⟩⟩) eR
 ·exact⟨#[],rfl,rfl,fun k d x ar=>by simp at ar⟩
 ·rw[al,aM];rfl
theorem B8 {F:Nat→Prop} {an:Nat→Value} {w:World}:∀{ds es:List I} {vs us:List Value},cG w F s an ds vs→cG w F s an es us→cG w F s an (ds++es) (vs++us):=by
 intro ds
 induction ds with
 |nil=>intro es vs us aa ad;rw[cG]at aa;subst aa;exact ad
 |cons d ds ih=>
  intro es vs us aa ad
  rw[cG]at aa
  obtain⟨v,gQ,rfl,g1,g2⟩:=aa
  rw[List.cons_append,List.cons_append,cG]
  exact⟨v,_,rfl,g1,ih g2 ad⟩
theorem B9 {F:Nat→Prop} {an:Nat→Value} {w:World}:∀{ds:List I} {vs:List Value},cG w F s an ds vs→ds.length=vs.length∧∀(i:Nat) (d:I) (v:Value),ds[i]? =some d→vs[i]? =some v→ax w F s an d v (fun _=>False):=by
 intro ds
 induction ds with
 |nil=>intro vs h;rw[cG]at h;subst h;exact⟨rfl,fun i d v h=>by simp at h⟩
 |cons d ds ih=>
  intro vs h
  rw[cG]at h
  obtain⟨v,gQ,rfl,g1,g2⟩:=h
  obtain⟨bx,bF⟩:=ih g2
  refine⟨by simp[bx],fun i aV ef ae aE=> ?_⟩
  cases i with
  |zero=>simp at ae aE;subst ae aE;exact g1
  |succ i=>exact bF i aV ef (by simpa using ae) (by simpa using aE)
theorem mq {op:Op} {a_:dZ} (h:oa op=a_):a_= .bad∨b4 op=some a_:=by
 unfold oa at h
 split at h
 ·subst h;right;assumption
 ·exact .inl h.symm
theorem IZ {op:Op} {a_:dZ}:b4 op≠some (.shr a_):=by
 intro h
 unfold b4 at h
 split at h<;>(try split at h)<;>(try split at h)<;>(try split at h)<;>(try simp[Option.map_eq_some_iff]at h)
theorem I0 {op:Op} {f:ay} {args:List ay} {u x:Nat}:b4 op≠some (.jZ f args u x):=by
 intro h
 unfold b4 at h
 split at h<;>(try split at h)<;>(try split at h)<;>(try split at h)<;>(try simp[Option.map_eq_some_iff]at h)
theorem I1 {op:Op} {f:ay} {args:List ay} {us:List Nat}:b4 op≠some (.j0 f args us):=by
 intro h
 unfold b4 at h
 split at h<;>(try split at h)<;>(try split at h)<;>(try split at h)<;>(try simp[Option.map_eq_some_iff]at h)
theorem I2 {op:Op} {T:TypeId} {x:ay}:b4 op≠some (.iA T x):=by
 intro h
 unfold b4 at h
 split at h<;>(try split at h)<;>(try split at h)<;>(try split at h)<;>(try simp[Option.map_eq_some_iff]at h)
theorem I3 {op:Op} {x:ay}:b4 op≠some (.n6 x):=by
 intro h
 unfold b4 at h
 split at h<;>(try split at h)<;>(try split at h)<;>(try split at h)<;>(try simp[Option.map_eq_some_iff]at h)
theorem I4 {op:Op} {x:ay}:b4 op≠some (.nn x):=by
 intro h
 unfold b4 at h
 split at h<;>(try split at h)<;>(try split at h)<;>(try split at h)<;>(try simp[Option.map_eq_some_iff]at h)
theorem I5 {op:Op} {x:ay} (h:b4 op=some (.b8 x)):∃cD,op= .move cD∧cq cD=some x:=by
 unfold b4 at h
 split at h<;>(try split at h)<;>(try split at h)<;>(try split at h)<;>(try simp[Option.map_eq_some_iff]at h)
 exact⟨_,rfl,h⟩
theorem I6 {op:Op} {x:ay} (h:b4 op=some (.d_ x)):∃cD,op= .assign cD∧cq cD=some x:=by
 unfold b4 at h
 split at h<;>(try split at h)<;>(try split at h)<;>(try split at h)<;>(try simp[Option.map_eq_some_iff]at h)
 exact⟨_,rfl,h⟩
theorem I7 {op:Op} {T a8:TypeId} {x y:ay}:b4 op≠some (.kV T a8 x y):=by
 intro h
 unfold b4 at h
 split at h<;>(try split at h)<;>(try split at h)<;>(try split at h)<;>(try simp[Option.map_eq_some_iff]at h)
theorem I8 {op:Op} {T a8:TypeId} {x y:ay} (h:b4 op=some (.app T a8 x y)):∃a b,op= .call ⟨.builtin .append,#[a,b],#[T,a8]⟩∧cq a=some x∧cq b=some y:=by
 cases op with
 |call c=>
  obtain⟨callee,args,argTypes⟩:=c
  simp only[b4]at h
  split at h
  ·split at h<;>simp at h
  ·split at h<;>simp at h
  ·split at h<;>simp at h
  ·(split at h<;>try split at h)<;>simp at h
  ·(split at h<;>try split at h)<;>simp at h
  ·split at h
   ·rename_i a b x9 uR j1 pr
    split at h
    ·rename_i cD h0 ao hy
     simp only[Option.some.injEq,dZ.app.injEq]at h
     obtain⟨rfl,rfl,rfl,rfl⟩:=h
     refine⟨a,b,?_,ao,hy⟩
     have aF:args= #[a,b]:=by apply Array.ext';exact j1
     have aI:argTypes= #[x9,uR]:=by apply Array.ext';exact pr
     subst aF aI
     rfl
    ·cases h
   ·cases h
  ·cases h
 |makeFunc fn first cs=>
  cases fn<;>simp only[b4]at h<;>first|(cases h;done)|(split at h<;>simp at h)
 |slice T x b_ aA da=>
  cases da<;>simp only[b4]at h<;>first|(cases h;done)|(split at h<;>simp at h)
 |makeMap T r=>cases r<;>simp only[b4]at h<;>simp at h
 |lookup T x i c=>cases c<;>simp only[b4]at h<;>first|(cases h;done)|(split at h<;>simp at h)
 |_=>simp only[b4]at h<;>first|(cases h;done)|(simp at h;done)|(split at h<;>simp at h)
theorem a7.alias {F:Nat→Prop} {S:Nat→Nat→Prop} {an:Nat→Value} {u x:Nat} (h:a7 w0 F0 X F S s an w) (hu:s u= .hole) (ao:(s x).own=true) (aE:bw (an u)=bw (an x)) (aa:Value.eF (an u)=true):
  a7 w0 F0 X F (ey S u (fun _=>False)) (cg s u (.h x [])) an w:=by
 have cM:cg an u (an u)=an:=by funext y;simp only[cg];split<;>simp_all
 have:=h.r9 (t:=u) (d:=.h x []) (v:=an u) rfl (by
  rw[ax]
  intro d ae ak
  simp only[I.sub,Option.some.injEq]at ae
  subst ae
  exact⟨bw (an x),none,rfl,aE,((nr ao).2.2.2.2.2 _).2 aa⟩)
 rwa [cM]at this
theorem iw.less {F:Nat→Prop} {S aD:Nat→Nat→Prop} {an:Nat→Value} {s1:aj} {v:Value} (bd:∀u b,aD u b→S u b) (aC:av.res=true) (h:iw w0 X F S s an w av v):iw w0 X F aD s1 an w av v:=by
 rcases h with⟨aa,ad⟩|⟨aa,ad,Sn,aB,aO,a6,bp,bB⟩
 ·refine .inl ⟨aa,?_⟩
  cases av<;>first
   |(simp[I.res]at aC;done)
   |(rw[ax];trivial)
   |(rw[ax]at ad⊢;exact ad)
 ·exact .inr ⟨aa,ad,Sn,aB,aO,a6,fun u b R hu=>bp u b R (bd u b hu),bB⟩
theorem x_ (aT:C.db) (h:Rel w0 F0 X n ρ s a w) {o:Oper} {f:ay} {args:List ay} (bA:b4 o.op=some (.call f args)) (ae:jv n o.dst=true) {K:I→aj→Prop} {L:aj→Prop} {next:Act→World→Prop}
  (hw:uU C s f args K) (i7:∀F S bc aD w aw av s1 v,a7 w0 F0 X F S s (fun t=>a.tmps.getD t undef) w→K av s1→av.res=true→a7 w0 F0 X bc aD s1 (fun t=>a.tmps.getD t undef) aw→iw w0 X bc aD s1 (fun t=>a.tmps.getD t undef) aw av v→(∀b,F b→bc b∧aw.heap[b]? =w.heap[b]?)→
   ∃s2 cp,L (fin s2 o.dst av)∧a7 w0 F0 X bc cp s2 (fun t=>a.tmps.getD t undef) aw∧iw w0 X bc cp s2 (fun t=>a.tmps.getD t undef) aw av v)
  (aW:∀aq b2 aw,L aq→Rel w0 F0 X n ρ aq b2 aw→next b2 aw):o.wp C.P a w next Q:=by
 have nu:=h
 obtain⟨gf,cP,fe,F,S,aC⟩:=h
 obtain⟨g,caps,ps,r,aa,eJ,ad,aB,aO,a6,bp,bB,cE⟩:=hw
 obtain⟨dst,op,ty,pos,after,guard⟩:=o
 simp only at bA ae i7
 cases op with
 |call c=>
  obtain⟨callee,lK,argTypes⟩:=c
  simp only[b4]at bA
  split at bA
  ·split at bA
   ·rename_i sQ _ _ I9 xs bh ml
    simp only[Option.some.injEq,dZ.call.injEq]at bA
    obtain⟨rfl,rfl⟩:=bA
    obtain⟨f1,f2⟩:=dk aC (fun _=>rfl) bh
    rw[aa,ax]at f2
    obtain⟨arr,f3,f4⟩:=f2
    have pw:execOp a.eval {dst,op:=.call {callee:=.value sQ,args:=lK,argTypes},type:=ty,pos,after,guard}=callFunc g ((lK.toList.map a.eval++arr.toList).toArray):=by
     have:a.eval sQ= .func (.func g) #[] arr:=f3
     simp only[execOp,resolve,this,Deferred.ofValue,pure_bind,invoke]
     congr 1
     apply Array.ext';simp
    unfold Oper.wp
    rw[pw]
    have sR:cG w F s (fun t=>a.tmps.getD t undef) (xs.map (az s)++caps) (lK.toList.map a.eval++arr.toList):=B8 (uO aC (fun _=>rfl) _ _ (pq ml)) f4
    rw[←ad]at sR
    obtain⟨eV,l2⟩:=B9 sR
    have e5:∀d∈xs.map (az s)++caps,d.plain=true:=by
     intro d ae
     rcases List.mem_append.1 ae with ae|ae
     ·obtain⟨x,ao,rfl⟩:=List.mem_map.1 ae
      exact AF s x fun av e=>by
       subst e
       have hm:=pq ml
       have:some (ay.c av)∈xs.map some:=List.mem_map.2 ⟨_,ao,rfl⟩
       rw[←hm]at this
       obtain⟨o,_,bI⟩:=List.mem_map.1 this
       cases o with
       |const v=>simp only[cq,Option.map_eq_some_iff]at bI;obtain⟨c,ai,e⟩:=bI;cases e;exact xd ai
       |tmp n=>simp[cq]at bI
       |func g=>simp[cq]at bI
       |global g=>simp[cq]at bI
     ·obtain⟨k,ar⟩:=List.getElem?_of_mem ae
      exact um eJ ar
    have ya:=IX (C:=C) aC (ps:=ps) (vs:=lK.toList.map a.eval++arr.toList) (f:=g) (r:=r) (by simpa using eV)
     (fun i p v ak aE=>⟨e5 p.a (by rw[←ad];exact List.mem_map.2 ⟨p,List.mem_of_getElem? ak,rfl⟩),l2 i p.a v (by simp[ak]) aE⟩) aB aO a6 bp bB
    rcases ya with⟨ev,cr⟩|⟨v,aw,ev,bc,aD,cr,fp,dQ⟩
    ·rw[ev,Oper.upon_enter]
     refine Calls.mono cr ?_
     rintro e aw ⟨v,rfl,bc,aD,bx,bF,c7⟩
     obtain⟨s2,cp,m1,m2,m3⟩:=i7 _ _ _ _ _ _ _ _ _ aC cE bp bx bF c7
     exact aW _ _ _ m1 (Rel.put gf cP fe m2 m3 ae)
    ·rw[ev,Oper.upon_value]
     obtain⟨s2,cp,m1,m2,m3⟩:=i7 _ _ _ _ _ _ _ _ _ aC cE bp cr fp dQ
     exact aW _ _ _ m1 (Rel.put gf cP fe m2 m3 ae)
   ·cases bA
  ·split at bA
   ·simp only[Option.map_eq_some_iff]at bA;obtain⟨_,_,bA⟩:=bA;cases bA
   ·cases bA
  ·split at bA
   ·simp only[Option.map_eq_some_iff]at bA;obtain⟨_,_,bA⟩:=bA;cases bA
   ·cases bA
  iterate 3
   ·split at bA
    ·split at bA<;>cases bA
    ·cases bA
  ·cases bA
 |makeFunc fn first cs=>
  cases fn<;>simp only[b4]at bA<;>first|(cases bA;done)|(split at bA<;>simp at bA)
 |slice T x b_ aA da=>
  cases da<;>simp only[b4]at bA<;>first|(cases bA;done)|(split at bA<;>simp at bA)
 |makeMap T r=>cases r<;>simp only[b4]at bA<;>simp at bA
 |lookup T x i c=>cases c<;>simp only[b4]at bA<;>first|(cases bA;done)|(split at bA<;>simp at bA)
 |_=>simp only[b4]at bA<;>first|(cases bA;done)|(simp at bA;done)|(split at bA<;>simp at bA)
theorem I_ (aT:C.db) (h:Rel w0 F0 X n ρ s a w) {o:Oper} {a_:dZ} (bA:b4 o.op=some a_) (ae:jv n o.dst=true) {K:aj→Prop} {next:Act→World→Prop}
  (hw:k3 C s a_ fun av s1=>K (fin s1 o.dst av)) (aW:∀aq b2 aw,K aq→Rel w0 F0 X n ρ aq b2 aw→next b2 aw):o.wp C.P a w next Q:=by
 have nu:=h
 obtain⟨gf,cP,fe,F,S,aC⟩:=h
 have plain:∀av s1,aZ C s a_=some (av,s1)→K (fin s1 o.dst av)→o.wp C.P a w next Q:=by
  intro av s1 he ar
  obtain⟨r,aw,v,bc,aD,aa,ad,aB,aO⟩:=BD (a:=a) aT aC (fun _=>rfl) bA he
  unfold Oper.wp
  rw[aa]
  rcases ad with rfl|⟨rfl,rfl⟩
  ·exact aW _ _ _ ar (Rel.put gf cP fe aB aO ae)
  ·exact aW _ _ _ ar (Rel.put gf cP fe aB aO ae)
 cases a_ with
 |shr a_=>exact(IZ bA).elim
 |kV T a8 x y=>exact(I7 bA).elim
 |call f args=>exact x_ aT ⟨gf,cP,fe,F,S,aC⟩ bA ae (K:=fun av s1=>K (fin s1 o.dst av)) hw (fun _ _ _ aD _ _ _ s1 _ _ ad _ aB aO _=>⟨s1,aD,ad,aB,aO⟩) aW
 |jZ f args u x=>exact(I0 bA).elim
 |j0 f args L=>exact(I1 bA).elim
 |iA T x=>exact(I2 bA).elim
 |n6 x=>exact(I3 bA).elim
 |nn x=>exact(I4 bA).elim
 |_=>
  obtain⟨av,s1,he,ar⟩:=hw
  exact plain av s1 he ar
theorem iw.share {F:Nat→Prop} {S:Nat→Nat→Prop} {an:Nat→Value} {v:Value} (h:a7 w0 F0 X F S s an w) (aE:iw w0 X F S s an w av v) (aN:av.tree=true) (aW:∀vs,av≠.tuple vs):
  ∃bc,a7 w0 F0 X bc S s an w∧iw w0 X bc S s an w av.share v:=by
 obtain⟨Sn,e0,ep,gv,gw,n0,px⟩:∃Sn:Nat→Prop,cx av v∧al w F av (bw v) Sn∧(∀b,Sn b→b<w.heap.size)∧(∀b,Sn b→¬F b)∧(∀u b,Sn b→¬S u b)∧(∀b,Sn b→X b∨w0.heap.size≤b):=by
  rcases aE with⟨aa,ad⟩|⟨_,ad,Sn,aB,aO,a6,bp,bB⟩
  ·rw[ax.bJ aN]at ad
   exact⟨fun _=>False,ad.1,ad.2,fun _ h=>h.elim,fun _ h=>h.elim,fun _ _ h=>h.elim,fun _ h=>h.elim⟩
  ·exact⟨Sn,ad,aB,aO,a6,bp,bB⟩
 refine⟨fun b=>F b∨Sn b,?_,.inl ⟨xX av,?_⟩⟩
 ·exact {
   eU:=fun b R=>.inl (h.eU b R)
   e4:=fun b R=>by
    rcases R with R|R
    ·exact h.e4 b R
    ·exact .inr (px b R)
   dw:=fun b R=>R.elim (h.dw b) (gv b)
   c6:=h.c6
   dP:=fun t b R bh=>bh.elim (h.dP t b R) (fun U=>n0 t b U R)
   dq:=h.dq
   cz:=h.cz
   cd:=fun t=>ax.frame (fun _ _=>rfl) (fun b R=>.inl R) (fun _ _ _=>rfl) h.cd _ _ _ (fun _ _=>rfl) (h.cd t)
   old:=h.old
   size:=h.size
   os:=h.os
   tape:=h.tape
   output:=h.output
   eN:=h.eN}
 ·by_cases bI:∃o,av= .cA o
  ·obtain⟨o,rfl⟩:=bI
   rw[I.share,ax];trivial
  have Ja:av.share.tree=true:=by cases av<;>first|exact aN|rfl|exact(bI ⟨_,rfl⟩).elim
  rw[ax.bJ Ja]
  exact⟨xZ aW e0,al.shared (fun b R=>.inl R) av _ Sn (fun b R=>.inr R) ep⟩
theorem Jb {op:Op} {T:TypeId} {x:ay} (h:b4 op=some (.eg T x)):∃a,op= .box T a∧cq a=some x:=by
 cases op with
 |box x9 a=>
  simp only[b4,Option.map_eq_some_iff,dZ.eg.injEq]at h
  obtain⟨y,hy,rfl,rfl⟩:=h
  exact⟨a,rfl,hy⟩
 |_=>
  exfalso
  unfold b4 at h
  split at h<;>(try split at h)<;>(try split at h)<;>(try split at h)<;>(try simp[Option.map_eq_some_iff]at h)<;>contradiction
theorem Jc {aw:World} {F bc:Nat→Prop} {s s1:aj} {an:Nat→Value} (aX:∀b,F b→bc b∧aw.heap[b]? =w.heap[b]?):∀(n:Nat),
  (∀(d:I) (v:Value) (S:Nat→Prop),SizeOf.sizeOf d≤n→d.e7 s=true→d.e7 s1=true→ax w F s an d v S→ax aw bc s1 an d v (fun _=>False))∧
  (∀(ds:List I) (vs:List Value),SizeOf.sizeOf ds≤n→I.ob s ds=true→I.ob s1 ds=true→cG w F s an ds vs→cG aw bc s1 an ds vs):=by
 intro n
 induction n with
 |zero=>
  refine⟨fun d v S bl=> ?_,fun ds vs bl=> ?_⟩
  ·cases d<;>simp at bl<;>omega
  ·cases ds<;>simp at bl<;>omega
 |succ n ih=>
  refine⟨fun d v S bl bx bF h=> ?_,fun ds vs bl bx bF h=> ?_⟩
  ·cases d with
   |hole=>rw[ax];trivial
   |h x q=>
    simp only[I.e7,Bool.and_eq_true,List.isEmpty_iff]at bx bF
    obtain⟨rfl,bx⟩:=bx
    rw[ax]at h⊢
    obtain⟨bP,a,dV,eY,fH⟩:=h (s x) (by simp only[I.sub]) (nr bx).1
    simp only[cb,Option.some.injEq,Prod.mk.injEq,true_and]at dV
    intro d ae _
    simp only[I.sub,Option.some.injEq]at ae
    subst ae
    exact⟨bw (an x),none,by simp only[cb],by rw[eY,←dV.1],((nr bF.2).2.2.2.2.2 _).2 (((nr bx).2.2.2.2.2 _).1 fH)⟩
   |ak x q=>simp[I.e7]at bx
   |R x k=>
    simp only[I.e7,Bool.not_eq_true']at bx
    rw[ax]at h⊢
    obtain⟨b,cur,e,fr,aa,ad,aB,aO⟩:=h bx
    exact fun _=>⟨b,cur,e,fr,aa,(aX b ad).1,(aX b ad).2.trans aB,aO⟩
   |fn f cap=>
    simp only[I.e7]at bx bF
    rw[ax]at h⊢
    obtain⟨arr,rfl,ai⟩:=h
    exact⟨arr,rfl,ih.2 _ _ (by simp at bl;omega) bx bF ai⟩
   |_=>
    simp only[I.e7]at bx
    have aQ:=(ax.bJ rfl).1 h
    exact(ax.bJ rfl).2 ⟨aQ.1,al.mono (fun b R=>(aX b R).1) _ _ _ _ (fun _ h=>h) (al.frame (fun b R=>(aX b R).2) _ _ _ (fun _ h=>h.elim) (al.plain _ _ _ _ bx aQ.2))⟩
  ·cases ds with
   |nil=>rw[cG]at h⊢;exact h
   |cons d ds=>
    simp only[I.ob,Bool.and_eq_true]at bx bF
    rw[cG]at h⊢
    obtain⟨v,gQ,rfl,aa,ad⟩:=h
    simp at bl
    exact⟨v,gQ,rfl,ih.1 _ _ _ (by omega) bx.1 bF.1 aa,ih.2 _ _ (by omega) bx.2 bF.2 ad⟩
theorem Jd {s:aj} {d:I} (h:d.e7 s=true):d.plain=true:=by
 cases d<;>first|rfl|(simpa [I.e7]using h)
theorem a7.nt {F:Nat→Prop} {an:Nat→Value}:∀(L:List (Nat×I)) (s:aj) (S:Nat→Nat→Prop),a7 w0 F0 X F S s an w→(∀p∈L,p.2.plain=true∧ax w F s an p.2 (an p.1) (fun _=>False))→
  ∃aD,a7 w0 F0 X F aD (b9.nt s L) an w∧∀u b,aD u b→S u b:=by
 intro L
 induction L with
 |nil=>intro s S h _;exact⟨S,h,fun _ _ h=>h⟩
 |cons p L ih=>
  intro s S h i7
  obtain⟨aa,ad⟩:=i7 p (by simp)
  have cM:cg an p.1 (an p.1)=an:=by funext u;simp only[cg];split<;>simp_all
  have aB:=h.r9 (t:=p.1) aa ad
  rw[cM]at aB
  have fo:∀x,x≠p.1→(cg s p.1 p.2 x).tree=true→cg s p.1 p.2 x=s x∧an x=an x:=fun x ao _=>⟨gR _ _ ao,rfl⟩
  obtain⟨aD,g1,g2⟩:=ih _ _ aB (fun q ca=>⟨(i7 q (by simp[ca])).1,(ax.void (t:=p.1) fo (by rw[jS];exact aa) _).1 _ _ _ (Nat.le_refl _) (i7 q (by simp[ca])).2⟩)
  refine⟨aD,g1,fun u b R=> ?_⟩
  have:=g2 u b R
  simp only[ey]at this
  split at this
  ·exact this.elim
  ·exact this
theorem yb {s:aj}:∀{L:List (Nat×I)},mo s L=true→∀p∈L,p.2.e7 s=true
 |q::L,aa,p,ak=>by
  simp only[mo,Bool.and_eq_true]at aa
  rcases List.mem_cons.1 ak with rfl|ak
  ·exact aa.1
  ·exact yb aa.2 p ak
theorem Je {s:aj} {us:List Nat} {p:Nat×I} (h:p∈jw s us):p.1∈us∧s p.1=p.2:=by
 obtain⟨u,hu,rfl⟩:=List.mem_map.1 h
 exact⟨hu,rfl⟩
theorem Jf (aT:C.db) (h:Rel w0 F0 X n ρ s a w) {o:Oper} {a_:dZ} (bA:oa o.op=a_.base) (ae:jv n o.dst=true) {K:aj→Prop} {next:Act→World→Prop}
  (hw:k3 C s a_ fun av s1=>K (fin s1 o.dst av)) (aW:∀aq b2 aw,K aq→Rel w0 F0 X n ρ aq b2 aw→next b2 aw):o.wp C.P a w next Q:=by
 cases a_ with
 |shr a_=>
  obtain⟨av,s1,he,aN,j2,ar⟩:=hw
  rcases mq bA with bA|bA
  ·change a_= .bad at bA
   subst bA;cases he
  obtain⟨gf,cP,fe,F,S,aC⟩:=h
  obtain⟨r,aw,v,bc,aD,aa,ad,aB,aO⟩:=BD (a:=a) aT aC (fun _=>rfl) bA he
  obtain⟨sO,g3,g4⟩:=iw.share aB aO aN j2
  unfold Oper.wp
  rw[aa]
  rcases ad with rfl|⟨rfl,rfl⟩
  ·exact aW _ _ _ ar (Rel.put gf cP fe g3 g4 ae)
  ·exact aW _ _ _ ar (Rel.put gf cP fe g3 g4 ae)
 |bad=>obtain⟨av,s1,he,_⟩:=hw;cases he
 |jZ f args u x=>
  obtain⟨aF,aI,hw⟩:=hw
  rcases mq bA with R|R
  ·cases R
  ·refine x_ aT h R ae hw ?_ aW
   rintro F S bc aD w aw av s1 v e0 ⟨ep,gv,gw⟩ n0 px sS _
   have uv:=e0.cd u
   rw[aF,ax]at uv
   obtain⟨bP,a0,dV,eY,fH⟩:=uv (s x) (by simp only[I.sub]) (nr aI).1
   simp only[cb,Option.some.injEq,Prod.mk.injEq,true_and]at dV
   have Jg:∀y b,ey aD u (fun _=>False) y b→aD y b:=by
    intro y b R
    simp only[ey]at R
    split at R
    ·exact R.elim
    ·exact R
   exact⟨_,_,gw,px.alias ep gv (by rw[eY,←dV.1]) (((nr aI).2.2.2.2.2 _).1 fH),sS.less Jg n0⟩
 |j0 f args L=>
  obtain⟨aI,hw⟩:=hw
  rcases mq bA with R|R
  ·cases R
  ·refine x_ aT h R ae hw ?_ aW
   rintro F S bc aD w aw av s1 v e0 ⟨ep,gw⟩ n0 px sS Jh
   obtain⟨cp,g1,g2⟩:=px.nt (jw s L) s1 aD (fun p ak=>by
    have ev:=(Je ak).2
    have cr:=yb aI p ak
    have fp:=yb ep p ak
    refine⟨Jd cr,(Jc Jh _).1 _ _ (S p.1) (Nat.le_refl _) cr fp ?_⟩
    have:=e0.cd p.1
    rw[ev]at this
    exact this)
   exact⟨_,cp,gw,g1,sS.less g2 n0⟩
 |iA T x=>
  obtain⟨av,s1,he,ar⟩:=hw
  rcases mq bA with R|R
  ·cases R
  ·obtain⟨cD,lL,ao⟩:=Jb R
   obtain⟨gf,cP,fe,F,S,aC⟩:=h
   obtain⟨dst,op,ty,pos,after,guard⟩:=o
   simp only at lL ae ar
   subst lL
   obtain⟨r,aw,v,bc,aD,aa,ad,aB,aO⟩:Next C w0 F0 X (fun t=>a.tmps.getD t undef) w (execOp a.eval ⟨dst,.box T cD,ty,pos,after,guard⟩) av s1:=(G1 (T:=T) aC (dk aC (fun _=>rfl) ao).2 he).next
   unfold Oper.wp
   rw[aa]
   rcases ad with rfl|⟨rfl,rfl⟩
   ·exact aW _ _ _ ar (Rel.put gf cP fe aB aO ae)
   ·exact aW _ _ _ ar (Rel.put gf cP fe aB aO ae)
 |nn x=>
  obtain⟨av,s1,he,ar⟩:=hw
  rcases mq bA with R|R
  ·cases R
  ·obtain⟨cD,lL,ao⟩:=I5 R
   obtain⟨gf,cP,fe,F,S,aC⟩:=h
   obtain⟨dst,op,ty,pos,after,guard⟩:=o
   simp only at lL ae ar
   subst lL
   simp only[aZ]at he
   obtain⟨g1,g2⟩:=dk aC (fun _=>rfl) ao
   obtain⟨r,aw,v,bc,aD,aa,ad,aB,aO⟩:Next C w0 F0 X (fun t=>a.tmps.getD t undef) w (execOp a.eval ⟨dst,.move cD,ty,pos,after,guard⟩) av s1:=by
    unfold mh at he
    split at he
    ·rename_i y q hy
     rw[hy]at g1 g2
     obtain⟨bk,k0,bx,bF,Sn,c7,ct,dr,eH,fV,_⟩:=lu aC g1 g2 he
     exact⟨_,w,_,F,bk,rfl,.inl rfl,k0,.inr ⟨bx,bF,Sn,c7,ct,dr,eH,fV⟩⟩
    ·simp only[Option.some.injEq,Prod.mk.injEq]at he
     obtain⟨rfl,rfl⟩:=he
     exact⟨_,w,_,F,S,rfl,.inl rfl,aC,.inl ⟨g1,g2⟩⟩
   unfold Oper.wp
   rw[aa]
   rcases ad with rfl|⟨rfl,rfl⟩
   ·exact aW _ _ _ ar (Rel.put gf cP fe aB aO ae)
   ·exact aW _ _ _ ar (Rel.put gf cP fe aB aO ae)
 |n6 x=>
  obtain⟨av,s1,he,ar⟩:=hw
  rcases mq bA with R|R
  ·cases R
  ·obtain⟨cD,lL,ao⟩:=I6 R
   obtain⟨gf,cP,fe,F,S,aC⟩:=h
   obtain⟨dst,op,ty,pos,after,guard⟩:=o
   simp only at lL ae ar
   subst lL
   simp only[aZ,Option.some.injEq,Prod.mk.injEq]at he
   obtain⟨rfl,rfl⟩:=he
   obtain⟨g1,g2⟩:=dk aC (fun _=>rfl) ao
   obtain⟨r,aw,v,bc,aD,aa,ad,aB,aO⟩:Next C w0 F0 X (fun t=>a.tmps.getD t undef) w (execOp a.eval ⟨dst,.assign cD,ty,pos,after,guard⟩) (az s x) s:=⟨_,w,_,F,S,rfl,.inl rfl,aC,.inl ⟨g1,g2⟩⟩
   unfold Oper.wp
   rw[aa]
   rcases ad with rfl|⟨rfl,rfl⟩
   ·exact aW _ _ _ ar (Rel.put gf cP fe aB aO ae)
   ·exact aW _ _ _ ar (Rel.put gf cP fe aB aO ae)
 |kV T a8 x y=>
  obtain⟨av,s1,he,ar⟩:=hw
  rcases mq bA with R|R
  ·cases R
  ·obtain⟨cD,h0,lL,ao,hy⟩:=I8 R
   obtain⟨gf,cP,fe,F,S,aC⟩:=h
   simp only[aZ,Option.map_eq_some_iff,Prod.mk.injEq]at he
   obtain⟨d,eX,rfl,rfl⟩:=he
   obtain⟨v,aw,bc,aD,aa,ad,aB⟩:=HP (ty:=o.type) aT aC (dk aC (fun _=>rfl) ao).2 (dk aC (fun _=>rfl) hy).2 eX
   have pw:execOp a.eval o=(do pure (.value (←Builtin.append_ #[T,a8] o.type #[a.eval cD,a.eval h0]))):=by
    obtain⟨dst,op,ty,pos,after,guard⟩:=o
    simp only at lL
    subst lL
    simp[execOp,resolve,invoke,builtin]
   unfold Oper.wp
   rw[pw]
   simp only[Sem.run_bind,aa,Result.andThen]
   exact aW _ _ _ ar (Rel.put gf cP fe ad aB ae)
 |_=>
  rcases mq bA with R|R
  ·cases R
  ·exact I_ aT h R ae hw aW
end
end Go.b9
