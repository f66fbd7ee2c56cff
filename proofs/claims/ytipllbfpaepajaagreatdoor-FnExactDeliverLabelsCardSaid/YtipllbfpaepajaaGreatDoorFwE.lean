/- Part of a proof that a law returns true for every input. No condition. -/
import Derived.Test.YtipllbfpaepajaaGreatDoorFwD
import Derived.Laws.Tables
namespace Go.ca
section
variable {C:bt} {w0 w:World} {F0 X F:Nat→Prop} {S:Nat→Nat→Prop} {s s1:aj} {ao:Nat→Value} {av:I}
theorem vo (z:List Value):∀n,(List.range (n*z.length)).map (fun i=>z[i%z.length]!)=(List.replicate n z).flatten
 |0=>by simp
 |n+1=>by
  rw[Nat.add_mul,Nat.one_mul,List.range_add,List.map_append,vo z n,List.replicate_succ',List.flatten_append]
  congr 1
  simp only[List.map_map,List.flatten_cons,List.flatten_nil,List.append_nil]
  apply List.ext_getElem
  ·simp
  ·intro i ab ad
   have aA:i<z.length:=ad
   simp[Nat.mod_eq_of_lt aA,aA]
theorem aN.replicate {d:I} {cs:List Value} (h:∀aF,an w F d cs aF):∀n aF,aN w F (List.replicate n d) (List.replicate n cs).flatten aF
 |0,aF=>by simp only[List.replicate_zero,List.flatten_nil];rw[aN]
 |n+1,aF=>by
  rw[List.replicate_succ,List.replicate_succ,List.flatten_cons,aN]
  exact⟨cs,_,fun _=>False,fun _=>False,rfl,h _,aN.replicate h n _,fun _ h=>h.elim,fun _ h=>h.elim,fun _ h=>h.elim⟩
def er (C:bt) (T:TypeId) (l c:I):Option I:=
 match(C.T T).k,l,c with
 | .slice e,.int .i64 n,.int .i64 m=>if n=m∧0≤n∧(C.T e).ok=true∧(C.T e).zero.wd=(C.T e).sz∧(flat (C.T e).zero).isSome=true∧(C.T e).sz≠0∧(C.T e).bytes*n≤140737488355328∧n≤9223372036854775807 then
   some (.aE (C.T e).sz (List.replicate n.toNat (C.T e).zero))else none
 |_,_,_=>none
theorem I0 (aU:C.dn) (h:bb w0 F0 X F S s ao w) {T:TypeId} {l c:I} {B6 B7:Value} (hl:ay w F s ao l B6 (fun _=>False)) (ai:ay w F s ao c B7 (fun _=>False)) (he:er C T l c=some av):
  Good C w0 F0 X ao w (Instr.makeSlice T B6 B7) av s:=by
 unfold er at he
 split at he
 ·rename_i e n m al
  have:=kn hl;subst this
  have:=kn ai;subst this
  obtain⟨yi,d,yj,aH,aJ,aK,b0,b_,bw,bn⟩:=aU.info (eg al (by simp))
  rw[al]at bn
  have:=iW bn;subst this
  split at he
  ·rename_i pE
   obtain⟨rfl,aW,mc,mR,nQ,cV,B8,oB⟩:=pE
   simp only[Option.some.injEq]at he;subst he
   obtain⟨i,yk,z,f1,f2,f3,f4,f5,f6,f7⟩:=aU.info mc
   obtain⟨du,ko⟩:=Option.isSome_iff_exists.1 nQ
   have nR:=f5 du ko
   have eP:∀aF,an w F (C.T e).zero du aF:=fun aF=>(an.flat _).1 _ du aF (Nat.le_refl _) ko
   have mf:du.length=(C.T e).sz:=by rw[an.length _ _ _ (eP (fun _=>False)),mR]
   obtain⟨n,rfl⟩:=Int.eq_ofNat_of_zero_le aW
   simp only[Int.toNat_natCast]
   have qY:IntKind.i64.wrap (n:Int)=n:=by
    rw[IntKind.wrap_i64];omega
   have qW:∀k (w:World),(askRoom k).run C.P w= .ok () w:=by
    intro k w
    unfold askRoom
    split<;>rfl
   have l_:((Array.range (n*(C.T e).sz)).map (du.toArray[·%du.toArray.size]!)).toList=(List.replicate n du).flatten:=by
    have:=vo du n
    rw[mf]at this
    simpa [mf]using this
   have c_:¬(281474976710656<(i.bytes:Int)*n):=by
    rw[f3];omega
   have vp:¬((n:Int)<0):=by omega
   have run:(Instr.makeSlice T (.int .i64 n) (.int .i64 n)).run C.P w= .ok (.slice (some ⟨w.heap.size,0,none⟩) n n)
     (w.alloc (.cells (if n*(C.T e).sz=0 then(Array.range (n*(C.T e).sz)).map (fun _=>default)else(Array.range (n*(C.T e).sz)).map (du.toArray[·%du.toArray.size]!)) e)):=by
    by_cases bm:n*(C.T e).sz=0
    ·simp[Instr.makeSlice,run_underlying bw,asInt,asIntOf,pz f1,qY,c_,vp,qW,hR f1,f2,bm,newRow]
    ·simp only[bm,if_false]
     simp[Instr.makeSlice,run_underlying bw,asInt,asIntOf,pz f1,qY,c_,vp,qW,hR f1,f2,bm,newRow,pA f1 f4,nR]
   have iS:(if n*(C.T e).sz=0 then(Array.range (n*(C.T e).sz)).map (fun _=>(default:Value))else(Array.range (n*(C.T e).sz)).map (du.toArray[·%du.toArray.size]!)).toList=(List.replicate n du).flatten:=by
    split
    ·rename_i bm
     have:n=0:=by
      rcases Nat.mul_eq_zero.1 bm with h|h
      ·exact h
      ·exact(cV h).elim
     subst this
     simp
    ·exact l_
   generalize pO:(if n*(C.T e).sz=0 then(Array.range (n*(C.T e).sz)).map (fun _=>(default:Value))else(Array.range (n*(C.T e).sz)).map (du.toArray[·%du.toArray.size]!))=cur at run iS
   have gP:(List.replicate n du).flatten.length=n*(C.T e).sz:=by simp[mf]
   have hS:cur.size=n*(C.T e).sz:=by
    have:cur.size=cur.toList.length:=by simp
    rw[this,iS,gP]
   have iy:=h.sZ (aw:=w.alloc (.cells cur e)) (sz:=(C.T e).sz) (cap:=n) (xs:=List.replicate n (C.T e).zero) (cur:=cur) (e:=e) (fr:=(0,0)) (Sn:=fun _=>False) rfl rfl rfl ⟨rfl,fun _=>Nat.le_refl _⟩
    (fun o _ ⟨_,ad⟩=>absurd ad (Nat.not_lt_zero _)) (by simp) (by unfold maxLen;omega) hS (by intro d ae;rw[List.eq_of_mem_replicate ae];exact mR)
    (by rw[iS,List.length_replicate,List.take_of_length_le (by rw[gP];exact Nat.le_refl _)];exact aN.replicate eP n _) (fun _ h=>h.elim) (fun _ h=>h.elim) (fun _ _ h=>h.elim) (fun _ h=>h.elim)
   rw[List.length_replicate]at iy
   exact⟨_,_,F,S,run,iy.1,iy.2⟩
  ·cases he
 ·cases he
def lI (C:bt) (T bc:TypeId) (x y:I):Option I:=
 match(C.T T).k,(C.T bc).k,x,y with
 | .slice e,.int _,.bD,.int .i64 n=>if 0≤n∧(C.T e).ok=true∧(C.T e).zero.wd=(C.T e).sz∧(flat (C.T e).zero).isSome=true∧(C.T e).sz≠0∧(C.T e).bytes*n≤140737488355328∧n≤9223372036854775807 then
   some (.aE (C.T e).sz (List.replicate n.toNat (C.T e).zero))else none
 |_,_,_,_=>none
theorem I1 {P:Program} {T bc ty e:TypeId} {k:IntKind} {i:TypeInfo} {z:Value} (aO:P.underlying T=some (.slice e)) (hu:P.underlying bc=some (.int k)) (aA:P.info? e=some i) (bp:i.zero=some z)
  (n:Nat) (bm:n≠0) (U:i.size≠0) (aW:n≤9223372036854775807) (R:n*i.bytes≤140737488355328):
  (Builtin.append_ #[T,bc] ty #[.slice none 0 0,.int .i64 n]).run P w= .ok (.slice (some ⟨w.heap.size,0,none⟩) n (grownCap w n 0 e))
   (w.drew.alloc (.cells (Builtin.zeroCells z.cells n++Builtin.zeroCells z.cells (grownCap w n 0 e-n)) e)):=by
 have qY:IntKind.i64.wrap (n:Int)=n:=by rw[IntKind.wrap_i64];omega
 have vp:¬((n:Int)<0):=by omega
 have hmul:(n:Int)*(i.bytes:Int)=((n*i.bytes:Nat):Int):=by simp
 have c_:¬(281474976710656<(n:Int)*(i.bytes:Int)):=by rw[hmul];omega
 have fP:¬(281474976710656<Builtin.nextslicecap n 0*i.bytes):=by
  have:Builtin.nextslicecap n 0=n:=by unfold Builtin.nextslicecap;rw[if_pos (by omega)]
  rw[this];omega
 have qW:∀k (w:World),(askRoom k).run P w= .ok () w:=by
  intro k w
  unfold askRoom
  split<;>rfl
 have yf:¬(9223372036854775807<(n:Int)):=by omega
 have yq:n*i.size≠0:=Nat.mul_ne_zero bm U
 simp[Builtin.append_,run_underlying aO,run_underlying hu,hR aA,pz aA,asInt,asIntOf,qY,vp,c_,fP,bm,Question.forced,qW,yf,pA aA bp,newRow,grownCap,Builtin.firstCells]
 intro fu;exact(yq fu).elim
theorem I2 (aU:C.dn) (h:bb w0 F0 X F S s ao w) {T bc ty:TypeId} {x y:I} {fF gr:Value} (aq:ay w F s ao x fF (fun _=>False)) (hy:ay w F s ao y gr (fun _=>False)) (he:lI C T bc x y=some av):
  Good C w0 F0 X ao w (Builtin.append_ #[T,bc] ty #[fF,gr]) av s:=by
 unfold lI at he
 split at he
 ·rename_i e abp n al B9
  have:=nN aq;subst this
  have:=kn hy;subst this
  obtain⟨yi,d,yj,aH,aJ,aK,b0,b_,bw,bn⟩:=aU.info (eg al (by simp))
  rw[al]at bn
  have:=iW bn;subst this
  obtain⟨abq,abr,abt,s8,B_,abu,abv,abw,Ca,Cb⟩:=aU.info (eg B9 (by simp))
  rw[B9]at Cb
  have:=sQ Cb;subst this
  split at he
  ·rename_i pE
   obtain⟨aW,mc,mR,nQ,cV,B8,oB⟩:=pE
   simp only[Option.some.injEq]at he;subst he
   obtain⟨i,yk,z,f1,f2,f3,f4,f5,f6,f7⟩:=aU.info mc
   obtain⟨du,ko⟩:=Option.isSome_iff_exists.1 nQ
   have nR:=f5 du ko
   have eP:∀aF,an w F (C.T e).zero du aF:=fun aF=>(an.flat _).1 _ du aF (Nat.le_refl _) ko
   have mf:du.length=(C.T e).sz:=by rw[an.length _ _ _ (eP (fun _=>False)),mR]
   obtain⟨n,rfl⟩:=Int.eq_ofNat_of_zero_le aW
   simp only[Int.toNat_natCast]
   by_cases bm:n=0
   ·subst bm
    have run:(Builtin.append_ #[T,bc] ty #[.slice none 0 0,.int .i64 ((0:Nat):Int)]).run C.P w= .ok (.slice none 0 0) w:=by
     have qY:IntKind.i64.wrap 0=0:=by decide
     simp[Builtin.append_,run_underlying bw,run_underlying Ca,hR f1,pz f1,asInt,asIntOf,qY]
    exact⟨_,w,F,S,run,h,.inr ⟨rfl,rfl,fun _=>False,by simp only[bx,fD];rw[an];exact .inl ⟨rfl,_,rfl⟩,fun _ h=>h.elim,fun _ h=>h.elim,fun _ _ h=>h.elim,fun _ h=>h.elim⟩⟩
   ·have run:=I1 (w:=w) (ty:=ty) bw Ca f1 f4 n bm (by rw[f2];exact cV) (by omega) (by
     rw[f3]
     have:((C.T e).bytes:Int)*(n:Int)=(((C.T e).bytes*n:Nat):Int):=by simp
     rw[this]at B8
     rw[Nat.mul_comm];omega)
    rw[nR]at run
    have s4:=grownCap_ge w n 0 e
    have s5:=grownCap_le_maxLen w n 0 e (by unfold maxLen;omega)
    have Cc:∀m,(Builtin.zeroCells du.toArray m).toList=(List.replicate m du).flatten:=by
     intro m
     have:=vo du m
     unfold Builtin.zeroCells
     simpa [mf]using this
    have gP:∀m,(List.replicate m du).flatten.length=m*(C.T e).sz:=by intro m;simp[mf]
    generalize pO:Builtin.zeroCells du.toArray n++Builtin.zeroCells du.toArray (grownCap w n 0 e-n)=cur at run
    have iS:cur.toList=(List.replicate n du).flatten++(List.replicate (grownCap w n 0 e-n) du).flatten:=by rw[←pO,Array.toList_append,Cc,Cc]
    have hS:cur.size=grownCap w n 0 e*(C.T e).sz:=by
     have:cur.size=cur.toList.length:=by simp
     rw[this,iS,List.length_append,gP,gP,←Nat.add_mul]
     congr 1;omega
    have iy:=h.sZ (aw:=w.drew.alloc (.cells cur e)) (sz:=(C.T e).sz) (cap:=grownCap w n 0 e) (xs:=List.replicate n (C.T e).zero) (cur:=cur) (e:=e) (fr:=(0,0)) (Sn:=fun _=>False) rfl rfl rfl ⟨rfl,fun _=>Nat.le_succ _⟩
     (fun o _ ⟨_,ad⟩=>absurd ad (Nat.not_lt_zero _)) (by simpa using s4) s5 hS (by intro d ae;rw[List.eq_of_mem_replicate ae];exact mR)
     (by rw[iS,List.length_replicate,List.take_left' (gP n)];exact aN.replicate eP n _) (fun _ h=>h.elim) (fun _ h=>h.elim) (fun _ _ h=>h.elim) (fun _ h=>h.elim)
    rw[List.length_replicate]at iy
    exact⟨_,_,F,S,run,iy.1,iy.2⟩
  ·cases he
 ·cases he
def h_ (s:aj) (f:FuncId) (cs:List ax):Option I:=some (.fn f (cs.map (az s)))
theorem vq {a:Act} (h:bb w0 F0 X F S s ao w) (cR:∀t,ao t=a.tmps.getD t undef):∀(os:List Operand) (xs:List ax),os.map cv=xs.map some→cL w F s ao (xs.map (az s)) (os.map a.eval)
 |[],[],_=>by simp only[List.map_nil];rw[cL]
 |[],x::xs,h=>by simp at h
 |o::os,[],h=>by simp at h
 |o::os,x::xs,aS=>by
  simp only[List.map_cons,List.cons.injEq]at aS⊢
  rw[cL]
  exact⟨_,_,rfl,(dy h cR aS.1).2,vq h cR os xs aS.2⟩
theorem Cd:∀(vs:List Value) (k off:Nat) (A:Array Value) (l m r:List Value),A.toList=l++(m++r)→l.length=off+k→m.length=vs.length→
  ((vs.zipIdx k).foldl (fun cs (x:Value×Nat)=>cs.setIfInBounds (off+x.2) x.1) A).toList=l++(vs++r)
 |[],k,off,A,l,m,r,dS,hl,hm=>by
  have:m=[]:=by simpa using hm
  subst this
  simpa using dS
 |v::vs,k,off,A,l,m,r,dS,hl,hm=>by
  obtain⟨x,m,rfl⟩:∃x hv,m=x::hv:=by
   cases m with
   |nil=>simp at hm
   |cons x m=>exact⟨x,m,rfl⟩
  rw[List.zipIdx_cons,List.foldl_cons]
  have:=Cd vs (k+1) off (A.setIfInBounds (off+k) v) (l++[v]) m r (by
   rw[Array.toList_setIfInBounds,dS,←hl,List.set_append_right _ _ (Nat.le_refl _)]
   simp) (by simp;omega) (by simpa using hm)
  simpa using this
def lJ (os:List (Option Nat)) (a:I):I:=os.foldl (fun a o=>iv o a) a
def lK (place:Nat→Option (Nat×Nat)):aj→List I→List (Option Nat)→List (Nat×I)→Option (List I×aj)
 |s,eK,_,[]=>some (eK,s)
 |s,eK,os,(k,a)::r=>match bV s (lJ os a),place k,eK[k]? with
  |some (d,s1),some (off,n),some z=>match d with
   | .tuple _=>none
   |d=>if d.wd=n∧z.wd=n∧I.cO (eK.take k)=off then lK place s1 (eK.set k d) (os++[(lJ os a).owner]) r else none
  |_,_,_=>none
def lL (w:World) (F:Nat→Prop) (s:aj) (ao:Nat→Value):List (Nat×I)→List (Nat×Value)→Prop
 |[],[]=>True
 |(k,a)::r,(cB,v)::fl=>k=cB∧a.plain=true∧ay w F s ao a v (fun _=>False)∧lL w F s ao r fl
 |_,_=>False
theorem I3 (x:Nat):∀d:I,d.plain=true→(bs x d).plain=true
 | .h y q,_=>by simp only[bs];split<;>(try split)<;>rfl
 | .ak y q,_=>by simp only[bs];split<;>rfl
 | .R y q,_=>rfl
 | .fn f c,_=>by simp only[bs];rfl
 | .hole,h=>h
 | .bool _,h=>h
 | .dk,h=>h
 | .int _ _,h=>h
 | .str _,h=>h
 | .ct,h=>h
 | .bD,h=>h
 | .slice _,h=>h
 | .aE _ _,h=>h
 | .ref _,h=>h
 | .a_ _,h=>h
 | .agg _,h=>h
 | .tuple _,h=>h
theorem I4 (o:Option Nat) (d:I) (h:d.plain=true):(iv o d).plain=true:=by
 cases o with
 |none=>exact h
 |some x=>exact I3 x d h
theorem lL.bs {w:World} {F:Nat→Prop} {s s1:aj} {ao:Nat→Value} {o:Option Nat} (ak:∀(aY:I) (eo:Value) (aF:Nat→Prop),ay w F s ao aY eo aF→ay w F s1 ao (iv o aY) eo aF):
  ∀(r:List (Nat×I)) (fl:List (Nat×Value)),lL w F s ao r fl→lL w F s1 ao (r.map fun p=>(p.1,iv o p.2)) fl
 |[],[],_=>trivial
 |(k,a)::r,(cB,v)::fl,h=>by
  obtain⟨ab,ad,aB,aR⟩:=h
  exact⟨ab,I4 _ _ ad,ak _ _ _ aB,lL.bs ak r fl aR⟩
 |[],_::_,h=>h.elim
 |_::_,[],h=>h.elim
theorem yr {place:Nat→Option (Nat×Nat)}:∀(ps:List (Nat×I)) (vs:List (Nat×Value)) (os:List (Option Nat)) (s:aj) (S:Nat→Nat→Prop) (eK:List I) (A:Array Value) (fs:Nat→Prop),
  bb w0 F0 X F S s ao w→lL w F s ao (ps.map fun p=>(p.1,lJ os p.2)) vs→aN w F eK A.toList fs→(∀b,fs b→b<w.heap.size)→(∀b,fs b→¬F b)→(∀u b,fs b→¬S u b)→(∀b,fs b→X b∨w0.heap.size≤b)→
  ∀ds s1,lK place s eK os ps=some (ds,s1)→∃cW bo eS,Instr.fill place A vs=some cW∧bb w0 F0 X F bo s1 ao w∧aN w F ds cW.toList eS∧(∀b,eS b→b<w.heap.size)∧(∀b,eS b→¬F b)∧(∀u b,eS b→¬bo u b)∧
   (∀b,eS b→X b∨w0.heap.size≤b)∧ds.length=eK.length∧I.cO ds=I.cO eK∧(∀n,(∀d∈eK,d.wd=n)→∀d∈ds,d.wd=n)
 |[],[],os,s,S,eK,A,fs,h,_,ab,ad,aB,aR,ba,ds,s1,he=>by
  simp only[lK,Option.some.injEq,Prod.mk.injEq]at he
  obtain⟨rfl,rfl⟩:=he
  exact⟨A,S,fs,rfl,h,ab,ad,aB,aR,ba,rfl,rfl,fun _ h=>h⟩
 |(k,a)::ps,(cB,v)::vs,os,s,S,eK,A,fs,h,ak,ab,ad,aB,aR,ba,ds,s1,he=>by
  obtain⟨rfl,iz,l6,s9⟩:=ak
  simp only[lK]at he
  split at he
  ·rename_i d s_ off n z aO fi bp
   have key:∀d:I,(∀ag,d≠.tuple ag)→bV s (lJ os a)=some (d,s_)→(if d.wd=n∧z.wd=n∧I.cO (eK.take k)=off then lK place s_ (eK.set k d) (os++[(lJ os a).owner]) ps else none)=some (ds,s1)→
     ∃cW bo eS,Instr.fill place A ((k,v)::vs)=some cW∧bb w0 F0 X F bo s1 ao w∧aN w F ds cW.toList eS∧(∀b,eS b→b<w.heap.size)∧(∀b,eS b→¬F b)∧(∀u b,eS b→¬bo u b)∧
     (∀b,eS b→X b∨w0.heap.size≤b)∧ds.length=eK.length∧I.cO ds=I.cO eK∧(∀n,(∀d∈eK,d.wd=n)→∀d∈ds,d.wd=n):=by
    intro d nL aO he
    split at he
    ·rename_i ai
     obtain⟨vr,pB,Ce⟩:=ai
     obtain⟨bo,g0,g1,g2,Sn,g3,g4,g5,g6,g7,g8,g9,g10⟩:=l7 h iz l6 aO
     obtain⟨bJ,eb,c2,Sx,fC,dS,ft,ee,e7,fX,en,jN⟩:=aN.pick eK _ _ k z ab bp
     have l_:=sT g2 nL
     have kV:=an.length _ _ _ g3
     have Cf:=an.length _ _ _ en
     have oy:=jN w d (bx v) Sn (fun _ _=>rfl) (fun _ _=>rfl) g3 (fun b I5 I6=>by obtain⟨u,hu⟩:=g9 b I5;exact aR u b (ee b I6) hu)
     have Cg:=Cd (bx v) 0 off A bJ eb c2 dS (by rw[ft,Ce];rfl) (by rw[Cf,kV,vr,pB])
     generalize ta:((bx v).zipIdx 0).foldl (fun cs (x:Value×Nat)=>cs.setIfInBounds (off+x.2) x.1) A=vc at Cg
     obtain⟨cW,cu,eS,m1,m2,m3,m4,m5,m6,m7,m8,m9,m10⟩:=yr (place:=place) ps vs (os++[(lJ os a).owner]) s_ bo (eK.set k d) vc (fun b=>Sx b∨Sn b) g0 (by have:=lL.bs g10 _ _ s9;simpa [lJ,List.foldl_append,Function.comp_def]using this) (by rw[Cg];exact oy)
      (by rintro b (R|R);exact ad b (ee b R);exact g4 b R) (by rintro b (R|R);exact aB b (ee b R);exact g5 b R)
      (by rintro u b (R|R);exact fun hu=>aR u b (ee b R) (g8 u b hu);exact g6 u b R) (by rintro b (R|R);exact ba b (ee b R);exact g7 b R) ds s1 he
     refine⟨cW,cu,eS,?_,m2,m3,m4,m5,m6,m7,by rw[m8];simp,by rw[m9];exact xC _ _ _ _ bp (by rw[vr,pB]),?_⟩
     ·have ys:off+n≤A.size:=by
       have:A.size=A.toList.length:=by simp
       rw[this,dS];simp[ft,Ce,Cf,pB]
      simp only[Instr.fill,fi,l_,List.size_toArray,kV,vr]
      have iu:¬(n≠n∨A.size<off+n):=by omega
      have I7:(bx v).toArray.zipIdx.foldl (fun cs (x:Value×Nat)=>cs.setIfInBounds (off+x.2) x.1) A=vc:=by
       rw[←ta,←Array.foldl_toList];simp
      simp only[ne_eq,not_true_eq_false,decide_false,Bool.false_or,decide_eq_true_eq,gt_iff_lt]
      rw[if_neg (by simp;omega)]
      rw[show(bx v).toArray.zipIdx.foldl (fun cs x=>match x with|(c,j)=>cs.setIfInBounds (off+j) c) A=vc from I7]
      exact m1
     ·intro I8 mT
      refine m10 I8 (xD mT ?_)
      rw[vr,←pB];exact mT z (List.mem_of_getElem? bp)
    ·cases he
   split at he
   ·cases he
   ·rename_i nL
    exact key _ (fun ag e=>nL ag e) aO he
  ·cases he
 |[],_::_,_,_,_,_,_,_,_,ak,_,_,_,_,_,_,_,_=>ak.elim
 |_::_,[],_,_,_,_,_,_,_,ak,_,_,_,_,_,_,_,_=>ak.elim
def dR (C:bt) (s:aj) (T:TypeId) (ps:List (Nat×I)):Option (I×aj):=
 match(C.T T).k,(C.T T).zero with
 | .struct ag,.agg eK=>if(flat (.agg eK)).isSome=true∧(∀f∈ag,(C.T f.1).ok=true)then
   (match lK (fun k=>(ag[k]?).map fun f=>(f.2,(C.T f.1).sz)) s eK [] ps with
   |some (ds,s1)=>some (.agg ds,s1)
   |none=>none)else none
 |_,_=>none
def cX (C:bt) (s:aj) (T:TypeId) (n:Nat) (ps:List (Nat×I)):Option (I×aj):=
 match(C.T T).k with
 | .slice e=>if(C.T e).ok=true∧(C.T e).zero.wd=(C.T e).sz∧(flat (C.T e).zero).isSome=true∧(C.T e).sz≠0∧n*(C.T e).sz≤16777216 then
   (match lK (fun k=>some (k*(C.T e).sz,(C.T e).sz)) s (List.replicate n (C.T e).zero) [] ps with
   |some (ds,s1)=>some (.aE (C.T e).sz ds,s1)
   |none=>none)else none
 |_=>none
theorem I9 (aU:C.dn):∀(gs:List Field),(∀g∈gs,(C.T g.type).ok=true)→
  gs.mapM (fun f=>(C.P.info? f.type).map fun i=>(f.offset,i.size))=some (gs.map fun g=>(g.offset,(C.T g.type).sz)):=by
 intro gs
 induction gs with
 |nil=>intro _;simp
 |cons g gs ih=>
  intro hg
  obtain⟨i,d,z,f1,f2,f3,f4,f5,f6,f7⟩:=aU.info (hg g (by simp))
  have:=ih (fun g fa=>hg g (by simp[fa]))
  simp[List.mapM_cons,f1,f2,this]
theorem I_ (aU:C.dn) (h:bb w0 F0 X F S s ao w) {T:TypeId} {ps:List (Nat×I)} {vs:List (Nat×Value)} (ak:lL w F s ao ps vs) (he:dR C s T ps=some (av,s1)):
  Good C w0 F0 X ao w (Instr.build T vs.toArray) av s1:=by
 unfold dR at he
 split at he
 ·rename_i ag eK al bp
  split at he
  ·rename_i ai
   obtain⟨nQ,Ja⟩:=ai
   split at he
   ·rename_i ds s2 gP
    simp only[Option.some.injEq,Prod.mk.injEq]at he
    obtain⟨rfl,rfl⟩:=he
    obtain⟨i,d,z,aH,aJ,aK,b0,b_,bw,bn⟩:=aU.info (eg al (by simp))
    rw[al]at bn
    obtain⟨gs,rfl,Ch⟩:=sP bn
    obtain⟨du,ko⟩:=Option.isSome_iff_exists.1 nQ
    have nR:=b_ du (by rw[bp];exact ko)
    have eP:aN w F eK du.toArray.toList (fun _=>False):=by
     have:=(an.flat (w:=w) (F:=F) _).1 (.agg eK) du (fun _=>False) (Nat.le_refl _) ko
     rw[an]at this
     simpa using this
    have c7:lL w F s ao (ps.map fun p=>(p.1,lJ [] p.2)) vs:=by simpa [lJ]using ak
    obtain⟨cW,bo,eS,m1,m2,m3,m4,m5,m6,m7,m8,m9,m10⟩:=yr ps vs [] s S eK du.toArray (fun _=>False) h c7 eP (fun _ h=>h.elim) (fun _ h=>h.elim) (fun _ _ h=>h.elim) (fun _ h=>h.elim) ds s2 gP
    have fi:=I9 aU gs.toList (fun g hg=>Ja (g.type,g.offset) (by rw[←Ch];exact List.mem_map_of_mem hg))
    have Jb:(fun(k:Nat)=>(ag[k]?).map fun(f:TypeId×Nat)=>(f.2,(C.T f.1).sz))=fun(k:Nat)=>((gs.toList.map fun g=>(g.offset,(C.T g.type).sz)).toArray)[k]? :=by
     funext k
     rw[←Ch]
     simp only[List.getElem?_map,List.getElem?_toArray,Option.map_map]
     rfl
    rw[Jb]at m1
    refine⟨.agg cW,w,F,bo,run_build w T vs.toArray cW ?_,m2,.inr ⟨rfl,⟨_,rfl⟩,eS,by simp only[bx,fD];rw[an];exact m3,m4,m5,m6,m7⟩⟩
    unfold Program.built
    simp only[aH,bw,b0,fi,nR]
    exact m1
   ·cases he
  ·cases he
 ·cases he
theorem Jc (aU:C.dn) (h:bb w0 F0 X F S s ao w) {T:TypeId} {n:Nat} {ps:List (Nat×I)} {vs:List (Nat×Value)} (ak:lL w F s ao ps vs) (he:cX C s T n ps=some (av,s1)):
  Good C w0 F0 X ao w (Instr.buildSlice T n vs.toArray) av s1:=by
 unfold cX at he
 split at he
 ·rename_i e al
  split at he
  ·rename_i ai
   obtain⟨mc,mR,nQ,cV,abx⟩:=ai
   split at he
   ·rename_i ds s2 gP
    simp only[Option.some.injEq,Prod.mk.injEq]at he
    obtain⟨rfl,rfl⟩:=he
    obtain⟨yi,d,yj,aH,aJ,aK,b0,b_,bw,bn⟩:=aU.info (eg al (by simp))
    rw[al]at bn
    have:=iW bn;subst this
    obtain⟨i,yk,z,f1,f2,f3,f4,f5,f6,f7⟩:=aU.info mc
    obtain⟨du,ko⟩:=Option.isSome_iff_exists.1 nQ
    have nR:=f5 du ko
    have eP:∀aF,an w F (C.T e).zero du aF:=fun aF=>(an.flat _).1 _ du aF (Nat.le_refl _) ko
    have mf:du.length=(C.T e).sz:=by rw[an.length _ _ _ (eP (fun _=>False)),mR]
    generalize dS:((Array.range (n*(C.T e).sz)).map ((if n*(C.T e).sz=0 then #[]else du.toArray)[·%(if n*(C.T e).sz=0 then(#[]:Array Value)else du.toArray).size]!))=A
    have ys:A.toList=(List.replicate n du).flatten:=by
     rw[←dS]
     by_cases bm:n*(C.T e).sz=0
     ·have:n=0:=by
       rcases Nat.mul_eq_zero.1 bm with h|h
       ·exact h
       ·exact(cV h).elim
      subst this
      simp
     ·simp only[bm,if_false]
      have:=vo du n
      rw[mf]at this
      simpa [mf]using this
    have c7:lL w F s ao (ps.map fun p=>(p.1,lJ [] p.2)) vs:=by simpa [lJ]using ak
    obtain⟨cW,bo,eS,m1,m2,m3,m4,m5,m6,m7,m8,m9,m10⟩:=yr ps vs [] s S (List.replicate n (C.T e).zero) A (fun _=>False) h c7 (by rw[ys];exact aN.replicate eP n _) (fun _ h=>h.elim) (fun _ h=>h.elim) (fun _ _ h=>h.elim) (fun _ h=>h.elim) ds s2 gP
    have hlen:ds.length=n:=by rw[m8];simp
    have Ci:=m10 (C.T e).sz (by intro d ae;rw[List.eq_of_mem_replicate ae];exact mR)
    have Jd:cW.toList.length=n*(C.T e).sz:=by rw[aN.pK m3 Ci,hlen]
    have Je:cW.size=n*(C.T e).sz:=by rw[←Jd];simp
    have aby:n≤16777216:=by
     have:n*1≤n*(C.T e).sz:=Nat.mul_le_mul_left _ (by omega)
     omega
    have iy:=m2.sZ (aw:=w.alloc (.cells cW e)) (sz:=(C.T e).sz) (cap:=n) (xs:=ds) (cur:=cW) (e:=e) (fr:=(0,0)) (Sn:=eS) rfl rfl rfl ⟨rfl,fun _=>Nat.le_refl _⟩
     (fun o _ ⟨_,ad⟩=>absurd ad (Nat.not_lt_zero _)) (by omega) (by unfold maxLen;omega) Je Ci (by rw[hlen,List.take_of_length_le (by omega)];exact m3) m4 m5 m6 m7
    rw[hlen]at iy
    refine⟨_,_,F,bo,?_,iy.1,iy.2⟩
    by_cases bm:n*(C.T e).sz=0
    ·simp only[bm,if_true]at dS
     have qZ:(Array.map (fun _=>(default:Value)) (Array.range 0))=A:=by
      have:n=0:=by
       rcases Nat.mul_eq_zero.1 bm with h|h
       ·exact h
       ·exact(cV h).elim
      apply Array.ext'
      rw[ys,this]
      simp
     simp[Instr.buildSlice,run_underlying bw,hR f1,f2,bm,newRow]
     rw[qZ,m1]
     simp
    ·simp only[bm,if_false]at dS
     have iu:¬(16777216<n*(C.T e).sz):=by omega
     simp[Instr.buildSlice,run_underlying bw,hR f1,f2,bm,iu,pA f1 f4,nR,newRow]
     have qZ:(Array.map (fun x=>du[x%du.length]?.getD default) (Array.range (n*(C.T e).sz)))=A:=by
      rw[←dS];simp
     rw[qZ,m1]
     simp
   ·cases he
  ·cases he
 ·cases he
end
inductive ej where
 |bZ (x:ax)
 |dM (x:ax)
 |pick (c a b:ax)
 |fv (T:TypeId)
 |ep (T:TypeId) (x:ax)
 |dR (T:TypeId) (ps:List (Nat×ax))
 |cX (T:TypeId) (n:Nat) (ps:List (Nat×ax))
 |dh (T:TypeId) (x:ax)
 |eh (T:TypeId) (x y:ax)
 |ew (x:ax)
 |bB (op:BinOp) (T:TypeId) (x y:ax)
 |un (op:UnOp) (x:ax)
 |ei (A B:TypeId) (x:ax)
 |h_ (f:FuncId) (cs:List ax)
 |er (T:TypeId) (l c:ax)
 |cF (T:TypeId) (x:ax) (cb aA:Option ax)
 |ev (T:TypeId) (x:ax) (k:Nat)
 |eI (T:TypeId) (x i:ax)
 |idx (T:TypeId) (x i:ax)
 |ex (x:ax) (k:Nat)
 |jS (T:TypeId) (x:ax) (k:Nat)
 |call (f:ax) (args:List ax)
 |len (T:TypeId) (x:ax)
 |app (T bc:TypeId) (x y:ax)
 |shr (bd:ej)
 |lI (T bc:TypeId) (x y:ax)
 |cap (T:TypeId) (x:ax)
 |gd (dm:Bool) (x y:ax)
 |bad
 |kq (f:ax) (args:List ax) (u x:Nat)
 |kr (f:ax) (args:List ax) (us:List Nat)
 |iZ (T:TypeId) (x:ax)
 |oG (x:ax)
 |nS (x:ax)
 |tb
 |lH (T:TypeId) (x i:ax)
 |kp (T:TypeId) (x i v:ax)
def ej.base:ej→ej
 | .shr bd=>bd
 | .lI T bc x y=>.app T bc x y
 | .kq f args _ _=>.call f args
 | .kr f args _=>.call f args
 | .iZ T x=>.ep T x
 | .oG x=>.dM x
 | .nS x=>.bZ x
 |bd=>bd
def q0:List Operand→Option (List ax)
 |[]=>some []
 |o::os=>match cv o,q0 os with
  |some x,some xs=>some (x::xs)
  |_,_=>none
def q1:List (Nat×Operand)→Option (List (Nat×ax))
 |[]=>some []
 |(k,o)::os=>match cv o,q1 os with
  |some x,some xs=>some ((k,x)::xs)
  |_,_=>none
def tc:Option Operand→Option (Option ax)
 |none=>some none
 |some o=>(cv o).map some
def b7:Op→Option ej
 | .move x=>(cv x).map .bZ
 | .assign x=>(cv x).map .dM
 | .pick c a b=>match cv c,cv a,cv b with
   |some c,some a,some b=>some (.pick c a b)
   |_,_,_=>none
 | .alloc T=>some (.fv T)
 | .box T x=>(cv x).map (.ep T)
 | .build T ps=>(q1 ps.toList).map (.dR T)
 | .buildSlice T n ps=>(q1 ps.toList).map (.cX T n)
 | .load T x=>(cv x).map (.dh T)
 | .store T x y=>match cv x,cv y with
   |some x,some y=>some (.eh T x y)
   |_,_=>none
 | .nilCheck x=>(cv x).map .ew
 | .binOp op T x y _=>match cv x,cv y with
   |some x,some y=>some (.bB op T x y)
   |_,_=>none
 | .unOp op _ x=>(cv x).map (.un op)
 | .convert A B x=>(cv x).map (.ei A B)
 | .makeFunc (.func f) first cs=>if first.isEmpty then(q0 cs.toList).map (.h_ f)else none
 | .makeSlice T l c=>match cv l,cv c with
   |some l,some c=>some (.er T l c)
   |_,_=>none
 | .slice T x cb aA none=>match cv x,tc cb,tc aA with
   |some x,some cb,some aA=>some (.cF T x cb aA)
   |_,_,_=>none
 | .fieldAddr T x k=>(cv x).map fun x=>.ev T x k
 | .indexAddr T x i=>match cv x,cv i with
   |some x,some i=>some (.eI T x i)
   |_,_=>none
 | .index T x i=>match cv x,cv i with
   |some x,some i=>some (.idx T x i)
   |_,_=>none
 | .extract x k=>(cv x).map fun x=>.ex x k
 | .field T x k=>(cv x).map fun x=>.jS T x k
 | .makeMap _ none=>some .tb
 | .lookup T x i false=>match cv x,cv i with
   |some x,some i=>some (.lH T x i)
   |_,_=>none
 | .mapUpdate T x i v=>match cv x,cv i,cv v with
   |some x,some i,some v=>some (.kp T x i v)
   |_,_,_=>none
 | .call c=>match c.callee with
   | .value f=>match cv f,q0 c.args.toList with
     |some f,some xs=>some (.call f xs)
     |_,_=>none
   | .builtin .len=>match c.args.toList,c.argTypes.toList with
     |[x],[T]=>(cv x).map (.len T)
     |_,_=>none
   | .builtin .cap=>match c.args.toList,c.argTypes.toList with
     |[x],[T]=>(cv x).map (.cap T)
     |_,_=>none
   | .builtin .min=>match c.args.toList with
     |[x,y]=>match cv x,cv y with
      |some x,some y=>some (.gd false x y)
      |_,_=>none
     |_=>none
   | .builtin .max=>match c.args.toList with
     |[x,y]=>match cv x,cv y with
      |some x,some y=>some (.gd true x y)
      |_,_=>none
     |_=>none
   | .builtin .append=>match c.args.toList,c.argTypes.toList with
     |[x,y],[T,bc]=>match cv x,cv y with
      |some x,some y=>some (.app T bc x y)
      |_,_=>none
     |_,_=>none
   |_=>none
 |_=>none
def gd (dm:Bool):I→I→Option I
 | .str a,.str b=>some (.str (u0 dm a b))
 | .int k a,.int cB b=>if k=cB then some (.int k (eA dm a b))else none
 |_,_=>none
def mU (s:aj):I→Option (I×aj)
 | .h y q=>bV s (.h y q)
 |d=>some (d,s)
def a8 (C:bt) (s:aj):ej→Option (I×aj)
 | .bZ x=>some (az s x,s)
 | .dM x=>match az s x with
   | .h y q=>bV s (.h y q)
   |d=>some (d,s)
 | .pick c a b=>match az s c with
   | .bool dQ=>some (if dQ then az s a else az s b,s)
   |_=>none
 | .fv T=>(fv C T).map fun d=>(d,s)
 | .ep _ x=>ep s (az s x)
 | .dR T ps=>dR C s T (ps.map fun p=>(p.1,az s p.2))
 | .cX T n ps=>cX C s T n (ps.map fun p=>(p.1,az s p.2))
 | .dh T x=>(dh C s T (az s x)).map fun d=>(d,s)
 | .eh T x y=>(eh C s T (az s x) (az s y)).map fun s1=>(.hole,s1)
 | .ew x=>(ew s (az s x)).map fun d=>(d,s)
 | .bB op T x y=>(bB C s op T (az s x) (az s y)).map fun d=>(d,s)
 | .un op x=>(un op (az s x)).map fun d=>(d,s)
 | .ei A B x=>(ei C s A B (az s x)).map fun d=>(d,s)
 | .h_ f cs=>some (.fn f (cs.map (az s)),s)
 | .er T l c=>(er C T (az s l) (az s c)).map fun d=>(d,s)
 | .cF T x cb aA=>cF C s T (az s x) (cb.map (az s)) (aA.map (az s))
 | .ev T x k=>(ev C s T (az s x) k).map fun d=>(d,s)
 | .eI T x i=>(eI C s T (az s x) (az s i)).map fun d=>(d,s)
 | .idx T x i=>(idx C T (az s x) (az s i)).map fun d=>(d,s)
 | .ex x k=>(ex s (az s x) k).map fun d=>(d,s)
 | .jS T x k=>(jS C s T (az s x) k).bind (mU s)
 | .call _ _=>none
 | .len T x=>(jT C s T (az s x)).map fun d=>(d,s)
 | .app T bc x y=>jU C s T bc (az s x) (az s y)
 | .shr _=>none
 | .kq _ _ _ _=>none
 | .kr _ _ _=>none
 | .iZ _ x=>iZ s (az s x)
 | .oG x=>some (az s x,s)
 | .nS x=>mU s (az s x)
 | .tb=>some (.cH (.mp []),s)
 | .lH T x i=>(lH C s T (az s x) (az s i)).map fun d=>(d,s)
 | .kp T x i v=>(kp C s T (az s x) (az s i) (az s v)).map fun s1=>(.hole,s1)
 | .lI T bc x y=>(lI C T bc (az s x) (az s y)).map fun d=>(d,s)
 | .cap T x=>match(C.T T).k,az s x with
   | .slice _,.bD=>some (.int .i64 0,s)
   |_,_=>none
 | .gd dm x y=>(gd dm (az s x) (az s y)).map fun d=>(d,s)
 | .bad=>none
section
variable {C:bt} {w0 w:World} {F0 X F:Nat→Prop} {S:Nat→Nat→Prop} {s s1:aj} {a:Act} {av:I}
theorem pP:∀{os:List Operand} {xs:List ax},q0 os=some xs→os.map cv=xs.map some
 |[],xs,h=>by simp[q0]at h;subst h;rfl
 |o::os,xs,h=>by
  simp only[q0]at h
  split at h
  ·rename_i x Jf ab ad
   simp at h;subst h
   simp[ab,pP ad]
  ·cases h
theorem yt {ao:Nat→Value} (h:bb w0 F0 X F S s ao w) (cR:∀t,ao t=a.tmps.getD t undef):∀{ps:List (Nat×Operand)} {xs:List (Nat×ax)},q1 ps=some xs→
  lL w F s ao (xs.map fun p=>(p.1,az s p.2)) (ps.map fun p=>(p.1,a.eval p.2))
 |[],xs,h=>by simp[q1]at h;subst h;trivial
 |(k,o)::ps,xs,aS=>by
  simp only[q1]at aS
  split at aS
  ·rename_i x Jf ab ad
   simp at aS;subst aS
   obtain⟨g1,g2⟩:=dy h cR ab
   exact⟨rfl,g1,g2,yt h cR ad⟩
  ·cases aS
def Next (C:bt) (w0:World) (F0 X:Nat→Prop) (ao:Nat→Value) (w:World) (m:Sem Go.Next) (av:I) (s1:aj):Prop:=
 ∃r aw v bf aF,m.run C.P w= .ok r aw∧(r= .value v∨r= .skip∧v=undef)∧bb w0 F0 X bf aF s1 ao aw∧iV w0 X bf aF s1 ao aw av v
theorem Good.next {ao:Nat→Value} {m:Sem Value} (h:Good C w0 F0 X ao w m av s1):Next C w0 F0 X ao w (do pure (.value (←m))) av s1:=by
 obtain⟨v,aw,bf,aF,ab,ad,aB⟩:=h
 exact⟨.value v,aw,v,bf,aF,by simp[ab],.inl rfl,ad,aB⟩
theorem Cj {ao:Nat→Value} (h:bb w0 F0 X F S s ao w) {dm:Bool} {x y:I} {fF gr:Value} {m:Sem Go.Next} (ab:ay w F s ao x fF (fun _=>False)) (ad:ay w F s ao y gr (fun _=>False))
  (he:(gd dm x y).map (fun d=>(d,s))=some (av,s1)) (hm:m=(do pure (.value (←if dm then Builtin.max2 fF gr else Builtin.min2 fF gr)))):Next C w0 F0 X ao w m av s1:=by
 simp only[Option.map_eq_some_iff,Prod.mk.injEq]at he
 obtain⟨d,ae,rfl,rfl⟩:=he
 unfold gd at ae
 split at ae
 ·rename_i a b
  simp only[Option.some.injEq]at ae;subst ae
  have aH:=jQ ab
  have aJ:=jQ ad
  subst aH aJ
  subst hm
  refine⟨.value (.string ⟨⟨u0 dm a b⟩⟩),w,_,F,S,?_,.inl rfl,h,.inl ⟨rfl,ma _⟩⟩
  cases dm
  ·simp only[Builtin.min2,Op.stringOp,sU,u0,Bool.false_eq_true,if_false]
   cases R:(Op.bytesLess a b||a==b)<;>simp[asBool]
  ·simp only[Builtin.max2,Op.stringOp,sU,u0,if_true]
   cases R:Op.bytesLess a b<;>simp[asBool]
 ·rename_i k a cB b
  split at ae
  ·rename_i al
   subst al
   simp only[Option.some.injEq]at ae;subst ae
   have aH:=kn ab
   have aJ:=kn ad
   subst aH aJ
   subst hm
   refine⟨.value (.int k (eA dm a b)),w,_,F,S,?_,.inl rfl,h,.inl ⟨rfl,of_int _ _⟩⟩
   cases dm<;>simp[Builtin.min2,Builtin.max2,eA]
  ·cases ae
 ·cases ae
theorem Ck (aU:C.dn) {ao:Nat→Value} (h:bb w0 F0 X F S s ao w) (cR:∀t,ao t=a.tmps.getD t undef) {o:Oper} {bd:ej} (U:b7 o.op=some bd) (he:a8 C s bd=some (av,s1)):
  Next C w0 F0 X ao w (execOp a.eval o) av s1:=by
 obtain⟨dst,op,ty,pos,after,guard⟩:=o
 simp only at U
 cases op with
 |move x=>
  simp only[b7,Option.map_eq_some_iff]at U
  obtain⟨b6,aq,rfl⟩:=U
  obtain⟨g1,g2⟩:=dy h cR aq
  simp only[a8,Option.some.injEq,Prod.mk.injEq]at he
  obtain⟨rfl,rfl⟩:=he
  exact⟨_,w,_,F,S,rfl,.inl rfl,h,.inl ⟨g1,g2⟩⟩
 |assign x=>
  simp only[b7,Option.map_eq_some_iff]at U
  obtain⟨b6,aq,rfl⟩:=U
  obtain⟨g1,g2⟩:=dy h cR aq
  simp only[a8]at he
  split at he
  ·rename_i y q hy
   rw[hy]at g1 g2
   obtain⟨bo,k0,bz,bK,Sn,df,cx,dB,dZ,gu,_⟩:=l7 h g1 g2 he
   exact⟨_,w,_,F,bo,rfl,.inl rfl,k0,.inr ⟨bz,bK,Sn,df,cx,dB,dZ,gu⟩⟩
  ·simp only[Option.some.injEq,Prod.mk.injEq]at he
   obtain⟨rfl,rfl⟩:=he
   exact⟨_,w,_,F,S,rfl,.inl rfl,h,.inl ⟨g1,g2⟩⟩
 |pick c x y=>
  simp only[b7]at U
  split at U
  ·rename_i pQ b6 h7 ai aq hy
   simp only[Option.some.injEq]at U;subst U
   simp only[a8]at he
   split at he
   ·rename_i b R
    simp only[Option.some.injEq,Prod.mk.injEq]at he
    obtain⟨rfl,rfl⟩:=he
    have pO:=(dy h cR ai).2
    rw[R]at pO
    have pO:=oz pO
    obtain⟨aI,aT⟩:=dy h cR aq
    obtain⟨kW,td⟩:=dy h cR hy
    refine⟨.value (if b then a.eval x else a.eval y),w,_,F,S,?_,.inl rfl,h,.inl ?_⟩
    ·simp[execOp,pO,asBool]
    ·cases b
     ·exact⟨kW,td⟩
     ·exact⟨aI,aT⟩
   ·cases he
  ·cases U
 |alloc T=>
  simp only[b7,Option.some.injEq]at U;subst U
  simp only[a8,Option.map_eq_some_iff,Prod.mk.injEq]at he
  obtain⟨d,ae,rfl,rfl⟩:=he
  exact(H2 aU h ae).next
 |box T x=>
  simp only[b7,Option.map_eq_some_iff]at U
  obtain⟨b6,aq,rfl⟩:=U
  obtain⟨g1,g2⟩:=dy h cR aq
  exact(H6 h g1 g2 he).next
 |build T ps=>
  simp only[b7,Option.map_eq_some_iff]at U
  obtain⟨Jg,ak,rfl⟩:=U
  obtain⟨ps⟩:=ps
  have:=(I_ aU h (yt h cR ak) he).next
  simpa [execOp]using this
 |buildSlice T n ps=>
  simp only[b7,Option.map_eq_some_iff]at U
  obtain⟨Jg,ak,rfl⟩:=U
  obtain⟨ps⟩:=ps
  have:=(Jc aU h (yt h cR ak) he).next
  simpa [execOp]using this
 |load T x=>
  simp only[b7,Option.map_eq_some_iff]at U
  obtain⟨b6,aq,rfl⟩:=U
  obtain⟨g1,g2⟩:=dy h cR aq
  simp only[a8,Option.map_eq_some_iff,Prod.mk.injEq]at he
  obtain⟨d,ae,rfl,rfl⟩:=he
  exact(HW aU h g2 ae).next
 |store T x y=>
  simp only[b7]at U
  split at U
  ·rename_i b6 h7 aq hy
   simp only[Option.some.injEq]at U;subst U
   simp only[a8,Option.map_eq_some_iff,Prod.mk.injEq]at he
   obtain⟨s2,ae,rfl,rfl⟩:=he
   obtain⟨aw,aF,ab,ad⟩:=HZ aU h (dy h cR aq).2 (dy h cR hy).1 (dy h cR hy).2 ae
   exact⟨.skip,aw,undef,F,aF,by simp[execOp,ab],.inr ⟨rfl,rfl⟩,ad,.inl ⟨rfl,by rw[ay];trivial⟩⟩
  ·cases U
 |nilCheck x=>
  simp only[b7,Option.map_eq_some_iff]at U
  obtain⟨b6,aq,rfl⟩:=U
  obtain⟨g1,g2⟩:=dy h cR aq
  simp only[a8,Option.map_eq_some_iff,Prod.mk.injEq]at he
  obtain⟨d,ae,rfl,rfl⟩:=he
  obtain⟨rfl,ak,aG⟩:=Il h g2 ae
  refine⟨.value (a.eval x),w,_,F,S,?_,.inl rfl,h,.inl ⟨ak,g2⟩⟩
  rcases aG with⟨b,R⟩|⟨f,c,R⟩<;>simp[execOp,R]
 |binOp op T x y abz=>
  simp only[b7]at U
  split at U
  ·rename_i b6 h7 aq hy
   simp only[Option.some.injEq]at U;subst U
   simp only[a8,Option.map_eq_some_iff,Prod.mk.injEq]at he
   obtain⟨d,ae,rfl,rfl⟩:=he
   exact(Ii aU h x y (dy h cR aq).2 (dy h cR hy).2 ae).next
  ·cases U
 |unOp op T x=>
  simp only[b7,Option.map_eq_some_iff]at U
  obtain⟨b6,aq,rfl⟩:=U
  simp only[a8,Option.map_eq_some_iff,Prod.mk.injEq]at he
  obtain⟨d,ae,rfl,rfl⟩:=he
  exact(Ij h (dy h cR aq).2 ae).next
 |convert A B x=>
  simp only[b7,Option.map_eq_some_iff]at U
  obtain⟨b6,aq,rfl⟩:=U
  simp only[a8,Option.map_eq_some_iff,Prod.mk.injEq]at he
  obtain⟨d,ae,rfl,rfl⟩:=he
  exact(Iv aU h (dy h cR aq).2 ae).next
 |makeFunc fn first cs=>
  cases fn with
  |func f=>
   simp only[b7]at U
   split at U
   ·rename_i Jh
    simp only[Option.map_eq_some_iff]at U
    obtain⟨oH,hS,rfl⟩:=U
    simp only[a8,Option.some.injEq,Prod.mk.injEq]at he
    obtain⟨rfl,rfl⟩:=he
    have Ji:first= #[]:=by simpa using Jh
    subst Ji
    refine⟨_,w,_,F,S,rfl,.inl rfl,h,.inl ⟨rfl,?_⟩⟩
    rw[ay]
    refine⟨cs.map a.eval,by simp,?_⟩
    simpa using vq h cR _ _ (pP hS)
   ·cases U
  |_=>simp[b7]at U
 |makeSlice T l c=>
  simp only[b7]at U
  split at U
  ·rename_i b6 h7 aq hy
   simp only[Option.some.injEq]at U;subst U
   simp only[a8,Option.map_eq_some_iff,Prod.mk.injEq]at he
   obtain⟨d,ae,rfl,rfl⟩:=he
   exact(I0 aU h (dy h cR aq).2 (dy h cR hy).2 ae).next
  ·cases U
 |slice T x cb aA dm=>
  cases dm with
  |some m=>simp[b7]at U
  |none=>
   simp only[b7]at U
   split at U
   ·rename_i b6 abA Cl aq lC lD
    simp only[Option.some.injEq]at U;subst U
    obtain⟨g1,g2⟩:=dy h cR aq
    have opt:∀{o:Option Operand} {kX:Option ax},tc o=some kX→nO w F s ao (kX.map (az s)) (o.map a.eval):=by
     intro o kX bL
     cases o with
     |none=>simp[tc]at bL;subst bL;trivial
     |some o=>
      simp only[tc,Option.map_eq_some_iff]at bL
      obtain⟨x,aq,rfl⟩:=bL
      exact(dy h cR aq).2
    exact(Iy aU h g1 g2 (opt lC) (opt lD) he).next
   ·cases U
 |fieldAddr T x k=>
  simp only[b7,Option.map_eq_some_iff]at U
  obtain⟨b6,aq,rfl⟩:=U
  obtain⟨g1,g2⟩:=dy h cR aq
  simp only[a8,Option.map_eq_some_iff,Prod.mk.injEq]at he
  obtain⟨d,ae,rfl,rfl⟩:=he
  exact(HQ aU h g1 g2 ae).next
 |indexAddr T x i=>
  simp only[b7]at U
  split at U
  ·rename_i b6 h7 aq hy
   simp only[Option.some.injEq]at U;subst U
   simp only[a8,Option.map_eq_some_iff,Prod.mk.injEq]at he
   obtain⟨d,ae,rfl,rfl⟩:=he
   exact(HR aU h (dy h cR aq).2 (dy h cR hy).2 ae).next
  ·cases U
 |index T x i=>
  simp only[b7]at U
  split at U
  ·rename_i b6 h7 aq hy
   simp only[Option.some.injEq]at U;subst U
   simp only[a8,Option.map_eq_some_iff,Prod.mk.injEq]at he
   obtain⟨d,ae,rfl,rfl⟩:=he
   exact(Is aU h (dy h cR aq).2 (dy h cR hy).2 ae).next
  ·cases U
 |makeMap t r=>
  cases r with
  |none=>
   simp only[b7,Option.some.injEq]at U;subst U
   simp only[a8,Option.some.injEq,Prod.mk.injEq]at he
   obtain⟨rfl,rfl⟩:=he
   exact(IZ h t).next
  |some r=>simp[b7]at U
 |lookup T x i c=>
  cases c with
  |true=>simp[b7]at U
  |false=>
   simp only[b7]at U
   split at U
   ·rename_i b6 nK aq aA
    simp only[Option.some.injEq]at U;subst U
    simp only[a8,Option.map_eq_some_iff,Prod.mk.injEq]at he
    obtain⟨d,ae,rfl,rfl⟩:=he
    exact(IW aU h (dy h cR aq).2 (dy h cR aA).2 ae).next
   ·cases U
 |mapUpdate T x i v=>
  simp only[b7]at U
  split at U
  ·rename_i b6 nK eo aq aA aG
   simp only[Option.some.injEq]at U;subst U
   simp only[a8,Option.map_eq_some_iff,Prod.mk.injEq]at he
   obtain⟨s2,ae,rfl,rfl⟩:=he
   obtain⟨aw,aF,ab,ad⟩:=IX aU h (dy h cR aq).2 (dy h cR aA).2 (dy h cR aG).2 ae
   exact⟨.skip,aw,undef,F,aF,by simp[execOp,ab],.inr ⟨rfl,rfl⟩,ad,.inl ⟨rfl,by rw[ay];trivial⟩⟩
  ·cases U
 |extract x k=>
  simp only[b7,Option.map_eq_some_iff]at U
  obtain⟨b6,aq,rfl⟩:=U
  simp only[a8,Option.map_eq_some_iff,Prod.mk.injEq]at he
  obtain⟨d,ae,rfl,rfl⟩:=he
  exact(Ip h (dy h cR aq).2 ae).next
 |field T x k=>
  simp only[b7,Option.map_eq_some_iff]at U
  obtain⟨b6,aq,rfl⟩:=U
  simp only[a8,Option.bind_eq_some_iff]at he
  obtain⟨d,ae,he⟩:=he
  obtain⟨v,aw,bf,aF,aD,jP,l5⟩:=Iq aU h (dy h cR aq).2 ae
  unfold mU at he
  split at he
  ·rename_i y q
   have Jj:ay aw bf s ao (.h y q) v (fun _=>False):=by
    rcases l5 with⟨_,g2⟩|⟨g1,_⟩
    ·exact g2
    ·cases g1
   obtain⟨bo,k0,bz,bK,Sn,df,cx,dB,dZ,gu,_⟩:=l7 jP rfl Jj he
   exact⟨.value v,aw,v,bf,bo,by simp[execOp,aD],.inl rfl,k0,.inr ⟨bz,bK,Sn,df,cx,dB,dZ,gu⟩⟩
  ·simp only[Option.some.injEq,Prod.mk.injEq]at he
   obtain⟨rfl,rfl⟩:=he
   exact⟨.value v,aw,v,bf,aF,by simp[execOp,aD],.inl rfl,jP,l5⟩
 |call c=>
  obtain⟨callee,args,argTypes⟩:=c
  simp only[b7]at U
  split at U
  ·split at U
   ·simp only[Option.some.injEq]at U;subst U
    simp[a8]at he
   ·cases U
  ·split at U
   ·rename_i x T ks pR
    simp only[Option.map_eq_some_iff]at U
    obtain⟨b6,aq,rfl⟩:=U
    simp only[a8,Option.map_eq_some_iff,Prod.mk.injEq]at he
    obtain⟨d,ae,rfl,rfl⟩:=he
    have:=(It (ty:=ty) aU h (dy h cR aq).2 ae).next
    have aH:args= #[x]:=by apply Array.ext';exact ks
    have aJ:argTypes= #[T]:=by apply Array.ext';exact pR
    subst aH aJ
    simpa [execOp,resolve,invoke,builtin]using this
   ·cases U
  ·split at U
   ·rename_i x T ks pR
    simp only[Option.map_eq_some_iff]at U
    obtain⟨b6,aq,rfl⟩:=U
    simp only[a8]at he
    split at he
    ·rename_i e al Jk
     simp only[Option.some.injEq,Prod.mk.injEq]at he
     obtain⟨rfl,rfl⟩:=he
     have aG:=(dy h cR aq).2
     rw[Jk]at aG
     have:=nN aG
     obtain⟨i,d,z,aH,aJ,aK,b0,b_,bw,bn⟩:=aU.info (eg al (by simp))
     rw[al]at bn
     have ae:=iW bn;subst ae
     have Jl:args= #[x]:=by apply Array.ext';exact ks
     have Jm:argTypes= #[T]:=by apply Array.ext';exact pR
     subst Jl Jm
     have aD:(Builtin.cap_ #[T] ty #[a.eval x]).run C.P w= .ok (.int .i64 0) w:=by
      rw[this];simp[Builtin.cap_,run_underlying bw,goInt]
     have:=(Good.same (av:=.int .i64 0) h aD rfl (of_int _ _)).next
     simpa [execOp,resolve,invoke,builtin]using this
    ·cases he
   ·cases U
  ·split at U
   ·rename_i x y ks
    split at U
    ·rename_i b6 h7 aq hy
     simp only[Option.some.injEq]at U;subst U
     have aH:args= #[x,y]:=by apply Array.ext';exact ks
     subst aH
     exact Cj h (dy h cR aq).2 (dy h cR hy).2 he (by simp[execOp,resolve,invoke,builtin,Builtin.min_])
    ·cases U
   ·cases U
  ·split at U
   ·rename_i x y ks
    split at U
    ·rename_i b6 h7 aq hy
     simp only[Option.some.injEq]at U;subst U
     have aH:args= #[x,y]:=by apply Array.ext';exact ks
     subst aH
     exact Cj h (dy h cR aq).2 (dy h cR hy).2 he (by simp[execOp,resolve,invoke,builtin,Builtin.max_])
    ·cases U
   ·cases U
  ·split at U
   ·rename_i x y T bc ks pR
    split at U
    ·rename_i b6 h7 aq hy
     simp only[Option.some.injEq]at U;subst U
     have:=(II (ty:=ty) aU h (dy h cR aq).2 (dy h cR hy).2 he).next
     have aH:args= #[x,y]:=by apply Array.ext';exact ks
     have aJ:argTypes= #[T,bc]:=by apply Array.ext';exact pR
     subst aH aJ
     simpa [execOp,resolve,invoke,builtin]using this
    ·cases U
   ·cases U
  ·cases U
 |_=>simp[b7]at U
end
mutual
def I.U:I→List Nat
 | .h x _=>[x]
 | .ak x _=>[x]
 | .R x _=>[x]
 | .fn _ cap=>I.cZ cap
 |_=>[]
def I.cZ:List I→List Nat
 |[]=>[]
 |d::ds=>d.U++I.cZ ds
end
inductive mV where
 |no
 |bs
 |bY
structure eV where
 k:mV
 x:Nat
 d:I
def mV.app (k:mV) (x:Nat) (a:I):I:=match k with
 | .no=>a
 | .bs=>ca.bs x a
 | .bY=>ca.bY x a
def eV.at (m:eV) (u:Nat) (a:I):I:=if u=m.x then m.d else m.k.app m.x a
def hA:List eV→Nat→I→I
 |[],_,a=>a
 |m::ms,u,a=>hA ms u (m.at u a)
def cq (ms:List eV) (s:aj):aj:=fun u=>hA ms u (s u)
theorem Cm:∀(ms iA:List eV) (u:Nat) (a:I),hA (ms++iA) u a=hA iA u (hA ms u a)
 |[],_,_,_=>rfl
 |m::ms,iA,u,a=>by simp only[List.cons_append,hA];exact Cm ms iA u _
theorem jx (ms iA:List eV) (s:aj):cq (ms++iA) s=cq iA (cq ms s):=by
 funext u;simp[cq,Cm]
theorem Jn {ms:List eV} {s ar:aj} {u:Nat} (h:ar u=s u):cq ms ar u=cq ms s u:=by simp[cq,h]
theorem pS (s:aj) (x:Nat) (d:I):cm (fO x s) x d=cq [⟨.bs,x,d⟩] s:=by
 funext u;simp only[cq,hA,eV.at,cm,fO,mV.app]
theorem Cn (s:aj) (x:Nat) (d:I):cm (jt x s) x d=cq [⟨.bY,x,d⟩] s:=by
 funext u;simp only[cq,hA,eV.at,cm,jt,mV.app]
theorem yu (s:aj) (x:Nat) (d:I):cm s x d=cq [⟨.no,x,d⟩] s:=by
 funext u;simp only[cq,hA,eV.at,cm,mV.app]
mutual
theorem te {x:Nat}:∀a:I,x∉a.U→bs x a=a
 | .h y q,h=>by
   simp only[I.U,List.mem_singleton]at h
   simp only[bs];rw[if_neg (fun e=>h e.symm)]
 | .ak y q,h=>by
   simp only[I.U,List.mem_singleton]at h
   simp only[bs];rw[if_neg (fun e=>h e.symm)]
 | .R y q,h=>rfl
 | .fn f cap,h=>by simp only[bs];rw[Co cap (by simpa [I.U]using h)]
 | .hole,_=>rfl
 | .bool _,_=>rfl
 | .dk,_=>rfl
 | .int _ _,_=>rfl
 | .str _,_=>rfl
 | .ct,_=>rfl
 | .bD,_=>rfl
 | .slice _,_=>rfl
 | .aE _ _,_=>rfl
 | .ref _,_=>rfl
 | .a_ _,_=>rfl
 | .agg _,_=>rfl
 | .tuple _,_=>rfl
 | .cH _,_=>rfl
theorem Co {x:Nat}:∀ds:List I,x∉I.cZ ds→gp x ds=ds
 |[],_=>rfl
 |d::ds,h=>by
  simp only[I.cZ,List.mem_append,not_or]at h
  simp only[gp];rw[te d h.1,Co ds h.2]
end
mutual
theorem yv {x:Nat}:∀a:I,x∉a.U→bY x a=a
 | .h y q,h=>by
   simp only[I.U,List.mem_singleton]at h
   simp only[bY];rw[if_neg (fun e=>h e.symm)]
 | .ak y q,h=>by
   simp only[I.U,List.mem_singleton]at h
   simp only[bY];rw[if_neg (fun e=>h e.symm)]
 | .R y q,h=>by
   simp only[I.U,List.mem_singleton]at h
   simp only[bY];rw[if_neg (fun e=>h e.symm)]
 | .fn f cap,h=>by simp only[bY];rw[Cp cap (by simpa [I.U]using h)]
 | .hole,_=>rfl
 | .bool _,_=>rfl
 | .dk,_=>rfl
 | .int _ _,_=>rfl
 | .str _,_=>rfl
 | .ct,_=>rfl
 | .bD,_=>rfl
 | .slice _,_=>rfl
 | .aE _ _,_=>rfl
 | .ref _,_=>rfl
 | .a_ _,_=>rfl
 | .agg _,_=>rfl
 | .tuple _,_=>rfl
 | .cH _,_=>rfl
theorem Cp {x:Nat}:∀ds:List I,x∉I.cZ ds→gN x ds=ds
 |[],_=>rfl
 |d::ds,h=>by
  simp only[I.cZ,List.mem_append,not_or]at h
  simp only[gN];rw[yv d h.1,Cp ds h.2]
end
theorem tf {k:mV} {x:Nat} {a:I} (h:k= .no∨x∉a.U):k.app x a=a:=by
 cases k with
 |no=>rfl
 |bs=>exact te a (by simpa using h)
 |bY=>exact yv a (by simpa using h)
mutual
theorem Cq (x y:Nat):∀a:I,bs x (bs y a)=bs y (bs x a)
 | .h z q=>by simp only[bs];by_cases ab:z=x<;>by_cases ad:z=y<;>by_cases aB:q=[]<;>simp[ab,ad,aB,bs]<;>(subst_vars;simp_all [bs])
 | .ak z q=>by simp only[bs];by_cases ab:z=x<;>by_cases ad:z=y<;>simp[ab,ad,bs]<;>(subst_vars;simp_all [bs])
 | .R z q=>rfl
 | .fn f cap=>by simp only[bs];rw[Cr x y cap]
 | .hole=>rfl
 | .bool _=>rfl
 | .dk=>rfl
 | .int _ _=>rfl
 | .str _=>rfl
 | .ct=>rfl
 | .bD=>rfl
 | .slice _=>rfl
 | .aE _ _=>rfl
 | .ref _=>rfl
 | .a_ _=>rfl
 | .agg _=>rfl
 | .tuple _=>rfl
 | .cH _=>rfl
theorem Cr (x y:Nat):∀ds:List I,gp x (gp y ds)=gp y (gp x ds)
 |[]=>rfl
 |d::ds=>by simp only[gp];rw[Cq x y d,Cr x y ds]
end
mutual
theorem Cs (x y:Nat):∀a:I,bY x (bY y a)=bY y (bY x a)
 | .h z q=>by simp only[bY];by_cases ab:z=x<;>by_cases ad:z=y<;>simp[ab,ad,bY]<;>(subst_vars;simp_all [bY])
 | .ak z q=>by simp only[bY];by_cases ab:z=x<;>by_cases ad:z=y<;>simp[ab,ad,bY]<;>(subst_vars;simp_all [bY])
 | .R z q=>by simp only[bY];by_cases ab:z=x<;>by_cases ad:z=y<;>simp[ab,ad,bY]<;>(subst_vars;simp_all [bY])
 | .fn f cap=>by simp only[bY];rw[Ct x y cap]
 | .hole=>rfl
 | .bool _=>rfl
 | .dk=>rfl
 | .int _ _=>rfl
 | .str _=>rfl
 | .ct=>rfl
 | .bD=>rfl
 | .slice _=>rfl
 | .aE _ _=>rfl
 | .ref _=>rfl
 | .a_ _=>rfl
 | .agg _=>rfl
 | .tuple _=>rfl
 | .cH _=>rfl
theorem Ct (x y:Nat):∀ds:List I,gN x (gN y ds)=gN y (gN x ds)
 |[]=>rfl
 |d::ds=>by simp only[gN];rw[Cs x y d,Ct x y ds]
end
mutual
theorem yw (x y:Nat):∀a:I,bs x (bY y a)=bY y (bs x a)
 | .h z q=>by simp only[bY,bs];by_cases ab:z=x<;>by_cases ad:z=y<;>by_cases aB:q=[]<;>simp[ab,ad,aB,bY,bs]<;>(subst_vars;simp_all [bY,bs])
 | .ak z q=>by simp only[bY,bs];by_cases ab:z=x<;>by_cases ad:z=y<;>simp[ab,ad,bY,bs]<;>(subst_vars;simp_all [bY,bs])
 | .R z q=>by simp only[bY,bs];by_cases ad:z=y<;>simp[ad,bs]
 | .fn f cap=>by simp only[bY,bs];rw[Cu x y cap]
 | .hole=>rfl
 | .bool _=>rfl
 | .dk=>rfl
 | .int _ _=>rfl
 | .str _=>rfl
 | .ct=>rfl
 | .bD=>rfl
 | .slice _=>rfl
 | .aE _ _=>rfl
 | .ref _=>rfl
 | .a_ _=>rfl
 | .agg _=>rfl
 | .tuple _=>rfl
 | .cH _=>rfl
theorem Cu (x y:Nat):∀ds:List I,gp x (gN y ds)=gN y (gp x ds)
 |[]=>rfl
 |d::ds=>by simp only[gN,gp];rw[yw x y d,Cu x y ds]
end
theorem Jo (k l:mV) (x y:Nat) (a:I):k.app x (l.app y a)=l.app y (k.app x a):=by
 cases k<;>cases l<;>simp only[mV.app]<;>first|rfl|exact Cq .. |exact Cs .. |exact yw .. |exact(yw ..).symm
def ax.use (s:aj):ax→List Nat
 | .t n=>n::(s n).U
 | .c av=>av.U
 | .f _=>[]
def ax.lM (s:aj):List ax→List Nat
 |[]=>[]
 |x::xs=>x.use s++ax.lM s xs
def yx (s:aj):Option ax→List Nat
 |none=>[]
 |some x=>x.use s
def use (s:aj):ej→List Nat
 | .bZ x=>x.use s
 | .dM x=>x.use s
 | .pick c a b=>c.use s++(a.use s++b.use s)
 | .fv _=>[]
 | .ep _ x=>x.use s
 | .dR _ ps=>ax.lM s (ps.map (·.2))
 | .cX _ _ ps=>ax.lM s (ps.map (·.2))
 | .dh _ x=>x.use s
 | .eh _ x y=>x.use s++y.use s
 | .ew x=>x.use s
 | .bB _ _ x y=>x.use s++y.use s
 | .un _ x=>x.use s
 | .ei _ _ x=>x.use s
 | .h_ _ cs=>ax.lM s cs
 | .er _ l c=>l.use s++c.use s
 | .cF _ x cb aA=>x.use s++(yx s cb++yx s aA)
 | .ev _ x _=>x.use s
 | .eI _ x i=>x.use s++i.use s
 | .idx _ x i=>x.use s++i.use s
 | .ex x _=>x.use s
 | .jS _ x _=>x.use s
 | .call f args=>f.use s++ax.lM s args
 | .len _ x=>x.use s
 | .app _ _ x y=>x.use s++y.use s
 | .shr bd=>use s bd
 | .kq f args u x=>u::x::(f.use s++ax.lM s args)
 | .kr f args us=>us.flatMap (fun u=>u::(s u).U)++(f.use s++ax.lM s args)
 | .iZ _ x=>x.use s
 | .oG x=>x.use s
 | .nS x=>x.use s
 | .tb=>[]
 | .lH _ x i=>x.use s++i.use s
 | .kp _ x i v=>x.use s++(i.use s++v.use s)
 | .lI _ _ x y=>x.use s++y.use s
 | .cap _ x=>x.use s
 | .gd _ x y=>x.use s++y.use s
 | .bad=>[]
def ck (s:aj):ej→List Nat
 | .dM x=>(az s x).U
 | .ep _ x=>(az s x).U
 | .dR _ ps=>I.cZ (ps.map fun p=>az s p.2)
 | .cX _ _ ps=>I.cZ (ps.map fun p=>az s p.2)
 | .eh _ x y=>(az s x).U++(az s y).U
 | .jS _ x _=>(az s x).U
 | .nS x=>(az s x).U
 | .kp _ x _ _=>(az s x).U
 | .cF _ x _ _=>(az s x).U
 | .app _ _ x y=>(az s x).U++(az s y).U
 | .shr bd=>ck s bd
 |_=>[]
def cr (bc:List Nat) (ar s:aj):Prop:=∀u∈bc,ar u=s u
theorem cr.left {bc V:List Nat} {ar s:aj} (h:cr (bc++V) ar s):cr bc ar s:=fun u hu=>h u (List.mem_append_left _ hu)
theorem cr.right {bc V:List Nat} {ar s:aj} (h:cr (bc++V) ar s):cr V ar s:=fun u hu=>h u (List.mem_append_right _ hu)
theorem cr.cq {bc:List Nat} {ar s:aj} (h:cr bc ar s) (ms:List eV):cr bc (cq ms ar) (cq ms s):=fun u hu=>Jn (h u hu)
theorem cr.sub {bc V:List Nat} {ar s:aj} (h:cr bc ar s) (U:∀u∈V,u∈bc):cr V ar s:=fun u hu=>h u (U u hu)
theorem ax.pT {s:aj} {x:ax}:∀u∈(az s x).U,u∈x.use s:=by
 intro u hu
 cases x with
 |t n=>
  simp only[az,gO]at hu
  split at hu
  ·simp[ax.use,hu]
  ·simp only[I.U,List.mem_singleton]at hu;simp[ax.use,hu]
 |c av=>exact hu
 |f g=>simp[az,I.U,I.cZ]at hu
theorem ax.dC {s ar:aj} {x:ax} (h:cr (x.use s) ar s):az ar x=az s x:=by
 cases x with
 |t n=>simp only[az];rw[h n (by simp[ax.use])]
 |c av=>rfl
 |f g=>rfl
theorem cr.az {s ar:aj} {x:ax} (h:cr (x.use s) ar s):cr (az s x).U ar s:=h.sub ax.pT
theorem Cv {s ar:aj} {x:Option ax} (h:cr (yx s x) ar s):x.map (az ar)=x.map (az s):=by
 cases x with
 |none=>rfl
 |some x=>simp only[Option.map_some];rw[ax.dC h]
theorem ax.yy {s ar:aj}:∀{xs:List ax},cr (ax.lM s xs) ar s→xs.map (az ar)=xs.map (az s)
 |[],_=>rfl
 |x::xs,h=>by
  simp only[List.map_cons]
  rw[ax.dC (h.left),ax.yy (h.right)]
theorem ax.yz {s ar:aj}:∀{ps:List (Nat×ax)},cr (ax.lM s (ps.map (·.2))) ar s→(ps.map fun p=>(p.1,az ar p.2))=ps.map fun p=>(p.1,az s p.2)
 |[],_=>rfl
 |x::xs,h=>by
  simp only[List.map_cons]at h⊢
  rw[ax.dC (h.left),ax.yz (h.right)]
theorem ax.vt {s:aj}:∀{xs:List ax},∀u∈I.cZ (xs.map (az s)),u∈ax.lM s xs
 |[],u,h=>by simp[I.cZ]at h
 |x::xs,u,h=>by
  simp only[List.map_cons,I.cZ,List.mem_append]at h
  simp only[ax.lM,List.mem_append]
  exact h.imp (ax.pT u) (ax.vt u)
section
variable {C:bt} {s ar:aj} {x y i:I} {T A B:TypeId}
theorem yA (h:cr x.U ar s):loc ar x=loc s x:=by
 cases x<;>first
  |rfl
  |(simp only[loc];rw[h _ (by simp[I.U])])
theorem yB {z:Nat} {q:List Nat} (h:loc s x=some (z,q)):z∈x.U:=by
 cases x with
 |h y p=>
  simp only[loc]at h
  split at h
  ·simp only[Option.some.injEq,Prod.mk.injEq]at h;simp[I.U,h.1]
  ·cases h
 |ak y p=>
  simp only[loc]at h
  split at h
  ·simp only[Option.some.injEq,Prod.mk.injEq]at h;simp[I.U,h.1]
  ·cases h
 |_=>simp[loc]at h
theorem Jp (h:cr x.U ar s):dh C ar T x=dh C s T x:=by
 have hl:=yA h
 unfold dh
 split
 ·rfl
 ·rw[h _ (by simp[I.U])]
 ·rw[hl]
  split
  ·rename_i e
   rw[h _ (yB e)]
  ·rfl
theorem Jq {k:Nat} (h:cr x.U ar s):ev C ar T x k=ev C s T x k:=by
 have hl:=yA h
 unfold ev
 split
 ·split
  ·split
   ·split
    ·rfl
    ·rw[h _ (by simp[I.U])]
    ·rw[hl]
     split
     ·rename_i e
      rw[h _ (yB e)]
     ·rfl
   ·rfl
  ·rfl
 ·rfl
theorem Jr (h:cr x.U ar s):eI C ar T x i=eI C s T x i:=by
 cases x<;>first
  |rfl
  |(simp only[eI];rw[h _ (by simp[I.U])])
theorem Js (h:cr x.U ar s):jT C ar T x=jT C s T x:=by
 unfold jT
 cases(C.T T).k<;>cases x<;>first
  |rfl
  |(simp only;rw[h _ (by simp[I.U])])
theorem Jt (h:cr x.U ar s):ei C ar A B x=ei C s A B x:=by
 unfold ei
 cases(C.T B).k<;>cases x<;>first
  |rfl
  |(simp only;rw[h _ (by simp[I.U])])
theorem Ju (h:cr x.U ar s):ho ar x=ho s x:=by
 cases x<;>first
  |rfl
  |(simp only[ho];rw[h _ (by simp[I.U])])
theorem Jv (h:cr x.U ar s):i1 ar x=i1 s x:=by
 cases x<;>first
  |rfl
  |(simp only[i1];rw[h _ (by simp[I.U])])
theorem Jw {op:BinOp} (h:cr x.U ar s):bB C ar op T x y=bB C s op T x y:=by
 have ab:=Ju h
 have ad:=Jv h
 unfold bB
 split<;>first|rfl|simp only[ab,ad]
theorem Jx (h:cr x.U ar s):ew ar x=ew s x:=by
 cases x<;>first
  |rfl
  |(simp only[ew];rw[h _ (by simp[I.U])])
theorem Jy {k y:Nat} {q:List Nat} (h:jS C s T x k=some (.h y q)):x.U=[y]:=by
 unfold jS at h
 split at h<;>try (cases h;done)
 split at h<;>try (cases h;done)
 split at h
 ·split at h<;>try (cases h;done)
  split at h
  ·rename_i ai
   simp only[Option.some.injEq]at h
   rw[h]at ai
   exact absurd ai.2.2.2 (by simp[I.tree])
  ·cases h
 ·split at h<;>try (cases h;done)
  split at h<;>try (cases h;done)
  split at h<;>try (cases h;done)
  rename_i d ae ai
  by_cases ak:d.plain=true
  ·simp only[ak,if_true,Option.some.injEq]at h
   rw[h]at ai
   exact absurd ai.2.2.2 (by simp[I.tree])
  ·simp only[ak,Option.some.injEq]at h
   injection h with ab ad
   subst ab;rfl
 ·cases h
theorem Cw {k:Nat} (h:cr x.U ar s):jS C ar T x k=jS C s T x k:=by
 unfold jS
 split<;>try rfl
 split<;>try rfl
 cases x<;>first
  |rfl
  |(simp only[];rw[h _ (by simp[I.U])])
theorem Jz {k:Nat} (h:cr x.U ar s):ex ar x k=ex s x k:=by
 cases x<;>first
  |rfl
  |(simp only[ex];rw[h _ (by simp[I.U])])
theorem q2:∀(q:List Nat) (a d e:I),I.sub q a=some d→(d.plain=false∨q≠[])→(q=[]→e.U=[])→(I.put q e a).U=[]:=by
 intro q a d e h ak he
 cases q with
 |nil=>rw[I.put];exact he rfl
 |cons k q=>
  cases a<;>first
   |(simp[I.sub]at h;done)
   |skip
  all_goals
   unfold I.put
   repeat' split
   all_goals first|rfl|(simp_all;done)
end
def Loc {α:Type} (bc q3:List Nat) (f:aj→Option (α×aj)) (s:aj) (av:α) (s1:aj):Prop:=
 ∃ms,s1=cq ms s∧(∀m∈ms,m.x∈q3∧m.d.U=[])∧∀ar,cr bc ar s→f ar=some (av,cq ms ar)
theorem Loc.pure {α:Type} {bc q3:List Nat} {f:aj→Option (α×aj)} {s:aj} {av:α} (h:∀ar,cr bc ar s→f ar=some (av,ar)):Loc bc q3 f s av s:=
 ⟨[],rfl,by simp,fun ar U=>h ar U⟩
theorem Loc.mono {α:Type} {bc q3 vu Cx:List Nat} {f:aj→Option (α×aj)} {s s1:aj} {av:α} (h:Loc bc q3 f s av s1) (mS:∀u∈bc,u∈vu) (ju:∀u∈q3,u∈Cx):Loc vu Cx f s av s1:=by
 obtain⟨ms,ab,ad,aB⟩:=h
 exact⟨ms,ab,fun m hm=>⟨ju _ (ad m hm).1,(ad m hm).2⟩,fun ar U=>aB ar (U.sub mS)⟩
section
variable {C:bt} {s s1:aj} {x y d:I} {T A B:TypeId}
theorem nT (h:bV s x=some (d,s1)):Loc x.U x.U (fun s=>bV s x) s d s1:=by
 cases x with
 |h y q=>
  simp only[bV]at h
  split at h
  ·rename_i e he
   split at h
   ·cases h
   ·rename_i ak
    simp only[Option.some.injEq,Prod.mk.injEq]at h
    obtain⟨rfl,rfl⟩:=h
    have ak:e.plain=false:=by simpa using ak
    refine⟨[⟨.bs,y,I.put q e.b8 (s y)⟩],pS _ _ _,?_,?_⟩
    ·intro m hm
     simp only[List.mem_singleton]at hm;subst hm
     refine⟨by simp[I.U],q2 q _ _ _ he (.inl ak) fun cf=> ?_⟩
     subst cf
     cases e<;>first|(simp[I.plain]at ak;done)|rfl
    ·intro ar U
     have aH:ar y=s y:=U y (by simp[I.U])
     simp only[bV,aH,he,ak]
     rw[←pS];rfl
  ·cases h
 |ak y q=>simp[bV]at h
 |R y q=>simp[bV]at h
 |fn f c=>simp[bV]at h
 |hole=>simp[bV]at h
 |_=>
  simp only[bV,Option.some.injEq,Prod.mk.injEq]at h
  obtain⟨rfl,rfl⟩:=h
  exact .pure fun ar _=>rfl
mutual
theorem Cy (x:Nat):∀a:I,∀u∈(bs x a).U,u∈a.U
 | .h y q,u,h=>by
   simp only[bs]at h
   split at h
   ·split at h
    ·exact h
    ·simp[I.U]at h
   ·exact h
 | .ak y q,u,h=>by
   simp only[bs]at h
   split at h
   ·simp[I.U]at h
   ·exact h
 | .R y q,u,h=>h
 | .fn f cap,u,h=>by simp only[bs,I.U]at h⊢;exact Cz x cap u h
 | .hole,u,h=>h
 | .bool _,u,h=>h
 | .dk,u,h=>h
 | .int _ _,u,h=>h
 | .str _,u,h=>h
 | .ct,u,h=>h
 | .bD,u,h=>h
 | .slice _,u,h=>h
 | .aE _ _,u,h=>h
 | .ref _,u,h=>h
 | .a_ _,u,h=>h
 | .agg _,u,h=>h
 | .tuple _,u,h=>h
theorem Cz (x:Nat):∀ds:List I,∀u∈I.cZ (gp x ds),u∈I.cZ ds
 |[],u,h=>h
 |d::ds,u,h=>by
  simp only[gp,I.cZ,List.mem_append]at h⊢
  exact h.imp (Cy x d u) (Cz x ds u)
end
theorem yC (o:Option Nat) (a:I):∀u∈(iv o a).U,u∈a.U:=by
 intro u h
 cases o with
 |none=>exact h
 |some x=>exact Cy x a u h
theorem CA:∀(os:List (Option Nat)) (a:I),∀u∈(lJ os a).U,u∈a.U:=by
 intro os
 induction os with
 |nil=>intro a u h;exact h
 |cons o os ih=>intro a u h;exact yC o a u (ih (iv o a) u h)
theorem CB {place:Nat→Option (Nat×Nat)}:∀{ps:List (Nat×I)} {s s1:aj} {eK ds:List I} {os:List (Option Nat)},lK place s eK os ps=some (ds,s1)→
  Loc (I.cZ (ps.map (·.2))) (I.cZ (ps.map (·.2))) (fun s=>lK place s eK os ps) s ds s1:=by
 intro ps
 induction ps with
 |nil=>
  intro s s1 eK ds os h
  simp only[lK,Option.some.injEq,Prod.mk.injEq]at h
  obtain⟨rfl,rfl⟩:=h
  exact .pure fun ar _=>rfl
 |cons p ps ih=>
  intro s s1 eK ds os h
  obtain⟨k,a⟩:=p
  simp only[lK]at h
  split at h
  ·rename_i d s2 off n z aO fi bp
   split at h
   ·cases h
   ·rename_i aY kt
    split at h
    ·rename_i ai
     obtain⟨mh,rfl,ad,aB⟩:=nT aO
     obtain⟨oF,rfl,ba,bu⟩:=ih h
     refine⟨mh++oF,(jx _ _ _).symm,?_,?_⟩
     ·intro m hm
      simp only[List.map_cons,I.cZ,List.mem_append]at hm⊢
      rcases hm with hm|hm
      ·exact⟨.inl (CA _ _ _ (ad m hm).1),(ad m hm).2⟩
      ·exact⟨.inr (ba m hm).1,(ba m hm).2⟩
     ·intro ar U
      simp only[List.map_cons,I.cZ]at U
      have aH:=aB ar (U.left.sub (CA _ _))
      have aJ:=bu (cq mh ar) (U.right.cq mh)
      simp only at aH aJ
      simp only[lK,aH,fi,bp,jx]
      rw[if_pos ai];exact aJ
    ·cases h
  ·cases h
theorem JA {ps:List (Nat×I)} {av:I} (h:dR C s T ps=some (av,s1)):Loc (I.cZ (ps.map (·.2))) (I.cZ (ps.map (·.2))) (fun s=>dR C s T ps) s av s1:=by
 unfold dR at h
 split at h
 ·rename_i ag eK al bp
  split at h
  ·rename_i ai
   split at h
   ·rename_i ds s2 bk
    simp only[Option.some.injEq,Prod.mk.injEq]at h
    obtain⟨rfl,rfl⟩:=h
    obtain⟨ms,ab,ad,aB⟩:=CB bk
    refine⟨ms,ab,ad,fun ar U=> ?_⟩
    have:=aB ar U
    simp only at this
    simp only[dR,al,bp,if_pos ai,this]
   ·cases h
  ·cases h
 ·cases h
theorem JB {n:Nat} {ps:List (Nat×I)} {av:I} (h:cX C s T n ps=some (av,s1)):Loc (I.cZ (ps.map (·.2))) (I.cZ (ps.map (·.2))) (fun s=>cX C s T n ps) s av s1:=by
 unfold cX at h
 split at h
 ·rename_i e al
  split at h
  ·rename_i ai
   split at h
   ·rename_i ds s2 bk
    simp only[Option.some.injEq,Prod.mk.injEq]at h
    obtain⟨rfl,rfl⟩:=h
    obtain⟨ms,ab,ad,aB⟩:=CB bk
    refine⟨ms,ab,ad,fun ar U=> ?_⟩
    have:=aB ar U
    simp only at this
    simp only[cX,al,if_pos ai,this]
   ·cases h
  ·cases h
 ·cases h
theorem JC {av:I} (h:ep s x=some (av,s1)):Loc x.U x.U (fun s=>ep s x) s av s1:=by
 unfold ep at h
 split at h
 ·cases h
 ·rename_i d s2 kt aO
  simp only[Option.some.injEq,Prod.mk.injEq]at h
  obtain⟨rfl,rfl⟩:=h
  obtain⟨ms,ab,ad,aB⟩:=nT aO
  refine⟨ms,ab,ad,fun ar U=> ?_⟩
  have:=aB ar U
  simp only at this
  simp only[ep,this]
 ·cases h
theorem JD {av:I} (h:iZ s x=some (av,s1)):Loc x.U [] (fun s=>iZ s x) s av s1:=by
 unfold iZ at h
 split at h
 ·rename_i y q
  split at h
  ·rename_i ds kQ
   split at h
   ·cases h
   ·rename_i sS
    simp only[Option.some.injEq,Prod.mk.injEq]at h
    obtain⟨rfl,rfl⟩:=h
    refine .pure fun ar U=> ?_
    have e:ar y=s y:=U y (by simp[I.U])
    simp only[iZ,e,kQ,if_neg sS]
  ·cases h
 ·split at h
  ·rename_i ai
   simp only[Option.some.injEq,Prod.mk.injEq]at h
   obtain⟨rfl,rfl⟩:=h
   exact .pure fun ar U=>by simp only[iZ,ai,if_true]
  ·cases h
 ·cases h
theorem JE {s2:aj} (h:eh C s T x y=some s2):Loc (x.U++y.U) (x.U++y.U) (fun s=>(eh C s T x y).map fun s1=>(I.hole,s1)) s .hole s2:=by
 unfold eh at h
 split at h
 ·rename_i d s1 z q aO hl
  obtain⟨ms,ab,ad,aB⟩:=nT aO
  have bp:=yB hl
  have cf:q≠[]:=by
   cases x with
   |h y p=>
    simp only[loc]at hl
    split at hl
    ·simp only[Option.some.injEq,Prod.mk.injEq]at hl;simp[←hl.2]
    ·cases hl
   |ak y p=>
    simp only[loc]at hl
    split at hl
    ·rename_i l9
     simp only[Option.some.injEq,Prod.mk.injEq]at hl
     obtain⟨rfl,rfl⟩:=hl
     intro e;subst e;simp[I.dL]at l9
    ·cases hl
   |_=>simp[loc]at hl
  split at h
  ·cases h
  ·rename_i aY kt
   split at h
   ·rename_i d0 km
    split at h
    ·rename_i ai
     simp only[Option.some.injEq]at h;subst h
     refine⟨ms++[⟨.bs,z,I.put q d (s z)⟩],?_,?_,?_⟩
     ·rw[jx,←ab,pS]
     ·intro m hm
      simp only[List.mem_append,List.mem_singleton]at hm⊢
      rcases hm with hm|rfl
      ·exact⟨.inr (ad m hm).1,(ad m hm).2⟩
      ·exact⟨.inl bp,q2 q _ _ _ km (.inr cf) fun e=>(cf e).elim⟩
     ·intro ar U
      have aH:=aB ar U.right
      simp only at aH
      simp only[eh,aH,yA U.left,hl,U.left z bp,km]
      cases d<;>first|(simp only[if_pos ai,Option.map_some,jx,pS];done)|exact(kt _ rfl).elim
    ·cases h
   ·cases h
 ·cases h
theorem JF {cb aA:Option I} {av:I} (h:cF C s T x cb aA=some (av,s1)):Loc x.U x.U (fun s=>cF C s T x cb aA) s av s1:=by
 cases x with
 |h y q=>
  unfold cF at h
  split at h<;>first|(cases h;done)|skip
  all_goals (rename_i aq;try cases aq)
  rename_i e al
  split at h
  ·rename_i sz xs dx
   split at h
   ·rename_i b lC lD
    split at h
    ·rename_i ai
     split at h
     ·rename_i d s2 aO
      simp only[Option.some.injEq,Prod.mk.injEq]at h
      obtain⟨rfl,rfl⟩:=h
      obtain⟨ms,ab,ad,aB⟩:=nT aO
      refine⟨ms,ab,ad,fun ar U=> ?_⟩
      have:=aB ar U
      simp only at this
      have aH:ar y=s y:=U y (by simp[I.U])
      simp only[cF,al,aH,dx,lC,lD,if_pos ai,this]
     ·cases h
    ·cases h
   ·cases h
  ·cases h
 |_=>
  have nU:s1=s:=by
   unfold cF at h
   repeat' split at h
   all_goals first|(cases h;done)|(simp only[Option.some.injEq,Prod.mk.injEq]at h;exact h.2.symm)|simp_all
  subst nU
  refine .pure fun ar _=> ?_
  unfold cF at h⊢
  repeat' split at h
  all_goals first
   |(cases h;done)
   |(simp only[Option.some.injEq,Prod.mk.injEq]at h
     obtain⟨rfl,_⟩:=h
     simp_all)
def mW (C:bt) (e:TypeId) (s:aj):I→Option (I×aj)
 | .bD=>some (I.aE (C.T e).sz [],s)
 | .h a q=>bV s (.h a q)
 |_=>none
def i7 (s1:aj):I→Option (List I×aj)
 | .bD=>some ([],s1)
 | .slice bG=>some (bG,s1)
 | .str l=>some (l.map h8,s1)
 | .h a q=>match bV s1 (.h a q)with
   |some (.aE _ bG,s2)=>some (bG,s2)
   |_=>none
 |_=>none
theorem yD (C:bt) (s:aj) (T bc:TypeId) (x y:I):jU C s T bc x y=(match(C.T T).k with
 | .slice e=>if(C.T e).ok=true∧(C.T e).zero.wd=(C.T e).sz∧(flat (C.T e).zero).isSome=true∧vh C e bc=true then
   match mW C e s x with
   |some (.aE sz xs,s1)=>if sz=(C.T e).sz then
     match i7 s1 (iv x.owner y)with
     |some (bG,s2)=>if(∀d∈bG,d.wd=(C.T e).sz)∧(xs.length+bG.length)*(C.T e).bytes≤140737488355328∧xs.length+bG.length≤9223372036854775807 then some (.aE sz (xs++bG),s2)else none
     |none=>none
    else none
   |_=>none
   else none
 |_=>none):=by
 unfold jU
 generalize iv x.owner y=h7
 cases(C.T T).k<;>first
  |rfl
  |(cases x<;>cases h7<;>rfl)
theorem JG {e:TypeId} {d:I} (ab:mW C e s x=some (d,s1)):Loc x.U x.U (fun s=>mW C e s x) s d s1:=by
 cases x with
 |bD=>
  simp only[mW,Option.some.injEq,Prod.mk.injEq]at ab
  obtain⟨ab,rfl⟩:=ab
  exact .pure fun ar _=>by simp only[mW,ab]
 |h a q=>exact nT ab
 |_=>simp[mW]at ab
theorem JH {bG:List I} (ad:i7 s y=some (bG,s1)):Loc y.U y.U (fun s=>i7 s y) s bG s1:=by
 cases y with
 |bD=>
  simp only[i7,Option.some.injEq,Prod.mk.injEq]at ad
  obtain⟨rfl,rfl⟩:=ad
  exact .pure fun ar _=>rfl
 |slice bG=>
  simp only[i7,Option.some.injEq,Prod.mk.injEq]at ad
  obtain⟨rfl,rfl⟩:=ad
  exact .pure fun ar _=>rfl
 |str l=>
  simp only[i7,Option.some.injEq,Prod.mk.injEq]at ad
  obtain⟨rfl,rfl⟩:=ad
  exact .pure fun ar _=>rfl
 |h a q=>
  simp only[i7]at ad
  split at ad
  ·rename_i IK abB jy aO
   simp only[Option.some.injEq,Prod.mk.injEq]at ad
   obtain⟨rfl,rfl⟩:=ad
   obtain⟨ms,g1,g2,g3⟩:=nT aO
   refine⟨ms,g1,g2,fun ar U=> ?_⟩
   have:=g3 ar U
   simp only at this
   simp only[i7,this]
  ·cases ad
 |_=>simp[i7]at ad
theorem JI {av:I} (h:jU C s T A x y=some (av,s1)):Loc (x.U++y.U) (x.U++y.U) (fun s=>jU C s T A x y) s av s1:=by
 rw[yD]at h
 split at h
 ·rename_i e al
  split at h
  ·rename_i ai
   split at h
   ·rename_i sz xs s2 ab
    split at h
    ·rename_i cV
     split at h
     ·rename_i bG eZ ad
      split at h
      ·rename_i pB
       simp only[Option.some.injEq,Prod.mk.injEq]at h
       obtain⟨rfl,rfl⟩:=h
       obtain⟨mh,rfl,a2,a3⟩:=JG ab
       obtain⟨oF,rfl,gQ,jw⟩:=(JH ad).mono (yC _ _) (yC _ _)
       refine⟨mh++oF,(jx _ _ _).symm,?_,?_⟩
       ·intro m hm
        simp only[List.mem_append]at hm⊢
        rcases hm with hm|hm
        ·exact⟨.inl (a2 m hm).1,(a2 m hm).2⟩
        ·exact⟨.inr (gQ m hm).1,(gQ m hm).2⟩
       ·intro ar U
        have aH:=a3 ar U.left
        have aJ:=jw (cq mh ar) (U.right.cq mh)
        simp only at aH aJ
        simp only[yD,al,if_pos ai,aH,if_pos cV,aJ,if_pos pB,jx]
      ·cases h
     ·cases h
    ·cases h
   ·cases h
  ·cases h
 ·cases h
theorem JJ {ar:aj} {i:I} (h:cr x.U ar s):lH C ar T x i=lH C s T x i:=by
 cases x with
 |h y q=>cases i<;>simp only[lH,h y (by simp[I.U])]
 |_=>rfl
theorem JK {i v:I} {s2:aj} (h:kp C s T x i v=some s2):Loc x.U x.U (fun s=>(kp C s T x i v).map fun s1=>(I.hole,s1)) s .hole s2:=by
 unfold kp at h
 split at h
 ·rename_i y q k b
  split at h
  ·rename_i m ae
   split at h
   ·rename_i ju
    simp only[Option.some.injEq]at h;subst h
    refine⟨[⟨.bs,y,I.put q (.cH (.mp (mG k b m))) (s y)⟩],pS _ _ _,?_,fun ar U=> ?_⟩
    ·intro n aW
     simp only[List.mem_singleton]at aW;subst aW
     exact⟨by simp[I.U],q2 q _ _ _ ae (.inl rfl) fun _=>rfl⟩
    ·have aH:ar y=s y:=U y (by simp[I.U])
     simp only[kp,aH,ae,ju,if_true,Option.map_some]
     rw[←pS]
   ·cases h
  ·cases h
 ·cases h
theorem CC {bd:ej} {av:I} (h:a8 C s bd=some (av,s1)):Loc (use s bd) (ck s bd) (fun s=>a8 C s bd) s av s1:=by
 cases bd with
 |shr bd=>simp[a8]at h
 |kq f args u x=>simp[a8]at h
 |kr f args L=>simp[a8]at h
 |nS x=>
  simp only[a8]at h
  unfold mU at h
  split at h
  ·rename_i y q aq
   obtain⟨ms,ab,ad,aB⟩:=nT h
   refine⟨ms,ab,by simpa only[ck,aq]using ad,fun ar U=> ?_⟩
   have e:=ax.dC (x:=x) U
   have aJ:=aB ar (by rw[←aq];exact cr.az U)
   simp only[a8,e,aq,mU]
   exact aJ
  ·rename_i CD
   simp only[Option.some.injEq,Prod.mk.injEq]at h
   obtain⟨rfl,rfl⟩:=h
   refine .pure fun ar U=> ?_
   have e:=ax.dC (x:=x) U
   simp only[a8,e,mU]
 |oG x=>
  simp only[a8,Option.some.injEq,Prod.mk.injEq]at h
  obtain⟨rfl,rfl⟩:=h
  exact .pure fun ar U=>by simp only[a8,ax.dC (x:=x) U]
 |iZ T x=>
  obtain⟨ms,ab,ad,aB⟩:=JD h
  refine⟨ms,ab,ad,fun ar U=> ?_⟩
  simp only[a8,ax.dC (x:=x) U]
  exact aB ar (cr.az U)
 |lI T bc x y=>
  simp only[a8,Option.map_eq_some_iff,Prod.mk.injEq]at h
  obtain⟨d,ae,rfl,rfl⟩:=h
  exact .pure fun ar U=>by
   simp only[use]at U
   simp only[a8,ax.dC (x:=x) U.left,ax.dC (x:=y) U.right,ae,Option.map_some]
 |bad=>simp[a8]at h
 |gd dm x y=>
  simp only[a8,Option.map_eq_some_iff,Prod.mk.injEq]at h
  obtain⟨d,ae,rfl,rfl⟩:=h
  exact .pure fun ar U=>by
   simp only[use]at U
   simp only[a8,ax.dC (x:=x) U.left,ax.dC (x:=y) U.right,ae,Option.map_some]
 |cap T x=>
  simp only[a8]at h
  split at h
  ·rename_i e al aq
   simp only[Option.some.injEq,Prod.mk.injEq]at h
   obtain⟨rfl,rfl⟩:=h
   exact .pure fun ar U=>by simp only[a8,ax.dC (x:=x) U,al,aq]
  ·cases h
 |bZ x=>
  simp only[a8,Option.some.injEq,Prod.mk.injEq]at h
  obtain⟨rfl,rfl⟩:=h
  exact .pure fun ar U=>by simp only[a8,ax.dC (x:=x) U]
 |dM x=>
  simp only[a8]at h
  split at h
  ·rename_i y q aq
   obtain⟨ms,ab,ad,aB⟩:=nT h
   refine⟨ms,ab,by simpa only[ck,aq]using ad,fun ar U=> ?_⟩
   have e:=ax.dC (x:=x) U
   have aJ:=aB ar (by rw[←aq];exact cr.az U)
   simp only[a8,e,aq]
   exact aJ
  ·rename_i CD
   simp only[Option.some.injEq,Prod.mk.injEq]at h
   obtain⟨rfl,rfl⟩:=h
   refine .pure fun ar U=> ?_
   have e:=ax.dC (x:=x) U
   simp only[a8,e]
 |pick c a b=>
  simp only[a8]at h
  split at h
  ·rename_i dQ R
   simp only[Option.some.injEq,Prod.mk.injEq]at h
   obtain⟨rfl,rfl⟩:=h
   refine .pure fun ar U=> ?_
   simp only[use]at U
   simp only[a8,ax.dC (x:=c) U.left,ax.dC (x:=a) U.right.left,ax.dC (x:=b) U.right.right,R]
  ·cases h
 |fv T=>
  simp only[a8,Option.map_eq_some_iff,Prod.mk.injEq]at h
  obtain⟨d,ae,rfl,rfl⟩:=h
  exact .pure fun ar U=>by simp only[a8,ae,Option.map_some]
 |ep T x=>
  obtain⟨ms,ab,ad,aB⟩:=JC h
  refine⟨ms,ab,ad,fun ar U=> ?_⟩
  simp only[a8,ax.dC (x:=x) U]
  exact aB ar (cr.az U)
 |dR T ps=>
  obtain⟨ms,ab,ad,aB⟩:=JA h
  simp only[List.map_map,Function.comp_def]at ad aB
  refine⟨ms,ab,ad,fun ar U=> ?_⟩
  simp only[a8,ax.yz (ps:=ps) U]
  refine aB ar (U.sub fun u hu=> ?_)
  simp only[use]
  exact ax.vt u (by simpa [List.map_map,Function.comp_def]using hu)
 |cX T n ps=>
  obtain⟨ms,ab,ad,aB⟩:=JB h
  simp only[List.map_map,Function.comp_def]at ad aB
  refine⟨ms,ab,ad,fun ar U=> ?_⟩
  simp only[a8,ax.yz (ps:=ps) U]
  refine aB ar (U.sub fun u hu=> ?_)
  simp only[use]
  exact ax.vt u (by simpa [List.map_map,Function.comp_def]using hu)
 |dh T x=>
  simp only[a8,Option.map_eq_some_iff,Prod.mk.injEq]at h
  obtain⟨d,ae,rfl,rfl⟩:=h
  exact .pure fun ar U=>by simp only[a8,ax.dC (x:=x) U,Jp (cr.az U),ae,Option.map_some]
 |eh T x y=>
  simp only[a8,Option.map_eq_some_iff,Prod.mk.injEq]at h
  obtain⟨s2,ae,rfl,rfl⟩:=h
  obtain⟨ms,ab,ad,aB⟩:=JE ae
  refine⟨ms,ab,ad,fun ar U=> ?_⟩
  simp only[use]at U
  simp only[a8,ax.dC (x:=x) U.left,ax.dC (x:=y) U.right]
  exact aB ar (U.sub fun u hu=>by simp only[List.mem_append]at hu⊢;exact hu.imp (ax.pT u) (ax.pT u))
 |ew x=>
  simp only[a8,Option.map_eq_some_iff,Prod.mk.injEq]at h
  obtain⟨d,ae,rfl,rfl⟩:=h
  exact .pure fun ar U=>by simp only[a8,ax.dC (x:=x) U,Jx (cr.az U),ae,Option.map_some]
 |bB op T x y=>
  simp only[a8,Option.map_eq_some_iff,Prod.mk.injEq]at h
  obtain⟨d,ae,rfl,rfl⟩:=h
  refine .pure fun ar U=> ?_
  simp only[use]at U
  simp only[a8,ax.dC (x:=x) U.left,ax.dC (x:=y) U.right,Jw (cr.az U.left),ae,Option.map_some]
 |un op x=>
  simp only[a8,Option.map_eq_some_iff,Prod.mk.injEq]at h
  obtain⟨d,ae,rfl,rfl⟩:=h
  exact .pure fun ar U=>by simp only[a8,ax.dC (x:=x) U,ae,Option.map_some]
 |ei A B x=>
  simp only[a8,Option.map_eq_some_iff,Prod.mk.injEq]at h
  obtain⟨d,ae,rfl,rfl⟩:=h
  exact .pure fun ar U=>by simp only[a8,ax.dC (x:=x) U,Jt (cr.az U),ae,Option.map_some]
 |h_ f cs=>
  simp only[a8,Option.some.injEq,Prod.mk.injEq]at h
  obtain⟨rfl,rfl⟩:=h
  exact .pure fun ar U=>by simp only[a8,ax.yy (xs:=cs) U]
 |er T l c=>
  simp only[a8,Option.map_eq_some_iff,Prod.mk.injEq]at h
  obtain⟨d,ae,rfl,rfl⟩:=h
  refine .pure fun ar U=> ?_
  simp only[use]at U
  simp only[a8,ax.dC (x:=l) U.left,ax.dC (x:=c) U.right,ae,Option.map_some]
 |cF T x cb aA=>
  simp only[a8]at h
  obtain⟨ms,ab,ad,aB⟩:=JF h
  refine⟨ms,ab,ad,fun ar U=> ?_⟩
  simp only[use]at U
  simp only[a8,ax.dC (x:=x) U.left,Cv U.right.left,Cv U.right.right]
  exact aB ar (cr.az U.left)
 |ev T x k=>
  simp only[a8,Option.map_eq_some_iff,Prod.mk.injEq]at h
  obtain⟨d,ae,rfl,rfl⟩:=h
  exact .pure fun ar U=>by simp only[a8,ax.dC (x:=x) U,Jq (cr.az U),ae,Option.map_some]
 |eI T x i=>
  simp only[a8,Option.map_eq_some_iff,Prod.mk.injEq]at h
  obtain⟨d,ae,rfl,rfl⟩:=h
  refine .pure fun ar U=> ?_
  simp only[use]at U
  simp only[a8,ax.dC (x:=x) U.left,ax.dC (x:=i) U.right,Jr (cr.az U.left),ae,Option.map_some]
 |idx T x i=>
  simp only[a8,Option.map_eq_some_iff,Prod.mk.injEq]at h
  obtain⟨d,ae,rfl,rfl⟩:=h
  refine .pure fun ar U=> ?_
  simp only[use]at U
  simp only[a8,ax.dC (x:=x) U.left,ax.dC (x:=i) U.right,ae,Option.map_some]
 |ex x k=>
  simp only[a8,Option.map_eq_some_iff,Prod.mk.injEq]at h
  obtain⟨d,ae,rfl,rfl⟩:=h
  exact .pure fun ar U=>by simp only[a8,ax.dC (x:=x) U,Jz (cr.az U),ae,Option.map_some]
 |tb=>
  simp only[a8,Option.some.injEq,Prod.mk.injEq]at h
  obtain⟨rfl,rfl⟩:=h
  exact .pure fun ar U=>rfl
 |lH T x i=>
  simp only[a8,Option.map_eq_some_iff,Prod.mk.injEq]at h
  obtain⟨d,ae,rfl,rfl⟩:=h
  refine .pure fun ar U=> ?_
  simp only[use]at U
  simp only[a8,ax.dC (x:=x) U.left,ax.dC (x:=i) U.right,JJ (cr.az U.left),ae,Option.map_some]
 |kp T x i v=>
  simp only[a8,Option.map_eq_some_iff,Prod.mk.injEq]at h
  obtain⟨s2,ae,rfl,rfl⟩:=h
  obtain⟨ms,ab,ad,aB⟩:=JK ae
  refine⟨ms,ab,ad,fun ar U=> ?_⟩
  simp only[use]at U
  simp only[a8,ax.dC (x:=x) U.left,ax.dC (x:=i) U.right.left,ax.dC (x:=v) U.right.right]
  exact aB ar (cr.az U.left)
 |jS T x k=>
  simp only[a8,Option.bind_eq_some_iff]at h
  obtain⟨d,ae,h⟩:=h
  unfold mU at h
  split at h
  ·rename_i y q
   have aq:=Jy ae
   obtain⟨ms,ab,ad,aB⟩:=nT h
   refine⟨ms,ab,by simpa only[ck,aq,I.U]using ad,fun ar U=> ?_⟩
   have aJ:=aB ar (by rw[show(I.h y q).U=(az s x).U from aq.symm];exact cr.az U)
   simp only[a8,ax.dC (x:=x) U,Cw (cr.az U),ae,Option.bind_some,mU]
   exact aJ
  ·rename_i CD
   simp only[Option.some.injEq,Prod.mk.injEq]at h
   obtain⟨rfl,rfl⟩:=h
   refine .pure fun ar U=> ?_
   simp only[a8,ax.dC (x:=x) U,Cw (cr.az U),ae,Option.bind_some,mU]
 |call f args=>simp[a8]at h
 |len T x=>
  simp only[a8,Option.map_eq_some_iff,Prod.mk.injEq]at h
  obtain⟨d,ae,rfl,rfl⟩:=h
  exact .pure fun ar U=>by simp only[a8,ax.dC (x:=x) U,Js (cr.az U),ae,Option.map_some]
 |app T bc x y=>
  obtain⟨ms,ab,ad,aB⟩:=JI h
  refine⟨ms,ab,ad,fun ar U=> ?_⟩
  simp only[use]at U
  simp only[a8,ax.dC (x:=x) U.left,ax.dC (x:=y) U.right]
  exact aB ar (U.sub fun u hu=>by simp only[List.mem_append]at hu⊢;exact hu.imp (ax.pT u) (ax.pT u))
end
def I.one:I→Bool
 | .agg _=>false
 | .tuple _=>false
 |_=>true
mutual
def view (s:aj):I→Option I
 | .h x q=>match I.sub q (s x)with
   |some d=>(match d with| .tuple _=>none| .cH _=>none|d=>if d.plain then none else some d.share)
   |none=>none
 | .ak x q=>if I.dL q (s x)then(match I.sub q (s x)with
   |some d=>(match d with| .tuple _=>none|d=>some (.ref d.share))
   |none=>none)else none
 | .R _ _=>none
 | .fn f cap=>(views s cap).map (.fn f)
 | .hole=>none
 |d=>some d
def views (s:aj):List I→Option (List I)
 |[]=>some []
 |d::ds=>match view s d,views s ds with
  |some a,some b=>some (a::b)
  |_,_=>none
end
mutual
theorem yE:∀d:I,d.share.plain=true
 | .hole=>rfl
 | .bool _=>rfl
 | .dk=>rfl
 | .int _ _=>rfl
 | .str _=>rfl
 | .ct=>rfl
 | .bD=>rfl
 | .slice _=>rfl
 | .aE _ _=>rfl
 | .ref _=>rfl
 | .a_ _=>rfl
 | .agg ag=>by simp only[I.share,I.plain];exact yF ag
 | .tuple ag=>by simp only[I.share,I.plain];exact yF ag
 | .fn _ _=>rfl
 | .h _ _=>rfl
 | .ak _ _=>rfl
 | .R _ _=>rfl
 | .cH _=>rfl
theorem yF:∀ds:List I,I.ef (I.shares ds)=true
 |[]=>rfl
 |d::ds=>by simp only[I.shares,I.ef];rw[yE d,yF ds];rfl
end
theorem JL {s:aj} {a d:I} (h:a.plain=true) (he:view s a=some d):d.plain=true:=by
 cases a with
 |h x q=>
  simp only[view]at he
  split at he
  ·rename_i e dx
   cases e<;>simp only at he<;>first
    |(cases he;done)
    |(split at he
      ·cases he
      ·simp only[Option.some.injEq]at he
       subst he;exact yE _)
  ·cases he
 |ak x q=>
  simp only[view]at he
  split at he
  ·split at he
   ·rename_i e dx
    cases e<;>simp only at he<;>first
     |(cases he;done)
     |(simp only[Option.some.injEq]at he;subst he;rfl)
   ·cases he
  ·cases he
 |fn f cap=>
  simp only[view,Option.map_eq_some_iff]at he
  obtain⟨ds,_,rfl⟩:=he
  rfl
 |hole=>simp[view]at he
 |R y q=>simp[view]at he
 |_=>simp only[view,Option.some.injEq]at he;subst he;exact h
theorem yG {d:I} {v:Value} (ab:∀vs,d≠.tuple vs) (h:cA d v):cA d.share v:=by
 cases d<;>first|exact h|exact(ab _ rfl).elim
theorem JM (w:World):∀(q:List Nat) (av d aY:I) (cs bR:List Value) (a bU:Option (Nat×Nat)),I.sub q av=some d→aY.wd=d.wd→cg w q av cs a=some (d,bR,bU)→
  cg w q (I.put q aY av) cs a=some (aY,bR,bU):=by
 intro q
 induction q with
 |nil=>
  intro av d aY cs bR a bU ae hw h
  simp only[cg,Option.some.injEq,Prod.mk.injEq]at h
  obtain⟨rfl,rfl,rfl⟩:=h
  simp only[I.put,cg]
 |cons k q ih=>
  intro av d aY cs bR a bU ae hw h
  cases av with
  |agg ag=>
   simp only[I.sub]at ae
   split at ae
   ·rename_i x aq
    have al:k<ag.length:=(List.getElem?_eq_some_iff.1 aq).1
    simp only[cg,aq]at h
    simp only[I.put,aq,cg]
    rw[List.getElem?_set_self al]
    simp only[List.take_set_of_le (Nat.le_refl k),I.qN q x d aY ae hw]
    exact ih _ _ _ _ _ _ _ ae hw h
   ·cases ae
  |tuple ag=>
   simp only[I.sub]at ae
   split at ae
   ·rename_i x aq
    have al:k<ag.length:=(List.getElem?_eq_some_iff.1 aq).1
    simp only[cg,aq]at h
    simp only[I.put,aq,cg]
    rw[List.getElem?_set_self al]
    simp only[List.take_set_of_le (Nat.le_refl k),I.qN q x d aY ae hw]
    exact ih _ _ _ _ _ _ _ ae hw h
   ·cases ae
  |aE sz ag=>
   simp only[I.sub]at ae
   split at ae
   ·rename_i x aq
    have al:k<ag.length:=(List.getElem?_eq_some_iff.1 aq).1
    have jv:(ag.set k (I.put q aY x))[k]? =some (I.put q aY x):=List.getElem?_set_self al
    simp only[I.put,aq]
    rw[cg.eq_def]at h⊢
    simp only[aq]at h
    simp only
    rw[jv]
    split at h
    ·rename_i aH
     simp only[Option.some.injEq]at aH;subst aH
     exact ih _ _ _ _ _ _ _ ae hw h
    ·cases h
   ·cases ae
  |a_ x=>
   cases k with
   |zero=>
    simp only[I.sub]at ae
    rw[cg.eq_def]at h⊢
    simp only at h
    simp only[I.put]
    split at h
    ·rw[I.qN q x d aY ae hw]
     exact ih _ _ _ _ _ _ _ ae hw h
    ·cases h
   |succ k=>simp[I.sub]at ae
  |_=>simp[I.sub]at ae
section
variable {w0 w aw:World} {F0 X F Fc:Nat→Prop} {S:Nat→Nat→Prop} {s ar:aj} {ao hP:Nat→Value}
theorem JN (h:bb w0 F0 X F S s ao w) (a1:∀b,F b→Fc b):∀n,
  (∀(a:I) (v:Value) (d:I),SizeOf.sizeOf a≤n→(∀t∈a.U,∀b,S t b→Fc b)→view s a=some d→ay w F s ao a v (fun _=>False)→ay w Fc ar hP d v (fun _=>False))∧
  (∀(as:List I) (vs:List Value) (ds:List I),SizeOf.sizeOf as≤n→(∀t∈I.cZ as,∀b,S t b→Fc b)→views s as=some ds→cL w F s ao as vs→cL w Fc ar hP ds vs):=by
 intro n
 induction n with
 |zero=>exact⟨fun a _ _ bp=>by cases a<;>simp at bp<;>omega,fun as _ _ bp=>by cases as<;>simp at bp<;>omega⟩
 |succ n ih=>
  refine⟨fun a v d bp bg he aG=> ?_,fun as vs ds bp bg he aG=> ?_⟩
  ·cases a with
   |h x q=>
    simp only[view]at he
    split at he
    ·rename_i e dx
     have key:(∀ag,e≠.tuple ag)∧e.plain=false∧d=e.share∧∀o,e≠.cH o:=by
      cases e<;>simp only at he<;>first
       |(cases he;done)
       |(split at he
         ·cases he
         ·rename_i fi
          simp only[Option.some.injEq]at he
          exact⟨(fun _ h=>by cases h),by simpa using fi,he.symm,fun _ h=>by cases h⟩)
     obtain⟨kt,fi,rfl,iu⟩:=key
     rw[ay]at aG
     obtain⟨bR,bU,g1,g2,g3⟩:=aG e dx fi
     have aO:=fE dx (.inl fi)
     have aq:=(ay.bM aO).1 (h.cj x)
     obtain⟨ed,a2,cQ,dz,k0,bz,bK,df,cx,dB⟩:=ctx q (s x) (bx (ao x)) (S x) none e aq.2 dx
     rw[g1]at k0
     simp only[Option.some.injEq,Prod.mk.injEq,true_and]at k0
     obtain⟨rfl,rfl⟩:=k0
     have xY:e.share.tree=true:=by cases e<;>first|rfl|(simp[I.plain]at fi;done)|exact(iu _ rfl).elim
     have aD:=an.shared a1 e bR dz (fun b R=>bg x (by simp[I.U]) b (bK b R)) cx
     exact(ay.bM xY).2 ⟨yG kt g3,by rw[g2];exact aD⟩
    ·cases he
   |ak x q=>
    simp only[view]at he
    split at he
    ·rename_i l9
     split at he
     ·rename_i e dx
      have key:(∀ag,e≠.tuple ag)∧d= .ref e.share:=by
       cases e<;>simp only at he<;>first
        |(cases he;done)
        |(simp only[Option.some.injEq]at he;exact⟨(fun _ h=>by cases h),he.symm⟩)
      obtain⟨kt,rfl⟩:=key
      rw[ay]at aG
      obtain⟨bR,b,o,g1,rfl⟩:=aG e dx l9
      have aO:=fE dx (.inr l9)
      have aq:=(ay.bM aO).1 (h.cj x)
      obtain⟨ed,a2,cQ,dz,k0,bz,bK,df,cx,dB⟩:=ctx q (s x) (bx (ao x)) (S x) none e aq.2 dx
      rw[g1]at k0
      simp only[Option.some.injEq,Prod.mk.injEq,true_and]at k0
      obtain⟨rfl,rfl⟩:=k0
      have aD:=an.shared a1 e bR dz (fun b R=>bg x (by simp[I.U]) b (bK b R)) cx
      rcases dB with⟨l,r,_,aJ,_⟩|⟨dQ,cur,ty,fr,l,r,aH,aJ,aK,b0,b_,_⟩
      ·simp at aJ
      ·simp only[Option.some.injEq,Prod.mk.injEq]at aH
       obtain⟨rfl,rfl⟩:=aH
       refine(ay.bM rfl).2 ⟨rfl,?_⟩
       rw[an]
       refine⟨b,l.length,bR,rfl,bg x (by simp[I.U]) b (bz b aJ),?_,aD⟩
       intro j c b2
       simp only[World.cell?,aK]
       have ai:cur[l.length+j]? =some c:=by
        rw[←Array.getElem?_toList,b_,List.getElem?_append_right (by omega),List.getElem?_append_left (by
         have:=(List.getElem?_eq_some_iff.1 b2).1;omega)]
        rw[←b2];congr 1;omega
       simpa using ai
     ·cases he
    ·cases he
   |fn f cap=>
    simp only[view,Option.map_eq_some_iff]at he
    obtain⟨ds,hB,rfl⟩:=he
    rw[ay]at aG
    obtain⟨arr,rfl,ai⟩:=aG
    rw[ay]
    exact⟨arr,rfl,ih.2 cap _ _ (by simp at bp;omega) (by simpa [I.U]using bg) hB ai⟩
   |hole=>simp[view]at he
   |R y q=>simp[view]at he
   |_=>
    simp only[view,Option.some.injEq]at he;subst he
    have iX:=(ay.bM rfl).1 aG
    exact(ay.bM rfl).2 ⟨iX.1,an.mono a1 _ _ _ _ (fun _ h=>h) iX.2⟩
  ·cases as with
   |nil=>
    simp only[views,Option.some.injEq]at he;subst he
    rw[cL]at aG⊢;exact aG
   |cons a as=>
    simp only[views]at he
    split at he
    ·rename_i d ds ab ad
     simp only[Option.some.injEq]at he;subst he
     rw[cL]at aG⊢
     obtain⟨v,hj,rfl,g1,g2⟩:=aG
     simp at bp
     simp only[I.cZ,List.mem_append]at bg
     exact⟨v,hj,rfl,ih.1 a v d (by omega) (fun t aO=>bg t (.inl aO)) ab g1,ih.2 as hj ds (by omega) (fun t aO=>bg t (.inr aO)) ad g2⟩
    ·cases he
theorem bb.gv (h:bb w0 F0 X F S s ao w) {x:Nat} {q:List Nat} {d0 aY:I} {bR:List Value} {a:Option (Nat×Nat)} {Sn:Nat→Prop}
  (ae:I.sub q (s x)=some d0) (bk:cg w q (s x) (bx (ao x)) none=some (d0,bR,a)) (ad:∀vs,aY≠.tuple vs) (aO:q=[]→aY.tree=true∧cA aY (ao x))
  (aB:∀k p,q=k::p→(s x).tree=true∧(∀v,fY d0 v→fY aY v)) (hw:aY.wd=d0.wd)
  (aG:an w F aY bR Sn) (c_:∀b,Sn b→b<w.heap.size) (a1:∀b,Sn b→¬F b) (bg:∀u b,Sn b→¬S u b) (bm:∀b,Sn b→X b∨w0.heap.size≤b):
  bb w0 F0 X F (eH S x (fun b=>S x b∨Sn b)) (cm (jt x s) x (I.put q aY (s x))) ao w:=by
 have cR:cm ao x (ao x)=ao:=by funext u;simp only[cm];split<;>simp_all
 have main:(I.put q aY (s x)).tree=true∧cA (I.put q aY (s x)) (ao x)∧an w F (I.put q aY (s x)) (bx (ao x)) (fun b=>S x b∨Sn b):=by
  cases q with
  |nil=>
   simp only[cg,Option.some.injEq,Prod.mk.injEq]at bk
   obtain⟨aH,aJ,aK⟩:=bk
   obtain⟨g1,g2⟩:=aO rfl
   simp only[I.put]
   refine⟨g1,?_,?_⟩
   ·exact g2
   ·rw[aJ];exact an.mono (fun _ h=>h) _ _ _ _ (fun b R=>.inr R) aG
  |cons k p=>
   obtain⟨g1,g2⟩:=aB k p rfl
   have aq:=(ay.bM g1).1 (h.cj x)
   obtain⟨ed,a2,cQ,dz,k0,bz,bK,df,cx,dB⟩:=ctx (k::p) (s x) (bx (ao x)) (S x) none d0 aq.2 ae
   rw[bk]at k0
   simp only[Option.some.injEq,Prod.mk.injEq,true_and]at k0
   obtain⟨rfl,rfl⟩:=k0
   refine⟨?_,?_,?_⟩
   ·rcases ow k p aY (s x)with⟨ag,gs,aH,e⟩|⟨ag,gs,aH,e⟩|⟨sz,xs,bG,aH,e⟩|⟨y,z,aH,e⟩|e<;>rw[e]<;>first|rfl|exact g1
   ·refine sI aq.1 ae g2 (fun _ vs e=>(ad vs e).elim) hw
   ·have mono:∀b,(cQ b∨Sn b)→(S x b∨Sn b):=fun b R=>R.imp (bz b) id
    rcases dB with⟨l,r,aH,aJ,aK⟩|⟨b,cur,ty,fr,l,r,aH,aJ,aK,b0,b_,bw⟩
    ·rw[aH]
     exact an.mono (fun _ h=>h) _ _ _ _ mono (aK w aY bR Sn (fun _ _=>rfl) (fun _ _=>rfl) hw aG (fun b R ai=>bg x b R (bz b ai)))
    ·refine an.mono (fun _ h=>h) _ _ _ _ mono (bw w aY bR Sn (fun _ _=>rfl) (fun _ _ _=>rfl) ?_ hw aG (fun b R ai=>bg x b R (bz b ai)))
     rw[aK,←b_]
 have:=h.Bi (t:=x) main.1 main.2.1 main.2.2 (by rintro b (R|R);exact h.de x b R;exact c_ b R) (by rintro b (R|R);exact h.dY x b R;exact a1 b R)
  (by rintro u b cI (R|R);exact fun hu=>h.dA u x b cI hu R;exact bg u b R) (by rintro b (R|R);exact h.cE x b R;exact bm b R)
 rwa [cR]at this
end
mutual
def I.di:I→Bool
 | .slice _=>false
 | .ref _=>false
 | .fn _ _=>false
 | .h _ _=>false
 | .ak _ _=>false
 | .R _ _=>false
 | .aE _ xs=>I.ku xs
 | .a_ d=>d.di
 | .agg ag=>I.ku ag
 | .tuple ag=>I.ku ag
 |_=>true
def I.ku:List I→Bool
 |[]=>true
 |d::ds=>d.di&&I.ku ds
end
mutual
theorem an.di {w:World} {F bf:Nat→Prop}:∀(d:I) (cs:List Value) (S:Nat→Prop),d.di=true→an w F d cs S→an w bf d cs S
 | .hole,_,_,_,h=>h
 | .bool _,_,_,_,h=>h
 | .dk,_,_,_,h=>h
 | .int _ _,_,_,_,h=>h
 | .str _,_,_,_,h=>h
 | .ct,_,_,_,h=>h
 | .bD,_,_,_,h=>h
 | .slice xs,cs,S,aW,h=>by simp[I.di]at aW
 | .ref d,cs,S,aW,h=>by simp[I.di]at aW
 | .aE sz xs,cs,S,aW,h=>by
   rw[an]at h⊢
   rcases h with h|⟨b,cap,cur,e,fr,aF,ab,ad,aB,aR,ba,bu,bE,cK,eR,fB,js⟩
   ·exact .inl h
   ·exact .inr ⟨b,cap,cur,e,fr,aF,ab,ad,aB,aR,ba,bu,bE,cK,aN.di xs _ _ aW eR,fB,js⟩
 | .a_ d,cs,S,aW,h=>by
   rw[an]at h⊢
   obtain⟨b,cur,e,fr,aF,ab,ad,aB,aR,ba,bu,bE⟩:=h
   exact⟨b,cur,e,fr,aF,ab,ad,aB,aR,an.di d _ _ aW ba,bu,bE⟩
 | .agg ag,cs,S,aW,h=>by rw[an]at h⊢;exact aN.di ag _ _ aW h
 | .tuple ag,cs,S,aW,h=>by rw[an]at h⊢;exact aN.di ag _ _ aW h
 | .fn _ _,_,_,aW,h=>by simp[I.di]at aW
 | .h _ _,_,_,_,h=>h
 | .ak _ _,_,_,_,h=>h
 | .R _ _,_,_,_,h=>h
 | .cH _,_,_,_,h=>h
theorem aN.di {w:World} {F bf:Nat→Prop}:∀(ds:List I) (cs:List Value) (S:Nat→Prop),I.ku ds=true→aN w F ds cs S→aN w bf ds cs S
 |[],_,_,_,h=>h
 |d::ds,cs,S,aW,h=>by
  simp only[I.ku,Bool.and_eq_true]at aW
  rw[aN]at h⊢
  obtain⟨bJ,c2,bo,cu,ab,ad,aB,aR,ba,bu⟩:=h
  exact⟨bJ,c2,bo,cu,ab,an.di d _ _ aW.1 ad,aN.di ds _ _ aW.2 aB,aR,ba,bu⟩
end
theorem CE:∀(q:List Nat) (av d e:I),I.sub q av=some d→I.sub q (I.put q e av)=some e:=by
 intro q
 induction q with
 |nil=>intro av d e _;simp[I.put,I.sub]
 |cons k q ih=>
  intro av d e h
  cases av with
  |agg ag=>
   simp only[I.sub]at h
   split at h
   ·rename_i x aq
    have al:k<ag.length:=(List.getElem?_eq_some_iff.1 aq).1
    simp only[I.put,aq,I.sub,List.getElem?_set_self al]
    exact ih _ _ _ h
   ·cases h
  |tuple ag=>
   simp only[I.sub]at h
   split at h
   ·rename_i x aq
    have al:k<ag.length:=(List.getElem?_eq_some_iff.1 aq).1
    simp only[I.put,aq,I.sub,List.getElem?_set_self al]
    exact ih _ _ _ h
   ·cases h
  |aE sz ag=>
   simp only[I.sub]at h
   split at h
   ·rename_i x aq
    have al:k<ag.length:=(List.getElem?_eq_some_iff.1 aq).1
    simp only[I.put,aq,I.sub,List.getElem?_set_self al]
    exact ih _ _ _ h
   ·cases h
  |a_ x=>
   cases k with
   |zero=>simp only[I.sub]at h;simp only[I.put,I.sub];exact ih _ _ _ h
   |succ k=>simp[I.sub]at h
  |_=>simp[I.sub]at h
structure bW where
 a:I
 g:Bool
 d:I
 o:I
def I.own:I→Bool
 | .aE _ _=>true
 | .a_ _=>true
 |_=>false
def I.eD:I→Bool
 | .aE _ _=>true
 | .a_ _=>true
 | .cH _=>true
 | .agg ag=> !I.ef ag
 |_=>false
def oI (d o:I):Bool:=match d,o with
 | .agg a,.agg b=>I.cO a==I.cO b
 | .agg _,_=>false
 |_,.agg _=>false
 |_,_=>true
theorem oJ {d:I} (h:d.eD=true):d.plain=false∧d.tree=true∧∀vs,d≠.tuple vs:=by
 cases d<;>simp[I.eD]at h<;>first|exact⟨rfl,rfl,fun vs e=>by cases e⟩|exact⟨by simp only[I.plain];exact h,rfl,fun vs e=>by cases e⟩
theorem JO {d o:I} (h:d.eD=true) (bL:o.eD=true) (hl:oI d o=true):o.wd=d.wd∧(∀v,cA d v→cA o v)∧∀v,fY d.b8 v→fY o v:=by
 cases d<;>simp[I.eD]at h<;>cases o<;>simp[I.eD]at bL<;>simp[oI]at hl<;>first
  |exact⟨rfl,fun _ h=>h,fun _ h=>h⟩
  |exact⟨by simp only[I.wd];exact hl.symm,fun _ h=>h,fun _ h=>h⟩
def bW.ok (s:aj) (p:bW):Prop:=
 if p.g then(match p.a with| .h x q=>I.sub q (s x)=some p.d∧p.d.eD=true∧(p.o= .hole∨(p.o.eD=true∧oI p.d p.o=true))|_=>False)
 else view s p.a=some p.d
def gw:List bW→Bool
 |[]=>true
 |p::r=>(r.all fun bQ=> !(p.g||bQ.g)||(p.a.U.all fun u=> !bQ.a.U.contains u))&&gw r
def bW.take (s:aj) (p:bW):aj:=
 if p.g then(match p.a with| .h x q=>cm (fO x s) x (I.put q p.d.b8 (s x))|_=>s)else s
def bW.gv (s:aj) (p:bW):aj:=
 if p.g then(match p.a,p.o with|_,.hole=>s| .h x q,o=>cm (jt x s) x (I.put q o (s x))|_,_=>s)else s
def dI (s:aj) (ps:List bW):aj:=ps.foldl bW.take s
def gf (s:aj) (ps:List bW):aj:=ps.foldl bW.gv s
section
variable {w0 w aw:World} {F0 X F Fc:Nat→Prop} {S:Nat→Nat→Prop} {s ar:aj} {ao hP:Nat→Value}
def JP (w:World) (F:Nat→Prop) (s1:aj) (ao:Nat→Value) (p:bW) (v:Value) (Sn:Nat→Prop):Prop:=
 ∃x q a0,p.a= .h x q∧I.sub q (s1 x)=some p.d.b8∧cg w q (s1 x) (bx (ao x)) none=some (p.d.b8,bx v,a0)∧(s1 x).U=[]∧(q=[]→cA p.d (ao x))∧(q≠[]→(s1 x).tree=true)∧
  cA p.d v∧an w F p.d (bx v) Sn
theorem JQ {p:bW} {x:Nat} (h:(s x).U=[]) (ak:p.g=true→x∉p.a.U):bW.take s p x=s x:=by
 unfold bW.take
 split
 ·rename_i hg
  cases bT:p.a with
  |h y q=>
   have:x≠y:=by
    have:=ak hg
    rw[bT]at this
    simpa [I.U]using this
   simp only
   rw[hk _ _ this]
   exact te _ (by rw[h];simp)
  |_=>rfl
 ·rfl
theorem yH:∀{ps:List bW} {s:aj} {x:Nat},(s x).U=[]→(∀p∈ps,p.g=true→x∉p.a.U)→dI s ps x=s x:=by
 intro ps
 induction ps with
 |nil=>intros;rfl
 |cons p ps ih=>
  intro s x h ak
  have e:=JQ (s:=s) (p:=p) h (ak p (by simp))
  show dI (bW.take s p) ps x=s x
  rw[ih (by rw[e];exact h) (fun bQ c7=>ak bQ (by simp[c7])),e]
theorem nV {d:I} (h:d.own=true):d.plain=false∧d.tree=true∧d.b8= .hole∧d.one=true∧d.wd=1∧(∀v,cA d v↔Value.eO v=true):=by
 cases d<;>simp[I.own]at h<;>exact⟨rfl,rfl,rfl,rfl,rfl,fun v=>Iff.rfl⟩
theorem JR:∀(ps:List bW) (vs:List Value) (s:aj) (S:Nat→Nat→Prop),bb w0 F0 X F S s ao w→ps.length=vs.length→
  (∀(i:Nat) (p:bW) (v:Value),ps[i]? =some p→vs[i]? =some v→p.a.plain=true∧ay w F s ao p.a v (fun _=>False)∧(p.g=true→p.ok s))→gw ps=true→
  ∃(Sn bo:Nat→Nat→Prop),bb w0 F0 X F bo (dI s ps) ao w∧(∀u b,bo u b→S u b)∧
   (∀(i:Nat) (p:bW) (v:Value),ps[i]? =some p→vs[i]? =some v→p.g=true→JP w F (dI s ps) ao p v (Sn i))∧
   (∀i b,Sn i b→∃p,ps[i]? =some p∧p.g=true)∧
   (∀i b,Sn i b→∃u,S u b)∧(∀i u b,Sn i b→¬bo u b)∧(∀i j b,i≠j→Sn i b→¬Sn j b)∧
   (∀(aY:I) (eo:Value) (aF:Nat→Prop),(∀p∈ps,p.g=true→∀u∈p.a.U,u∉aY.U)→ay w F s ao aY eo aF→ay w F (dI s ps) ao aY eo aF):=by
 intro ps
 induction ps with
 |nil=>
  intro vs s S h hl _ _
  exact⟨fun _ _=>False,S,h,fun _ _ h=>h,fun i p v ak=>by simp at ak,fun _ _ h=>h.elim,fun _ _ h=>h.elim,fun _ _ _ h=>h.elim,fun _ _ _ _ h=>h.elim,fun _ _ _ _ h=>h⟩
 |cons p ps ih=>
  intro vs s S h hl s9 iz
  cases vs with
  |nil=>simp at hl
  |cons v vs=>
   simp only[List.length_cons,Nat.add_right_cancel_iff]at hl
   simp only[gw,Bool.and_eq_true,List.all_eq_true,Bool.or_eq_true,Bool.not_eq_true']at iz
   obtain⟨mi,lN⟩:=iz
   have q4:∀bQ∈ps,(p.g=true∨bQ.g=true)→∀u∈p.a.U,u∉bQ.a.U:=by
    intro bQ c7 hg u hu
    rcases mi bQ c7 with e|e
    ·rcases hg with hg|hg<;>simp[hg]at e
    ·simpa using e u hu
   obtain⟨f1,f2,f3⟩:=s9 0 p v rfl rfl
   cases hg:p.g with
   |false=>
    have eY:bW.take s p=s:=by simp[bW.take,hg]
    obtain⟨Sn,bo,g1,g2,g3,g4,g5,g6,g7,g8⟩:=ih vs s S h hl (fun i bQ eo ak aG=>s9 (i+1) bQ eo (by simpa using ak) (by simpa using aG)) lN
    have aH:dI s (p::ps)=dI s ps:=by show dI (bW.take s p) ps=_;rw[eY]
    rw[aH]
    refine⟨fun i=>match i with|0=>fun _=>False|i+1=>Sn i,bo,g1,g2,?_,?_,?_,?_,?_,fun aY eo aF ae=>g8 aY eo aF fun bQ c7=>ae bQ (by simp[c7])⟩
    ·intro i bQ eo ak aG fa
     cases i with
     |zero=>simp at ak;subst ak;rw[hg]at fa;cases fa
     |succ i=>exact g3 i bQ eo (by simpa using ak) (by simpa using aG) fa
    ·intro i b R
     cases i with
     |zero=>exact R.elim
     |succ i=>simpa using g4 i b R
    ·intro i b R
     cases i with
     |zero=>exact R.elim
     |succ i=>exact g5 i b R
    ·intro i u b R
     cases i with
     |zero=>exact R.elim
     |succ i=>exact g6 i u b R
    ·intro i j b cI aA b2
     cases i with
     |zero=>exact aA.elim
     |succ i=>
      cases j with
      |zero=>exact b2.elim
      |succ j=>exact g7 i j b (by omega) aA b2
   |true=>
    have eW:=f3 hg
    simp only[bW.ok,hg,if_true]at eW
    split at eW
    ·rename_i x q bT
     obtain⟨dx,yI,pw⟩:=eW
     obtain⟨kY,mj,vv⟩:=oJ yI
     have JS:bV s p.a=some (p.d,cm (fO x s) x (I.put q p.d.b8 (s x))):=by
      rw[bT];simp only[bV,dx,kY];rfl
     obtain⟨bo,t1,t2,t3,JT,t4,t5,t6,t7,t8,t9,t10,t11⟩:=l7 h f1 f2 JS
     have eY:bW.take s p=cm (fO x s) x (I.put q p.d.b8 (s x)):=by simp[bW.take,hg,bT]
     have mX:∀bQ∈ps,x∉bQ.a.U:=fun bQ c7=>q4 bQ c7 (.inl hg) x (by rw[bT];simp[I.U])
     have yJ:bW.take s p x=I.put q p.d.b8 (s x):=by rw[eY,kk]
     have CF:(bW.take s p x).U=[]:=by
      rw[yJ];exact q2 q _ _ _ dx (.inl kY) (fun _=>by cases ae:p.d<;>first|rfl|(rw[ae]at yI;simp[I.eD]at yI))
     obtain⟨Sn,cu,g1,g2,g3,g4,g5,g6,g7,g8⟩:=ih vs (bW.take s p) bo (by rw[eY];exact t1) hl (by
      intro i bQ eo ak aG
      obtain⟨bz,bK,df⟩:=s9 (i+1) bQ eo (by simpa using ak) (by simpa using aG)
      have hm:bQ∈ps:=List.mem_of_getElem? ak
      refine⟨bz,?_,?_⟩
      ·have:=t11 _ _ _ bK
       rw[bT]at this
       rw[eY]
       simp only[I.owner,iv]at this
       rwa [te _ (mX bQ hm)]at this
      ·intro fa
       have:=df fa
       simp only[bW.ok,fa,if_true]at this⊢
       split at this
       ·rename_i y gq nW
        have cI:y≠x:=fun e=>mX bQ hm (by rw[nW,e];simp[I.U])
        rw[eY,hk _ _ cI]
        have aO:=fE this.1 (.inl (oJ this.2.1).1)
        simp only[fO,xM aO]
        exact this
       ·exact this.elim) lN
     have aH:dI s (p::ps)=dI (bW.take s p) ps:=rfl
     have oK:dI (bW.take s p) ps x=I.put q p.d.b8 (s x):=by
      rw[yH CF (fun bQ c7 _=>mX bQ c7),yJ]
     rw[aH]
     refine⟨fun i=>match i with|0=>JT|i+1=>Sn i,cu,g1,fun u b R=>t9 u b (g2 u b R),?_,?_,?_,?_,?_,?_⟩
     rotate_left 5
     ·intro aY eo aF ae gT
      refine g8 aY eo aF (fun bQ c7=>ae bQ (by simp[c7])) ?_
      have:=t11 _ _ _ gT
      rw[bT]at this
      rw[eY]
      simp only[I.owner,iv]at this
      rwa [te _ (ae p (by simp) hg x (by rw[bT];simp[I.U]))]at this
     ·intro i bQ eo ak aG fa
      cases i with
      |zero=>
       simp at ak aG;subst ak aG
       have vw:=f2
       rw[bT,ay]at vw
       obtain⟨bR,a0,bJ,c2,c3⟩:=vw _ dx kY
       refine⟨x,q,a0,bT,?_,?_,?_,?_,?_,t3,t4⟩
       ·rw[oK];exact CE q _ _ _ dx
       ·rw[oK,c2];exact JM w q _ _ _ _ _ _ _ dx (I.ov _) bJ
       ·rw[oK,←yJ];exact CF
       ·intro cf;subst cf
        simp only[I.sub,Option.some.injEq]at dx
        have:=(ay.bM (by rw[dx];exact mj)).1 (h.cj x)
        rw[dx]at this
        exact this.1
       ·intro cf
        have aO:=fE dx (.inl kY)
        rw[oK]
        cases q with
        |nil=>exact(cf rfl).elim
        |cons k q=>rcases ow k q p.d.b8 (s x)with⟨ag,gs,aH,e⟩|⟨ag,gs,aH,e⟩|⟨sz,xs,bG,aH,e⟩|⟨y,z,aH,e⟩|e<;>rw[e]<;>first|rfl|exact aO
      |succ i=>exact g3 i bQ eo (by simpa using ak) (by simpa using aG) fa
     ·intro i b R
      cases i with
      |zero=>exact⟨p,rfl,hg⟩
      |succ i=>simpa using g4 i b R
     ·intro i b R
      cases i with
      |zero=>exact t10 b R
      |succ i=>obtain⟨u,hu⟩:=g5 i b R;exact⟨u,t9 u b hu⟩
     ·intro i u b R
      cases i with
      |zero=>exact fun hu=>t7 u b R (g2 u b hu)
      |succ i=>exact g6 i u b R
     ·intro i j b cI aA b2
      cases i with
      |zero=>
       cases j with
       |zero=>exact cI rfl
       |succ j=>obtain⟨u,hu⟩:=g5 j b b2;exact t7 u b aA hu
      |succ i=>
       cases j with
       |zero=>obtain⟨u,hu⟩:=g5 i b aA;exact t7 u b b2 hu
       |succ j=>exact g7 i j b (by omega) aA b2
    ·exact eW.elim
end
def dT (l:List I):aj:=fun i=>l.getD i .hole
def e0 (l:List Value):Nat→Value:=fun i=>l.getD i undef
def ml (P:Program) (f:FuncId) (args:Array Value) (w:World) (kv:Value→World→Prop):Prop:=
 ((callFunc f args).run P w= .ok (.enter f args) w∧Calls P f args w (fun e aw=>∃v,e= .returned v∧kv v aw))∨
 ∃v aw,(callFunc f args).run P w= .ok (.value v) aw∧kv v aw
theorem ml.mono {P:Program} {f:FuncId} {args:Array Value} {w:World} {kv CG:Value→World→Prop} (h:ml P f args w kv) (aD:∀v aw,kv v aw→CG v aw):ml P f args w CG:=by
 rcases h with⟨ab,ad⟩|⟨v,aw,ab,ad⟩
 ·exact .inl ⟨ab,Calls.mono ad fun e aw ⟨v,e,h⟩=>⟨v,e,aD v aw h⟩⟩
 ·exact .inr ⟨v,aw,ab,aD v aw ad⟩
def bq (C:bt) (f:FuncId) (as:List I) (r:I) (outs:List I):Prop:=
 ∀(w:World) (F X:Nat→Prop) (S:Nat→Nat→Prop) (vs:List Value),vs.length=as.length→bb w F X F S (dT as) (e0 vs) w→
  ml C.P f vs.toArray w fun v aw=>∃bf aF,bb w F X bf aF (dT (r::outs)) (e0 (v::vs)) aw
def I.res:I→Bool
 | .h _ _=>false
 | .ak _ _=>false
 | .R _ _=>false
 | .fn _ _=>false
 |_=>true
theorem CH {d:I} (h:d.tree=true):d.U=[]:=by cases d<;>first|rfl|(simp[I.tree]at h)
mutual
theorem yK {s ar:aj}:∀(a:I) (d:I),(∀u∈a.U,(s u).tree=true→ar u=s u)→view s a=some d→view ar a=some d
 | .h x q,d,hu,h=>by
   have aO:(s x).tree=true:=by
    simp only[view]at h
    split at h
    ·rename_i e dx
     cases e<;>simp only at h<;>first
      |(cases h;done)
      |(split at h
        ·cases h
        ·rename_i ak
         exact fE dx (.inl (by simpa using ak)))
    ·cases h
   simp only[view]at h⊢
   rw[hu x (by simp[I.U]) aO];exact h
 | .ak x q,d,hu,h=>by
   have aO:(s x).tree=true:=by
    simp only[view]at h
    split at h
    ·rename_i ai
     split at h
     ·rename_i e dx;exact fE dx (.inr ai)
     ·cases h
    ·cases h
   simp only[view]at h⊢
   rw[hu x (by simp[I.U]) aO];exact h
 | .R x q,d,hu,h=>by simp[view]at h
 | .fn f cap,d,hu,h=>by
   simp only[view,Option.map_eq_some_iff]at h⊢
   obtain⟨ds,ab,ad⟩:=h
   exact⟨ds,CI cap ds (by simpa [I.U]using hu) ab,ad⟩
 | .hole,d,hu,h=>h
 | .bool _,d,hu,h=>h
 | .dk,d,hu,h=>h
 | .int _ _,d,hu,h=>h
 | .str _,d,hu,h=>h
 | .ct,d,hu,h=>h
 | .bD,d,hu,h=>h
 | .slice _,d,hu,h=>h
 | .aE _ _,d,hu,h=>h
 | .ref _,d,hu,h=>h
 | .a_ _,d,hu,h=>h
 | .agg _,d,hu,h=>h
 | .tuple _,d,hu,h=>h
 | .cH _,d,hu,h=>h
theorem CI {s ar:aj}:∀(as:List I) (ds:List I),(∀u∈I.cZ as,(s u).tree=true→ar u=s u)→views s as=some ds→views ar as=some ds
 |[],ds,hu,h=>h
 |a::as,ds,hu,h=>by
  simp only[I.cZ,List.mem_append]at hu
  simp only[views]at h⊢
  split at h
  ·rename_i x y ab ad
   rw[yK a x (fun u hm=>hu u (.inl hm)) ab,CI as y (fun u hm=>hu u (.inr hm)) ad];exact h
  ·cases h
end
section
variable {C:bt} {w0 w aw:World} {F0 X F Fc:Nat→Prop} {S:Nat→Nat→Prop} {s ar:aj} {ao hP:Nat→Value}
def JU (w:World) (F:Nat→Prop) (s:aj) (ao:Nat→Value) (p:bW) (v:Value) (lO:Nat→Prop):Prop:=
 p.g=true→p.o= .hole∨∃x q a0 d0,p.a= .h x q∧I.sub q (s x)=some d0∧cg w q (s x) (bx (ao x)) none=some (d0,bx v,a0)∧(s x).U=[]∧
  (q=[]→cA p.o (ao x))∧(q≠[]→(s x).tree=true)∧p.o.eD=true∧an w F p.o (bx v) lO∧p.o.wd=d0.wd∧∀v,fY d0 v→fY p.o v
theorem JV:∀(ps:List bW) (vs:List Value) (s:aj) (S lO:Nat→Nat→Prop),bb w0 F0 X F S s ao w→ps.length=vs.length→
  (∀(i:Nat) (p:bW) (v:Value),ps[i]? =some p→vs[i]? =some v→JU w F s ao p v (lO i))→
  (∀i b,lO i b→b<w.heap.size∧¬F b∧(X b∨w0.heap.size≤b)∧∀u,¬S u b)→(∀i j b,i≠j→lO i b→¬lO j b)→gw ps=true→
  ∃cu,bb w0 F0 X F cu (gf s ps) ao w∧∀u b,cu u b→S u b∨∃i,lO i b:=by
 intro ps
 induction ps with
 |nil=>intro vs s S lO h _ _ _ _ _;exact⟨S,h,fun u b R=>.inl R⟩
 |cons p ps ih=>
  intro vs s S lO h hl yL R ae iz
  cases vs with
  |nil=>simp at hl
  |cons v vs=>
   simp only[List.length_cons,Nat.add_right_cancel_iff]at hl
   simp only[gw,Bool.and_eq_true,List.all_eq_true,Bool.or_eq_true,Bool.not_eq_true']at iz
   obtain⟨mi,lN⟩:=iz
   have q4:∀bQ∈ps,(p.g=true∨bQ.g=true)→∀u∈p.a.U,u∉bQ.a.U:=by
    intro bQ c7 hg u hu
    rcases mi bQ c7 with e|e
    ·rcases hg with hg|hg<;>simp[hg]at e
    ·simpa using e u hu
   have skip:bW.gv s p=s→∃cu,bb w0 F0 X F cu (gf s (p::ps)) ao w∧∀u b,cu u b→S u b∨∃i,lO i b:=by
    intro eY
    obtain⟨cu,g1,g2⟩:=ih vs s S (fun i=>lO (i+1)) h hl (fun i bQ eo ak aG=>yL (i+1) bQ eo (by simpa using ak) (by simpa using aG)) (fun i b h=>R (i+1) b h)
     (fun i j b cI=>ae (i+1) (j+1) b (by omega)) lN
    refine⟨cu,?_,fun u b hu=>(g2 u b hu).imp id fun⟨i,aA⟩=>⟨i+1,aA⟩⟩
    show bb _ _ _ _ _ (gf (bW.gv s p) ps) _ _
    rw[eY];exact g1
   cases hg:p.g with
   |false=>exact skip (by simp[bW.gv,hg])
   |true=>
    rcases yL 0 p v rfl rfl hg with bL|⟨x,q,a0,d0,bT,bJ,c2,c3,c4,c5,tg,JW,JX,c9⟩
    ·exact skip (by simp only[bW.gv,hg,bL,if_true])
    ·obtain⟨kY,mj,JY⟩:=oJ tg
     have eY:bW.gv s p=cm (jt x s) x (I.put q p.o (s x)):=by
      simp only[bW.gv,hg,if_true,bT]
      cases JZ:p.o<;>first|rfl|(rw[JZ]at tg;simp[I.eD]at tg)
     have step:=h.gv (x:=x) (q:=q) (aY:=p.o) bJ c2 JY (fun cf=>⟨mj,c4 cf⟩) (fun k r cf=>⟨c5 (by rw[cf];simp),c9⟩) JX JW
      (fun b h=>(R 0 b h).1) (fun b h=>(R 0 b h).2.1) (fun u b h=>(R 0 b h).2.2.2 u) (fun b h=>(R 0 b h).2.2.1)
     rw[←eY]at step
     obtain⟨cu,g1,g2⟩:=ih vs (bW.gv s p) _ (fun i=>lO (i+1)) step hl (by
      intro i bQ eo ak aG fa
      have hm:bQ∈ps:=List.mem_of_getElem? ak
      rcases yL (i+1) bQ eo (by simpa using ak) (by simpa using aG) fa with bL|⟨y,gq,ah,d1,bz,bK,df,cx,dB,dZ,gu,gZ,hT⟩
      ·exact .inl bL
      ·have cI:y≠x:=fun e=>q4 bQ hm (.inl hg) x (by rw[bT];simp[I.U]) (by rw[bz,e];simp[I.U])
       have kQ:bW.gv s p y=s y:=by
        rw[eY,hk _ _ cI]
        exact yv _ (by rw[cx];simp)
       exact .inr ⟨y,gq,ah,d1,bz,by rw[kQ];exact bK,by rw[kQ];exact df,by rw[kQ];exact cx,dB,by rw[kQ];exact dZ,gu,gZ,hT⟩)
      (by
       intro i b aA
       obtain⟨jR,gQ,jw,cY⟩:=R (i+1) b aA
       refine⟨jR,gQ,jw,fun u hu=> ?_⟩
       simp only[eH]at hu
       split at hu
       ·rcases hu with hu|hu
        ·exact cY _ hu
        ·exact ae 0 (i+1) b (by omega) hu aA
       ·exact cY _ hu)
      (fun i j b cI=>ae (i+1) (j+1) b (by omega)) lN
     refine⟨cu,g1,fun u b hu=> ?_⟩
     rcases g2 u b hu with hu|⟨i,aA⟩
     ·simp only[eH]at hu
      split at hu
      ·rename_i e;subst e
       exact hu.imp id fun h=>⟨0,h⟩
      ·exact .inl hu
     ·exact .inr ⟨i+1,aA⟩
def ia (ps:List bW):Bool:=ps.any fun p=> !p.g&& !p.a.U.isEmpty
theorem CJ (h:bb w0 F0 X F S s ao w) {ps:List bW} {vs:List Value} {f:FuncId} {r:I} (hl:ps.length=vs.length)
  (gT:∀(i:Nat) (p:bW) (v:Value),ps[i]? =some p→vs[i]? =some v→p.a.plain=true∧ay w F s ao p.a v (fun _=>False))
  (eW:∀p∈ps,p.ok s) (iz:gw ps=true) (bk:∀(Fc jV:Nat→Prop) (cQ:Nat→Nat→Prop),(∀b,F b→Fc b)→(∀b,jV b→∃u,S u b)→bb w Fc jV Fc cQ (dT (ps.map (·.d))) (e0 vs) w→
   ml C.P f vs.toArray w fun v aw=>∃bf aF,bb w Fc jV bf aF (dT (r::ps.map (·.o))) (e0 (v::vs)) aw) (aD:r.res=true)
  (aW:ia ps=true→r.di=true∧∀p∈ps,p.o.di=true):
  ml C.P f vs.toArray w fun v aw=>∃bf aF,bb w0 F0 X bf aF (gf (dI s ps) ps) ao aw∧iV w0 X bf aF (gf (dI s ps) ps) ao aw r v∧∀b,F b→bf b∧aw.heap[b]? =w.heap[b]? :=by
 obtain⟨Sn,bo,g1,g2,g3,g4,g5,g6,g7,g8⟩:=JR ps vs s S h hl (fun i p v ak aG=>⟨(gT i p v ak aG).1,(gT i p v ak aG).2,fun _=>eW p (List.mem_of_getElem? ak)⟩) iz
 have apart:∀(i j:Nat) (p bQ:bW),ps[i]? =some p→ps[j]? =some bQ→i≠j→(p.g=true∨bQ.g=true)→∀u∈p.a.U,u∉bQ.a.U:=by
  clear gT eW bk aW g1 g3 g4 g8 hl
  induction ps with
  |nil=>intro i j p bQ ak;simp at ak
  |cons ft ps ih=>
   simp only[gw,Bool.and_eq_true,List.all_eq_true,Bool.or_eq_true,Bool.not_eq_true']at iz
   obtain⟨mi,lN⟩:=iz
   have q4:∀bQ∈ps,(ft.g=true∨bQ.g=true)→∀u∈ft.a.U,u∉bQ.a.U:=by
    intro bQ c7 hg u hu
    rcases mi bQ c7 with e|e
    ·rcases hg with hg|hg<;>simp[hg]at e
    ·simpa using e u hu
   intro i j p bQ ak c7 cI hg u hu
   cases i with
   |zero=>
    simp at ak;subst ak
    cases j with
    |zero=>exact(cI rfl).elim
    |succ j=>exact q4 bQ (List.mem_of_getElem? (by simpa using c7)) hg u hu
   |succ i=>
    cases j with
    |zero=>
     simp at c7;subst c7
     exact fun th=>q4 p (List.mem_of_getElem? (by simpa using ak)) hg.symm u th hu
    |succ j=>exact ih lN i j p bQ (by simpa using ak) (by simpa using c7) (by omega) hg u hu
 let Fc:Nat→Prop:=fun b=>F b∨(ia ps=true∧∃u,bo u b)
 let jV:Nat→Prop:=fun b=>∃i,Sn i b
 have yM:∀b,F b→¬jV b:=fun b a1 ⟨i,aA⟩=>by obtain⟨u,hu⟩:=g5 i b aA;exact h.dY u b hu a1
 have ti:∀u b,bo u b→¬jV b:=fun u b hu ⟨i,aA⟩=>g6 i u b aA hu
 have tj:∀b,jV b→(X b∨w0.heap.size≤b)∧b<w.heap.size:=fun b ⟨i,aA⟩=>by obtain⟨u,hu⟩:=g5 i b aA;exact⟨h.cE u b hu,h.de u b hu⟩
 have pre:bb w Fc jV Fc Sn (dT (ps.map (·.d))) (e0 vs) w:=by
  refine⟨fun _ h=>h,fun _ h=>.inl h,?_,fun i b aA=>(tj b ⟨i,aA⟩).2,?_,fun i j b cI=>g7 i j b cI,fun i b aA=>.inl ⟨i,aA⟩,?_,fun _ _ _=>rfl,Nat.le_refl _,rfl,rfl,Out.refl _,h.eT.next h.size h.old fun b R=>(tj b R).1⟩
  ·rintro b (R|⟨_,u,hu⟩)
   ·exact h.dH b R
   ·exact g1.de u b hu
  ·rintro i b aA (R|⟨_,u,hu⟩)
   ·exact yM b R ⟨i,aA⟩
   ·exact g6 i u b aA hu
  ·intro t
   cases ak:ps[t]? with
   |none=>
    have:dT (ps.map (·.d)) t= .hole:=by simp[dT,List.getD,ak]
    rw[this,ay];trivial
   |some p=>
    have c_:t<vs.length:=by rw[←hl];exact(List.getElem?_eq_some_iff.1 ak).1
    have aG:vs[t]? =some vs[t]:=List.getElem?_eq_getElem c_
    have aH:dT (ps.map (·.d)) t=p.d:=by simp[dT,List.getD,ak]
    have aJ:e0 vs t=vs[t]:=by simp[e0,List.getD,aG]
    rw[aH,aJ]
    have hm:p∈ps:=List.mem_of_getElem? ak
    have al:=eW p hm
    cases hg:p.g with
    |true=>
     obtain⟨x,q,a0,bz,bK,df,cx,dB,dZ,gu,gZ⟩:=g3 t p _ ak aG hg
     simp only[bW.ok,hg,if_true,bz]at al
     exact(ay.bM (oJ al.2.1).2.1).2 ⟨gu,an.mono (fun b R=>.inl R) _ _ _ _ (fun _ h=>h) gZ⟩
    |false=>
     simp only[bW.ok,hg]at al
     obtain⟨f1,f2⟩:=gT t p _ ak aG
     have CK:∀bQ∈ps,bQ.g=true→∀u∈bQ.a.U,u∉p.a.U:=by
      intro bQ c7 fa u hu
      obtain⟨j,b2⟩:=List.getElem?_of_mem c7
      refine apart j t bQ p b2 ak (fun e=> ?_) (.inl fa) u hu
      subst e;rw[ak]at b2;simp only[Option.some.injEq]at b2;rw[b2,fa]at hg;cases hg
     have vw:=g8 _ _ _ CK f2
     have jv:view (dI s ps) p.a=some p.d:=yK _ _ (fun u hu aO=>yH (CH aO) (fun bQ c7 fa th=>CK bQ c7 fa u th hu)) (by simpa using al)
     refine ay.nothing (JL f1 jv) ((JN g1 (Fc:=Fc) (fun b R=>.inl R) (SizeOf.sizeOf p.a)).1 p.a _ p.d (Nat.le_refl _) ?_ jv vw)
     intro u hu b R
     refine .inr ⟨?_,u,R⟩
     simp only[ia,List.any_eq_true]
     refine⟨p,hm,?_⟩
     cases fu:p.a.U with
     |nil=>rw[fu]at hu;cases hu
     |cons _ _=>simp[hg]
 refine ml.mono (bk Fc jV Sn (fun b R=>.inl R) (fun b ⟨i,aA⟩=>g5 i b aA) pre) ?_
 rintro v aw ⟨bf,aF,ai⟩
 have keep:∀b,b<w.heap.size→¬jV b→aw.heap[b]? =w.heap[b]? :=ai.old
 let mm:Nat→Prop:=fun b=>if ia ps=true then F b else bf b
 have CL:∀b,F b→bf b:=fun b R=>ai.e3 b (.inl R)
 have q5:∀b,F b→mm b:=fun b R=>by
  simp only[mm];split
  ·exact R
  ·exact CL b R
 have tk:∀b,mm b→bf b:=fun b R=>by
  simp only[mm]at R;split at R
  ·exact CL b R
  ·exact R
 have CM:∀b,mm b→F b∨jV b∨w.heap.size≤b:=fun b R=>by
  simp only[mm]at R;split at R
  ·exact .inl R
  ·rename_i oD
   rcases ai.fh b R with(R|⟨ab,_⟩)|R|R
   ·exact .inl R
   ·exact(oD ab).elim
   ·exact .inr (.inl R)
   ·exact .inr (.inr R)
 have mid:bb w0 F0 X mm bo (dI s ps) ao aw:=by
  refine⟨fun b R=>q5 b (g1.e3 b R),?_,fun b R=>ai.dH b (tk b R),fun t b R=>Nat.lt_of_lt_of_le (g1.de t b R) ai.size,?_,g1.dA,g1.cE,?_,?_,Nat.le_trans g1.size ai.size,ai.os.trans g1.os,ai.tape.trans g1.tape,ai.output.trans g1.output,g1.eT⟩
  ·intro b R
   rcases CM b R with R|R|R
   ·exact g1.fh b R
   ·rcases(tj b R).1 with h|h
    ·exact .inr (.inl h)
    ·exact .inr (.inr h)
   ·exact .inr (.inr (Nat.le_trans g1.size R))
  ·intro t b aO R
   rcases CM b R with R|R|R
   ·exact g1.dY t b aO R
   ·exact ti t b aO R
   ·exact absurd (g1.de t b aO) (by omega)
  ·intro t
   exact ay.frame (Sx:=bo) (fun b R=>keep b (h.dH b R) (yM b R)) q5 (fun x b R=>keep b (g1.de x b R) (ti x b R)) g1.cj _ _ _ (fun b R=>keep b (g1.de t b R) (ti t b R)) (g1.cj t)
  ·intro b R hQ
   refine(keep b (Nat.lt_of_lt_of_le R g1.size) fun aq=> ?_).trans (g1.old b R hQ)
   rcases(tj b aq).1 with h|h
   ·exact hQ h
   ·omega
 have CN:∀(d:I) (cs:List Value) (cE:Nat→Prop),(ia ps=true→d.di=true)→an aw bf d cs cE→an aw mm d cs cE:=by
  intro d cs cE yq eP
  by_cases hle:ia ps=true
  ·exact an.di d cs cE (yq hle) eP
  ·exact an.mono (fun b R=>by simp only[mm];rw[if_neg hle];exact R) _ _ _ _ (fun _ h=>h) eP
 have bound:∀i b,aF i b→b<aw.heap.size∧¬mm b∧(X b∨w0.heap.size≤b)∧∀u,¬bo u b:=by
  intro i b R
  refine⟨ai.de i b R,fun a1=>ai.dY i b R (tk b a1),?_,fun u hu=> ?_⟩
  ·rcases ai.cE i b R with aq|aq
   ·exact(tj b aq).1
   ·exact .inr (Nat.le_trans g1.size aq)
  ·rcases ai.cE i b R with aq|aq
   ·exact ti u b hu aq
   ·exact absurd (g1.de u b hu) (by omega)
 obtain⟨cu,bz,bK⟩:=JV ps vs (dI s ps) bo (fun i=>aF (i+1)) mid hl (by
  intro i p eo ak aG hg
  have hm:p∈ps:=List.mem_of_getElem? ak
  have al:=eW p hm
  obtain⟨x,q,a0,aH,aJ,aK,b0,b_,bw,bn,gC⟩:=g3 i p eo ak aG hg
  simp only[bW.ok,hg,if_true,aH]at al
  rcases al.2.2 with bL|bL
  ·exact .inl bL
  ·obtain⟨e4,l2,yN⟩:=JO al.2.1 bL.1 bL.2
   refine .inr ⟨x,q,a0,p.d.b8,aH,aJ,?_,b0,fun cf=>l2 _ (b_ cf),bw,bL.1,?_,e4.trans (I.ov _).symm,yN⟩
   ·cases q with
    |nil=>simpa only[cg]using aK
    |cons k q=>
     have aO:=bw (by simp)
     rw[u3 (k::q) _ _ (bo x) none _ ((ay.bM aO).1 (g1.cj x)).2 aJ (fun b R=>keep b (g1.de x b R) (ti x b R))]
     exact aK
   ·have:=ai.cj (i+1)
    have iw:dT (r::ps.map (·.o)) (i+1)=p.o:=by simp[dT,List.getD,ak]
    have ix:e0 (v::vs) (i+1)=eo:=by simp[e0,List.getD,aG]
    rw[iw,ix]at this
    exact CN _ _ _ (fun hle=>(aW hle).2 p hm) ((ay.bM (oJ bL.1).2.1).1 this).2)
  (fun i b R=>bound (i+1) b R) (fun i j b cI=>ai.dA (i+1) (j+1) b (by omega)) iz
 refine⟨mm,cu,bz,?_,fun b R=>⟨q5 b R,keep b (h.dH b R) (yM b R)⟩⟩
 have bm:=ai.cj 0
 have iw:dT (r::ps.map (·.o)) 0=r:=rfl
 have ix:e0 (v::vs) 0=v:=rfl
 rw[iw,ix]at bm
 cases aO:r.tree with
 |false=>
  cases r<;>first
   |(simp[I.tree]at aO;done)
   |(simp[I.res]at aD;done)
   |exact .inl ⟨rfl,by rw[ay];trivial⟩
 |true=>
  obtain⟨s1,s2⟩:=(ay.bM aO).1 bm
  have eZ:=CN _ _ _ (fun hle=>(aW hle).1) s2
  refine .inr ⟨aO,s1,aF 0,eZ,fun b R=>(bound 0 b R).1,fun b R=>(bound 0 b R).2.1,fun u b R hu=> ?_,fun b R=>(bound 0 b R).2.2.1⟩
  rcases bK u b hu with hu|⟨i,aA⟩
  ·exact(bound 0 b R).2.2.2 u hu
  ·exact ai.dA 0 (i+1) b (by omega) R aA
theorem J0 (h:bb w0 F0 X F S s ao w) {ps:List bW} {vs:List Value} {f:FuncId} {r:I} (hl:ps.length=vs.length)
  (gT:∀(i:Nat) (p:bW) (v:Value),ps[i]? =some p→vs[i]? =some v→p.a.plain=true∧ay w F s ao p.a v (fun _=>False))
  (eW:∀p∈ps,p.ok s) (iz:gw ps=true) (bk:bq C f (ps.map (·.d)) r (ps.map (·.o))) (aD:r.res=true)
  (aW:ia ps=true→r.di=true∧∀p∈ps,p.o.di=true):
  ml C.P f vs.toArray w fun v aw=>∃bf aF,bb w0 F0 X bf aF (gf (dI s ps) ps) ao aw∧iV w0 X bf aF (gf (dI s ps) ps) ao aw r v∧∀b,F b→bf b∧aw.heap[b]? =w.heap[b]? :=
 CJ h hl gT eW iz (fun Fc jV cQ _ _ ak=>bk w Fc jV cQ vs (by simp[hl]) ak) aD aW
end
structure br where
 dst:Option Nat
 bd:ej
 guard:Option (Nat×Bool)
def tl (ops:Array Oper):Option (Nat×Bool)→Option (Option (Nat×Bool))
 |none=>some none
 |some (j,b)=>match(ops[j]?).bind (·.dst)with
  |some t=>some (some (t,b))
  |none=>none
structure Fr where
 n:Nat
 fx:List Nat
def jW (n:Fr):Option Nat→Bool
 |none=>true
 |some t=>decide (t<n.n)&& !n.fx.contains t
def oL (op:Op):ej:=match b7 op with
 |some bd=>bd
 |none=>.bad
def mY (n:Fr) (ops:Array Oper) (o:Oper):Option br:=
 if jW n o.dst=true then match tl ops o.guard with
  |some g=>some ⟨o.dst,oL o.op,g⟩
  |none=>none
 else none
def mZ (n:Fr) (ops:Array Oper):List Oper→Option (List br)
 |[]=>some []
 |o::os=>match mY n ops o,mZ n ops os with
  |some r,some rs=>some (r::rs)
  |_,_=>none
def vx (C:bt) (s:aj) (f:ax) (args:List ax) (K:I→aj→Prop):Prop:=
 ∃(g:FuncId) (caps:List I) (ps:List bW) (r:I),az s f= .fn g caps∧I.ef caps=true∧ps.map (·.a)=args.map (az s)++caps∧(∀p∈ps,p.ok s)∧gw ps=true∧
   bq C g (ps.map (·.d)) r (ps.map (·.o))∧r.res=true∧(ia ps=true→r.di=true∧∀p∈ps,p.o.di=true)∧K r (gf (dI s ps) ps)
mutual
def I.fm (s:aj):I→Bool
 | .h x q=>q.isEmpty&&(s x).own
 | .R x _=> !(s x).plain
 | .ak _ _=>false
 | .hole=>true
 | .fn _ cap=>I.oM s cap
 |d=>d.plain
def I.oM (s:aj):List I→Bool
 |[]=>true
 |d::ds=>d.fm s&&I.oM s ds
end
def nX (s:aj):List (Nat×I)→aj
 |[]=>s
 |p::L=>nX (cm s p.1 p.2) L
def na (s:aj):List (Nat×I)→Bool
 |[]=>true
 |p::L=>p.2.fm s&&na s L
def jX (s:aj) (us:List Nat):List (Nat×I):=us.map fun u=>(u,s u)
def lP (C:bt) (s:aj) (bd:ej) (K:I→aj→Prop):Prop:=
 match bd with
 | .call f args=>∃(g:FuncId) (caps:List I) (ps:List bW) (r:I),az s f= .fn g caps∧I.ef caps=true∧ps.map (·.a)=args.map (az s)++caps∧(∀p∈ps,p.ok s)∧gw ps=true∧
   bq C g (ps.map (·.d)) r (ps.map (·.o))∧r.res=true∧(ia ps=true→r.di=true∧∀p∈ps,p.o.di=true)∧K r (gf (dI s ps) ps)
 | .shr bd=>∃av s1,a8 C s bd=some (av,s1)∧av.tree=true∧(∀vs,av≠.tuple vs)∧K av.share s1
 | .kq f args u x=>s u= .h x []∧(s x).own=true∧vx C s f args fun av s1=>s1 u= .hole∧(s1 x).own=true∧K av (cm s1 u (.h x []))
 | .kr f args us=>na s (jX s us)=true∧vx C s f args fun av s1=>na s1 (jX s us)=true∧K av (nX s1 (jX s us))
 |bd=>∃av s1,a8 C s bd=some (av,s1)∧K av s1
theorem vy {C:bt} {s:aj} {bd:ej} {K bF:I→aj→Prop} (h:lP C s bd K) (al:∀av s,K av s→bF av s):lP C s bd bF:=by
 cases bd with
 |call f args=>
  obtain⟨g,caps,ps,r,ab,eQ,ad,aB,aR,ba,bu,bE,cK⟩:=h
  exact⟨g,caps,ps,r,ab,eQ,ad,aB,aR,ba,bu,bE,al _ _ cK⟩
 |shr bd=>
  obtain⟨av,s1,ab,ad,aB,aR⟩:=h
  exact⟨av,s1,ab,ad,aB,al _ _ aR⟩
 |kq f args u x=>
  obtain⟨bz,bK,g,caps,ps,r,ab,eQ,ad,aB,aR,ba,bu,bE,cK,eR,fB⟩:=h
  exact⟨bz,bK,g,caps,ps,r,ab,eQ,ad,aB,aR,ba,bu,bE,cK,eR,al _ _ fB⟩
 |kr f args us=>
  obtain⟨bK,g,caps,ps,r,ab,eQ,ad,aB,aR,ba,bu,bE,cK,eR⟩:=h
  exact⟨bK,g,caps,ps,r,ab,eQ,ad,aB,aR,ba,bu,bE,cK,al _ _ eR⟩
 |_=>
  obtain⟨av,s1,ab,ad⟩:=h
  exact⟨av,s1,ab,al _ _ ad⟩
def jz (C:bt) (s:aj) (o:br) (K:aj→Prop):Prop:=
 match o.guard with
 |none=>lP C s o.bd fun av s1=>K (fin s1 o.dst av)
 |some (t,b)=>match s t with
  | .bool dQ=>if dQ=b then lP C s o.bd (fun av s1=>K (fin s1 o.dst av))else K (fin s o.dst (.tuple []))
  | .tuple []=>K (fin s o.dst (.tuple []))
  |_=>False
def i_ (C:bt) (s:aj):List br→(aj→Prop)→Prop
 |[],K=>K s
 |o::os,K=>jz C s o fun s1=>i_ C s1 os K
def hC (C:bt) (ros:List br) (s:aj):List Nat→(aj→Prop)→Prop
 |[],K=>K s
 |i::l,K=>match ros[i]? with
  |none=>hC C ros s l K
  |some o=>jz C s o fun s1=>hC C ros s1 l K
theorem J1 (C:bt) (K:aj→Prop):∀(rs pre:List br) (s:aj),i_ C s rs K→hC C (pre++rs) s ((List.range rs.length).map (·+pre.length)) K:=by
 intro rs
 induction rs with
 |nil=>intro pre s h;exact h
 |cons r rs ih=>
  intro pre s h
  rw[List.length_cons,List.range_succ_eq_map,List.map_cons,List.map_map]
  simp only[hC,Nat.zero_add]
  rw[List.getElem?_append_right (Nat.le_refl _)]
  simp only[Nat.sub_self,List.getElem?_cons_zero]
  have key:∀s1,i_ C s1 rs K→hC C (pre++r::rs) s1 ((List.range rs.length).map ((fun x=>x+pre.length)∘Nat.succ)) K:=by
   intro s1 ab
   have:=ih (pre++[r]) s1 ab
   simp only[List.append_assoc,List.singleton_append,List.length_append,List.length_singleton]at this
   have e:((fun x=>x+pre.length)∘Nat.succ)=fun x=>x+(pre.length+1):=by funext x;simp;omega
   rw[e];exact this
  simp only[i_]at h
  unfold jz at h⊢
  split
  ·rename_i hg;rw[hg]at h;exact vy h fun av s1=>key _
  ·rename_i t b hg
   rw[hg]at h
   simp only at h
   split
   ·rename_i dQ U
    rw[U]at h
    simp only at h
    split
    ·rename_i R;rw[if_pos R]at h;exact vy h fun av s1=>key _
    ·rename_i R;rw[if_neg R]at h;exact key _ h
   ·rename_i U;rw[U]at h;exact key _ h
   ·rename_i ab ad
    split at h
    ·exact ab _ (by assumption)
    ·exact ad (by assumption)
    ·exact h
structure Rel (w0:World) (F0 X:Nat→Prop) (n:Fr) (ρ:Nat→Value) (s:aj) (a:Act) (w:World):Prop where
 defers:a.defers=[]
 size:a.tmps.size=n.n
 fixed:∀i∈n.fx,a.tmps.getD i undef=ρ i
 rel:∃F S,bb w0 F0 X F S s (fun t=>a.tmps.getD t undef) w
section
variable {C:bt} {w0 w:World} {F0 X:Nat→Prop} {n:Fr} {ρ:Nat→Value} {s s1:aj} {a:Act} {av:I} {Q:Exit→Act→World→Prop}
theorem yO {dst:Option Nat} (v:Value) (U:a.tmps.size=n.n) (ae:jW n dst=true):
  (fun t=>(a.put dst v).tmps.getD t undef)=nJ (fun t=>a.tmps.getD t undef) dst v∧(a.put dst v).tmps.size=n.n∧(a.put dst v).defers=a.defers:=by
 cases dst with
 |none=>exact⟨rfl,U,rfl⟩
 |some d=>
  simp only[jW,Bool.and_eq_true,decide_eq_true_eq]at ae
  refine⟨?_,by simp[Act.put,U],rfl⟩
  funext t
  simp only[Act.put,nJ,cm,Array.getD_eq_getD_getElem?]
  by_cases h:t=d
  ·subst h
   rw[if_pos rfl,Array.getElem?_setIfInBounds_self_of_lt (by omega)];rfl
  ·rw[if_neg h,Array.getElem?_setIfInBounds_ne (fun e=>h e.symm)]
theorem Rel.put {F S} (ae:a.defers=[]) (U:a.tmps.size=n.n) (bk:∀i∈n.fx,a.tmps.getD i undef=ρ i) {aw:World} (aD:bb w0 F0 X F S s (fun t=>a.tmps.getD t undef) aw) {v:Value} (aG:iV w0 X F S s (fun t=>a.tmps.getD t undef) aw av v)
  {dst:Option Nat} (eW:jW n dst=true):Rel w0 F0 X n ρ (fin s dst av) (a.put dst v) aw:=by
 obtain⟨aH,aJ,aK⟩:=yO (n:=n) (dst:=dst) v U eW
 obtain⟨aF,aS⟩:=aD.fin aG dst
 refine⟨aK.trans ae,aJ,fun i aA=> ?_,F,aF,by rw[aH];exact aS⟩
 rw[congrFun aH i]
 cases dst with
 |none=>exact bk i aA
 |some d=>
  simp only[jW,Bool.and_eq_true,Bool.not_eq_true',List.contains_eq_mem,decide_eq_false_iff_not]at eW
  have cI:i≠d:=fun e=>eW.2 (by rw[←e];exact aA)
  simp only[nJ]
  rw[hk _ _ cI]
  exact bk i aA
theorem Rel.skip (h:Rel w0 F0 X n ρ s a w) {dst:Option Nat} (eW:jW n dst=true):Rel w0 F0 X n ρ (fin s dst (.tuple [])) (a.put dst undef) w:=by
 obtain⟨ae,U,bk,F,S,aD⟩:=h
 refine Rel.put (av:=.tuple []) ae U bk aD (.inl ⟨rfl,(ay.bM (d:=.tuple []) rfl).2 ⟨?_,?_⟩⟩) eW
 ·exact⟨#[],rfl,rfl,fun k d x al=>by simp at al⟩
 ·rw[an,aN];rfl
theorem CO {F:Nat→Prop} {ao:Nat→Value} {w:World}:∀{ds es:List I} {vs us:List Value},cL w F s ao ds vs→cL w F s ao es us→cL w F s ao (ds++es) (vs++us):=by
 intro ds
 induction ds with
 |nil=>intro es vs us ab ad;rw[cL]at ab;subst ab;exact ad
 |cons d ds ih=>
  intro es vs us ab ad
  rw[cL]at ab
  obtain⟨v,hj,rfl,g1,g2⟩:=ab
  rw[List.cons_append,List.cons_append,cL]
  exact⟨v,_,rfl,g1,ih g2 ad⟩
theorem CP {F:Nat→Prop} {ao:Nat→Value} {w:World}:∀{ds:List I} {vs:List Value},cL w F s ao ds vs→ds.length=vs.length∧∀(i:Nat) (d:I) (v:Value),ds[i]? =some d→vs[i]? =some v→ay w F s ao d v (fun _=>False):=by
 intro ds
 induction ds with
 |nil=>intro vs h;rw[cL]at h;subst h;exact⟨rfl,fun i d v h=>by simp at h⟩
 |cons d ds ih=>
  intro vs h
  rw[cL]at h
  obtain⟨v,hj,rfl,g1,g2⟩:=h
  obtain⟨bz,bK⟩:=ih g2
  refine⟨by simp[bz],fun i aY eo ae aG=> ?_⟩
  cases i with
  |zero=>simp at ae aG;subst ae aG;exact g1
  |succ i=>exact bK i aY eo (by simpa using ae) (by simpa using aG)
theorem nb {op:Op} {bd:ej} (h:oL op=bd):bd= .bad∨b7 op=some bd:=by
 unfold oL at h
 split at h
 ·subst h;right;assumption
 ·exact .inl h.symm
theorem J2 {op:Op} {bd:ej}:b7 op≠some (.shr bd):=by
 intro h
 unfold b7 at h
 split at h<;>(try split at h)<;>(try split at h)<;>(try split at h)<;>(try simp[Option.map_eq_some_iff]at h)
theorem J3 {op:Op} {f:ax} {args:List ax} {u x:Nat}:b7 op≠some (.kq f args u x):=by
 intro h
 unfold b7 at h
 split at h<;>(try split at h)<;>(try split at h)<;>(try split at h)<;>(try simp[Option.map_eq_some_iff]at h)
theorem J4 {op:Op} {f:ax} {args:List ax} {us:List Nat}:b7 op≠some (.kr f args us):=by
 intro h
 unfold b7 at h
 split at h<;>(try split at h)<;>(try split at h)<;>(try split at h)<;>(try simp[Option.map_eq_some_iff]at h)
theorem J5 {op:Op} {T:TypeId} {x:ax}:b7 op≠some (.iZ T x):=by
 intro h
 unfold b7 at h
 split at h<;>(try split at h)<;>(try split at h)<;>(try split at h)<;>(try simp[Option.map_eq_some_iff]at h)
theorem J6 {op:Op} {x:ax}:b7 op≠some (.oG x):=by
 intro h
 unfold b7 at h
 split at h<;>(try split at h)<;>(try split at h)<;>(try split at h)<;>(try simp[Option.map_eq_some_iff]at h)
theorem J7 {op:Op} {x:ax}:b7 op≠some (.nS x):=by
 intro h
 unfold b7 at h
 split at h<;>(try split at h)<;>(try split at h)<;>(try split at h)<;>(try simp[Option.map_eq_some_iff]at h)
theorem J8 {op:Op} {x:ax} (h:b7 op=some (.bZ x)):∃b6,op= .move b6∧cv b6=some x:=by
 unfold b7 at h
 split at h<;>(try split at h)<;>(try split at h)<;>(try split at h)<;>(try simp[Option.map_eq_some_iff]at h)
 exact⟨_,rfl,h⟩
theorem J9 {op:Op} {x:ax} (h:b7 op=some (.dM x)):∃b6,op= .assign b6∧cv b6=some x:=by
 unfold b7 at h
 split at h<;>(try split at h)<;>(try split at h)<;>(try split at h)<;>(try simp[Option.map_eq_some_iff]at h)
 exact⟨_,rfl,h⟩
theorem J_ {op:Op} {T bc:TypeId} {x y:ax}:b7 op≠some (.lI T bc x y):=by
 intro h
 unfold b7 at h
 split at h<;>(try split at h)<;>(try split at h)<;>(try split at h)<;>(try simp[Option.map_eq_some_iff]at h)
theorem Ka {op:Op} {T bc:TypeId} {x y:ax} (h:b7 op=some (.app T bc x y)):∃a b,op= .call ⟨.builtin .append,#[a,b],#[T,bc]⟩∧cv a=some x∧cv b=some y:=by
 cases op with
 |call c=>
  obtain⟨callee,args,argTypes⟩:=c
  simp only[b7]at h
  split at h
  ·split at h<;>simp at h
  ·split at h<;>simp at h
  ·split at h<;>simp at h
  ·(split at h<;>try split at h)<;>simp at h
  ·(split at h<;>try split at h)<;>simp at h
  ·split at h
   ·rename_i a b yP vu ks pR
    split at h
    ·rename_i b6 h7 aq hy
     simp only[Option.some.injEq,ej.app.injEq]at h
     obtain⟨rfl,rfl,rfl,rfl⟩:=h
     refine⟨a,b,?_,aq,hy⟩
     have aH:args= #[a,b]:=by apply Array.ext';exact ks
     have aJ:argTypes= #[yP,vu]:=by apply Array.ext';exact pR
     subst aH aJ
     rfl
    ·cases h
   ·cases h
  ·cases h
 |makeFunc fn first cs=>
  cases fn<;>simp only[b7]at h<;>first|(cases h;done)|(split at h<;>simp at h)
 |slice T x cb aA dm=>
  cases dm<;>simp only[b7]at h<;>first|(cases h;done)|(split at h<;>simp at h)
 |makeMap T r=>cases r<;>simp only[b7]at h<;>simp at h
 |lookup T x i c=>cases c<;>simp only[b7]at h<;>first|(cases h;done)|(split at h<;>simp at h)
 |_=>simp only[b7]at h<;>first|(cases h;done)|(simp at h;done)|(split at h<;>simp at h)
theorem bb.alias {F:Nat→Prop} {S:Nat→Nat→Prop} {ao:Nat→Value} {u x:Nat} (h:bb w0 F0 X F S s ao w) (hu:s u= .hole) (aq:(s x).own=true) (aG:bx (ao u)=bx (ao x)) (ab:Value.eO (ao u)=true):
  bb w0 F0 X F (eH S u (fun _=>False)) (cm s u (.h x [])) ao w:=by
 have cR:cm ao u (ao u)=ao:=by funext y;simp only[cm];split<;>simp_all
 have:=h.sH (t:=u) (d:=.h x []) (v:=ao u) rfl (by
  rw[ay]
  intro d ae ak
  simp only[I.sub,Option.some.injEq]at ae
  subst ae
  exact⟨bx (ao x),none,rfl,aG,((nV aq).2.2.2.2.2 _).2 ab⟩)
 rwa [cR]at this
theorem iV.less {F:Nat→Prop} {S aF:Nat→Nat→Prop} {ao:Nat→Value} {s1:aj} {v:Value} (bg:∀u b,aF u b→S u b) (aD:av.res=true) (h:iV w0 X F S s ao w av v):iV w0 X F aF s1 ao w av v:=by
 rcases h with⟨ab,ad⟩|⟨ab,ad,Sn,aB,aR,ba,bu,bE⟩
 ·refine .inl ⟨ab,?_⟩
  cases av<;>first
   |(simp[I.res]at aD;done)
   |(rw[ay];trivial)
   |(rw[ay]at ad⊢;exact ad)
 ·exact .inr ⟨ab,ad,Sn,aB,aR,ba,fun u b R hu=>bu u b R (bg u b hu),bE⟩
theorem yQ (aU:C.dn) (h:Rel w0 F0 X n ρ s a w) {o:Oper} {f:ax} {args:List ax} (bC:b7 o.op=some (.call f args)) (ae:jW n o.dst=true) {K:I→aj→Prop} {L:aj→Prop} {next:Act→World→Prop}
  (hw:vx C s f args K) (jA:∀F S bf aF w aw av s1 v,bb w0 F0 X F S s (fun t=>a.tmps.getD t undef) w→K av s1→av.res=true→bb w0 F0 X bf aF s1 (fun t=>a.tmps.getD t undef) aw→iV w0 X bf aF s1 (fun t=>a.tmps.getD t undef) aw av v→(∀b,F b→bf b∧aw.heap[b]? =w.heap[b]?)→
   ∃s2 cu,L (fin s2 o.dst av)∧bb w0 F0 X bf cu s2 (fun t=>a.tmps.getD t undef) aw∧iV w0 X bf cu s2 (fun t=>a.tmps.getD t undef) aw av v)
  (aW:∀ar bU aw,L ar→Rel w0 F0 X n ρ ar bU aw→next bU aw):o.wp C.P a w next Q:=by
 have nY:=h
 obtain⟨gE,cV,fw,F,S,aD⟩:=h
 obtain⟨g,caps,ps,r,ab,eQ,ad,aB,aR,ba,bu,bE,cK⟩:=hw
 obtain⟨dst,op,ty,pos,after,guard⟩:=o
 simp only at bC ae jA
 cases op with
 |call c=>
  obtain⟨callee,mn,argTypes⟩:=c
  simp only[b7]at bC
  split at bC
  ·split at bC
   ·rename_i tm _ _ Kb xs bk mX
    simp only[Option.some.injEq,ej.call.injEq]at bC
    obtain⟨rfl,rfl⟩:=bC
    obtain⟨f1,f2⟩:=dy aD (fun _=>rfl) bk
    rw[ab,ay]at f2
    obtain⟨arr,f3,f4⟩:=f2
    have pU:execOp a.eval {dst,op:=.call {callee:=.value tm,args:=mn,argTypes},type:=ty,pos,after,guard}=callFunc g ((mn.toList.map a.eval++arr.toList).toArray):=by
     have:a.eval tm= .func (.func g) #[] arr:=f3
     simp only[execOp,resolve,this,Deferred.ofValue,pure_bind,invoke]
     congr 1
     apply Array.ext';simp
    unfold Oper.wp
    rw[pU]
    have tn:cL w F s (fun t=>a.tmps.getD t undef) (xs.map (az s)++caps) (mn.toList.map a.eval++arr.toList):=CO (vq aD (fun _=>rfl) _ _ (pP mX)) f4
    rw[←ad]at tn
    obtain⟨e4,l2⟩:=CP tn
    have fi:∀d∈xs.map (az s)++caps,d.plain=true:=by
     intro d ae
     rcases List.mem_append.1 ae with ae|ae
     ·obtain⟨x,aq,rfl⟩:=List.mem_map.1 ae
      exact Bo s x fun av e=>by
       subst e
       have hm:=pP mX
       have:some (ax.c av)∈xs.map some:=List.mem_map.2 ⟨_,aq,rfl⟩
       rw[←hm]at this
       obtain⟨o,_,bL⟩:=List.mem_map.1 this
       cases o with
       |const v=>simp only[cv,Option.map_eq_some_iff]at bL;obtain⟨c,ai,e⟩:=bL;cases e;exact xX ai
       |tmp n=>simp[cv]at bL
       |func g=>simp[cv]at bL
       |global g=>simp[cv]at bL
     ·obtain⟨k,al⟩:=List.getElem?_of_mem ae
      exact u2 eQ al
    have yR:=J0 (C:=C) aD (ps:=ps) (vs:=mn.toList.map a.eval++arr.toList) (f:=g) (r:=r) (by simpa using e4)
     (fun i p v ak aG=>⟨fi p.a (by rw[←ad];exact List.mem_map.2 ⟨p,List.mem_of_getElem? ak,rfl⟩),l2 i p.a v (by simp[ak]) aG⟩) aB aR ba bu bE
    rcases yR with⟨eF,cd⟩|⟨v,aw,eF,bf,aF,cd,fj,dt⟩
    ·rw[eF,Oper.upon_enter]
     refine Calls.mono cd ?_
     rintro e aw ⟨v,rfl,bf,aF,bz,bK,df⟩
     obtain⟨s2,cu,m1,m2,m3⟩:=jA _ _ _ _ _ _ _ _ _ aD cK bu bz bK df
     exact aW _ _ _ m1 (Rel.put gE cV fw m2 m3 ae)
    ·rw[eF,Oper.upon_value]
     obtain⟨s2,cu,m1,m2,m3⟩:=jA _ _ _ _ _ _ _ _ _ aD cK bu cd fj dt
     exact aW _ _ _ m1 (Rel.put gE cV fw m2 m3 ae)
   ·cases bC
  ·split at bC
   ·simp only[Option.map_eq_some_iff]at bC;obtain⟨_,_,bC⟩:=bC;cases bC
   ·cases bC
  ·split at bC
   ·simp only[Option.map_eq_some_iff]at bC;obtain⟨_,_,bC⟩:=bC;cases bC
   ·cases bC
  iterate 3
   ·split at bC
    ·split at bC<;>cases bC
    ·cases bC
  ·cases bC
 |makeFunc fn first cs=>
  cases fn<;>simp only[b7]at bC<;>first|(cases bC;done)|(split at bC<;>simp at bC)
 |slice T x cb aA dm=>
  cases dm<;>simp only[b7]at bC<;>first|(cases bC;done)|(split at bC<;>simp at bC)
 |makeMap T r=>cases r<;>simp only[b7]at bC<;>simp at bC
 |lookup T x i c=>cases c<;>simp only[b7]at bC<;>first|(cases bC;done)|(split at bC<;>simp at bC)
 |_=>simp only[b7]at bC<;>first|(cases bC;done)|(simp at bC;done)|(split at bC<;>simp at bC)
theorem Kc (aU:C.dn) (h:Rel w0 F0 X n ρ s a w) {o:Oper} {bd:ej} (bC:b7 o.op=some bd) (ae:jW n o.dst=true) {K:aj→Prop} {next:Act→World→Prop}
  (hw:lP C s bd fun av s1=>K (fin s1 o.dst av)) (aW:∀ar bU aw,K ar→Rel w0 F0 X n ρ ar bU aw→next bU aw):o.wp C.P a w next Q:=by
 have nY:=h
 obtain⟨gE,cV,fw,F,S,aD⟩:=h
 have plain:∀av s1,a8 C s bd=some (av,s1)→K (fin s1 o.dst av)→o.wp C.P a w next Q:=by
  intro av s1 he al
  obtain⟨r,aw,v,bf,aF,ab,ad,aB,aR⟩:=Ck (a:=a) aU aD (fun _=>rfl) bC he
  unfold Oper.wp
  rw[ab]
  rcases ad with rfl|⟨rfl,rfl⟩
  ·exact aW _ _ _ al (Rel.put gE cV fw aB aR ae)
  ·exact aW _ _ _ al (Rel.put gE cV fw aB aR ae)
 cases bd with
 |shr bd=>exact(J2 bC).elim
 |lI T bc x y=>exact(J_ bC).elim
 |call f args=>exact yQ aU ⟨gE,cV,fw,F,S,aD⟩ bC ae (K:=fun av s1=>K (fin s1 o.dst av)) hw (fun _ _ _ aF _ _ _ s1 _ _ ad _ aB aR _=>⟨s1,aF,ad,aB,aR⟩) aW
 |kq f args u x=>exact(J3 bC).elim
 |kr f args L=>exact(J4 bC).elim
 |iZ T x=>exact(J5 bC).elim
 |oG x=>exact(J6 bC).elim
 |nS x=>exact(J7 bC).elim
 |_=>
  obtain⟨av,s1,he,al⟩:=hw
  exact plain av s1 he al
theorem iV.share {F:Nat→Prop} {S:Nat→Nat→Prop} {ao:Nat→Value} {v:Value} (h:bb w0 F0 X F S s ao w) (aG:iV w0 X F S s ao w av v) (aO:av.tree=true) (aW:∀vs,av≠.tuple vs):
  ∃bf,bb w0 F0 X bf S s ao w∧iV w0 X bf S s ao w av.share v:=by
 obtain⟨Sn,e_,eB,gR,gS,oA,pV⟩:∃Sn:Nat→Prop,cA av v∧an w F av (bx v) Sn∧(∀b,Sn b→b<w.heap.size)∧(∀b,Sn b→¬F b)∧(∀u b,Sn b→¬S u b)∧(∀b,Sn b→X b∨w0.heap.size≤b):=by
  rcases aG with⟨ab,ad⟩|⟨_,ad,Sn,aB,aR,ba,bu,bE⟩
  ·rw[ay.bM aO]at ad
   exact⟨fun _=>False,ad.1,ad.2,fun _ h=>h.elim,fun _ h=>h.elim,fun _ _ h=>h.elim,fun _ h=>h.elim⟩
  ·exact⟨Sn,ad,aB,aR,ba,bu,bE⟩
 refine⟨fun b=>F b∨Sn b,?_,.inl ⟨yE av,?_⟩⟩
 ·exact {
   e3:=fun b R=>.inl (h.e3 b R)
   fh:=fun b R=>by
    rcases R with R|R
    ·exact h.fh b R
    ·exact .inr (pV b R)
   dH:=fun b R=>R.elim (h.dH b) (gR b)
   de:=h.de
   dY:=fun t b R bk=>bk.elim (h.dY t b R) (fun U=>oA t b U R)
   dA:=h.dA
   cE:=h.cE
   cj:=fun t=>ay.frame (fun _ _=>rfl) (fun b R=>.inl R) (fun _ _ _=>rfl) h.cj _ _ _ (fun _ _=>rfl) (h.cj t)
   old:=h.old
   size:=h.size
   os:=h.os
   tape:=h.tape
   output:=h.output
   eT:=h.eT}
 ·by_cases bL:∃o,av= .cH o
  ·obtain⟨o,rfl⟩:=bL
   rw[I.share,ay];trivial
  have Kd:av.share.tree=true:=by cases av<;>first|exact aO|rfl|exact(bL ⟨_,rfl⟩).elim
  rw[ay.bM Kd]
  exact⟨yG aW e_,an.shared (fun b R=>.inl R) av _ Sn (fun b R=>.inr R) eB⟩
theorem Ke {op:Op} {T:TypeId} {x:ax} (h:b7 op=some (.ep T x)):∃a,op= .box T a∧cv a=some x:=by
 cases op with
 |box yP a=>
  simp only[b7,Option.map_eq_some_iff,ej.ep.injEq]at h
  obtain⟨y,hy,rfl,rfl⟩:=h
  exact⟨a,rfl,hy⟩
 |_=>
  exfalso
  unfold b7 at h
  split at h<;>(try split at h)<;>(try split at h)<;>(try split at h)<;>(try simp[Option.map_eq_some_iff]at h)<;>contradiction
theorem Kf {aw:World} {F bf:Nat→Prop} {s s1:aj} {ao:Nat→Value} (a1:∀b,F b→bf b∧aw.heap[b]? =w.heap[b]?):∀(n:Nat),
  (∀(d:I) (v:Value) (S:Nat→Prop),SizeOf.sizeOf d≤n→d.fm s=true→d.fm s1=true→ay w F s ao d v S→ay aw bf s1 ao d v (fun _=>False))∧
  (∀(ds:List I) (vs:List Value),SizeOf.sizeOf ds≤n→I.oM s ds=true→I.oM s1 ds=true→cL w F s ao ds vs→cL aw bf s1 ao ds vs):=by
 intro n
 induction n with
 |zero=>
  refine⟨fun d v S bp=> ?_,fun ds vs bp=> ?_⟩
  ·cases d<;>simp at bp<;>omega
  ·cases ds<;>simp at bp<;>omega
 |succ n ih=>
  refine⟨fun d v S bp bz bK h=> ?_,fun ds vs bp bz bK h=> ?_⟩
  ·cases d with
   |hole=>rw[ay];trivial
   |h x q=>
    simp only[I.fm,Bool.and_eq_true,List.isEmpty_iff]at bz bK
    obtain⟨rfl,bz⟩:=bz
    rw[ay]at h⊢
    obtain⟨bR,a,ee,e7,fX⟩:=h (s x) (by simp only[I.sub]) (nV bz).1
    simp only[cg,Option.some.injEq,Prod.mk.injEq,true_and]at ee
    intro d ae _
    simp only[I.sub,Option.some.injEq]at ae
    subst ae
    exact⟨bx (ao x),none,by simp only[cg],by rw[e7,←ee.1],((nV bK.2).2.2.2.2.2 _).2 (((nV bz).2.2.2.2.2 _).1 fX)⟩
   |ak x q=>simp[I.fm]at bz
   |R x k=>
    simp only[I.fm,Bool.not_eq_true']at bz
    rw[ay]at h⊢
    obtain⟨b,cur,e,fr,ab,ad,aB,aR⟩:=h bz
    exact fun _=>⟨b,cur,e,fr,ab,(a1 b ad).1,(a1 b ad).2.trans aB,aR⟩
   |fn f cap=>
    simp only[I.fm]at bz bK
    rw[ay]at h⊢
    obtain⟨arr,rfl,ai⟩:=h
    exact⟨arr,rfl,ih.2 _ _ (by simp at bp;omega) bz bK ai⟩
   |_=>
    simp only[I.fm]at bz
    have aS:=(ay.bM rfl).1 h
    exact(ay.bM rfl).2 ⟨aS.1,an.mono (fun b R=>(a1 b R).1) _ _ _ _ (fun _ h=>h) (an.frame (fun b R=>(a1 b R).2) _ _ _ (fun _ h=>h.elim) (an.plain _ _ _ _ bz aS.2))⟩
  ·cases ds with
   |nil=>rw[cL]at h⊢;exact h
   |cons d ds=>
    simp only[I.oM,Bool.and_eq_true]at bz bK
    rw[cL]at h⊢
    obtain⟨v,hj,rfl,ab,ad⟩:=h
    simp at bp
    exact⟨v,hj,rfl,ih.1 _ _ _ (by omega) bz.1 bK.1 ab,ih.2 _ _ (by omega) bz.2 bK.2 ad⟩
theorem Kg {s:aj} {d:I} (h:d.fm s=true):d.plain=true:=by
 cases d<;>first|rfl|(simpa [I.fm]using h)
theorem bb.nX {F:Nat→Prop} {ao:Nat→Value}:∀(L:List (Nat×I)) (s:aj) (S:Nat→Nat→Prop),bb w0 F0 X F S s ao w→(∀p∈L,p.2.plain=true∧ay w F s ao p.2 (ao p.1) (fun _=>False))→
  ∃aF,bb w0 F0 X F aF (ca.nX s L) ao w∧∀u b,aF u b→S u b:=by
 intro L
 induction L with
 |nil=>intro s S h _;exact⟨S,h,fun _ _ h=>h⟩
 |cons p L ih=>
  intro s S h jA
  obtain⟨ab,ad⟩:=jA p (by simp)
  have cR:cm ao p.1 (ao p.1)=ao:=by funext u;simp only[cm];split<;>simp_all
  have aB:=h.sH (t:=p.1) ab ad
  rw[cR]at aB
  have e2:∀x,x≠p.1→(cm s p.1 p.2 x).tree=true→cm s p.1 p.2 x=s x∧ao x=ao x:=fun x aq _=>⟨hk _ _ aq,rfl⟩
  obtain⟨aF,g1,g2⟩:=ih _ _ aB (fun q cf=>⟨(jA q (by simp[cf])).1,(ay.void (t:=p.1) e2 (by rw[kk];exact ab) _).1 _ _ _ (Nat.le_refl _) (jA q (by simp[cf])).2⟩)
  refine⟨aF,g1,fun u b R=> ?_⟩
  have:=g2 u b R
  simp only[eH]at this
  split at this
  ·exact this.elim
  ·exact this
theorem yS {s:aj}:∀{L:List (Nat×I)},na s L=true→∀p∈L,p.2.fm s=true
 |q::L,ab,p,ak=>by
  simp only[na,Bool.and_eq_true]at ab
  rcases List.mem_cons.1 ak with rfl|ak
  ·exact ab.1
  ·exact yS ab.2 p ak
theorem Kh {s:aj} {us:List Nat} {p:Nat×I} (h:p∈jX s us):p.1∈us∧s p.1=p.2:=by
 obtain⟨u,hu,rfl⟩:=List.mem_map.1 h
 exact⟨hu,rfl⟩
theorem Ki (aU:C.dn) (h:Rel w0 F0 X n ρ s a w) {o:Oper} {bd:ej} (bC:oL o.op=bd.base) (ae:jW n o.dst=true) {K:aj→Prop} {next:Act→World→Prop}
  (hw:lP C s bd fun av s1=>K (fin s1 o.dst av)) (aW:∀ar bU aw,K ar→Rel w0 F0 X n ρ ar bU aw→next bU aw):o.wp C.P a w next Q:=by
 cases bd with
 |shr bd=>
  obtain⟨av,s1,he,aO,kt,al⟩:=hw
  rcases nb bC with bC|bC
  ·change bd= .bad at bC
   subst bC;cases he
  obtain⟨gE,cV,fw,F,S,aD⟩:=h
  obtain⟨r,aw,v,bf,aF,ab,ad,aB,aR⟩:=Ck (a:=a) aU aD (fun _=>rfl) bC he
  obtain⟨tk,g3,g4⟩:=iV.share aB aR aO kt
  unfold Oper.wp
  rw[ab]
  rcases ad with rfl|⟨rfl,rfl⟩
  ·exact aW _ _ _ al (Rel.put gE cV fw g3 g4 ae)
  ·exact aW _ _ _ al (Rel.put gE cV fw g3 g4 ae)
 |bad=>obtain⟨av,s1,he,_⟩:=hw;cases he
 |kq f args u x=>
  obtain⟨aH,aJ,hw⟩:=hw
  rcases nb bC with R|R
  ·cases R
  ·refine yQ aU h R ae hw ?_ aW
   rintro F S bf aF w aw av s1 v e_ ⟨eB,gR,gS⟩ oA pV tp _
   have u7:=e_.cj u
   rw[aH,ay]at u7
   obtain⟨bR,a0,ee,e7,fX⟩:=u7 (s x) (by simp only[I.sub]) (nV aJ).1
   simp only[cg,Option.some.injEq,Prod.mk.injEq,true_and]at ee
   have Kj:∀y b,eH aF u (fun _=>False) y b→aF y b:=by
    intro y b R
    simp only[eH]at R
    split at R
    ·exact R.elim
    ·exact R
   exact⟨_,_,gS,pV.alias eB gR (by rw[e7,←ee.1]) (((nV aJ).2.2.2.2.2 _).1 fX),tp.less Kj oA⟩
 |kr f args L=>
  obtain⟨aJ,hw⟩:=hw
  rcases nb bC with R|R
  ·cases R
  ·refine yQ aU h R ae hw ?_ aW
   rintro F S bf aF w aw av s1 v e_ ⟨eB,gS⟩ oA pV tp Kk
   obtain⟨cu,g1,g2⟩:=pV.nX (jX s L) s1 aF (fun p ak=>by
    have eF:=(Kh ak).2
    have cd:=yS aJ p ak
    have fj:=yS eB p ak
    refine⟨Kg cd,(Kf Kk _).1 _ _ (S p.1) (Nat.le_refl _) cd fj ?_⟩
    have:=e_.cj p.1
    rw[eF]at this
    exact this)
   exact⟨_,cu,gS,g1,tp.less g2 oA⟩
 |iZ T x=>
  obtain⟨av,s1,he,al⟩:=hw
  rcases nb bC with R|R
  ·cases R
  ·obtain⟨b6,mo,aq⟩:=Ke R
   obtain⟨gE,cV,fw,F,S,aD⟩:=h
   obtain⟨dst,op,ty,pos,after,guard⟩:=o
   simp only at mo ae al
   subst mo
   obtain⟨r,aw,v,bf,aF,ab,ad,aB,aR⟩:Next C w0 F0 X (fun t=>a.tmps.getD t undef) w (execOp a.eval ⟨dst,.box T b6,ty,pos,after,guard⟩) av s1:=(H5 (T:=T) aD (dy aD (fun _=>rfl) aq).2 he).next
   unfold Oper.wp
   rw[ab]
   rcases ad with rfl|⟨rfl,rfl⟩
   ·exact aW _ _ _ al (Rel.put gE cV fw aB aR ae)
   ·exact aW _ _ _ al (Rel.put gE cV fw aB aR ae)
 |nS x=>
  obtain⟨av,s1,he,al⟩:=hw
  rcases nb bC with R|R
  ·cases R
  ·obtain⟨b6,mo,aq⟩:=J8 R
   obtain⟨gE,cV,fw,F,S,aD⟩:=h
   obtain⟨dst,op,ty,pos,after,guard⟩:=o
   simp only at mo ae al
   subst mo
   simp only[a8]at he
   obtain⟨g1,g2⟩:=dy aD (fun _=>rfl) aq
   obtain⟨r,aw,v,bf,aF,ab,ad,aB,aR⟩:Next C w0 F0 X (fun t=>a.tmps.getD t undef) w (execOp a.eval ⟨dst,.move b6,ty,pos,after,guard⟩) av s1:=by
    unfold mU at he
    split at he
    ·rename_i y q hy
     rw[hy]at g1 g2
     obtain⟨bo,k0,bz,bK,Sn,df,cx,dB,dZ,gu,_⟩:=l7 aD g1 g2 he
     exact⟨_,w,_,F,bo,rfl,.inl rfl,k0,.inr ⟨bz,bK,Sn,df,cx,dB,dZ,gu⟩⟩
    ·simp only[Option.some.injEq,Prod.mk.injEq]at he
     obtain⟨rfl,rfl⟩:=he
     exact⟨_,w,_,F,S,rfl,.inl rfl,aD,.inl ⟨g1,g2⟩⟩
   unfold Oper.wp
   rw[ab]
   rcases ad with rfl|⟨rfl,rfl⟩
   ·exact aW _ _ _ al (Rel.put gE cV fw aB aR ae)
   ·exact aW _ _ _ al (Rel.put gE cV fw aB aR ae)
 |oG x=>
  obtain⟨av,s1,he,al⟩:=hw
  rcases nb bC with R|R
  ·cases R
  ·obtain⟨b6,mo,aq⟩:=J9 R
   obtain⟨gE,cV,fw,F,S,aD⟩:=h
   obtain⟨dst,op,ty,pos,after,guard⟩:=o
   simp only at mo ae al
   subst mo
   simp only[a8,Option.some.injEq,Prod.mk.injEq]at he
   obtain⟨rfl,rfl⟩:=he
   obtain⟨g1,g2⟩:=dy aD (fun _=>rfl) aq
   obtain⟨r,aw,v,bf,aF,ab,ad,aB,aR⟩:Next C w0 F0 X (fun t=>a.tmps.getD t undef) w (execOp a.eval ⟨dst,.assign b6,ty,pos,after,guard⟩) (az s x) s:=⟨_,w,_,F,S,rfl,.inl rfl,aD,.inl ⟨g1,g2⟩⟩
   unfold Oper.wp
   rw[ab]
   rcases ad with rfl|⟨rfl,rfl⟩
   ·exact aW _ _ _ al (Rel.put gE cV fw aB aR ae)
   ·exact aW _ _ _ al (Rel.put gE cV fw aB aR ae)
 |lI T bc x y=>
  obtain⟨av,s1,he,al⟩:=hw
  rcases nb bC with R|R
  ·cases R
  ·obtain⟨b6,h7,mo,aq,hy⟩:=Ka R
   obtain⟨gE,cV,fw,F,S,aD⟩:=h
   simp only[a8,Option.map_eq_some_iff,Prod.mk.injEq]at he
   obtain⟨d,e6,rfl,rfl⟩:=he
   obtain⟨v,aw,bf,aF,ab,ad,aB⟩:=I2 (ty:=o.type) aU aD (dy aD (fun _=>rfl) aq).2 (dy aD (fun _=>rfl) hy).2 e6
   have pU:execOp a.eval o=(do pure (.value (←Builtin.append_ #[T,bc] o.type #[a.eval b6,a.eval h7]))):=by
    obtain⟨dst,op,ty,pos,after,guard⟩:=o
    simp only at mo
    subst mo
    simp[execOp,resolve,invoke,builtin]
   unfold Oper.wp
   rw[pU]
   simp only[Sem.run_bind,ab,Result.andThen]
   exact aW _ _ _ al (Rel.put gE cV fw ad aB ae)
 |_=>
  rcases nb bC with R|R
  ·cases R
  ·exact Kc aU h R ae hw aW
end
end Go.ca
