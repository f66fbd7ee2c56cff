/- Part of a proof that a law returns true for every input. No condition. -/
import Derived.Test.YtikimdcnadipbaaGreatDoorFwD
import Derived.Laws.Tables
namespace Go.bZ
section
variable {C:bm} {w0 w:World} {F0 X F:Nat→Prop} {S:Nat→Nat→Prop} {s s1:ag} {an:Nat→Value} {av:I}
theorem uz (z:List Value):∀n,(List.range (n*z.length)).map (fun i=>z[i%z.length]!)=(List.replicate n z).flatten
 |0=>by simp
 |n+1=>by
  rw[Nat.add_mul,Nat.one_mul,List.range_add,List.map_append,uz z n,List.replicate_succ',List.flatten_append]
  congr 1
  simp only[List.map_map,List.flatten_cons,List.flatten_nil,List.append_nil]
  apply List.ext_getElem
  ·simp
  ·intro i aa ab
   have ay:i<z.length:=ab
   simp[Nat.mod_eq_of_lt ay,ay]
theorem aL.replicate {d:I} {cs:List Value} (h:∀aE,ak w F d cs aE):∀n aE,aL w F (List.replicate n d) (List.replicate n cs).flatten aE
 |0,aE=>by simp only[List.replicate_zero,List.flatten_nil];rw[aL]
 |n+1,aE=>by
  rw[List.replicate_succ,List.replicate_succ,List.flatten_cons,aL]
  exact⟨cs,_,fun _=>False,fun _=>False,rfl,h _,aL.replicate h n _,fun _ h=>h.elim,fun _ h=>h.elim,fun _ h=>h.elim⟩
def en (C:bm) (T:TypeId) (l c:I):Option I:=
 match(C.T T).k,l,c with
 | .slice e,.int .i64 n,.int .i64 m=>if n=m∧0≤n∧(C.T e).ok=true∧(C.T e).zero.wd=(C.T e).sz∧(flat (C.T e).zero).isSome=true∧(C.T e).sz≠0∧(C.T e).bytes*n≤140737488355328∧n≤9223372036854775807 then
   some (.aG (C.T e).sz (List.replicate n.toNat (C.T e).zero))else none
 |_,_,_=>none
theorem HH (aV:C.db) (h:a1 w0 F0 X F S s an w) {T:TypeId} {l c:I} {Ba Bb:Value} (aI:au w F s an l Ba (fun _=>False)) (af:au w F s an c Bb (fun _=>False)) (he:en C T l c=some av):
  Good C w0 F0 X an w (Instr.makeSlice T Ba Bb) av s:=by
 unfold en at he
 split at he
 ·rename_i e n m al
  have:=jN aI;subst this
  have:=jN af;subst this
  obtain⟨xp,d,xq,aF,aJ,aN,bt,bN,bh,ba⟩:=aV.info (dQ al (by simp))
  rw[al]at ba
  have:=ig ba;subst this
  split at he
  ·rename_i o0
   obtain⟨rfl,aQ,lx,l7,mZ,cO,n1,nW⟩:=o0
   simp only[Option.some.injEq]at he;subst he
   obtain⟨i,xr,z,f1,f2,f3,f4,f5,f6,f7⟩:=aV.info lx
   obtain⟨dn,jO⟩:=Option.isSome_iff_exists.1 mZ
   have na:=f5 dn jO
   have eu:∀aE,ak w F (C.T e).zero dn aE:=fun aE=>(ak.flat _).1 _ dn aE (Nat.le_refl _) jO
   have lz:dn.length=(C.T e).sz:=by rw[ak.length _ _ _ (eu (fun _=>False)),l7]
   obtain⟨n,rfl⟩:=Int.eq_ofNat_of_zero_le aQ
   simp only[Int.toNat_natCast]
   have qd:IntKind.i64.wrap (n:Int)=n:=by
    rw[IntKind.wrap_i64];omega
   have qb:∀k (w:World),(askRoom k).run C.P w= .ok () w:=by
    intro k w
    unfold askRoom
    split<;>rfl
   have lv:((Array.range (n*(C.T e).sz)).map (dn.toArray[·%dn.toArray.size]!)).toList=(List.replicate n dn).flatten:=by
    have:=uz dn n
    rw[lz]at this
    simpa [lz]using this
   have cJ:¬(281474976710656<(i.bytes:Int)*n):=by
    rw[f3];omega
   have uA:¬((n:Int)<0):=by omega
   have run:(Instr.makeSlice T (.int .i64 n) (.int .i64 n)).run C.P w= .ok (.slice (some ⟨w.heap.size,0,none⟩) n n)
     (w.alloc (.cells (if n*(C.T e).sz=0 then(Array.range (n*(C.T e).sz)).map (fun _=>default)else(Array.range (n*(C.T e).sz)).map (dn.toArray[·%dn.toArray.size]!)) e)):=by
    by_cases bl:n*(C.T e).sz=0
    ·simp[Instr.makeSlice,run_underlying bh,asInt,asIntOf,oW f1,qd,cJ,uA,qb,ho f1,f2,bl,newRow]
    ·simp only[bl,if_false]
     simp[Instr.makeSlice,run_underlying bh,asInt,asIntOf,oW f1,qd,cJ,uA,qb,ho f1,f2,bl,newRow,oX f1 f4,na]
   have ia:(if n*(C.T e).sz=0 then(Array.range (n*(C.T e).sz)).map (fun _=>(default:Value))else(Array.range (n*(C.T e).sz)).map (dn.toArray[·%dn.toArray.size]!)).toList=(List.replicate n dn).flatten:=by
    split
    ·rename_i bl
     have:n=0:=by
      rcases Nat.mul_eq_zero.1 bl with h|h
      ·exact h
      ·exact(cO h).elim
     subst this
     simp
    ·exact lv
   generalize pa:(if n*(C.T e).sz=0 then(Array.range (n*(C.T e).sz)).map (fun _=>(default:Value))else(Array.range (n*(C.T e).sz)).map (dn.toArray[·%dn.toArray.size]!))=cur at run ia
   have gq:(List.replicate n dn).flatten.length=n*(C.T e).sz:=by simp[lz]
   have fO:cur.size=n*(C.T e).sz:=by
    have:cur.size=cur.toList.length:=by simp
    rw[this,ia,gq]
   have hq:=h.r_ (ar:=w.alloc (.cells cur e)) (sz:=(C.T e).sz) (cap:=n) (xs:=List.replicate n (C.T e).zero) (cur:=cur) (e:=e) (fr:=(0,0)) (Sn:=fun _=>False) rfl rfl rfl ⟨rfl,fun _=>Nat.le_refl _⟩
    (fun o _ ⟨_,ab⟩=>absurd ab (Nat.not_lt_zero _)) (by simp) (by unfold maxLen;omega) fO (by intro d ae;rw[List.eq_of_mem_replicate ae];exact l7)
    (by rw[ia,List.length_replicate,List.take_of_length_le (by rw[gq];exact Nat.le_refl _)];exact aL.replicate eu n _) (fun _ h=>h.elim) (fun _ h=>h.elim) (fun _ _ h=>h.elim) (fun _ h=>h.elim)
   rw[List.length_replicate]at hq
   exact⟨_,_,F,S,run,hq.1,hq.2⟩
  ·cases he
 ·cases he
def kS (C:bm) (T a6:TypeId) (x y:I):Option I:=
 match(C.T T).k,(C.T a6).k,x,y with
 | .slice e,.int _,.bu,.int .i64 n=>if 0≤n∧(C.T e).ok=true∧(C.T e).zero.wd=(C.T e).sz∧(flat (C.T e).zero).isSome=true∧(C.T e).sz≠0∧(C.T e).bytes*n≤140737488355328∧n≤9223372036854775807 then
   some (.aG (C.T e).sz (List.replicate n.toNat (C.T e).zero))else none
 |_,_,_,_=>none
theorem HI {P:Program} {T a6 ty e:TypeId} {k:IntKind} {i:TypeInfo} {z:Value} (aK:P.underlying T=some (.slice e)) (hu:P.underlying a6=some (.int k)) (ay:P.info? e=some i) (bd:i.zero=some z)
  (n:Nat) (bl:n≠0) (U:i.size≠0) (aQ:n≤9223372036854775807) (J:n*i.bytes≤140737488355328):
  (Builtin.append_ #[T,a6] ty #[.slice none 0 0,.int .i64 n]).run P w= .ok (.slice (some ⟨w.heap.size,0,none⟩) n (grownCap w n 0 e))
   (w.drew.alloc (.cells (Builtin.zeroCells z.cells n++Builtin.zeroCells z.cells (grownCap w n 0 e-n)) e)):=by
 have qd:IntKind.i64.wrap (n:Int)=n:=by rw[IntKind.wrap_i64];omega
 have uA:¬((n:Int)<0):=by omega
 have hmul:(n:Int)*(i.bytes:Int)=((n*i.bytes:Nat):Int):=by simp
 have cJ:¬(281474976710656<(n:Int)*(i.bytes:Int)):=by rw[hmul];omega
 have ft:¬(281474976710656<Builtin.nextslicecap n 0*i.bytes):=by
  have:Builtin.nextslicecap n 0=n:=by unfold Builtin.nextslicecap;rw[if_pos (by omega)]
  rw[this];omega
 have qb:∀k (w:World),(askRoom k).run P w= .ok () w:=by
  intro k w
  unfold askRoom
  split<;>rfl
 have xm:¬(9223372036854775807<(n:Int)):=by omega
 have xy:n*i.size≠0:=Nat.mul_ne_zero bl U
 simp[Builtin.append_,run_underlying aK,run_underlying hu,ho ay,oW ay,asInt,asIntOf,qd,uA,cJ,ft,bl,Question.forced,qb,xm,oX ay bd,newRow,grownCap,Builtin.firstCells]
 intro fs;exact(xy fs).elim
theorem HJ (aV:C.db) (h:a1 w0 F0 X F S s an w) {T a6 ty:TypeId} {x y:I} {fh fP:Value} (ai:au w F s an x fh (fun _=>False)) (hy:au w F s an y fP (fun _=>False)) (he:kS C T a6 x y=some av):
  Good C w0 F0 X an w (Builtin.append_ #[T,a6] ty #[fh,fP]) av s:=by
 unfold kS at he
 split at he
 ·rename_i e Yf n al Bc
  have:=mV ai;subst this
  have:=jN hy;subst this
  obtain⟨xp,d,xq,aF,aJ,aN,bt,bN,bh,ba⟩:=aV.info (dQ al (by simp))
  rw[al]at ba
  have:=ig ba;subst this
  obtain⟨Yg,Yh,Yi,Bd,Be,Bf,HK,Bg,Bh,Bi⟩:=aV.info (dQ Bc (by simp))
  rw[Bc]at Bi
  have:=r0 Bi;subst this
  split at he
  ·rename_i o0
   obtain⟨aQ,lx,l7,mZ,cO,n1,nW⟩:=o0
   simp only[Option.some.injEq]at he;subst he
   obtain⟨i,xr,z,f1,f2,f3,f4,f5,f6,f7⟩:=aV.info lx
   obtain⟨dn,jO⟩:=Option.isSome_iff_exists.1 mZ
   have na:=f5 dn jO
   have eu:∀aE,ak w F (C.T e).zero dn aE:=fun aE=>(ak.flat _).1 _ dn aE (Nat.le_refl _) jO
   have lz:dn.length=(C.T e).sz:=by rw[ak.length _ _ _ (eu (fun _=>False)),l7]
   obtain⟨n,rfl⟩:=Int.eq_ofNat_of_zero_le aQ
   simp only[Int.toNat_natCast]
   by_cases bl:n=0
   ·subst bl
    have run:(Builtin.append_ #[T,a6] ty #[.slice none 0 0,.int .i64 ((0:Nat):Int)]).run C.P w= .ok (.slice none 0 0) w:=by
     have qd:IntKind.i64.wrap 0=0:=by decide
     simp[Builtin.append_,run_underlying bh,run_underlying Bh,ho f1,oW f1,asInt,asIntOf,qd]
    exact⟨_,w,F,S,run,h,.inr ⟨rfl,rfl,fun _=>False,by simp only[bs,ff];rw[ak];exact .inl ⟨rfl,_,rfl⟩,fun _ h=>h.elim,fun _ h=>h.elim,fun _ _ h=>h.elim,fun _ h=>h.elim⟩⟩
   ·have run:=HI (w:=w) (ty:=ty) bh Bh f1 f4 n bl (by rw[f2];exact cO) (by omega) (by
     rw[f3]
     have:((C.T e).bytes:Int)*(n:Int)=(((C.T e).bytes*n:Nat):Int):=by simp
     rw[this]at n1
     rw[Nat.mul_comm];omega)
    rw[na]at run
    have sc:=grownCap_ge w n 0 e
    have mX:=grownCap_le_maxLen w n 0 e (by unfold maxLen;omega)
    have Bj:∀m,(Builtin.zeroCells dn.toArray m).toList=(List.replicate m dn).flatten:=by
     intro m
     have:=uz dn m
     unfold Builtin.zeroCells
     simpa [lz]using this
    have gq:∀m,(List.replicate m dn).flatten.length=m*(C.T e).sz:=by intro m;simp[lz]
    generalize pa:Builtin.zeroCells dn.toArray n++Builtin.zeroCells dn.toArray (grownCap w n 0 e-n)=cur at run
    have ia:cur.toList=(List.replicate n dn).flatten++(List.replicate (grownCap w n 0 e-n) dn).flatten:=by rw[←pa,Array.toList_append,Bj,Bj]
    have fO:cur.size=grownCap w n 0 e*(C.T e).sz:=by
     have:cur.size=cur.toList.length:=by simp
     rw[this,ia,List.length_append,gq,gq,←Nat.add_mul]
     congr 1;omega
    have hq:=h.r_ (ar:=w.drew.alloc (.cells cur e)) (sz:=(C.T e).sz) (cap:=grownCap w n 0 e) (xs:=List.replicate n (C.T e).zero) (cur:=cur) (e:=e) (fr:=(0,0)) (Sn:=fun _=>False) rfl rfl rfl ⟨rfl,fun _=>Nat.le_succ _⟩
     (fun o _ ⟨_,ab⟩=>absurd ab (Nat.not_lt_zero _)) (by simpa using sc) mX fO (by intro d ae;rw[List.eq_of_mem_replicate ae];exact l7)
     (by rw[ia,List.length_replicate,List.take_left' (gq n)];exact aL.replicate eu n _) (fun _ h=>h.elim) (fun _ h=>h.elim) (fun _ _ h=>h.elim) (fun _ h=>h.elim)
    rw[List.length_replicate]at hq
    exact⟨_,_,F,S,run,hq.1,hq.2⟩
  ·cases he
 ·cases he
def hE (s:ag) (f:FuncId) (cs:List aw):Option I:=some (.fn f (cs.map (az s)))
theorem uB {a:Act} (h:a1 w0 F0 X F S s an w) (cL:∀t,an t=a.tmps.getD t undef):∀(os:List Operand) (xs:List aw),os.map cv=xs.map some→cG w F s an (xs.map (az s)) (os.map a.eval)
 |[],[],_=>by simp only[List.map_nil];rw[cG]
 |[],x::xs,h=>by simp at h
 |o::os,[],h=>by simp at h
 |o::os,x::xs,aT=>by
  simp only[List.map_cons,List.cons.injEq]at aT⊢
  rw[cG]
  exact⟨_,_,rfl,(dv h cL aT.1).2,uB h cL os xs aT.2⟩
theorem Bk:∀(vs:List Value) (k off:Nat) (A:Array Value) (l m r:List Value),A.toList=l++(m++r)→l.length=off+k→m.length=vs.length→
  ((vs.zipIdx k).foldl (fun cs (x:Value×Nat)=>cs.setIfInBounds (off+x.2) x.1) A).toList=l++(vs++r)
 |[],k,off,A,l,m,r,fY,aI,hm=>by
  have:m=[]:=by simpa using hm
  subst this
  simpa using fY
 |v::vs,k,off,A,l,m,r,fY,aI,hm=>by
  obtain⟨x,m,rfl⟩:∃x gS,m=x::gS:=by
   cases m with
   |nil=>simp at hm
   |cons x m=>exact⟨x,m,rfl⟩
  rw[List.zipIdx_cons,List.foldl_cons]
  have:=Bk vs (k+1) off (A.setIfInBounds (off+k) v) (l++[v]) m r (by
   rw[Array.toList_setIfInBounds,fY,←aI,List.set_append_right _ _ (Nat.le_refl _)]
   simp) (by simp;omega) (by simpa using hm)
  simpa using this
def kT (os:List (Option Nat)) (a:I):I:=os.foldl (fun a o=>hQ o a) a
def kU (place:Nat→Option (Nat×Nat)):ag→List I→List (Option Nat)→List (Nat×I)→Option (List I×ag)
 |s,el,_,[]=>some (el,s)
 |s,el,os,(k,a)::r=>match bM s (kT os a),place k,el[k]? with
  |some (d,s1),some (off,n),some z=>match d with
   | .tuple _=>none
   |d=>if d.wd=n∧z.wd=n∧I.cI (el.take k)=off then kU place s1 (el.set k d) (os++[(kT os a).owner]) r else none
  |_,_,_=>none
def kV (w:World) (F:Nat→Prop) (s:ag) (an:Nat→Value):List (Nat×I)→List (Nat×Value)→Prop
 |[],[]=>True
 |(k,a)::r,(cr,v)::gU=>k=cr∧a.plain=true∧au w F s an a v (fun _=>False)∧kV w F s an r gU
 |_,_=>False
theorem HL (x:Nat):∀d:I,d.plain=true→(bo x d).plain=true
 | .h y q,_=>by simp only[bo];split<;>(try split)<;>rfl
 | .ah y q,_=>by simp only[bo];split<;>rfl
 | .J y q,_=>rfl
 | .fn f c,_=>by simp only[bo];rfl
 | .hole,h=>h
 | .bool _,h=>h
 | .di,h=>h
 | .int _ _,h=>h
 | .str _,h=>h
 | .cw,h=>h
 | .bu,h=>h
 | .slice _,h=>h
 | .aG _ _,h=>h
 | .ref _,h=>h
 | .bG _,h=>h
 | .agg _,h=>h
 | .tuple _,h=>h
theorem HM (o:Option Nat) (d:I) (h:d.plain=true):(hQ o d).plain=true:=by
 cases o with
 |none=>exact h
 |some x=>exact HL x d h
theorem kV.bo {w:World} {F:Nat→Prop} {s s1:ag} {an:Nat→Value} {o:Option Nat} (ah:∀(aX:I) (ct:Value) (aE:Nat→Prop),au w F s an aX ct aE→au w F s1 an (hQ o aX) ct aE):
  ∀(r:List (Nat×I)) (gU:List (Nat×Value)),kV w F s an r gU→kV w F s1 an (r.map fun p=>(p.1,hQ o p.2)) gU
 |[],[],_=>trivial
 |(k,a)::r,(cr,v)::gU,h=>by
  obtain⟨aa,ab,aB,aP⟩:=h
  exact⟨aa,HM _ _ ab,ah _ _ _ aB,kV.bo ah r gU aP⟩
 |[],_::_,h=>h.elim
 |_::_,[],h=>h.elim
theorem xz {place:Nat→Option (Nat×Nat)}:∀(ps:List (Nat×I)) (vs:List (Nat×Value)) (os:List (Option Nat)) (s:ag) (S:Nat→Nat→Prop) (el:List I) (A:Array Value) (e5:Nat→Prop),
  a1 w0 F0 X F S s an w→kV w F s an (ps.map fun p=>(p.1,kT os p.2)) vs→aL w F el A.toList e5→(∀b,e5 b→b<w.heap.size)→(∀b,e5 b→¬F b)→(∀u b,e5 b→¬S u b)→(∀b,e5 b→X b∨w0.heap.size≤b)→
  ∀ds s1,kU place s el os ps=some (ds,s1)→∃jr bk ez,Instr.fill place A vs=some jr∧a1 w0 F0 X F bk s1 an w∧aL w F ds jr.toList ez∧(∀b,ez b→b<w.heap.size)∧(∀b,ez b→¬F b)∧(∀u b,ez b→¬bk u b)∧
   (∀b,ez b→X b∨w0.heap.size≤b)∧ds.length=el.length∧I.cI ds=I.cI el∧(∀n,(∀d∈el,d.wd=n)→∀d∈ds,d.wd=n)
 |[],[],os,s,S,el,A,e5,h,_,aa,ab,aB,aP,bb,ds,s1,he=>by
  simp only[kU,Option.some.injEq,Prod.mk.injEq]at he
  obtain⟨rfl,rfl⟩:=he
  exact⟨A,S,e5,rfl,h,aa,ab,aB,aP,bb,rfl,rfl,fun _ h=>h⟩
 |(k,a)::ps,(cr,v)::vs,os,s,S,el,A,e5,h,ah,aa,ab,aB,aP,bb,ds,s1,he=>by
  obtain⟨rfl,hT,lp,sg⟩:=ah
  simp only[kU]at he
  split at he
  ·rename_i d si off n z aK e0 bd
   have key:∀d:I,(∀aj,d≠.tuple aj)→bM s (kT os a)=some (d,si)→(if d.wd=n∧z.wd=n∧I.cI (el.take k)=off then kU place si (el.set k d) (os++[(kT os a).owner]) ps else none)=some (ds,s1)→
     ∃jr bk ez,Instr.fill place A ((k,v)::vs)=some jr∧a1 w0 F0 X F bk s1 an w∧aL w F ds jr.toList ez∧(∀b,ez b→b<w.heap.size)∧(∀b,ez b→¬F b)∧(∀u b,ez b→¬bk u b)∧
     (∀b,ez b→X b∨w0.heap.size≤b)∧ds.length=el.length∧I.cI ds=I.cI el∧(∀n,(∀d∈el,d.wd=n)→∀d∈ds,d.wd=n):=by
    intro d mT aK he
    split at he
    ·rename_i af
     obtain⟨uC,mS,Bl⟩:=af
     obtain⟨bk,g0,g1,g2,Sn,g3,g4,g5,g6,g7,g8,g9,g10⟩:=lq h hT lp aK
     obtain⟨bD,dN,c2,Sx,fe,fY,e6,d_,eW,fA,dU,jh⟩:=aL.pick el _ _ k z aa bd
     have lv:=r3 g2 mT
     have iv:=ak.length _ _ _ g3
     have Bm:=ak.length _ _ _ dU
     have nS:=jh w d (bs v) Sn (fun _ _=>rfl) (fun _ _=>rfl) g3 (fun b HN HO=>by obtain⟨u,hu⟩:=g9 b HN;exact aP u b (d_ b HO) hu)
     have Bn:=Bk (bs v) 0 off A bD dN c2 fY (by rw[e6,Bl];rfl) (by rw[Bm,iv,uC,mS])
     generalize sj:((bs v).zipIdx 0).foldl (fun cs (x:Value×Nat)=>cs.setIfInBounds (off+x.2) x.1) A=uj at Bn
     obtain⟨jr,cx,ez,m1,m2,m3,m4,m5,m6,m7,m8,m9,m10⟩:=xz (place:=place) ps vs (os++[(kT os a).owner]) si bk (el.set k d) uj (fun b=>Sx b∨Sn b) g0 (by have:=kV.bo g10 _ _ sg;simpa [kT,List.foldl_append,Function.comp_def]using this) (by rw[Bn];exact nS)
      (by rintro b (J|J);exact ab b (d_ b J);exact g4 b J) (by rintro b (J|J);exact aB b (d_ b J);exact g5 b J)
      (by rintro u b (J|J);exact fun hu=>aP u b (d_ b J) (g8 u b hu);exact g6 u b J) (by rintro b (J|J);exact bb b (d_ b J);exact g7 b J) ds s1 he
     refine⟨jr,cx,ez,?_,m2,m3,m4,m5,m6,m7,by rw[m8];simp,by rw[m9];exact wN _ _ _ _ bd (by rw[uC,mS]),?_⟩
     ·have xA:off+n≤A.size:=by
       have:A.size=A.toList.length:=by simp
       rw[this,fY];simp[e6,Bl,Bm,mS]
      simp only[Instr.fill,e0,lv,List.size_toArray,iv,uC]
      have hO:¬(n≠n∨A.size<off+n):=by omega
      have HP:(bs v).toArray.zipIdx.foldl (fun cs (x:Value×Nat)=>cs.setIfInBounds (off+x.2) x.1) A=uj:=by
       rw[←sj,←Array.foldl_toList];simp
      simp only[ne_eq,not_true_eq_false,decide_false,Bool.false_or,decide_eq_true_eq,gt_iff_lt]
      rw[if_neg (by simp;omega)]
      rw[show(bs v).toArray.zipIdx.foldl (fun cs x=>match x with|(c,j)=>cs.setIfInBounds (off+j) c) A=uj from HP]
      exact m1
     ·intro sk iN
      refine m10 sk (wO iN ?_)
      rw[uC,←mS];exact iN z (List.mem_of_getElem? bd)
    ·cases he
   split at he
   ·cases he
   ·rename_i mT
    exact key _ (fun aj e=>mT aj e) aK he
  ·cases he
 |[],_::_,_,_,_,_,_,_,_,ah,_,_,_,_,_,_,_,_=>ah.elim
 |_::_,[],_,_,_,_,_,_,_,ah,_,_,_,_,_,_,_,_=>ah.elim
def dP (C:bm) (s:ag) (T:TypeId) (ps:List (Nat×I)):Option (I×ag):=
 match(C.T T).k,(C.T T).zero with
 | .struct aj,.agg el=>if(flat (.agg el)).isSome=true∧(∀f∈aj,(C.T f.1).ok=true)then
   (match kU (fun k=>(aj[k]?).map fun f=>(f.2,(C.T f.1).sz)) s el [] ps with
   |some (ds,s1)=>some (.agg ds,s1)
   |none=>none)else none
 |_,_=>none
def cF (C:bm) (s:ag) (T:TypeId) (n:Nat) (ps:List (Nat×I)):Option (I×ag):=
 match(C.T T).k with
 | .slice e=>if(C.T e).ok=true∧(C.T e).zero.wd=(C.T e).sz∧(flat (C.T e).zero).isSome=true∧(C.T e).sz≠0∧n*(C.T e).sz≤16777216 then
   (match kU (fun k=>some (k*(C.T e).sz,(C.T e).sz)) s (List.replicate n (C.T e).zero) [] ps with
   |some (ds,s1)=>some (.aG (C.T e).sz ds,s1)
   |none=>none)else none
 |_=>none
theorem HQ (aV:C.db):∀(gs:List Field),(∀g∈gs,(C.T g.type).ok=true)→
  gs.mapM (fun f=>(C.P.info? f.type).map fun i=>(f.offset,i.size))=some (gs.map fun g=>(g.offset,(C.T g.type).sz)):=by
 intro gs
 induction gs with
 |nil=>intro _;simp
 |cons g gs ih=>
  intro hg
  obtain⟨i,d,z,f1,f2,f3,f4,f5,f6,f7⟩:=aV.info (hg g (by simp))
  have:=ih (fun g ev=>hg g (by simp[ev]))
  simp[List.mapM_cons,f1,f2,this]
theorem HR (aV:C.db) (h:a1 w0 F0 X F S s an w) {T:TypeId} {ps:List (Nat×I)} {vs:List (Nat×Value)} (ah:kV w F s an ps vs) (he:dP C s T ps=some (av,s1)):
  Good C w0 F0 X an w (Instr.build T vs.toArray) av s1:=by
 unfold dP at he
 split at he
 ·rename_i aj el al bd
  split at he
  ·rename_i af
   obtain⟨mZ,HS⟩:=af
   split at he
   ·rename_i ds s2 gq
    simp only[Option.some.injEq,Prod.mk.injEq]at he
    obtain⟨rfl,rfl⟩:=he
    obtain⟨i,d,z,aF,aJ,aN,bt,bN,bh,ba⟩:=aV.info (dQ al (by simp))
    rw[al]at ba
    obtain⟨gs,rfl,Bo⟩:=rZ ba
    obtain⟨dn,jO⟩:=Option.isSome_iff_exists.1 mZ
    have na:=bN dn (by rw[bd];exact jO)
    have eu:aL w F el dn.toArray.toList (fun _=>False):=by
     have:=(ak.flat (w:=w) (F:=F) _).1 (.agg el) dn (fun _=>False) (Nat.le_refl _) jO
     rw[ak]at this
     simpa using this
    have cY:kV w F s an (ps.map fun p=>(p.1,kT [] p.2)) vs:=by simpa [kT]using ah
    obtain⟨jr,bk,ez,m1,m2,m3,m4,m5,m6,m7,m8,m9,m10⟩:=xz ps vs [] s S el dn.toArray (fun _=>False) h cY eu (fun _ h=>h.elim) (fun _ h=>h.elim) (fun _ _ h=>h.elim) (fun _ h=>h.elim) ds s2 gq
    have e0:=HQ aV gs.toList (fun g hg=>HS (g.type,g.offset) (by rw[←Bo];exact List.mem_map_of_mem hg))
    have HT:(fun(k:Nat)=>(aj[k]?).map fun(f:TypeId×Nat)=>(f.2,(C.T f.1).sz))=fun(k:Nat)=>((gs.toList.map fun g=>(g.offset,(C.T g.type).sz)).toArray)[k]? :=by
     funext k
     rw[←Bo]
     simp only[List.getElem?_map,List.getElem?_toArray,Option.map_map]
     rfl
    rw[HT]at m1
    refine⟨.agg jr,w,F,bk,run_build w T vs.toArray jr ?_,m2,.inr ⟨rfl,⟨_,rfl⟩,ez,by simp only[bs,ff];rw[ak];exact m3,m4,m5,m6,m7⟩⟩
    unfold Program.built
    simp only[aF,bh,bt,e0,na]
    exact m1
   ·cases he
  ·cases he
 ·cases he
theorem HU (aV:C.db) (h:a1 w0 F0 X F S s an w) {T:TypeId} {n:Nat} {ps:List (Nat×I)} {vs:List (Nat×Value)} (ah:kV w F s an ps vs) (he:cF C s T n ps=some (av,s1)):
  Good C w0 F0 X an w (Instr.buildSlice T n vs.toArray) av s1:=by
 unfold cF at he
 split at he
 ·rename_i e al
  split at he
  ·rename_i af
   obtain⟨lx,l7,mZ,cO,Yj⟩:=af
   split at he
   ·rename_i ds s2 gq
    simp only[Option.some.injEq,Prod.mk.injEq]at he
    obtain⟨rfl,rfl⟩:=he
    obtain⟨xp,d,xq,aF,aJ,aN,bt,bN,bh,ba⟩:=aV.info (dQ al (by simp))
    rw[al]at ba
    have:=ig ba;subst this
    obtain⟨i,xr,z,f1,f2,f3,f4,f5,f6,f7⟩:=aV.info lx
    obtain⟨dn,jO⟩:=Option.isSome_iff_exists.1 mZ
    have na:=f5 dn jO
    have eu:∀aE,ak w F (C.T e).zero dn aE:=fun aE=>(ak.flat _).1 _ dn aE (Nat.le_refl _) jO
    have lz:dn.length=(C.T e).sz:=by rw[ak.length _ _ _ (eu (fun _=>False)),l7]
    generalize fY:((Array.range (n*(C.T e).sz)).map ((if n*(C.T e).sz=0 then #[]else dn.toArray)[·%(if n*(C.T e).sz=0 then(#[]:Array Value)else dn.toArray).size]!))=A
    have xA:A.toList=(List.replicate n dn).flatten:=by
     rw[←fY]
     by_cases bl:n*(C.T e).sz=0
     ·have:n=0:=by
       rcases Nat.mul_eq_zero.1 bl with h|h
       ·exact h
       ·exact(cO h).elim
      subst this
      simp
     ·simp only[bl,if_false]
      have:=uz dn n
      rw[lz]at this
      simpa [lz]using this
    have cY:kV w F s an (ps.map fun p=>(p.1,kT [] p.2)) vs:=by simpa [kT]using ah
    obtain⟨jr,bk,ez,m1,m2,m3,m4,m5,m6,m7,m8,m9,m10⟩:=xz ps vs [] s S (List.replicate n (C.T e).zero) A (fun _=>False) h cY (by rw[xA];exact aL.replicate eu n _) (fun _ h=>h.elim) (fun _ h=>h.elim) (fun _ _ h=>h.elim) (fun _ h=>h.elim) ds s2 gq
    have hlen:ds.length=n:=by rw[m8];simp
    have Bp:=m10 (C.T e).sz (by intro d ae;rw[List.eq_of_mem_replicate ae];exact l7)
    have HV:jr.toList.length=n*(C.T e).sz:=by rw[aL.o7 m3 Bp,hlen]
    have HW:jr.size=n*(C.T e).sz:=by rw[←HV];simp
    have Yk:n≤16777216:=by
     have:n*1≤n*(C.T e).sz:=Nat.mul_le_mul_left _ (by omega)
     omega
    have hq:=m2.r_ (ar:=w.alloc (.cells jr e)) (sz:=(C.T e).sz) (cap:=n) (xs:=ds) (cur:=jr) (e:=e) (fr:=(0,0)) (Sn:=ez) rfl rfl rfl ⟨rfl,fun _=>Nat.le_refl _⟩
     (fun o _ ⟨_,ab⟩=>absurd ab (Nat.not_lt_zero _)) (by omega) (by unfold maxLen;omega) HW Bp (by rw[hlen,List.take_of_length_le (by omega)];exact m3) m4 m5 m6 m7
    rw[hlen]at hq
    refine⟨_,_,F,bk,?_,hq.1,hq.2⟩
    by_cases bl:n*(C.T e).sz=0
    ·simp only[bl,if_true]at fY
     have qe:(Array.map (fun _=>(default:Value)) (Array.range 0))=A:=by
      have:n=0:=by
       rcases Nat.mul_eq_zero.1 bl with h|h
       ·exact h
       ·exact(cO h).elim
      apply Array.ext'
      rw[xA,this]
      simp
     simp[Instr.buildSlice,run_underlying bh,ho f1,f2,bl,newRow]
     rw[qe,m1]
     simp
    ·simp only[bl,if_false]at fY
     have hO:¬(16777216<n*(C.T e).sz):=by omega
     simp[Instr.buildSlice,run_underlying bh,ho f1,f2,bl,hO,oX f1 f4,na,newRow]
     have qe:(Array.map (fun x=>dn[x%dn.length]?.getD default) (Array.range (n*(C.T e).sz)))=A:=by
      rw[←fY];simp
     rw[qe,m1]
     simp
   ·cases he
  ·cases he
 ·cases he
end
inductive dS where
 |cg (x:aw)
 |df (x:aw)
 |pick (c a b:aw)
 |e1 (T:TypeId)
 |dB (T:TypeId) (x:aw)
 |dP (T:TypeId) (ps:List (Nat×aw))
 |cF (T:TypeId) (n:Nat) (ps:List (Nat×aw))
 |c7 (T:TypeId) (x:aw)
 |et (T:TypeId) (x y:aw)
 |ek (x:aw)
 |bC (op:BinOp) (T:TypeId) (x y:aw)
 |un (op:UnOp) (x:aw)
 |dR (A B:TypeId) (x:aw)
 |hE (f:FuncId) (cs:List aw)
 |en (T:TypeId) (l c:aw)
 |cD (T:TypeId) (x:aw) (b5 ay:Option aw)
 |dX (T:TypeId) (x:aw) (k:Nat)
 |ej (T:TypeId) (x i:aw)
 |idx (T:TypeId) (x i:aw)
 |ex (x:aw) (k:Nat)
 |jl (T:TypeId) (x:aw) (k:Nat)
 |call (f:aw) (args:List aw)
 |len (T:TypeId) (x:aw)
 |app (T a6:TypeId) (x y:aw)
 |shr (a7:dS)
 |kS (T a6:TypeId) (x y:aw)
 |cap (T:TypeId) (x:aw)
 |fQ (da:Bool) (x y:aw)
 |bad
 |jQ (f:aw) (args:List aw) (u x:Nat)
 |jR (f:aw) (args:List aw) (us:List Nat)
 |il (T:TypeId) (x:aw)
 |n2 (x:aw)
 |nb (x:aw)
 |sl
 |kR (T:TypeId) (x i:aw)
 |jP (T:TypeId) (x i v:aw)
def dS.base:dS→dS
 | .shr a7=>a7
 | .kS T a6 x y=>.app T a6 x y
 | .jQ f args _ _=>.call f args
 | .jR f args _=>.call f args
 | .il T x=>.dB T x
 | .n2 x=>.df x
 | .nb x=>.cg x
 |a7=>a7
def qf:List Operand→Option (List aw)
 |[]=>some []
 |o::os=>match cv o,qf os with
  |some x,some xs=>some (x::xs)
  |_,_=>none
def qg:List (Nat×Operand)→Option (List (Nat×aw))
 |[]=>some []
 |(k,o)::os=>match cv o,qg os with
  |some x,some xs=>some ((k,x)::xs)
  |_,_=>none
def sn:Option Operand→Option (Option aw)
 |none=>some none
 |some o=>(cv o).map some
def bX:Op→Option dS
 | .move x=>(cv x).map .cg
 | .assign x=>(cv x).map .df
 | .pick c a b=>match cv c,cv a,cv b with
   |some c,some a,some b=>some (.pick c a b)
   |_,_,_=>none
 | .alloc T=>some (.e1 T)
 | .box T x=>(cv x).map (.dB T)
 | .build T ps=>(qg ps.toList).map (.dP T)
 | .buildSlice T n ps=>(qg ps.toList).map (.cF T n)
 | .load T x=>(cv x).map (.c7 T)
 | .store T x y=>match cv x,cv y with
   |some x,some y=>some (.et T x y)
   |_,_=>none
 | .nilCheck x=>(cv x).map .ek
 | .binOp op T x y _=>match cv x,cv y with
   |some x,some y=>some (.bC op T x y)
   |_,_=>none
 | .unOp op _ x=>(cv x).map (.un op)
 | .convert A B x=>(cv x).map (.dR A B)
 | .makeFunc (.func f) first cs=>if first.isEmpty then(qf cs.toList).map (.hE f)else none
 | .makeSlice T l c=>match cv l,cv c with
   |some l,some c=>some (.en T l c)
   |_,_=>none
 | .slice T x b5 ay none=>match cv x,sn b5,sn ay with
   |some x,some b5,some ay=>some (.cD T x b5 ay)
   |_,_,_=>none
 | .fieldAddr T x k=>(cv x).map fun x=>.dX T x k
 | .indexAddr T x i=>match cv x,cv i with
   |some x,some i=>some (.ej T x i)
   |_,_=>none
 | .index T x i=>match cv x,cv i with
   |some x,some i=>some (.idx T x i)
   |_,_=>none
 | .extract x k=>(cv x).map fun x=>.ex x k
 | .field T x k=>(cv x).map fun x=>.jl T x k
 | .makeMap _ none=>some .sl
 | .lookup T x i false=>match cv x,cv i with
   |some x,some i=>some (.kR T x i)
   |_,_=>none
 | .mapUpdate T x i v=>match cv x,cv i,cv v with
   |some x,some i,some v=>some (.jP T x i v)
   |_,_,_=>none
 | .call c=>match c.callee with
   | .value f=>match cv f,qf c.args.toList with
     |some f,some xs=>some (.call f xs)
     |_,_=>none
   | .builtin .len=>match c.args.toList,c.argTypes.toList with
     |[x],[T]=>(cv x).map (.len T)
     |_,_=>none
   | .builtin .cap=>match c.args.toList,c.argTypes.toList with
     |[x],[T]=>(cv x).map (.cap T)
     |_,_=>none
   | .builtin .min=>match c.args.toList with
     |[x,y]=>match cv x,cv y with
      |some x,some y=>some (.fQ false x y)
      |_,_=>none
     |_=>none
   | .builtin .max=>match c.args.toList with
     |[x,y]=>match cv x,cv y with
      |some x,some y=>some (.fQ true x y)
      |_,_=>none
     |_=>none
   | .builtin .append=>match c.args.toList,c.argTypes.toList with
     |[x,y],[T,a6]=>match cv x,cv y with
      |some x,some y=>some (.app T a6 x y)
      |_,_=>none
     |_,_=>none
   |_=>none
 |_=>none
def fQ (da:Bool):I→I→Option I
 | .str a,.str b=>some (.str (tU da a b))
 | .int k a,.int cr b=>if k=cr then some (.int k (fL da a b))else none
 |_,_=>none
def l9 (s:ag):I→Option (I×ag)
 | .h y q=>bM s (.h y q)
 |d=>some (d,s)
def aZ (C:bm) (s:ag):dS→Option (I×ag)
 | .cg x=>some (az s x,s)
 | .df x=>match az s x with
   | .h y q=>bM s (.h y q)
   |d=>some (d,s)
 | .pick c a b=>match az s c with
   | .bool dK=>some (if dK then az s a else az s b,s)
   |_=>none
 | .e1 T=>(e1 C T).map fun d=>(d,s)
 | .dB _ x=>dB s (az s x)
 | .dP T ps=>dP C s T (ps.map fun p=>(p.1,az s p.2))
 | .cF T n ps=>cF C s T n (ps.map fun p=>(p.1,az s p.2))
 | .c7 T x=>(c7 C s T (az s x)).map fun d=>(d,s)
 | .et T x y=>(et C s T (az s x) (az s y)).map fun s1=>(.hole,s1)
 | .ek x=>(ek s (az s x)).map fun d=>(d,s)
 | .bC op T x y=>(bC C s op T (az s x) (az s y)).map fun d=>(d,s)
 | .un op x=>(un op (az s x)).map fun d=>(d,s)
 | .dR A B x=>(dR C s A B (az s x)).map fun d=>(d,s)
 | .hE f cs=>some (.fn f (cs.map (az s)),s)
 | .en T l c=>(en C T (az s l) (az s c)).map fun d=>(d,s)
 | .cD T x b5 ay=>cD C s T (az s x) (b5.map (az s)) (ay.map (az s))
 | .dX T x k=>(dX C s T (az s x) k).map fun d=>(d,s)
 | .ej T x i=>(ej C s T (az s x) (az s i)).map fun d=>(d,s)
 | .idx T x i=>(idx C T (az s x) (az s i)).map fun d=>(d,s)
 | .ex x k=>(ex s (az s x) k).map fun d=>(d,s)
 | .jl T x k=>(jl C s T (az s x) k).bind (l9 s)
 | .call _ _=>none
 | .len T x=>(jm C s T (az s x)).map fun d=>(d,s)
 | .app T a6 x y=>jq C s T a6 (az s x) (az s y)
 | .shr _=>none
 | .jQ _ _ _ _=>none
 | .jR _ _ _=>none
 | .il _ x=>il s (az s x)
 | .n2 x=>some (az s x,s)
 | .nb x=>l9 s (az s x)
 | .sl=>some (.b9 (.mp []),s)
 | .kR T x i=>(kR C s T (az s x) (az s i)).map fun d=>(d,s)
 | .jP T x i v=>(jP C s T (az s x) (az s i) (az s v)).map fun s1=>(.hole,s1)
 | .kS T a6 x y=>(kS C T a6 (az s x) (az s y)).map fun d=>(d,s)
 | .cap T x=>match(C.T T).k,az s x with
   | .slice _,.bu=>some (.int .i64 0,s)
   |_,_=>none
 | .fQ da x y=>(fQ da (az s x) (az s y)).map fun d=>(d,s)
 | .bad=>none
section
variable {C:bm} {w0 w:World} {F0 X F:Nat→Prop} {S:Nat→Nat→Prop} {s s1:ag} {a:Act} {av:I}
theorem pb:∀{os:List Operand} {xs:List aw},qf os=some xs→os.map cv=xs.map some
 |[],xs,h=>by simp[qf]at h;subst h;rfl
 |o::os,xs,h=>by
  simp only[qf]at h
  split at h
  ·rename_i x HX aa ab
   simp at h;subst h
   simp[aa,pb ab]
  ·cases h
theorem xB {an:Nat→Value} (h:a1 w0 F0 X F S s an w) (cL:∀t,an t=a.tmps.getD t undef):∀{ps:List (Nat×Operand)} {xs:List (Nat×aw)},qg ps=some xs→
  kV w F s an (xs.map fun p=>(p.1,az s p.2)) (ps.map fun p=>(p.1,a.eval p.2))
 |[],xs,h=>by simp[qg]at h;subst h;trivial
 |(k,o)::ps,xs,aT=>by
  simp only[qg]at aT
  split at aT
  ·rename_i x HX aa ab
   simp at aT;subst aT
   obtain⟨g1,g2⟩:=dv h cL aa
   exact⟨rfl,g1,g2,xB h cL ab⟩
  ·cases aT
def Next (C:bm) (w0:World) (F0 X:Nat→Prop) (an:Nat→Value) (w:World) (m:Sem Go.Next) (av:I) (s1:ag):Prop:=
 ∃r ar v a8 aE,m.run C.P w= .ok r ar∧(r= .value v∨r= .skip∧v=undef)∧a1 w0 F0 X a8 aE s1 an ar∧ie w0 X a8 aE s1 an ar av v
theorem Good.next {an:Nat→Value} {m:Sem Value} (h:Good C w0 F0 X an w m av s1):Next C w0 F0 X an w (do pure (.value (←m))) av s1:=by
 obtain⟨v,ar,a8,aE,aa,ab,aB⟩:=h
 exact⟨.value v,ar,v,a8,aE,by simp[aa],.inl rfl,ab,aB⟩
theorem Bq {an:Nat→Value} (h:a1 w0 F0 X F S s an w) {da:Bool} {x y:I} {fh fP:Value} {m:Sem Go.Next} (aa:au w F s an x fh (fun _=>False)) (ab:au w F s an y fP (fun _=>False))
  (he:(fQ da x y).map (fun d=>(d,s))=some (av,s1)) (hm:m=(do pure (.value (←if da then Builtin.max2 fh fP else Builtin.min2 fh fP)))):Next C w0 F0 X an w m av s1:=by
 simp only[Option.map_eq_some_iff,Prod.mk.injEq]at he
 obtain⟨d,ae,rfl,rfl⟩:=he
 unfold fQ at ae
 split at ae
 ·rename_i a b
  simp only[Option.some.injEq]at ae;subst ae
  have aF:=iM aa
  have aJ:=iM ab
  subst aF aJ
  subst hm
  refine⟨.value (.string ⟨⟨tU da a b⟩⟩),w,_,F,S,?_,.inl rfl,h,.inl ⟨rfl,kJ _⟩⟩
  cases da
  ·simp only[Builtin.min2,Op.stringOp,r5,tU,Bool.false_eq_true,if_false]
   cases J:(Op.bytesLess a b||a==b)<;>simp[asBool]
  ·simp only[Builtin.max2,Op.stringOp,r5,tU,if_true]
   cases J:Op.bytesLess a b<;>simp[asBool]
 ·rename_i k a cr b
  split at ae
  ·rename_i al
   subst al
   simp only[Option.some.injEq]at ae;subst ae
   have aF:=jN aa
   have aJ:=jN ab
   subst aF aJ
   subst hm
   refine⟨.value (.int k (fL da a b)),w,_,F,S,?_,.inl rfl,h,.inl ⟨rfl,of_int _ _⟩⟩
   cases da<;>simp[Builtin.min2,Builtin.max2,fL]
  ·cases ae
 ·cases ae
theorem Br (aV:C.db) {an:Nat→Value} (h:a1 w0 F0 X F S s an w) (cL:∀t,an t=a.tmps.getD t undef) {o:Oper} {a7:dS} (U:bX o.op=some a7) (he:aZ C s a7=some (av,s1)):
  Next C w0 F0 X an w (execOp a.eval o) av s1:=by
 obtain⟨dst,op,ty,pos,after,guard⟩:=o
 simp only at U
 cases op with
 |move x=>
  simp only[bX,Option.map_eq_some_iff]at U
  obtain⟨cE,ai,rfl⟩:=U
  obtain⟨g1,g2⟩:=dv h cL ai
  simp only[aZ,Option.some.injEq,Prod.mk.injEq]at he
  obtain⟨rfl,rfl⟩:=he
  exact⟨_,w,_,F,S,rfl,.inl rfl,h,.inl ⟨g1,g2⟩⟩
 |assign x=>
  simp only[bX,Option.map_eq_some_iff]at U
  obtain⟨cE,ai,rfl⟩:=U
  obtain⟨g1,g2⟩:=dv h cL ai
  simp only[aZ]at he
  split at he
  ·rename_i y q hy
   rw[hy]at g1 g2
   obtain⟨bk,k0,bg,bw,Sn,cM,cc,c8,dj,fD,_⟩:=lq h g1 g2 he
   exact⟨_,w,_,F,bk,rfl,.inl rfl,k0,.inr ⟨bg,bw,Sn,cM,cc,c8,dj,fD⟩⟩
  ·simp only[Option.some.injEq,Prod.mk.injEq]at he
   obtain⟨rfl,rfl⟩:=he
   exact⟨_,w,_,F,S,rfl,.inl rfl,h,.inl ⟨g1,g2⟩⟩
 |pick c x y=>
  simp only[bX]at U
  split at U
  ·rename_i xC cE hP af ai hy
   simp only[Option.some.injEq]at U;subst U
   simp only[aZ]at he
   split at he
   ·rename_i b J
    simp only[Option.some.injEq,Prod.mk.injEq]at he
    obtain⟨rfl,rfl⟩:=he
    have pa:=(dv h cL af).2
    rw[J]at pa
    have pa:=nT pa
    obtain⟨aH,aU⟩:=dv h cL ai
    obtain⟨l_,ma⟩:=dv h cL hy
    refine⟨.value (if b then a.eval x else a.eval y),w,_,F,S,?_,.inl rfl,h,.inl ?_⟩
    ·simp[execOp,pa,asBool]
    ·cases b
     ·exact⟨l_,ma⟩
     ·exact⟨aH,aU⟩
   ·cases he
  ·cases U
 |alloc T=>
  simp only[bX,Option.some.injEq]at U;subst U
  simp only[aZ,Option.map_eq_some_iff,Prod.mk.injEq]at he
  obtain⟨d,ae,rfl,rfl⟩:=he
  exact(GP aV h ae).next
 |box T x=>
  simp only[bX,Option.map_eq_some_iff]at U
  obtain⟨cE,ai,rfl⟩:=U
  obtain⟨g1,g2⟩:=dv h cL ai
  exact(GU h g1 g2 he).next
 |build T ps=>
  simp only[bX,Option.map_eq_some_iff]at U
  obtain⟨HY,ah,rfl⟩:=U
  obtain⟨ps⟩:=ps
  have:=(HR aV h (xB h cL ah) he).next
  simpa [execOp]using this
 |buildSlice T n ps=>
  simp only[bX,Option.map_eq_some_iff]at U
  obtain⟨HY,ah,rfl⟩:=U
  obtain⟨ps⟩:=ps
  have:=(HU aV h (xB h cL ah) he).next
  simpa [execOp]using this
 |load T x=>
  simp only[bX,Option.map_eq_some_iff]at U
  obtain⟨cE,ai,rfl⟩:=U
  obtain⟨g1,g2⟩:=dv h cL ai
  simp only[aZ,Option.map_eq_some_iff,Prod.mk.injEq]at he
  obtain⟨d,ae,rfl,rfl⟩:=he
  exact(GK aV h g2 ae).next
 |store T x y=>
  simp only[bX]at U
  split at U
  ·rename_i cE hP ai hy
   simp only[Option.some.injEq]at U;subst U
   simp only[aZ,Option.map_eq_some_iff,Prod.mk.injEq]at he
   obtain⟨s2,ae,rfl,rfl⟩:=he
   obtain⟨ar,aE,aa,ab⟩:=GN aV h (dv h cL ai).2 (dv h cL hy).1 (dv h cL hy).2 ae
   exact⟨.skip,ar,undef,F,aE,by simp[execOp,aa],.inr ⟨rfl,rfl⟩,ab,.inl ⟨rfl,by rw[au];trivial⟩⟩
  ·cases U
 |nilCheck x=>
  simp only[bX,Option.map_eq_some_iff]at U
  obtain⟨cE,ai,rfl⟩:=U
  obtain⟨g1,g2⟩:=dv h cL ai
  simp only[aZ,Option.map_eq_some_iff,Prod.mk.injEq]at he
  obtain⟨d,ae,rfl,rfl⟩:=he
  obtain⟨rfl,ah,aD⟩:=G9 h g2 ae
  refine⟨.value (a.eval x),w,_,F,S,?_,.inl rfl,h,.inl ⟨ah,g2⟩⟩
  rcases aD with⟨b,J⟩|⟨f,c,J⟩<;>simp[execOp,J]
 |binOp op T x y Yl=>
  simp only[bX]at U
  split at U
  ·rename_i cE hP ai hy
   simp only[Option.some.injEq]at U;subst U
   simp only[aZ,Option.map_eq_some_iff,Prod.mk.injEq]at he
   obtain⟨d,ae,rfl,rfl⟩:=he
   exact(G6 aV h x y (dv h cL ai).2 (dv h cL hy).2 ae).next
  ·cases U
 |unOp op T x=>
  simp only[bX,Option.map_eq_some_iff]at U
  obtain⟨cE,ai,rfl⟩:=U
  simp only[aZ,Option.map_eq_some_iff,Prod.mk.injEq]at he
  obtain⟨d,ae,rfl,rfl⟩:=he
  exact(G7 h (dv h cL ai).2 ae).next
 |convert A B x=>
  simp only[bX,Option.map_eq_some_iff]at U
  obtain⟨cE,ai,rfl⟩:=U
  simp only[aZ,Option.map_eq_some_iff,Prod.mk.injEq]at he
  obtain⟨d,ae,rfl,rfl⟩:=he
  exact(Hh aV h (dv h cL ai).2 ae).next
 |makeFunc fn first cs=>
  cases fn with
  |func f=>
   simp only[bX]at U
   split at U
   ·rename_i HZ
    simp only[Option.map_eq_some_iff]at U
    obtain⟨n3,fO,rfl⟩:=U
    simp only[aZ,Option.some.injEq,Prod.mk.injEq]at he
    obtain⟨rfl,rfl⟩:=he
    have H0:first= #[]:=by simpa using HZ
    subst H0
    refine⟨_,w,_,F,S,rfl,.inl rfl,h,.inl ⟨rfl,?_⟩⟩
    rw[au]
    refine⟨cs.map a.eval,by simp,?_⟩
    simpa using uB h cL _ _ (pb fO)
   ·cases U
  |_=>simp[bX]at U
 |makeSlice T l c=>
  simp only[bX]at U
  split at U
  ·rename_i cE hP ai hy
   simp only[Option.some.injEq]at U;subst U
   simp only[aZ,Option.map_eq_some_iff,Prod.mk.injEq]at he
   obtain⟨d,ae,rfl,rfl⟩:=he
   exact(HH aV h (dv h cL ai).2 (dv h cL hy).2 ae).next
  ·cases U
 |slice T x b5 ay da=>
  cases da with
  |some m=>simp[bX]at U
  |none=>
   simp only[bX]at U
   split at U
   ·rename_i cE Ym Bs ai kL kM
    simp only[Option.some.injEq]at U;subst U
    obtain⟨g1,g2⟩:=dv h cL ai
    have opt:∀{o:Option Operand} {km:Option aw},sn o=some km→mW w F s an (km.map (az s)) (o.map a.eval):=by
     intro o km bH
     cases o with
     |none=>simp[sn]at bH;subst bH;trivial
     |some o=>
      simp only[sn,Option.map_eq_some_iff]at bH
      obtain⟨x,ai,rfl⟩:=bH
      exact(dv h cL ai).2
    exact(Hk aV h g1 g2 (opt kL) (opt kM) he).next
   ·cases U
 |fieldAddr T x k=>
  simp only[bX,Option.map_eq_some_iff]at U
  obtain⟨cE,ai,rfl⟩:=U
  obtain⟨g1,g2⟩:=dv h cL ai
  simp only[aZ,Option.map_eq_some_iff,Prod.mk.injEq]at he
  obtain⟨d,ae,rfl,rfl⟩:=he
  exact(GD aV h g1 g2 ae).next
 |indexAddr T x i=>
  simp only[bX]at U
  split at U
  ·rename_i cE hP ai hy
   simp only[Option.some.injEq]at U;subst U
   simp only[aZ,Option.map_eq_some_iff,Prod.mk.injEq]at he
   obtain⟨d,ae,rfl,rfl⟩:=he
   exact(GF aV h (dv h cL ai).2 (dv h cL hy).2 ae).next
  ·cases U
 |index T x i=>
  simp only[bX]at U
  split at U
  ·rename_i cE hP ai hy
   simp only[Option.some.injEq]at U;subst U
   simp only[aZ,Option.map_eq_some_iff,Prod.mk.injEq]at he
   obtain⟨d,ae,rfl,rfl⟩:=he
   exact(He aV h (dv h cL ai).2 (dv h cL hy).2 ae).next
  ·cases U
 |makeMap t r=>
  cases r with
  |none=>
   simp only[bX,Option.some.injEq]at U;subst U
   simp only[aZ,Option.some.injEq,Prod.mk.injEq]at he
   obtain⟨rfl,rfl⟩:=he
   exact(HG h t).next
  |some r=>simp[bX]at U
 |lookup T x i c=>
  cases c with
  |true=>simp[bX]at U
  |false=>
   simp only[bX]at U
   split at U
   ·rename_i cE mQ ai ay
    simp only[Option.some.injEq]at U;subst U
    simp only[aZ,Option.map_eq_some_iff,Prod.mk.injEq]at he
    obtain⟨d,ae,rfl,rfl⟩:=he
    exact(HD aV h (dv h cL ai).2 (dv h cL ay).2 ae).next
   ·cases U
 |mapUpdate T x i v=>
  simp only[bX]at U
  split at U
  ·rename_i cE mQ ct ai ay aD
   simp only[Option.some.injEq]at U;subst U
   simp only[aZ,Option.map_eq_some_iff,Prod.mk.injEq]at he
   obtain⟨s2,ae,rfl,rfl⟩:=he
   obtain⟨ar,aE,aa,ab⟩:=HE aV h (dv h cL ai).2 (dv h cL ay).2 (dv h cL aD).2 ae
   exact⟨.skip,ar,undef,F,aE,by simp[execOp,aa],.inr ⟨rfl,rfl⟩,ab,.inl ⟨rfl,by rw[au];trivial⟩⟩
  ·cases U
 |extract x k=>
  simp only[bX,Option.map_eq_some_iff]at U
  obtain⟨cE,ai,rfl⟩:=U
  simp only[aZ,Option.map_eq_some_iff,Prod.mk.injEq]at he
  obtain⟨d,ae,rfl,rfl⟩:=he
  exact(Hb h (dv h cL ai).2 ae).next
 |field T x k=>
  simp only[bX,Option.map_eq_some_iff]at U
  obtain⟨cE,ai,rfl⟩:=U
  simp only[aZ,Option.bind_eq_some_iff]at he
  obtain⟨d,ae,he⟩:=he
  obtain⟨v,ar,a8,aE,aC,hl,lo⟩:=Hc aV h (dv h cL ai).2 ae
  unfold l9 at he
  split at he
  ·rename_i y q
   have H2:au ar a8 s an (.h y q) v (fun _=>False):=by
    rcases lo with⟨_,g2⟩|⟨g1,_⟩
    ·exact g2
    ·cases g1
   obtain⟨bk,k0,bg,bw,Sn,cM,cc,c8,dj,fD,_⟩:=lq hl rfl H2 he
   exact⟨.value v,ar,v,a8,bk,by simp[execOp,aC],.inl rfl,k0,.inr ⟨bg,bw,Sn,cM,cc,c8,dj,fD⟩⟩
  ·simp only[Option.some.injEq,Prod.mk.injEq]at he
   obtain⟨rfl,rfl⟩:=he
   exact⟨.value v,ar,v,a8,aE,by simp[execOp,aC],.inl rfl,hl,lo⟩
 |call c=>
  obtain⟨callee,args,argTypes⟩:=c
  simp only[bX]at U
  split at U
  ·split at U
   ·simp only[Option.some.injEq]at U;subst U
    simp[aZ]at he
   ·cases U
  ·split at U
   ·rename_i x T jS pc
    simp only[Option.map_eq_some_iff]at U
    obtain⟨cE,ai,rfl⟩:=U
    simp only[aZ,Option.map_eq_some_iff,Prod.mk.injEq]at he
    obtain⟨d,ae,rfl,rfl⟩:=he
    have:=(Hf (ty:=ty) aV h (dv h cL ai).2 ae).next
    have aF:args= #[x]:=by apply Array.ext';exact jS
    have aJ:argTypes= #[T]:=by apply Array.ext';exact pc
    subst aF aJ
    simpa [execOp,resolve,invoke,builtin]using this
   ·cases U
  ·split at U
   ·rename_i x T jS pc
    simp only[Option.map_eq_some_iff]at U
    obtain⟨cE,ai,rfl⟩:=U
    simp only[aZ]at he
    split at he
    ·rename_i e al H3
     simp only[Option.some.injEq,Prod.mk.injEq]at he
     obtain⟨rfl,rfl⟩:=he
     have aD:=(dv h cL ai).2
     rw[H3]at aD
     have:=mV aD
     obtain⟨i,d,z,aF,aJ,aN,bt,bN,bh,ba⟩:=aV.info (dQ al (by simp))
     rw[al]at ba
     have ae:=ig ba;subst ae
     have H4:args= #[x]:=by apply Array.ext';exact jS
     have H5:argTypes= #[T]:=by apply Array.ext';exact pc
     subst H4 H5
     have aC:(Builtin.cap_ #[T] ty #[a.eval x]).run C.P w= .ok (.int .i64 0) w:=by
      rw[this];simp[Builtin.cap_,run_underlying bh,goInt]
     have:=(Good.same (av:=.int .i64 0) h aC rfl (of_int _ _)).next
     simpa [execOp,resolve,invoke,builtin]using this
    ·cases he
   ·cases U
  ·split at U
   ·rename_i x y jS
    split at U
    ·rename_i cE hP ai hy
     simp only[Option.some.injEq]at U;subst U
     have aF:args= #[x,y]:=by apply Array.ext';exact jS
     subst aF
     exact Bq h (dv h cL ai).2 (dv h cL hy).2 he (by simp[execOp,resolve,invoke,builtin,Builtin.min_])
    ·cases U
   ·cases U
  ·split at U
   ·rename_i x y jS
    split at U
    ·rename_i cE hP ai hy
     simp only[Option.some.injEq]at U;subst U
     have aF:args= #[x,y]:=by apply Array.ext';exact jS
     subst aF
     exact Bq h (dv h cL ai).2 (dv h cL hy).2 he (by simp[execOp,resolve,invoke,builtin,Builtin.max_])
    ·cases U
   ·cases U
  ·split at U
   ·rename_i x y T a6 jS pc
    split at U
    ·rename_i cE hP ai hy
     simp only[Option.some.injEq]at U;subst U
     have:=(Hu (ty:=ty) aV h (dv h cL ai).2 (dv h cL hy).2 he).next
     have aF:args= #[x,y]:=by apply Array.ext';exact jS
     have aJ:argTypes= #[T,a6]:=by apply Array.ext';exact pc
     subst aF aJ
     simpa [execOp,resolve,invoke,builtin]using this
    ·cases U
   ·cases U
  ·cases U
 |_=>simp[bX]at U
end
mutual
def I.U:I→List Nat
 | .h x _=>[x]
 | .ah x _=>[x]
 | .J x _=>[x]
 | .fn _ cap=>I.cT cap
 |_=>[]
def I.cT:List I→List Nat
 |[]=>[]
 |d::ds=>d.U++I.cT ds
end
inductive mb where
 |no
 |bo
 |bP
structure eD where
 k:mb
 x:Nat
 d:I
def mb.app (k:mb) (x:Nat) (a:I):I:=match k with
 | .no=>a
 | .bo=>bZ.bo x a
 | .bP=>bZ.bP x a
def eD.at (m:eD) (u:Nat) (a:I):I:=if u=m.x then m.d else m.k.app m.x a
def gY:List eD→Nat→I→I
 |[],_,a=>a
 |m::ms,u,a=>gY ms u (m.at u a)
def cl (ms:List eD) (s:ag):ag:=fun u=>gY ms u (s u)
theorem Bt:∀(ms hU:List eD) (u:Nat) (a:I),gY (ms++hU) u a=gY hU u (gY ms u a)
 |[],_,_,_=>rfl
 |m::ms,hU,u,a=>by simp only[List.cons_append,gY];exact Bt ms hU u _
theorem iO (ms hU:List eD) (s:ag):cl (ms++hU) s=cl hU (cl ms s):=by
 funext u;simp[cl,Bt]
theorem H6 {ms:List eD} {s ao:ag} {u:Nat} (h:ao u=s u):cl ms ao u=cl ms s u:=by simp[cl,h]
theorem pd (s:ag) (x:Nat) (d:I):cf (fq x s) x d=cl [⟨.bo,x,d⟩] s:=by
 funext u;simp only[cl,gY,eD.at,cf,fq,mb.app]
theorem Bu (s:ag) (x:Nat) (d:I):cf (iK x s) x d=cl [⟨.bP,x,d⟩] s:=by
 funext u;simp only[cl,gY,eD.at,cf,iK,mb.app]
theorem xD (s:ag) (x:Nat) (d:I):cf s x d=cl [⟨.no,x,d⟩] s:=by
 funext u;simp only[cl,gY,eD.at,cf,mb.app]
mutual
theorem so {x:Nat}:∀a:I,x∉a.U→bo x a=a
 | .h y q,h=>by
   simp only[I.U,List.mem_singleton]at h
   simp only[bo];rw[if_neg (fun e=>h e.symm)]
 | .ah y q,h=>by
   simp only[I.U,List.mem_singleton]at h
   simp only[bo];rw[if_neg (fun e=>h e.symm)]
 | .J y q,h=>rfl
 | .fn f cap,h=>by simp only[bo];rw[Bv cap (by simpa [I.U]using h)]
 | .hole,_=>rfl
 | .bool _,_=>rfl
 | .di,_=>rfl
 | .int _ _,_=>rfl
 | .str _,_=>rfl
 | .cw,_=>rfl
 | .bu,_=>rfl
 | .slice _,_=>rfl
 | .aG _ _,_=>rfl
 | .ref _,_=>rfl
 | .bG _,_=>rfl
 | .agg _,_=>rfl
 | .tuple _,_=>rfl
 | .b9 _,_=>rfl
theorem Bv {x:Nat}:∀ds:List I,x∉I.cT ds→fM x ds=ds
 |[],_=>rfl
 |d::ds,h=>by
  simp only[I.cT,List.mem_append,not_or]at h
  simp only[fM];rw[so d h.1,Bv ds h.2]
end
mutual
theorem xE {x:Nat}:∀a:I,x∉a.U→bP x a=a
 | .h y q,h=>by
   simp only[I.U,List.mem_singleton]at h
   simp only[bP];rw[if_neg (fun e=>h e.symm)]
 | .ah y q,h=>by
   simp only[I.U,List.mem_singleton]at h
   simp only[bP];rw[if_neg (fun e=>h e.symm)]
 | .J y q,h=>by
   simp only[I.U,List.mem_singleton]at h
   simp only[bP];rw[if_neg (fun e=>h e.symm)]
 | .fn f cap,h=>by simp only[bP];rw[Bw cap (by simpa [I.U]using h)]
 | .hole,_=>rfl
 | .bool _,_=>rfl
 | .di,_=>rfl
 | .int _ _,_=>rfl
 | .str _,_=>rfl
 | .cw,_=>rfl
 | .bu,_=>rfl
 | .slice _,_=>rfl
 | .aG _ _,_=>rfl
 | .ref _,_=>rfl
 | .bG _,_=>rfl
 | .agg _,_=>rfl
 | .tuple _,_=>rfl
 | .b9 _,_=>rfl
theorem Bw {x:Nat}:∀ds:List I,x∉I.cT ds→gm x ds=ds
 |[],_=>rfl
 |d::ds,h=>by
  simp only[I.cT,List.mem_append,not_or]at h
  simp only[gm];rw[xE d h.1,Bw ds h.2]
end
theorem sq {k:mb} {x:Nat} {a:I} (h:k= .no∨x∉a.U):k.app x a=a:=by
 cases k with
 |no=>rfl
 |bo=>exact so a (by simpa using h)
 |bP=>exact xE a (by simpa using h)
mutual
theorem Bx (x y:Nat):∀a:I,bo x (bo y a)=bo y (bo x a)
 | .h z q=>by simp only[bo];by_cases aa:z=x<;>by_cases ab:z=y<;>by_cases aB:q=[]<;>simp[aa,ab,aB,bo]<;>(subst_vars;simp_all [bo])
 | .ah z q=>by simp only[bo];by_cases aa:z=x<;>by_cases ab:z=y<;>simp[aa,ab,bo]<;>(subst_vars;simp_all [bo])
 | .J z q=>rfl
 | .fn f cap=>by simp only[bo];rw[Bz x y cap]
 | .hole=>rfl
 | .bool _=>rfl
 | .di=>rfl
 | .int _ _=>rfl
 | .str _=>rfl
 | .cw=>rfl
 | .bu=>rfl
 | .slice _=>rfl
 | .aG _ _=>rfl
 | .ref _=>rfl
 | .bG _=>rfl
 | .agg _=>rfl
 | .tuple _=>rfl
 | .b9 _=>rfl
theorem Bz (x y:Nat):∀ds:List I,fM x (fM y ds)=fM y (fM x ds)
 |[]=>rfl
 |d::ds=>by simp only[fM];rw[Bx x y d,Bz x y ds]
end
mutual
theorem BA (x y:Nat):∀a:I,bP x (bP y a)=bP y (bP x a)
 | .h z q=>by simp only[bP];by_cases aa:z=x<;>by_cases ab:z=y<;>simp[aa,ab,bP]<;>(subst_vars;simp_all [bP])
 | .ah z q=>by simp only[bP];by_cases aa:z=x<;>by_cases ab:z=y<;>simp[aa,ab,bP]<;>(subst_vars;simp_all [bP])
 | .J z q=>by simp only[bP];by_cases aa:z=x<;>by_cases ab:z=y<;>simp[aa,ab,bP]<;>(subst_vars;simp_all [bP])
 | .fn f cap=>by simp only[bP];rw[BB x y cap]
 | .hole=>rfl
 | .bool _=>rfl
 | .di=>rfl
 | .int _ _=>rfl
 | .str _=>rfl
 | .cw=>rfl
 | .bu=>rfl
 | .slice _=>rfl
 | .aG _ _=>rfl
 | .ref _=>rfl
 | .bG _=>rfl
 | .agg _=>rfl
 | .tuple _=>rfl
 | .b9 _=>rfl
theorem BB (x y:Nat):∀ds:List I,gm x (gm y ds)=gm y (gm x ds)
 |[]=>rfl
 |d::ds=>by simp only[gm];rw[BA x y d,BB x y ds]
end
mutual
theorem xF (x y:Nat):∀a:I,bo x (bP y a)=bP y (bo x a)
 | .h z q=>by simp only[bP,bo];by_cases aa:z=x<;>by_cases ab:z=y<;>by_cases aB:q=[]<;>simp[aa,ab,aB,bP,bo]<;>(subst_vars;simp_all [bP,bo])
 | .ah z q=>by simp only[bP,bo];by_cases aa:z=x<;>by_cases ab:z=y<;>simp[aa,ab,bP,bo]<;>(subst_vars;simp_all [bP,bo])
 | .J z q=>by simp only[bP,bo];by_cases ab:z=y<;>simp[ab,bo]
 | .fn f cap=>by simp only[bP,bo];rw[BC x y cap]
 | .hole=>rfl
 | .bool _=>rfl
 | .di=>rfl
 | .int _ _=>rfl
 | .str _=>rfl
 | .cw=>rfl
 | .bu=>rfl
 | .slice _=>rfl
 | .aG _ _=>rfl
 | .ref _=>rfl
 | .bG _=>rfl
 | .agg _=>rfl
 | .tuple _=>rfl
 | .b9 _=>rfl
theorem BC (x y:Nat):∀ds:List I,fM x (gm y ds)=gm y (fM x ds)
 |[]=>rfl
 |d::ds=>by simp only[gm,fM];rw[xF x y d,BC x y ds]
end
theorem H7 (k l:mb) (x y:Nat) (a:I):k.app x (l.app y a)=l.app y (k.app x a):=by
 cases k<;>cases l<;>simp only[mb.app]<;>first|rfl|exact Bx .. |exact BA .. |exact xF .. |exact(xF ..).symm
def aw.use (s:ag):aw→List Nat
 | .t n=>n::(s n).U
 | .c av=>av.U
 | .f _=>[]
def aw.kW (s:ag):List aw→List Nat
 |[]=>[]
 |x::xs=>x.use s++aw.kW s xs
def xG (s:ag):Option aw→List Nat
 |none=>[]
 |some x=>x.use s
def use (s:ag):dS→List Nat
 | .cg x=>x.use s
 | .df x=>x.use s
 | .pick c a b=>c.use s++(a.use s++b.use s)
 | .e1 _=>[]
 | .dB _ x=>x.use s
 | .dP _ ps=>aw.kW s (ps.map (·.2))
 | .cF _ _ ps=>aw.kW s (ps.map (·.2))
 | .c7 _ x=>x.use s
 | .et _ x y=>x.use s++y.use s
 | .ek x=>x.use s
 | .bC _ _ x y=>x.use s++y.use s
 | .un _ x=>x.use s
 | .dR _ _ x=>x.use s
 | .hE _ cs=>aw.kW s cs
 | .en _ l c=>l.use s++c.use s
 | .cD _ x b5 ay=>x.use s++(xG s b5++xG s ay)
 | .dX _ x _=>x.use s
 | .ej _ x i=>x.use s++i.use s
 | .idx _ x i=>x.use s++i.use s
 | .ex x _=>x.use s
 | .jl _ x _=>x.use s
 | .call f args=>f.use s++aw.kW s args
 | .len _ x=>x.use s
 | .app _ _ x y=>x.use s++y.use s
 | .shr a7=>use s a7
 | .jQ f args u x=>u::x::(f.use s++aw.kW s args)
 | .jR f args us=>us.flatMap (fun u=>u::(s u).U)++(f.use s++aw.kW s args)
 | .il _ x=>x.use s
 | .n2 x=>x.use s
 | .nb x=>x.use s
 | .sl=>[]
 | .kR _ x i=>x.use s++i.use s
 | .jP _ x i v=>x.use s++(i.use s++v.use s)
 | .kS _ _ x y=>x.use s++y.use s
 | .cap _ x=>x.use s
 | .fQ _ x y=>x.use s++y.use s
 | .bad=>[]
def cd (s:ag):dS→List Nat
 | .df x=>(az s x).U
 | .dB _ x=>(az s x).U
 | .dP _ ps=>I.cT (ps.map fun p=>az s p.2)
 | .cF _ _ ps=>I.cT (ps.map fun p=>az s p.2)
 | .et _ x y=>(az s x).U++(az s y).U
 | .jl _ x _=>(az s x).U
 | .nb x=>(az s x).U
 | .jP _ x _ _=>(az s x).U
 | .cD _ x _ _=>(az s x).U
 | .app _ _ x y=>(az s x).U++(az s y).U
 | .shr a7=>cd s a7
 |_=>[]
def cq (a6:List Nat) (ao s:ag):Prop:=∀u∈a6,ao u=s u
theorem cq.left {a6 V:List Nat} {ao s:ag} (h:cq (a6++V) ao s):cq a6 ao s:=fun u hu=>h u (List.mem_append_left _ hu)
theorem cq.right {a6 V:List Nat} {ao s:ag} (h:cq (a6++V) ao s):cq V ao s:=fun u hu=>h u (List.mem_append_right _ hu)
theorem cq.cl {a6:List Nat} {ao s:ag} (h:cq a6 ao s) (ms:List eD):cq a6 (cl ms ao) (cl ms s):=fun u hu=>H6 (h u hu)
theorem cq.sub {a6 V:List Nat} {ao s:ag} (h:cq a6 ao s) (U:∀u∈V,u∈a6):cq V ao s:=fun u hu=>h u (U u hu)
theorem aw.pe {s:ag} {x:aw}:∀u∈(az s x).U,u∈x.use s:=by
 intro u hu
 cases x with
 |t n=>
  simp only[az,gp]at hu
  split at hu
  ·simp[aw.use,hu]
  ·simp only[I.U,List.mem_singleton]at hu;simp[aw.use,hu]
 |c av=>exact hu
 |f g=>simp[az,I.U,I.cT]at hu
theorem aw.dz {s ao:ag} {x:aw} (h:cq (x.use s) ao s):az ao x=az s x:=by
 cases x with
 |t n=>simp only[az];rw[h n (by simp[aw.use])]
 |c av=>rfl
 |f g=>rfl
theorem cq.az {s ao:ag} {x:aw} (h:cq (x.use s) ao s):cq (az s x).U ao s:=h.sub aw.pe
theorem BD {s ao:ag} {x:Option aw} (h:cq (xG s x) ao s):x.map (az ao)=x.map (az s):=by
 cases x with
 |none=>rfl
 |some x=>simp only[Option.map_some];rw[aw.dz h]
theorem aw.xH {s ao:ag}:∀{xs:List aw},cq (aw.kW s xs) ao s→xs.map (az ao)=xs.map (az s)
 |[],_=>rfl
 |x::xs,h=>by
  simp only[List.map_cons]
  rw[aw.dz (h.left),aw.xH (h.right)]
theorem aw.xI {s ao:ag}:∀{ps:List (Nat×aw)},cq (aw.kW s (ps.map (·.2))) ao s→(ps.map fun p=>(p.1,az ao p.2))=ps.map fun p=>(p.1,az s p.2)
 |[],_=>rfl
 |x::xs,h=>by
  simp only[List.map_cons]at h⊢
  rw[aw.dz (h.left),aw.xI (h.right)]
theorem aw.uD {s:ag}:∀{xs:List aw},∀u∈I.cT (xs.map (az s)),u∈aw.kW s xs
 |[],u,h=>by simp[I.cT]at h
 |x::xs,u,h=>by
  simp only[List.map_cons,I.cT,List.mem_append]at h
  simp only[aw.kW,List.mem_append]
  exact h.imp (aw.pe u) (aw.uD u)
section
variable {C:bm} {s ao:ag} {x y i:I} {T A B:TypeId}
theorem xJ (h:cq x.U ao s):loc ao x=loc s x:=by
 cases x<;>first
  |rfl
  |(simp only[loc];rw[h _ (by simp[I.U])])
theorem xK {z:Nat} {q:List Nat} (h:loc s x=some (z,q)):z∈x.U:=by
 cases x with
 |h y p=>
  simp only[loc]at h
  split at h
  ·simp only[Option.some.injEq,Prod.mk.injEq]at h;simp[I.U,h.1]
  ·cases h
 |ah y p=>
  simp only[loc]at h
  split at h
  ·simp only[Option.some.injEq,Prod.mk.injEq]at h;simp[I.U,h.1]
  ·cases h
 |_=>simp[loc]at h
theorem H8 (h:cq x.U ao s):c7 C ao T x=c7 C s T x:=by
 have aI:=xJ h
 unfold c7
 split
 ·rfl
 ·rw[h _ (by simp[I.U])]
 ·rw[aI]
  split
  ·rename_i e
   rw[h _ (xK e)]
  ·rfl
theorem H9 {k:Nat} (h:cq x.U ao s):dX C ao T x k=dX C s T x k:=by
 have aI:=xJ h
 unfold dX
 split
 ·split
  ·split
   ·split
    ·rfl
    ·rw[h _ (by simp[I.U])]
    ·rw[aI]
     split
     ·rename_i e
      rw[h _ (xK e)]
     ·rfl
   ·rfl
  ·rfl
 ·rfl
theorem H_ (h:cq x.U ao s):ej C ao T x i=ej C s T x i:=by
 cases x<;>first
  |rfl
  |(simp only[ej];rw[h _ (by simp[I.U])])
theorem Ia (h:cq x.U ao s):jm C ao T x=jm C s T x:=by
 unfold jm
 cases(C.T T).k<;>cases x<;>first
  |rfl
  |(simp only;rw[h _ (by simp[I.U])])
theorem Ib (h:cq x.U ao s):dR C ao A B x=dR C s A B x:=by
 unfold dR
 cases(C.T B).k<;>cases x<;>first
  |rfl
  |(simp only;rw[h _ (by simp[I.U])])
theorem Ic (h:cq x.U ao s):im ao x=im s x:=by
 cases x<;>first
  |rfl
  |(simp only[im];rw[h _ (by simp[I.U])])
theorem Ie (h:cq x.U ao s):iq ao x=iq s x:=by
 cases x<;>first
  |rfl
  |(simp only[iq];rw[h _ (by simp[I.U])])
theorem Ig {op:BinOp} (h:cq x.U ao s):bC C ao op T x y=bC C s op T x y:=by
 have aa:=Ic h
 have ab:=Ie h
 unfold bC
 split<;>first|rfl|simp only[aa,ab]
theorem Ih (h:cq x.U ao s):ek ao x=ek s x:=by
 cases x<;>first
  |rfl
  |(simp only[ek];rw[h _ (by simp[I.U])])
theorem Ii {k y:Nat} {q:List Nat} (h:jl C s T x k=some (.h y q)):x.U=[y]:=by
 unfold jl at h
 split at h<;>try (cases h;done)
 split at h<;>try (cases h;done)
 split at h
 ·split at h<;>try (cases h;done)
  split at h
  ·rename_i af
   simp only[Option.some.injEq]at h
   rw[h]at af
   exact absurd af.2.2.2 (by simp[I.tree])
  ·cases h
 ·split at h<;>try (cases h;done)
  split at h<;>try (cases h;done)
  split at h<;>try (cases h;done)
  rename_i d ae af
  by_cases ah:d.plain=true
  ·simp only[ah,if_true,Option.some.injEq]at h
   rw[h]at af
   exact absurd af.2.2.2 (by simp[I.tree])
  ·simp only[ah,Option.some.injEq]at h
   injection h with aa ab
   subst aa;rfl
 ·cases h
theorem BE {k:Nat} (h:cq x.U ao s):jl C ao T x k=jl C s T x k:=by
 unfold jl
 split<;>try rfl
 split<;>try rfl
 cases x<;>first
  |rfl
  |(simp only[];rw[h _ (by simp[I.U])])
theorem Ij {k:Nat} (h:cq x.U ao s):ex ao x k=ex s x k:=by
 cases x<;>first
  |rfl
  |(simp only[ex];rw[h _ (by simp[I.U])])
theorem qh:∀(q:List Nat) (a d e:I),I.sub q a=some d→(d.plain=false∨q≠[])→(q=[]→e.U=[])→(I.put q e a).U=[]:=by
 intro q a d e h ah he
 cases q with
 |nil=>rw[I.put];exact he rfl
 |cons k q=>
  cases a<;>first
   |(simp[I.sub]at h;done)
   |skip
  all_goals
   unfold I.put
   repeat' split
   all_goals first|rfl|(simp_all;done)
end
def Loc {α:Type} (a6 qi:List Nat) (f:ag→Option (α×ag)) (s:ag) (av:α) (s1:ag):Prop:=
 ∃ms,s1=cl ms s∧(∀m∈ms,m.x∈qi∧m.d.U=[])∧∀ao,cq a6 ao s→f ao=some (av,cl ms ao)
theorem Loc.pure {α:Type} {a6 qi:List Nat} {f:ag→Option (α×ag)} {s:ag} {av:α} (h:∀ao,cq a6 ao s→f ao=some (av,ao)):Loc a6 qi f s av s:=
 ⟨[],rfl,by simp,fun ao U=>h ao U⟩
theorem Loc.mono {α:Type} {a6 qi uE BF:List Nat} {f:ag→Option (α×ag)} {s s1:ag} {av:α} (h:Loc a6 qi f s av s1) (l8:∀u∈a6,u∈uE) (iL:∀u∈qi,u∈BF):Loc uE BF f s av s1:=by
 obtain⟨ms,aa,ab,aB⟩:=h
 exact⟨ms,aa,fun m hm=>⟨iL _ (ab m hm).1,(ab m hm).2⟩,fun ao U=>aB ao (U.sub l8)⟩
section
variable {C:bm} {s s1:ag} {x y d:I} {T A B:TypeId}
theorem nc (h:bM s x=some (d,s1)):Loc x.U x.U (fun s=>bM s x) s d s1:=by
 cases x with
 |h y q=>
  simp only[bM]at h
  split at h
  ·rename_i e he
   split at h
   ·cases h
   ·rename_i ah
    simp only[Option.some.injEq,Prod.mk.injEq]at h
    obtain⟨rfl,rfl⟩:=h
    have ah:e.plain=false:=by simpa using ah
    refine⟨[⟨.bo,y,I.put q e.b0 (s y)⟩],pd _ _ _,?_,?_⟩
    ·intro m hm
     simp only[List.mem_singleton]at hm;subst hm
     refine⟨by simp[I.U],qh q _ _ _ he (.inl ah) fun b6=> ?_⟩
     subst b6
     cases e<;>first|(simp[I.plain]at ah;done)|rfl
    ·intro ao U
     have aF:ao y=s y:=U y (by simp[I.U])
     simp only[bM,aF,he,ah]
     rw[←pd];rfl
  ·cases h
 |ah y q=>simp[bM]at h
 |J y q=>simp[bM]at h
 |fn f c=>simp[bM]at h
 |hole=>simp[bM]at h
 |_=>
  simp only[bM,Option.some.injEq,Prod.mk.injEq]at h
  obtain⟨rfl,rfl⟩:=h
  exact .pure fun ao _=>rfl
mutual
theorem BG (x:Nat):∀a:I,∀u∈(bo x a).U,u∈a.U
 | .h y q,u,h=>by
   simp only[bo]at h
   split at h
   ·split at h
    ·exact h
    ·simp[I.U]at h
   ·exact h
 | .ah y q,u,h=>by
   simp only[bo]at h
   split at h
   ·simp[I.U]at h
   ·exact h
 | .J y q,u,h=>h
 | .fn f cap,u,h=>by simp only[bo,I.U]at h⊢;exact BH x cap u h
 | .hole,u,h=>h
 | .bool _,u,h=>h
 | .di,u,h=>h
 | .int _ _,u,h=>h
 | .str _,u,h=>h
 | .cw,u,h=>h
 | .bu,u,h=>h
 | .slice _,u,h=>h
 | .aG _ _,u,h=>h
 | .ref _,u,h=>h
 | .bG _,u,h=>h
 | .agg _,u,h=>h
 | .tuple _,u,h=>h
theorem BH (x:Nat):∀ds:List I,∀u∈I.cT (fM x ds),u∈I.cT ds
 |[],u,h=>h
 |d::ds,u,h=>by
  simp only[fM,I.cT,List.mem_append]at h⊢
  exact h.imp (BG x d u) (BH x ds u)
end
theorem xL (o:Option Nat) (a:I):∀u∈(hQ o a).U,u∈a.U:=by
 intro u h
 cases o with
 |none=>exact h
 |some x=>exact BG x a u h
theorem BI:∀(os:List (Option Nat)) (a:I),∀u∈(kT os a).U,u∈a.U:=by
 intro os
 induction os with
 |nil=>intro a u h;exact h
 |cons o os ih=>intro a u h;exact xL o a u (ih (hQ o a) u h)
theorem BJ {place:Nat→Option (Nat×Nat)}:∀{ps:List (Nat×I)} {s s1:ag} {el ds:List I} {os:List (Option Nat)},kU place s el os ps=some (ds,s1)→
  Loc (I.cT (ps.map (·.2))) (I.cT (ps.map (·.2))) (fun s=>kU place s el os ps) s ds s1:=by
 intro ps
 induction ps with
 |nil=>
  intro s s1 el ds os h
  simp only[kU,Option.some.injEq,Prod.mk.injEq]at h
  obtain⟨rfl,rfl⟩:=h
  exact .pure fun ao _=>rfl
 |cons p ps ih=>
  intro s s1 el ds os h
  obtain⟨k,a⟩:=p
  simp only[kU]at h
  split at h
  ·rename_i d s2 off n z aK e0 bd
   split at h
   ·cases h
   ·rename_i aX jT
    split at h
    ·rename_i af
     obtain⟨lB,rfl,ab,aB⟩:=nc aK
     obtain⟨n0,rfl,bb,bQ⟩:=ih h
     refine⟨lB++n0,(iO _ _ _).symm,?_,?_⟩
     ·intro m hm
      simp only[List.map_cons,I.cT,List.mem_append]at hm⊢
      rcases hm with hm|hm
      ·exact⟨.inl (BI _ _ _ (ab m hm).1),(ab m hm).2⟩
      ·exact⟨.inr (bb m hm).1,(bb m hm).2⟩
     ·intro ao U
      simp only[List.map_cons,I.cT]at U
      have aF:=aB ao (U.left.sub (BI _ _))
      have aJ:=bQ (cl lB ao) (U.right.cl lB)
      simp only at aF aJ
      simp only[kU,aF,e0,bd,iO]
      rw[if_pos af];exact aJ
    ·cases h
  ·cases h
theorem Ik {ps:List (Nat×I)} {av:I} (h:dP C s T ps=some (av,s1)):Loc (I.cT (ps.map (·.2))) (I.cT (ps.map (·.2))) (fun s=>dP C s T ps) s av s1:=by
 unfold dP at h
 split at h
 ·rename_i aj el al bd
  split at h
  ·rename_i af
   split at h
   ·rename_i ds s2 bc
    simp only[Option.some.injEq,Prod.mk.injEq]at h
    obtain⟨rfl,rfl⟩:=h
    obtain⟨ms,aa,ab,aB⟩:=BJ bc
    refine⟨ms,aa,ab,fun ao U=> ?_⟩
    have:=aB ao U
    simp only at this
    simp only[dP,al,bd,if_pos af,this]
   ·cases h
  ·cases h
 ·cases h
theorem Il {n:Nat} {ps:List (Nat×I)} {av:I} (h:cF C s T n ps=some (av,s1)):Loc (I.cT (ps.map (·.2))) (I.cT (ps.map (·.2))) (fun s=>cF C s T n ps) s av s1:=by
 unfold cF at h
 split at h
 ·rename_i e al
  split at h
  ·rename_i af
   split at h
   ·rename_i ds s2 bc
    simp only[Option.some.injEq,Prod.mk.injEq]at h
    obtain⟨rfl,rfl⟩:=h
    obtain⟨ms,aa,ab,aB⟩:=BJ bc
    refine⟨ms,aa,ab,fun ao U=> ?_⟩
    have:=aB ao U
    simp only at this
    simp only[cF,al,if_pos af,this]
   ·cases h
  ·cases h
 ·cases h
theorem Im {av:I} (h:dB s x=some (av,s1)):Loc x.U x.U (fun s=>dB s x) s av s1:=by
 unfold dB at h
 split at h
 ·cases h
 ·rename_i d s2 jT aK
  simp only[Option.some.injEq,Prod.mk.injEq]at h
  obtain⟨rfl,rfl⟩:=h
  obtain⟨ms,aa,ab,aB⟩:=nc aK
  refine⟨ms,aa,ab,fun ao U=> ?_⟩
  have:=aB ao U
  simp only at this
  simp only[dB,this]
 ·cases h
theorem Io {av:I} (h:il s x=some (av,s1)):Loc x.U [] (fun s=>il s x) s av s1:=by
 unfold il at h
 split at h
 ·rename_i y q
  split at h
  ·rename_i ds kj
   split at h
   ·cases h
   ·rename_i r2
    simp only[Option.some.injEq,Prod.mk.injEq]at h
    obtain⟨rfl,rfl⟩:=h
    refine .pure fun ao U=> ?_
    have e:ao y=s y:=U y (by simp[I.U])
    simp only[il,e,kj,if_neg r2]
  ·cases h
 ·split at h
  ·rename_i af
   simp only[Option.some.injEq,Prod.mk.injEq]at h
   obtain⟨rfl,rfl⟩:=h
   exact .pure fun ao U=>by simp only[il,af,if_true]
  ·cases h
 ·cases h
theorem Ip {s2:ag} (h:et C s T x y=some s2):Loc (x.U++y.U) (x.U++y.U) (fun s=>(et C s T x y).map fun s1=>(I.hole,s1)) s .hole s2:=by
 unfold et at h
 split at h
 ·rename_i d s1 z q aK aI
  obtain⟨ms,aa,ab,aB⟩:=nc aK
  have bd:=xK aI
  have b6:q≠[]:=by
   cases x with
   |h y p=>
    simp only[loc]at aI
    split at aI
    ·simp only[Option.some.injEq,Prod.mk.injEq]at aI;simp[←aI.2]
    ·cases aI
   |ah y p=>
    simp only[loc]at aI
    split at aI
    ·rename_i lu
     simp only[Option.some.injEq,Prod.mk.injEq]at aI
     obtain⟨rfl,rfl⟩:=aI
     intro e;subst e;simp[I.dD]at lu
    ·cases aI
   |_=>simp[loc]at aI
  split at h
  ·cases h
  ·rename_i aX jT
   split at h
   ·rename_i d0 hR
    split at h
    ·rename_i af
     simp only[Option.some.injEq]at h;subst h
     refine⟨ms++[⟨.bo,z,I.put q d (s z)⟩],?_,?_,?_⟩
     ·rw[iO,←aa,pd]
     ·intro m hm
      simp only[List.mem_append,List.mem_singleton]at hm⊢
      rcases hm with hm|rfl
      ·exact⟨.inr (ab m hm).1,(ab m hm).2⟩
      ·exact⟨.inl bd,qh q _ _ _ hR (.inr b6) fun e=>(b6 e).elim⟩
     ·intro ao U
      have aF:=aB ao U.right
      simp only at aF
      simp only[et,aF,xJ U.left,aI,U.left z bd,hR]
      cases d<;>first|(simp only[if_pos af,Option.map_some,iO,pd];done)|exact(jT _ rfl).elim
    ·cases h
   ·cases h
 ·cases h
theorem Iq {b5 ay:Option I} {av:I} (h:cD C s T x b5 ay=some (av,s1)):Loc x.U x.U (fun s=>cD C s T x b5 ay) s av s1:=by
 cases x with
 |h y q=>
  unfold cD at h
  split at h<;>first|(cases h;done)|skip
  all_goals (rename_i ai;try cases ai)
  rename_i e al
  split at h
  ·rename_i sz xs du
   split at h
   ·rename_i b kL kM
    split at h
    ·rename_i af
     split at h
     ·rename_i d s2 aK
      simp only[Option.some.injEq,Prod.mk.injEq]at h
      obtain⟨rfl,rfl⟩:=h
      obtain⟨ms,aa,ab,aB⟩:=nc aK
      refine⟨ms,aa,ab,fun ao U=> ?_⟩
      have:=aB ao U
      simp only at this
      have aF:ao y=s y:=U y (by simp[I.U])
      simp only[cD,al,aF,du,kL,kM,if_pos af,this]
     ·cases h
    ·cases h
   ·cases h
  ·cases h
 |_=>
  have lC:s1=s:=by
   unfold cD at h
   repeat' split at h
   all_goals first|(cases h;done)|(simp only[Option.some.injEq,Prod.mk.injEq]at h;exact h.2.symm)|simp_all
  subst lC
  refine .pure fun ao _=> ?_
  unfold cD at h⊢
  repeat' split at h
  all_goals first
   |(cases h;done)
   |(simp only[Option.some.injEq,Prod.mk.injEq]at h
     obtain⟨rfl,_⟩:=h
     simp_all)
def mc (C:bm) (e:TypeId) (s:ag):I→Option (I×ag)
 | .bu=>some (I.aG (C.T e).sz [],s)
 | .h a q=>bM s (.h a q)
 |_=>none
def iw (s1:ag):I→Option (List I×ag)
 | .bu=>some ([],s1)
 | .slice bA=>some (bA,s1)
 | .str l=>some (l.map ea,s1)
 | .h a q=>match bM s1 (.h a q)with
   |some (.aG _ bA,s2)=>some (bA,s2)
   |_=>none
 |_=>none
theorem xM (C:bm) (s:ag) (T a6:TypeId) (x y:I):jq C s T a6 x y=(match(C.T T).k with
 | .slice e=>if(C.T e).ok=true∧(C.T e).zero.wd=(C.T e).sz∧(flat (C.T e).zero).isSome=true∧ur C e a6=true then
   match mc C e s x with
   |some (.aG sz xs,s1)=>if sz=(C.T e).sz then
     match iw s1 (hQ x.owner y)with
     |some (bA,s2)=>if(∀d∈bA,d.wd=(C.T e).sz)∧(xs.length+bA.length)*(C.T e).bytes≤140737488355328∧xs.length+bA.length≤9223372036854775807 then some (.aG sz (xs++bA),s2)else none
     |none=>none
    else none
   |_=>none
   else none
 |_=>none):=by
 unfold jq
 generalize hQ x.owner y=hP
 cases(C.T T).k<;>first
  |rfl
  |(cases x<;>cases hP<;>rfl)
theorem Ir {e:TypeId} {d:I} (aa:mc C e s x=some (d,s1)):Loc x.U x.U (fun s=>mc C e s x) s d s1:=by
 cases x with
 |bu=>
  simp only[mc,Option.some.injEq,Prod.mk.injEq]at aa
  obtain⟨aa,rfl⟩:=aa
  exact .pure fun ao _=>by simp only[mc,aa]
 |h a q=>exact nc aa
 |_=>simp[mc]at aa
theorem Is {bA:List I} (ab:iw s y=some (bA,s1)):Loc y.U y.U (fun s=>iw s y) s bA s1:=by
 cases y with
 |bu=>
  simp only[iw,Option.some.injEq,Prod.mk.injEq]at ab
  obtain⟨rfl,rfl⟩:=ab
  exact .pure fun ao _=>rfl
 |slice bA=>
  simp only[iw,Option.some.injEq,Prod.mk.injEq]at ab
  obtain⟨rfl,rfl⟩:=ab
  exact .pure fun ao _=>rfl
 |str l=>
  simp only[iw,Option.some.injEq,Prod.mk.injEq]at ab
  obtain⟨rfl,rfl⟩:=ab
  exact .pure fun ao _=>rfl
 |h a q=>
  simp only[iw]at ab
  split at ab
  ·rename_i Hw Yn hV aK
   simp only[Option.some.injEq,Prod.mk.injEq]at ab
   obtain⟨rfl,rfl⟩:=ab
   obtain⟨ms,g1,g2,g3⟩:=nc aK
   refine⟨ms,g1,g2,fun ao U=> ?_⟩
   have:=g3 ao U
   simp only at this
   simp only[iw,this]
  ·cases ab
 |_=>simp[iw]at ab
theorem It {av:I} (h:jq C s T A x y=some (av,s1)):Loc (x.U++y.U) (x.U++y.U) (fun s=>jq C s T A x y) s av s1:=by
 rw[xM]at h
 split at h
 ·rename_i e al
  split at h
  ·rename_i af
   split at h
   ·rename_i sz xs s2 aa
    split at h
    ·rename_i cO
     split at h
     ·rename_i bA eH ab
      split at h
      ·rename_i mS
       simp only[Option.some.injEq,Prod.mk.injEq]at h
       obtain⟨rfl,rfl⟩:=h
       obtain⟨lB,rfl,a2,a3⟩:=Ir aa
       obtain⟨n0,rfl,gr,gX⟩:=(Is ab).mono (xL _ _) (xL _ _)
       refine⟨lB++n0,(iO _ _ _).symm,?_,?_⟩
       ·intro m hm
        simp only[List.mem_append]at hm⊢
        rcases hm with hm|hm
        ·exact⟨.inl (a2 m hm).1,(a2 m hm).2⟩
        ·exact⟨.inr (gr m hm).1,(gr m hm).2⟩
       ·intro ao U
        have aF:=a3 ao U.left
        have aJ:=gX (cl lB ao) (U.right.cl lB)
        simp only at aF aJ
        simp only[xM,al,if_pos af,aF,if_pos cO,aJ,if_pos mS,iO]
      ·cases h
     ·cases h
    ·cases h
   ·cases h
  ·cases h
 ·cases h
theorem Iu {ao:ag} {i:I} (h:cq x.U ao s):kR C ao T x i=kR C s T x i:=by
 cases x with
 |h y q=>cases i<;>simp only[kR,h y (by simp[I.U])]
 |_=>rfl
theorem Iv {i v:I} {s2:ag} (h:jP C s T x i v=some s2):Loc x.U x.U (fun s=>(jP C s T x i v).map fun s1=>(I.hole,s1)) s .hole s2:=by
 unfold jP at h
 split at h
 ·rename_i y q k b
  split at h
  ·rename_i m ae
   split at h
   ·rename_i iL
    simp only[Option.some.injEq]at h;subst h
    refine⟨[⟨.bo,y,I.put q (.b9 (.mp (lX k b m))) (s y)⟩],pd _ _ _,?_,fun ao U=> ?_⟩
    ·intro n aQ
     simp only[List.mem_singleton]at aQ;subst aQ
     exact⟨by simp[I.U],qh q _ _ _ ae (.inl rfl) fun _=>rfl⟩
    ·have aF:ao y=s y:=U y (by simp[I.U])
     simp only[jP,aF,ae,iL,if_true,Option.map_some]
     rw[←pd]
   ·cases h
  ·cases h
 ·cases h
theorem BK {a7:dS} {av:I} (h:aZ C s a7=some (av,s1)):Loc (use s a7) (cd s a7) (fun s=>aZ C s a7) s av s1:=by
 cases a7 with
 |shr a7=>simp[aZ]at h
 |jQ f args u x=>simp[aZ]at h
 |jR f args L=>simp[aZ]at h
 |nb x=>
  simp only[aZ]at h
  unfold l9 at h
  split at h
  ·rename_i y q ai
   obtain⟨ms,aa,ab,aB⟩:=nc h
   refine⟨ms,aa,by simpa only[cd,ai]using ab,fun ao U=> ?_⟩
   have e:=aw.dz (x:=x) U
   have aJ:=aB ao (by rw[←ai];exact cq.az U)
   simp only[aZ,e,ai,l9]
   exact aJ
  ·rename_i BL
   simp only[Option.some.injEq,Prod.mk.injEq]at h
   obtain⟨rfl,rfl⟩:=h
   refine .pure fun ao U=> ?_
   have e:=aw.dz (x:=x) U
   simp only[aZ,e,l9]
 |n2 x=>
  simp only[aZ,Option.some.injEq,Prod.mk.injEq]at h
  obtain⟨rfl,rfl⟩:=h
  exact .pure fun ao U=>by simp only[aZ,aw.dz (x:=x) U]
 |il T x=>
  obtain⟨ms,aa,ab,aB⟩:=Io h
  refine⟨ms,aa,ab,fun ao U=> ?_⟩
  simp only[aZ,aw.dz (x:=x) U]
  exact aB ao (cq.az U)
 |kS T a6 x y=>
  simp only[aZ,Option.map_eq_some_iff,Prod.mk.injEq]at h
  obtain⟨d,ae,rfl,rfl⟩:=h
  exact .pure fun ao U=>by
   simp only[use]at U
   simp only[aZ,aw.dz (x:=x) U.left,aw.dz (x:=y) U.right,ae,Option.map_some]
 |bad=>simp[aZ]at h
 |fQ da x y=>
  simp only[aZ,Option.map_eq_some_iff,Prod.mk.injEq]at h
  obtain⟨d,ae,rfl,rfl⟩:=h
  exact .pure fun ao U=>by
   simp only[use]at U
   simp only[aZ,aw.dz (x:=x) U.left,aw.dz (x:=y) U.right,ae,Option.map_some]
 |cap T x=>
  simp only[aZ]at h
  split at h
  ·rename_i e al ai
   simp only[Option.some.injEq,Prod.mk.injEq]at h
   obtain⟨rfl,rfl⟩:=h
   exact .pure fun ao U=>by simp only[aZ,aw.dz (x:=x) U,al,ai]
  ·cases h
 |cg x=>
  simp only[aZ,Option.some.injEq,Prod.mk.injEq]at h
  obtain⟨rfl,rfl⟩:=h
  exact .pure fun ao U=>by simp only[aZ,aw.dz (x:=x) U]
 |df x=>
  simp only[aZ]at h
  split at h
  ·rename_i y q ai
   obtain⟨ms,aa,ab,aB⟩:=nc h
   refine⟨ms,aa,by simpa only[cd,ai]using ab,fun ao U=> ?_⟩
   have e:=aw.dz (x:=x) U
   have aJ:=aB ao (by rw[←ai];exact cq.az U)
   simp only[aZ,e,ai]
   exact aJ
  ·rename_i BL
   simp only[Option.some.injEq,Prod.mk.injEq]at h
   obtain⟨rfl,rfl⟩:=h
   refine .pure fun ao U=> ?_
   have e:=aw.dz (x:=x) U
   simp only[aZ,e]
 |pick c a b=>
  simp only[aZ]at h
  split at h
  ·rename_i dK J
   simp only[Option.some.injEq,Prod.mk.injEq]at h
   obtain⟨rfl,rfl⟩:=h
   refine .pure fun ao U=> ?_
   simp only[use]at U
   simp only[aZ,aw.dz (x:=c) U.left,aw.dz (x:=a) U.right.left,aw.dz (x:=b) U.right.right,J]
  ·cases h
 |e1 T=>
  simp only[aZ,Option.map_eq_some_iff,Prod.mk.injEq]at h
  obtain⟨d,ae,rfl,rfl⟩:=h
  exact .pure fun ao U=>by simp only[aZ,ae,Option.map_some]
 |dB T x=>
  obtain⟨ms,aa,ab,aB⟩:=Im h
  refine⟨ms,aa,ab,fun ao U=> ?_⟩
  simp only[aZ,aw.dz (x:=x) U]
  exact aB ao (cq.az U)
 |dP T ps=>
  obtain⟨ms,aa,ab,aB⟩:=Ik h
  simp only[List.map_map,Function.comp_def]at ab aB
  refine⟨ms,aa,ab,fun ao U=> ?_⟩
  simp only[aZ,aw.xI (ps:=ps) U]
  refine aB ao (U.sub fun u hu=> ?_)
  simp only[use]
  exact aw.uD u (by simpa [List.map_map,Function.comp_def]using hu)
 |cF T n ps=>
  obtain⟨ms,aa,ab,aB⟩:=Il h
  simp only[List.map_map,Function.comp_def]at ab aB
  refine⟨ms,aa,ab,fun ao U=> ?_⟩
  simp only[aZ,aw.xI (ps:=ps) U]
  refine aB ao (U.sub fun u hu=> ?_)
  simp only[use]
  exact aw.uD u (by simpa [List.map_map,Function.comp_def]using hu)
 |c7 T x=>
  simp only[aZ,Option.map_eq_some_iff,Prod.mk.injEq]at h
  obtain⟨d,ae,rfl,rfl⟩:=h
  exact .pure fun ao U=>by simp only[aZ,aw.dz (x:=x) U,H8 (cq.az U),ae,Option.map_some]
 |et T x y=>
  simp only[aZ,Option.map_eq_some_iff,Prod.mk.injEq]at h
  obtain⟨s2,ae,rfl,rfl⟩:=h
  obtain⟨ms,aa,ab,aB⟩:=Ip ae
  refine⟨ms,aa,ab,fun ao U=> ?_⟩
  simp only[use]at U
  simp only[aZ,aw.dz (x:=x) U.left,aw.dz (x:=y) U.right]
  exact aB ao (U.sub fun u hu=>by simp only[List.mem_append]at hu⊢;exact hu.imp (aw.pe u) (aw.pe u))
 |ek x=>
  simp only[aZ,Option.map_eq_some_iff,Prod.mk.injEq]at h
  obtain⟨d,ae,rfl,rfl⟩:=h
  exact .pure fun ao U=>by simp only[aZ,aw.dz (x:=x) U,Ih (cq.az U),ae,Option.map_some]
 |bC op T x y=>
  simp only[aZ,Option.map_eq_some_iff,Prod.mk.injEq]at h
  obtain⟨d,ae,rfl,rfl⟩:=h
  refine .pure fun ao U=> ?_
  simp only[use]at U
  simp only[aZ,aw.dz (x:=x) U.left,aw.dz (x:=y) U.right,Ig (cq.az U.left),ae,Option.map_some]
 |un op x=>
  simp only[aZ,Option.map_eq_some_iff,Prod.mk.injEq]at h
  obtain⟨d,ae,rfl,rfl⟩:=h
  exact .pure fun ao U=>by simp only[aZ,aw.dz (x:=x) U,ae,Option.map_some]
 |dR A B x=>
  simp only[aZ,Option.map_eq_some_iff,Prod.mk.injEq]at h
  obtain⟨d,ae,rfl,rfl⟩:=h
  exact .pure fun ao U=>by simp only[aZ,aw.dz (x:=x) U,Ib (cq.az U),ae,Option.map_some]
 |hE f cs=>
  simp only[aZ,Option.some.injEq,Prod.mk.injEq]at h
  obtain⟨rfl,rfl⟩:=h
  exact .pure fun ao U=>by simp only[aZ,aw.xH (xs:=cs) U]
 |en T l c=>
  simp only[aZ,Option.map_eq_some_iff,Prod.mk.injEq]at h
  obtain⟨d,ae,rfl,rfl⟩:=h
  refine .pure fun ao U=> ?_
  simp only[use]at U
  simp only[aZ,aw.dz (x:=l) U.left,aw.dz (x:=c) U.right,ae,Option.map_some]
 |cD T x b5 ay=>
  simp only[aZ]at h
  obtain⟨ms,aa,ab,aB⟩:=Iq h
  refine⟨ms,aa,ab,fun ao U=> ?_⟩
  simp only[use]at U
  simp only[aZ,aw.dz (x:=x) U.left,BD U.right.left,BD U.right.right]
  exact aB ao (cq.az U.left)
 |dX T x k=>
  simp only[aZ,Option.map_eq_some_iff,Prod.mk.injEq]at h
  obtain⟨d,ae,rfl,rfl⟩:=h
  exact .pure fun ao U=>by simp only[aZ,aw.dz (x:=x) U,H9 (cq.az U),ae,Option.map_some]
 |ej T x i=>
  simp only[aZ,Option.map_eq_some_iff,Prod.mk.injEq]at h
  obtain⟨d,ae,rfl,rfl⟩:=h
  refine .pure fun ao U=> ?_
  simp only[use]at U
  simp only[aZ,aw.dz (x:=x) U.left,aw.dz (x:=i) U.right,H_ (cq.az U.left),ae,Option.map_some]
 |idx T x i=>
  simp only[aZ,Option.map_eq_some_iff,Prod.mk.injEq]at h
  obtain⟨d,ae,rfl,rfl⟩:=h
  refine .pure fun ao U=> ?_
  simp only[use]at U
  simp only[aZ,aw.dz (x:=x) U.left,aw.dz (x:=i) U.right,ae,Option.map_some]
 |ex x k=>
  simp only[aZ,Option.map_eq_some_iff,Prod.mk.injEq]at h
  obtain⟨d,ae,rfl,rfl⟩:=h
  exact .pure fun ao U=>by simp only[aZ,aw.dz (x:=x) U,Ij (cq.az U),ae,Option.map_some]
 |sl=>
  simp only[aZ,Option.some.injEq,Prod.mk.injEq]at h
  obtain⟨rfl,rfl⟩:=h
  exact .pure fun ao U=>rfl
 |kR T x i=>
  simp only[aZ,Option.map_eq_some_iff,Prod.mk.injEq]at h
  obtain⟨d,ae,rfl,rfl⟩:=h
  refine .pure fun ao U=> ?_
  simp only[use]at U
  simp only[aZ,aw.dz (x:=x) U.left,aw.dz (x:=i) U.right,Iu (cq.az U.left),ae,Option.map_some]
 |jP T x i v=>
  simp only[aZ,Option.map_eq_some_iff,Prod.mk.injEq]at h
  obtain⟨s2,ae,rfl,rfl⟩:=h
  obtain⟨ms,aa,ab,aB⟩:=Iv ae
  refine⟨ms,aa,ab,fun ao U=> ?_⟩
  simp only[use]at U
  simp only[aZ,aw.dz (x:=x) U.left,aw.dz (x:=i) U.right.left,aw.dz (x:=v) U.right.right]
  exact aB ao (cq.az U.left)
 |jl T x k=>
  simp only[aZ,Option.bind_eq_some_iff]at h
  obtain⟨d,ae,h⟩:=h
  unfold l9 at h
  split at h
  ·rename_i y q
   have ai:=Ii ae
   obtain⟨ms,aa,ab,aB⟩:=nc h
   refine⟨ms,aa,by simpa only[cd,ai,I.U]using ab,fun ao U=> ?_⟩
   have aJ:=aB ao (by rw[show(I.h y q).U=(az s x).U from ai.symm];exact cq.az U)
   simp only[aZ,aw.dz (x:=x) U,BE (cq.az U),ae,Option.bind_some,l9]
   exact aJ
  ·rename_i BL
   simp only[Option.some.injEq,Prod.mk.injEq]at h
   obtain⟨rfl,rfl⟩:=h
   refine .pure fun ao U=> ?_
   simp only[aZ,aw.dz (x:=x) U,BE (cq.az U),ae,Option.bind_some,l9]
 |call f args=>simp[aZ]at h
 |len T x=>
  simp only[aZ,Option.map_eq_some_iff,Prod.mk.injEq]at h
  obtain⟨d,ae,rfl,rfl⟩:=h
  exact .pure fun ao U=>by simp only[aZ,aw.dz (x:=x) U,Ia (cq.az U),ae,Option.map_some]
 |app T a6 x y=>
  obtain⟨ms,aa,ab,aB⟩:=It h
  refine⟨ms,aa,ab,fun ao U=> ?_⟩
  simp only[use]at U
  simp only[aZ,aw.dz (x:=x) U.left,aw.dz (x:=y) U.right]
  exact aB ao (U.sub fun u hu=>by simp only[List.mem_append]at hu⊢;exact hu.imp (aw.pe u) (aw.pe u))
end
def I.one:I→Bool
 | .agg _=>false
 | .tuple _=>false
 |_=>true
mutual
def view (s:ag):I→Option I
 | .h x q=>match I.sub q (s x)with
   |some d=>(match d with| .tuple _=>none| .b9 _=>none|d=>if d.plain then none else some d.share)
   |none=>none
 | .ah x q=>if I.dD q (s x)then(match I.sub q (s x)with
   |some d=>(match d with| .tuple _=>none|d=>some (.ref d.share))
   |none=>none)else none
 | .J _ _=>none
 | .fn f cap=>(views s cap).map (.fn f)
 | .hole=>none
 |d=>some d
def views (s:ag):List I→Option (List I)
 |[]=>some []
 |d::ds=>match view s d,views s ds with
  |some a,some b=>some (a::b)
  |_,_=>none
end
mutual
theorem xN:∀d:I,d.share.plain=true
 | .hole=>rfl
 | .bool _=>rfl
 | .di=>rfl
 | .int _ _=>rfl
 | .str _=>rfl
 | .cw=>rfl
 | .bu=>rfl
 | .slice _=>rfl
 | .aG _ _=>rfl
 | .ref _=>rfl
 | .bG _=>rfl
 | .agg aj=>by simp only[I.share,I.plain];exact xO aj
 | .tuple aj=>by simp only[I.share,I.plain];exact xO aj
 | .fn _ _=>rfl
 | .h _ _=>rfl
 | .ah _ _=>rfl
 | .J _ _=>rfl
 | .b9 _=>rfl
theorem xO:∀ds:List I,I.dV (I.shares ds)=true
 |[]=>rfl
 |d::ds=>by simp only[I.shares,I.dV];rw[xN d,xO ds];rfl
end
theorem Iw {s:ag} {a d:I} (h:a.plain=true) (he:view s a=some d):d.plain=true:=by
 cases a with
 |h x q=>
  simp only[view]at he
  split at he
  ·rename_i e du
   cases e<;>simp only at he<;>first
    |(cases he;done)
    |(split at he
      ·cases he
      ·simp only[Option.some.injEq]at he
       subst he;exact xN _)
  ·cases he
 |ah x q=>
  simp only[view]at he
  split at he
  ·split at he
   ·rename_i e du
    cases e<;>simp only at he<;>first
     |(cases he;done)
     |(simp only[Option.some.injEq]at he;subst he;rfl)
   ·cases he
  ·cases he
 |fn f cap=>
  simp only[view,Option.map_eq_some_iff]at he
  obtain⟨ds,_,rfl⟩:=he
  rfl
 |hole=>simp[view]at he
 |J y q=>simp[view]at he
 |_=>simp only[view,Option.some.injEq]at he;subst he;exact h
theorem xP {d:I} {v:Value} (aa:∀vs,d≠.tuple vs) (h:cA d v):cA d.share v:=by
 cases d<;>first|exact h|exact(aa _ rfl).elim
theorem Ix (w:World):∀(q:List Nat) (av d aX:I) (cs bK:List Value) (a bU:Option (Nat×Nat)),I.sub q av=some d→aX.wd=d.wd→b_ w q av cs a=some (d,bK,bU)→
  b_ w q (I.put q aX av) cs a=some (aX,bK,bU):=by
 intro q
 induction q with
 |nil=>
  intro av d aX cs bK a bU ae hw h
  simp only[b_,Option.some.injEq,Prod.mk.injEq]at h
  obtain⟨rfl,rfl,rfl⟩:=h
  simp only[I.put,b_]
 |cons k q ih=>
  intro av d aX cs bK a bU ae hw h
  cases av with
  |agg aj=>
   simp only[I.sub]at ae
   split at ae
   ·rename_i x ai
    have al:k<aj.length:=(List.getElem?_eq_some_iff.1 ai).1
    simp only[b_,ai]at h
    simp only[I.put,ai,b_]
    rw[List.getElem?_set_self al]
    simp only[List.take_set_of_le (Nat.le_refl k),I.p3 q x d aX ae hw]
    exact ih _ _ _ _ _ _ _ ae hw h
   ·cases ae
  |tuple aj=>
   simp only[I.sub]at ae
   split at ae
   ·rename_i x ai
    have al:k<aj.length:=(List.getElem?_eq_some_iff.1 ai).1
    simp only[b_,ai]at h
    simp only[I.put,ai,b_]
    rw[List.getElem?_set_self al]
    simp only[List.take_set_of_le (Nat.le_refl k),I.p3 q x d aX ae hw]
    exact ih _ _ _ _ _ _ _ ae hw h
   ·cases ae
  |aG sz aj=>
   simp only[I.sub]at ae
   split at ae
   ·rename_i x ai
    have al:k<aj.length:=(List.getElem?_eq_some_iff.1 ai).1
    have iu:(aj.set k (I.put q aX x))[k]? =some (I.put q aX x):=List.getElem?_set_self al
    simp only[I.put,ai]
    rw[b_.eq_def]at h⊢
    simp only[ai]at h
    simp only
    rw[iu]
    split at h
    ·rename_i aF
     simp only[Option.some.injEq]at aF;subst aF
     exact ih _ _ _ _ _ _ _ ae hw h
    ·cases h
   ·cases ae
  |bG x=>
   cases k with
   |zero=>
    simp only[I.sub]at ae
    rw[b_.eq_def]at h⊢
    simp only at h
    simp only[I.put]
    split at h
    ·rw[I.p3 q x d aX ae hw]
     exact ih _ _ _ _ _ _ _ ae hw h
    ·cases h
   |succ k=>simp[I.sub]at ae
  |_=>simp[I.sub]at ae
section
variable {w0 w ar:World} {F0 X F Fc:Nat→Prop} {S:Nat→Nat→Prop} {s ao:ag} {an hk:Nat→Value}
theorem Iy (h:a1 w0 F0 X F S s an w) (aW:∀b,F b→Fc b):∀n,
  (∀(a:I) (v:Value) (d:I),SizeOf.sizeOf a≤n→(∀t∈a.U,∀b,S t b→Fc b)→view s a=some d→au w F s an a v (fun _=>False)→au w Fc ao hk d v (fun _=>False))∧
  (∀(as:List I) (vs:List Value) (ds:List I),SizeOf.sizeOf as≤n→(∀t∈I.cT as,∀b,S t b→Fc b)→views s as=some ds→cG w F s an as vs→cG w Fc ao hk ds vs):=by
 intro n
 induction n with
 |zero=>exact⟨fun a _ _ bd=>by cases a<;>simp at bd<;>omega,fun as _ _ bd=>by cases as<;>simp at bd<;>omega⟩
 |succ n ih=>
  refine⟨fun a v d bd a_ he aD=> ?_,fun as vs ds bd a_ he aD=> ?_⟩
  ·cases a with
   |h x q=>
    simp only[view]at he
    split at he
    ·rename_i e du
     have key:(∀aj,e≠.tuple aj)∧e.plain=false∧d=e.share∧∀o,e≠.b9 o:=by
      cases e<;>simp only at he<;>first
       |(cases he;done)
       |(split at he
         ·cases he
         ·rename_i e0
          simp only[Option.some.injEq]at he
          exact⟨(fun _ h=>by cases h),by simpa using e0,he.symm,fun _ h=>by cases h⟩)
     obtain⟨jT,e0,rfl,hO⟩:=key
     rw[au]at aD
     obtain⟨bK,bU,g1,g2,g3⟩:=aD e du e0
     have aK:=fg du (.inl e0)
     have ai:=(au.bB aK).1 (h.b2 x)
     obtain⟨dO,a2,cK,dx,k0,bg,bw,cM,cc,c8⟩:=ctx q (s x) (bs (an x)) (S x) none e ai.2 du
     rw[g1]at k0
     simp only[Option.some.injEq,Prod.mk.injEq,true_and]at k0
     obtain⟨rfl,rfl⟩:=k0
     have w6:e.share.tree=true:=by cases e<;>first|rfl|(simp[I.plain]at e0;done)|exact(hO _ rfl).elim
     have aC:=ak.shared aW e bK dx (fun b J=>a_ x (by simp[I.U]) b (bw b J)) cc
     exact(au.bB w6).2 ⟨xP jT g3,by rw[g2];exact aC⟩
    ·cases he
   |ah x q=>
    simp only[view]at he
    split at he
    ·rename_i lu
     split at he
     ·rename_i e du
      have key:(∀aj,e≠.tuple aj)∧d= .ref e.share:=by
       cases e<;>simp only at he<;>first
        |(cases he;done)
        |(simp only[Option.some.injEq]at he;exact⟨(fun _ h=>by cases h),he.symm⟩)
      obtain⟨jT,rfl⟩:=key
      rw[au]at aD
      obtain⟨bK,b,o,g1,rfl⟩:=aD e du lu
      have aK:=fg du (.inr lu)
      have ai:=(au.bB aK).1 (h.b2 x)
      obtain⟨dO,a2,cK,dx,k0,bg,bw,cM,cc,c8⟩:=ctx q (s x) (bs (an x)) (S x) none e ai.2 du
      rw[g1]at k0
      simp only[Option.some.injEq,Prod.mk.injEq,true_and]at k0
      obtain⟨rfl,rfl⟩:=k0
      have aC:=ak.shared aW e bK dx (fun b J=>a_ x (by simp[I.U]) b (bw b J)) cc
      rcases c8 with⟨l,r,_,aJ,_⟩|⟨dK,cur,ty,fr,l,r,aF,aJ,aN,bt,bN,_⟩
      ·simp at aJ
      ·simp only[Option.some.injEq,Prod.mk.injEq]at aF
       obtain⟨rfl,rfl⟩:=aF
       refine(au.bB rfl).2 ⟨rfl,?_⟩
       rw[ak]
       refine⟨b,l.length,bK,rfl,a_ x (by simp[I.U]) b (bg b aJ),?_,aC⟩
       intro j c bE
       simp only[World.cell?,aN]
       have af:cur[l.length+j]? =some c:=by
        rw[←Array.getElem?_toList,bN,List.getElem?_append_right (by omega),List.getElem?_append_left (by
         have:=(List.getElem?_eq_some_iff.1 bE).1;omega)]
        rw[←bE];congr 1;omega
       simpa using af
     ·cases he
    ·cases he
   |fn f cap=>
    simp only[view,Option.map_eq_some_iff]at he
    obtain⟨ds,gZ,rfl⟩:=he
    rw[au]at aD
    obtain⟨arr,rfl,af⟩:=aD
    rw[au]
    exact⟨arr,rfl,ih.2 cap _ _ (by simp at bd;omega) (by simpa [I.U]using a_) gZ af⟩
   |hole=>simp[view]at he
   |J y q=>simp[view]at he
   |_=>
    simp only[view,Option.some.injEq]at he;subst he
    have ij:=(au.bB rfl).1 aD
    exact(au.bB rfl).2 ⟨ij.1,ak.mono aW _ _ _ _ (fun _ h=>h) ij.2⟩
  ·cases as with
   |nil=>
    simp only[views,Option.some.injEq]at he;subst he
    rw[cG]at aD⊢;exact aD
   |cons a as=>
    simp only[views]at he
    split at he
    ·rename_i d ds aa ab
     simp only[Option.some.injEq]at he;subst he
     rw[cG]at aD⊢
     obtain⟨v,gI,rfl,g1,g2⟩:=aD
     simp at bd
     simp only[I.cT,List.mem_append]at a_
     exact⟨v,gI,rfl,ih.1 a v d (by omega) (fun t aK=>a_ t (.inl aK)) aa g1,ih.2 as gI ds (by omega) (fun t aK=>a_ t (.inr aK)) ab g2⟩
    ·cases he
theorem a1.fR (h:a1 w0 F0 X F S s an w) {x:Nat} {q:List Nat} {d0 aX:I} {bK:List Value} {a:Option (Nat×Nat)} {Sn:Nat→Prop}
  (ae:I.sub q (s x)=some d0) (bc:b_ w q (s x) (bs (an x)) none=some (d0,bK,a)) (ab:∀vs,aX≠.tuple vs) (aK:q=[]→aX.tree=true∧cA aX (an x))
  (aB:∀k p,q=k::p→(s x).tree=true∧(∀v,fB d0 v→fB aX v)) (hw:aX.wd=d0.wd)
  (aD:ak w F aX bK Sn) (cJ:∀b,Sn b→b<w.heap.size) (aW:∀b,Sn b→¬F b) (a_:∀u b,Sn b→¬S u b) (bl:∀b,Sn b→X b∨w0.heap.size≤b):
  a1 w0 F0 X F (ei S x (fun b=>S x b∨Sn b)) (cf (iK x s) x (I.put q aX (s x))) an w:=by
 have cL:cf an x (an x)=an:=by funext u;simp only[cf];split<;>simp_all
 have main:(I.put q aX (s x)).tree=true∧cA (I.put q aX (s x)) (an x)∧ak w F (I.put q aX (s x)) (bs (an x)) (fun b=>S x b∨Sn b):=by
  cases q with
  |nil=>
   simp only[b_,Option.some.injEq,Prod.mk.injEq]at bc
   obtain⟨aF,aJ,aN⟩:=bc
   obtain⟨g1,g2⟩:=aK rfl
   simp only[I.put]
   refine⟨g1,?_,?_⟩
   ·exact g2
   ·rw[aJ];exact ak.mono (fun _ h=>h) _ _ _ _ (fun b J=>.inr J) aD
  |cons k p=>
   obtain⟨g1,g2⟩:=aB k p rfl
   have ai:=(au.bB g1).1 (h.b2 x)
   obtain⟨dO,a2,cK,dx,k0,bg,bw,cM,cc,c8⟩:=ctx (k::p) (s x) (bs (an x)) (S x) none d0 ai.2 ae
   rw[bc]at k0
   simp only[Option.some.injEq,Prod.mk.injEq,true_and]at k0
   obtain⟨rfl,rfl⟩:=k0
   refine⟨?_,?_,?_⟩
   ·rcases nQ k p aX (s x)with⟨aj,gs,aF,e⟩|⟨aj,gs,aF,e⟩|⟨sz,xs,bA,aF,e⟩|⟨y,z,aF,e⟩|e<;>rw[e]<;>first|rfl|exact g1
   ·refine rS ai.1 ae g2 (fun _ vs e=>(ab vs e).elim) hw
   ·have mono:∀b,(cK b∨Sn b)→(S x b∨Sn b):=fun b J=>J.imp (bg b) id
    rcases c8 with⟨l,r,aF,aJ,aN⟩|⟨b,cur,ty,fr,l,r,aF,aJ,aN,bt,bN,bh⟩
    ·rw[aF]
     exact ak.mono (fun _ h=>h) _ _ _ _ mono (aN w aX bK Sn (fun _ _=>rfl) (fun _ _=>rfl) hw aD (fun b J af=>a_ x b J (bg b af)))
    ·refine ak.mono (fun _ h=>h) _ _ _ _ mono (bh w aX bK Sn (fun _ _=>rfl) (fun _ _ _=>rfl) ?_ hw aD (fun b J af=>a_ x b J (bg b af)))
     rw[aN,←bN]
 have:=h.Am (t:=x) main.1 main.2.1 main.2.2 (by rintro b (J|J);exact h.cV x b J;exact cJ b J) (by rintro b (J|J);exact h.dy x b J;exact aW b J)
  (by rintro u b cj (J|J);exact fun hu=>h.dm u x b cj hu J;exact a_ u b J) (by rintro b (J|J);exact h.cp x b J;exact bl b J)
 rwa [cL]at this
end
mutual
def I.c_:I→Bool
 | .slice _=>false
 | .ref _=>false
 | .fn _ _=>false
 | .h _ _=>false
 | .ah _ _=>false
 | .J _ _=>false
 | .aG _ xs=>I.kn xs
 | .bG d=>d.c_
 | .agg aj=>I.kn aj
 | .tuple aj=>I.kn aj
 |_=>true
def I.kn:List I→Bool
 |[]=>true
 |d::ds=>d.c_&&I.kn ds
end
mutual
theorem ak.c_ {w:World} {F a8:Nat→Prop}:∀(d:I) (cs:List Value) (S:Nat→Prop),d.c_=true→ak w F d cs S→ak w a8 d cs S
 | .hole,_,_,_,h=>h
 | .bool _,_,_,_,h=>h
 | .di,_,_,_,h=>h
 | .int _ _,_,_,_,h=>h
 | .str _,_,_,_,h=>h
 | .cw,_,_,_,h=>h
 | .bu,_,_,_,h=>h
 | .slice xs,cs,S,aQ,h=>by simp[I.c_]at aQ
 | .ref d,cs,S,aQ,h=>by simp[I.c_]at aQ
 | .aG sz xs,cs,S,aQ,h=>by
   rw[ak]at h⊢
   rcases h with h|⟨b,cap,cur,e,fr,aE,aa,ab,aB,aP,bb,bQ,bT,dt,eF,eZ,iJ⟩
   ·exact .inl h
   ·exact .inr ⟨b,cap,cur,e,fr,aE,aa,ab,aB,aP,bb,bQ,bT,dt,aL.c_ xs _ _ aQ eF,eZ,iJ⟩
 | .bG d,cs,S,aQ,h=>by
   rw[ak]at h⊢
   obtain⟨b,cur,e,fr,aE,aa,ab,aB,aP,bb,bQ,bT⟩:=h
   exact⟨b,cur,e,fr,aE,aa,ab,aB,aP,ak.c_ d _ _ aQ bb,bQ,bT⟩
 | .agg aj,cs,S,aQ,h=>by rw[ak]at h⊢;exact aL.c_ aj _ _ aQ h
 | .tuple aj,cs,S,aQ,h=>by rw[ak]at h⊢;exact aL.c_ aj _ _ aQ h
 | .fn _ _,_,_,aQ,h=>by simp[I.c_]at aQ
 | .h _ _,_,_,_,h=>h
 | .ah _ _,_,_,_,h=>h
 | .J _ _,_,_,_,h=>h
 | .b9 _,_,_,_,h=>h
theorem aL.c_ {w:World} {F a8:Nat→Prop}:∀(ds:List I) (cs:List Value) (S:Nat→Prop),I.kn ds=true→aL w F ds cs S→aL w a8 ds cs S
 |[],_,_,_,h=>h
 |d::ds,cs,S,aQ,h=>by
  simp only[I.kn,Bool.and_eq_true]at aQ
  rw[aL]at h⊢
  obtain⟨bD,c2,bk,cx,aa,ab,aB,aP,bb,bQ⟩:=h
  exact⟨bD,c2,bk,cx,aa,ak.c_ d _ _ aQ.1 ab,aL.c_ ds _ _ aQ.2 aB,aP,bb,bQ⟩
end
theorem BM:∀(q:List Nat) (av d e:I),I.sub q av=some d→I.sub q (I.put q e av)=some e:=by
 intro q
 induction q with
 |nil=>intro av d e _;simp[I.put,I.sub]
 |cons k q ih=>
  intro av d e h
  cases av with
  |agg aj=>
   simp only[I.sub]at h
   split at h
   ·rename_i x ai
    have al:k<aj.length:=(List.getElem?_eq_some_iff.1 ai).1
    simp only[I.put,ai,I.sub,List.getElem?_set_self al]
    exact ih _ _ _ h
   ·cases h
  |tuple aj=>
   simp only[I.sub]at h
   split at h
   ·rename_i x ai
    have al:k<aj.length:=(List.getElem?_eq_some_iff.1 ai).1
    simp only[I.put,ai,I.sub,List.getElem?_set_self al]
    exact ih _ _ _ h
   ·cases h
  |aG sz aj=>
   simp only[I.sub]at h
   split at h
   ·rename_i x ai
    have al:k<aj.length:=(List.getElem?_eq_some_iff.1 ai).1
    simp only[I.put,ai,I.sub,List.getElem?_set_self al]
    exact ih _ _ _ h
   ·cases h
  |bG x=>
   cases k with
   |zero=>simp only[I.sub]at h;simp only[I.put,I.sub];exact ih _ _ _ h
   |succ k=>simp[I.sub]at h
  |_=>simp[I.sub]at h
structure bO where
 a:I
 g:Bool
 d:I
 o:I
def I.own:I→Bool
 | .aG _ _=>true
 | .bG _=>true
 |_=>false
def I.eI:I→Bool
 | .aG _ _=>true
 | .bG _=>true
 | .b9 _=>true
 | .agg aj=> !I.dV aj
 |_=>false
def n4 (d o:I):Bool:=match d,o with
 | .agg a,.agg b=>I.cI a==I.cI b
 | .agg _,_=>false
 |_,.agg _=>false
 |_,_=>true
theorem n5 {d:I} (h:d.eI=true):d.plain=false∧d.tree=true∧∀vs,d≠.tuple vs:=by
 cases d<;>simp[I.eI]at h<;>first|exact⟨rfl,rfl,fun vs e=>by cases e⟩|exact⟨by simp only[I.plain];exact h,rfl,fun vs e=>by cases e⟩
theorem Iz {d o:I} (h:d.eI=true) (bH:o.eI=true) (aI:n4 d o=true):o.wd=d.wd∧(∀v,cA d v→cA o v)∧∀v,fB d.b0 v→fB o v:=by
 cases d<;>simp[I.eI]at h<;>cases o<;>simp[I.eI]at bH<;>simp[n4]at aI<;>first
  |exact⟨rfl,fun _ h=>h,fun _ h=>h⟩
  |exact⟨by simp only[I.wd];exact aI.symm,fun _ h=>h,fun _ h=>h⟩
def bO.ok (s:ag) (p:bO):Prop:=
 if p.g then(match p.a with| .h x q=>I.sub q (s x)=some p.d∧p.d.eI=true∧(p.o= .hole∨(p.o.eI=true∧n4 p.d p.o=true))|_=>False)
 else view s p.a=some p.d
def fZ:List bO→Bool
 |[]=>true
 |p::r=>(r.all fun bJ=> !(p.g||bJ.g)||(p.a.U.all fun u=> !bJ.a.U.contains u))&&fZ r
def bO.take (s:ag) (p:bO):ag:=
 if p.g then(match p.a with| .h x q=>cf (fq x s) x (I.put q p.d.b0 (s x))|_=>s)else s
def bO.fR (s:ag) (p:bO):ag:=
 if p.g then(match p.a,p.o with|_,.hole=>s| .h x q,o=>cf (iK x s) x (I.put q o (s x))|_,_=>s)else s
def dE (s:ag) (ps:List bO):ag:=ps.foldl bO.take s
def fS (s:ag) (ps:List bO):ag:=ps.foldl bO.fR s
section
variable {w0 w ar:World} {F0 X F Fc:Nat→Prop} {S:Nat→Nat→Prop} {s ao:ag} {an hk:Nat→Value}
def IA (w:World) (F:Nat→Prop) (s1:ag) (an:Nat→Value) (p:bO) (v:Value) (Sn:Nat→Prop):Prop:=
 ∃x q a0,p.a= .h x q∧I.sub q (s1 x)=some p.d.b0∧b_ w q (s1 x) (bs (an x)) none=some (p.d.b0,bs v,a0)∧(s1 x).U=[]∧(q=[]→cA p.d (an x))∧(q≠[]→(s1 x).tree=true)∧
  cA p.d v∧ak w F p.d (bs v) Sn
theorem IB {p:bO} {x:Nat} (h:(s x).U=[]) (ah:p.g=true→x∉p.a.U):bO.take s p x=s x:=by
 unfold bO.take
 split
 ·rename_i hg
  cases br:p.a with
  |h y q=>
   have:x≠y:=by
    have:=ah hg
    rw[br]at this
    simpa [I.U]using this
   simp only
   rw[gJ _ _ this]
   exact so _ (by rw[h];simp)
  |_=>rfl
 ·rfl
theorem xQ:∀{ps:List bO} {s:ag} {x:Nat},(s x).U=[]→(∀p∈ps,p.g=true→x∉p.a.U)→dE s ps x=s x:=by
 intro ps
 induction ps with
 |nil=>intros;rfl
 |cons p ps ih=>
  intro s x h ah
  have e:=IB (s:=s) (p:=p) h (ah p (by simp))
  show dE (bO.take s p) ps x=s x
  rw[ih (by rw[e];exact h) (fun bJ cY=>ah bJ (by simp[cY])),e]
theorem nd {d:I} (h:d.own=true):d.plain=false∧d.tree=true∧d.b0= .hole∧d.one=true∧d.wd=1∧(∀v,cA d v↔Value.ep v=true):=by
 cases d<;>simp[I.own]at h<;>exact⟨rfl,rfl,rfl,rfl,rfl,fun v=>Iff.rfl⟩
theorem IC:∀(ps:List bO) (vs:List Value) (s:ag) (S:Nat→Nat→Prop),a1 w0 F0 X F S s an w→ps.length=vs.length→
  (∀(i:Nat) (p:bO) (v:Value),ps[i]? =some p→vs[i]? =some v→p.a.plain=true∧au w F s an p.a v (fun _=>False)∧(p.g=true→p.ok s))→fZ ps=true→
  ∃(Sn bk:Nat→Nat→Prop),a1 w0 F0 X F bk (dE s ps) an w∧(∀u b,bk u b→S u b)∧
   (∀(i:Nat) (p:bO) (v:Value),ps[i]? =some p→vs[i]? =some v→p.g=true→IA w F (dE s ps) an p v (Sn i))∧
   (∀i b,Sn i b→∃p,ps[i]? =some p∧p.g=true)∧
   (∀i b,Sn i b→∃u,S u b)∧(∀i u b,Sn i b→¬bk u b)∧(∀i j b,i≠j→Sn i b→¬Sn j b)∧
   (∀(aX:I) (ct:Value) (aE:Nat→Prop),(∀p∈ps,p.g=true→∀u∈p.a.U,u∉aX.U)→au w F s an aX ct aE→au w F (dE s ps) an aX ct aE):=by
 intro ps
 induction ps with
 |nil=>
  intro vs s S h aI _ _
  exact⟨fun _ _=>False,S,h,fun _ _ h=>h,fun i p v ah=>by simp at ah,fun _ _ h=>h.elim,fun _ _ h=>h.elim,fun _ _ _ h=>h.elim,fun _ _ _ _ h=>h.elim,fun _ _ _ _ h=>h⟩
 |cons p ps ih=>
  intro vs s S h aI sg hT
  cases vs with
  |nil=>simp at aI
  |cons v vs=>
   simp only[List.length_cons,Nat.add_right_cancel_iff]at aI
   simp only[fZ,Bool.and_eq_true,List.all_eq_true,Bool.or_eq_true,Bool.not_eq_true']at hT
   obtain⟨lD,kX⟩:=hT
   have qj:∀bJ∈ps,(p.g=true∨bJ.g=true)→∀u∈p.a.U,u∉bJ.a.U:=by
    intro bJ cY hg u hu
    rcases lD bJ cY with e|e
    ·rcases hg with hg|hg<;>simp[hg]at e
    ·simpa using e u hu
   obtain⟨f1,f2,f3⟩:=sg 0 p v rfl rfl
   cases hg:p.g with
   |false=>
    have eG:bO.take s p=s:=by simp[bO.take,hg]
    obtain⟨Sn,bk,g1,g2,g3,g4,g5,g6,g7,g8⟩:=ih vs s S h aI (fun i bJ ct ah aD=>sg (i+1) bJ ct (by simpa using ah) (by simpa using aD)) kX
    have aF:dE s (p::ps)=dE s ps:=by show dE (bO.take s p) ps=_;rw[eG]
    rw[aF]
    refine⟨fun i=>match i with|0=>fun _=>False|i+1=>Sn i,bk,g1,g2,?_,?_,?_,?_,?_,fun aX ct aE ae=>g8 aX ct aE fun bJ cY=>ae bJ (by simp[cY])⟩
    ·intro i bJ ct ah aD ev
     cases i with
     |zero=>simp at ah;subst ah;rw[hg]at ev;cases ev
     |succ i=>exact g3 i bJ ct (by simpa using ah) (by simpa using aD) ev
    ·intro i b J
     cases i with
     |zero=>exact J.elim
     |succ i=>simpa using g4 i b J
    ·intro i b J
     cases i with
     |zero=>exact J.elim
     |succ i=>exact g5 i b J
    ·intro i u b J
     cases i with
     |zero=>exact J.elim
     |succ i=>exact g6 i u b J
    ·intro i j b cj ay bE
     cases i with
     |zero=>exact ay.elim
     |succ i=>
      cases j with
      |zero=>exact bE.elim
      |succ j=>exact g7 i j b (by omega) ay bE
   |true=>
    have eE:=f3 hg
    simp only[bO.ok,hg,if_true]at eE
    split at eE
    ·rename_i x q br
     obtain⟨du,g_,oT⟩:=eE
     obtain⟨ko,lE,uF⟩:=n5 g_
     have xR:bM s p.a=some (p.d,cf (fq x s) x (I.put q p.d.b0 (s x))):=by
      rw[br];simp only[bM,du,ko];rfl
     obtain⟨bk,t1,t2,t3,ID,t4,t5,t6,t7,t8,t9,t10,t11⟩:=lq h f1 f2 xR
     have eG:bO.take s p=cf (fq x s) x (I.put q p.d.b0 (s x)):=by simp[bO.take,hg,br]
     have kY:∀bJ∈ps,x∉bJ.a.U:=fun bJ cY=>qj bJ cY (.inl hg) x (by rw[br];simp[I.U])
     have xS:bO.take s p x=I.put q p.d.b0 (s x):=by rw[eG,jL]
     have BN:(bO.take s p x).U=[]:=by
      rw[xS];exact qh q _ _ _ du (.inl ko) (fun _=>by cases ae:p.d<;>first|rfl|(rw[ae]at g_;simp[I.eI]at g_))
     obtain⟨Sn,cx,g1,g2,g3,g4,g5,g6,g7,g8⟩:=ih vs (bO.take s p) bk (by rw[eG];exact t1) aI (by
      intro i bJ ct ah aD
      obtain⟨bg,bw,cM⟩:=sg (i+1) bJ ct (by simpa using ah) (by simpa using aD)
      have hm:bJ∈ps:=List.mem_of_getElem? ah
      refine⟨bg,?_,?_⟩
      ·have:=t11 _ _ _ bw
       rw[br]at this
       rw[eG]
       simp only[I.owner,hQ]at this
       rwa [so _ (kY bJ hm)]at this
      ·intro ev
       have:=cM ev
       simp only[bO.ok,ev,if_true]at this⊢
       split at this
       ·rename_i y fN nf
        have cj:y≠x:=fun e=>kY bJ hm (by rw[nf,e];simp[I.U])
        rw[eG,gJ _ _ cj]
        have aK:=fg this.1 (.inl (n5 this.2.1).1)
        simp only[fq,wW aK]
        exact this
       ·exact this.elim) kX
     have aF:dE s (p::ps)=dE (bO.take s p) ps:=rfl
     have n6:dE (bO.take s p) ps x=I.put q p.d.b0 (s x):=by
      rw[xQ BN (fun bJ cY _=>kY bJ cY),xS]
     rw[aF]
     refine⟨fun i=>match i with|0=>ID|i+1=>Sn i,cx,g1,fun u b J=>t9 u b (g2 u b J),?_,?_,?_,?_,?_,?_⟩
     rotate_left 5
     ·intro aX ct aE ae gu
      refine g8 aX ct aE (fun bJ cY=>ae bJ (by simp[cY])) ?_
      have:=t11 _ _ _ gu
      rw[br]at this
      rw[eG]
      simp only[I.owner,hQ]at this
      rwa [so _ (ae p (by simp) hg x (by rw[br];simp[I.U]))]at this
     ·intro i bJ ct ah aD ev
      cases i with
      |zero=>
       simp at ah aD;subst ah aD
       have uG:=f2
       rw[br,au]at uG
       obtain⟨bK,a0,bD,c2,c3⟩:=uG _ du ko
       refine⟨x,q,a0,br,?_,?_,?_,?_,?_,t3,t4⟩
       ·rw[n6];exact BM q _ _ _ du
       ·rw[n6,c2];exact Ix w q _ _ _ _ _ _ _ du (I.nP _) bD
       ·rw[n6,←xS];exact BN
       ·intro b6;subst b6
        simp only[I.sub,Option.some.injEq]at du
        have:=(au.bB (by rw[du];exact lE)).1 (h.b2 x)
        rw[du]at this
        exact this.1
       ·intro b6
        have aK:=fg du (.inl ko)
        rw[n6]
        cases q with
        |nil=>exact(b6 rfl).elim
        |cons k q=>rcases nQ k q p.d.b0 (s x)with⟨aj,gs,aF,e⟩|⟨aj,gs,aF,e⟩|⟨sz,xs,bA,aF,e⟩|⟨y,z,aF,e⟩|e<;>rw[e]<;>first|rfl|exact aK
      |succ i=>exact g3 i bJ ct (by simpa using ah) (by simpa using aD) ev
     ·intro i b J
      cases i with
      |zero=>exact⟨p,rfl,hg⟩
      |succ i=>simpa using g4 i b J
     ·intro i b J
      cases i with
      |zero=>exact t10 b J
      |succ i=>obtain⟨u,hu⟩:=g5 i b J;exact⟨u,t9 u b hu⟩
     ·intro i u b J
      cases i with
      |zero=>exact fun hu=>t7 u b J (g2 u b hu)
      |succ i=>exact g6 i u b J
     ·intro i j b cj ay bE
      cases i with
      |zero=>
       cases j with
       |zero=>exact cj rfl
       |succ j=>obtain⟨u,hu⟩:=g5 j b bE;exact t7 u b ay hu
      |succ i=>
       cases j with
       |zero=>obtain⟨u,hu⟩:=g5 i b ay;exact t7 u b bE hu
       |succ j=>exact g7 i j b (by omega) ay bE
    ·exact eE.elim
end
def dL (l:List I):ag:=fun i=>l.getD i .hole
def eJ (l:List Value):Nat→Value:=fun i=>l.getD i undef
def lF (P:Program) (f:FuncId) (args:Array Value) (w:World) (jU:Value→World→Prop):Prop:=
 ((callFunc f args).run P w= .ok (.enter f args) w∧Calls P f args w (fun e ar=>∃v,e= .returned v∧jU v ar))∨
 ∃v ar,(callFunc f args).run P w= .ok (.value v) ar∧jU v ar
theorem lF.mono {P:Program} {f:FuncId} {args:Array Value} {w:World} {jU BO:Value→World→Prop} (h:lF P f args w jU) (aC:∀v ar,jU v ar→BO v ar):lF P f args w BO:=by
 rcases h with⟨aa,ab⟩|⟨v,ar,aa,ab⟩
 ·exact .inl ⟨aa,Calls.mono ab fun e ar ⟨v,e,h⟩=>⟨v,e,aC v ar h⟩⟩
 ·exact .inr ⟨v,ar,aa,aC v ar ab⟩
def bj (C:bm) (f:FuncId) (as:List I) (r:I) (outs:List I):Prop:=
 ∀(w:World) (F X:Nat→Prop) (S:Nat→Nat→Prop) (vs:List Value),vs.length=as.length→a1 w F X F S (dL as) (eJ vs) w→
  lF C.P f vs.toArray w fun v ar=>∃a8 aE,a1 w F X a8 aE (dL (r::outs)) (eJ (v::vs)) ar
def I.res:I→Bool
 | .h _ _=>false
 | .ah _ _=>false
 | .J _ _=>false
 | .fn _ _=>false
 |_=>true
theorem BP {d:I} (h:d.tree=true):d.U=[]:=by cases d<;>first|rfl|(simp[I.tree]at h)
mutual
theorem xT {s ao:ag}:∀(a:I) (d:I),(∀u∈a.U,(s u).tree=true→ao u=s u)→view s a=some d→view ao a=some d
 | .h x q,d,hu,h=>by
   have aK:(s x).tree=true:=by
    simp only[view]at h
    split at h
    ·rename_i e du
     cases e<;>simp only at h<;>first
      |(cases h;done)
      |(split at h
        ·cases h
        ·rename_i ah
         exact fg du (.inl (by simpa using ah)))
    ·cases h
   simp only[view]at h⊢
   rw[hu x (by simp[I.U]) aK];exact h
 | .ah x q,d,hu,h=>by
   have aK:(s x).tree=true:=by
    simp only[view]at h
    split at h
    ·rename_i af
     split at h
     ·rename_i e du;exact fg du (.inr af)
     ·cases h
    ·cases h
   simp only[view]at h⊢
   rw[hu x (by simp[I.U]) aK];exact h
 | .J x q,d,hu,h=>by simp[view]at h
 | .fn f cap,d,hu,h=>by
   simp only[view,Option.map_eq_some_iff]at h⊢
   obtain⟨ds,aa,ab⟩:=h
   exact⟨ds,BQ cap ds (by simpa [I.U]using hu) aa,ab⟩
 | .hole,d,hu,h=>h
 | .bool _,d,hu,h=>h
 | .di,d,hu,h=>h
 | .int _ _,d,hu,h=>h
 | .str _,d,hu,h=>h
 | .cw,d,hu,h=>h
 | .bu,d,hu,h=>h
 | .slice _,d,hu,h=>h
 | .aG _ _,d,hu,h=>h
 | .ref _,d,hu,h=>h
 | .bG _,d,hu,h=>h
 | .agg _,d,hu,h=>h
 | .tuple _,d,hu,h=>h
 | .b9 _,d,hu,h=>h
theorem BQ {s ao:ag}:∀(as:List I) (ds:List I),(∀u∈I.cT as,(s u).tree=true→ao u=s u)→views s as=some ds→views ao as=some ds
 |[],ds,hu,h=>h
 |a::as,ds,hu,h=>by
  simp only[I.cT,List.mem_append]at hu
  simp only[views]at h⊢
  split at h
  ·rename_i x y aa ab
   rw[xT a x (fun u hm=>hu u (.inl hm)) aa,BQ as y (fun u hm=>hu u (.inr hm)) ab];exact h
  ·cases h
end
section
variable {C:bm} {w0 w ar:World} {F0 X F Fc:Nat→Prop} {S:Nat→Nat→Prop} {s ao:ag} {an hk:Nat→Value}
def IE (w:World) (F:Nat→Prop) (s:ag) (an:Nat→Value) (p:bO) (v:Value) (kZ:Nat→Prop):Prop:=
 p.g=true→p.o= .hole∨∃x q a0 d0,p.a= .h x q∧I.sub q (s x)=some d0∧b_ w q (s x) (bs (an x)) none=some (d0,bs v,a0)∧(s x).U=[]∧
  (q=[]→cA p.o (an x))∧(q≠[]→(s x).tree=true)∧p.o.eI=true∧ak w F p.o (bs v) kZ∧p.o.wd=d0.wd∧∀v,fB d0 v→fB p.o v
theorem IF:∀(ps:List bO) (vs:List Value) (s:ag) (S kZ:Nat→Nat→Prop),a1 w0 F0 X F S s an w→ps.length=vs.length→
  (∀(i:Nat) (p:bO) (v:Value),ps[i]? =some p→vs[i]? =some v→IE w F s an p v (kZ i))→
  (∀i b,kZ i b→b<w.heap.size∧¬F b∧(X b∨w0.heap.size≤b)∧∀u,¬S u b)→(∀i j b,i≠j→kZ i b→¬kZ j b)→fZ ps=true→
  ∃cx,a1 w0 F0 X F cx (fS s ps) an w∧∀u b,cx u b→S u b∨∃i,kZ i b:=by
 intro ps
 induction ps with
 |nil=>intro vs s S kZ h _ _ _ _ _;exact⟨S,h,fun u b J=>.inl J⟩
 |cons p ps ih=>
  intro vs s S kZ h aI xU J ae hT
  cases vs with
  |nil=>simp at aI
  |cons v vs=>
   simp only[List.length_cons,Nat.add_right_cancel_iff]at aI
   simp only[fZ,Bool.and_eq_true,List.all_eq_true,Bool.or_eq_true,Bool.not_eq_true']at hT
   obtain⟨lD,kX⟩:=hT
   have qj:∀bJ∈ps,(p.g=true∨bJ.g=true)→∀u∈p.a.U,u∉bJ.a.U:=by
    intro bJ cY hg u hu
    rcases lD bJ cY with e|e
    ·rcases hg with hg|hg<;>simp[hg]at e
    ·simpa using e u hu
   have skip:bO.fR s p=s→∃cx,a1 w0 F0 X F cx (fS s (p::ps)) an w∧∀u b,cx u b→S u b∨∃i,kZ i b:=by
    intro eG
    obtain⟨cx,g1,g2⟩:=ih vs s S (fun i=>kZ (i+1)) h aI (fun i bJ ct ah aD=>xU (i+1) bJ ct (by simpa using ah) (by simpa using aD)) (fun i b h=>J (i+1) b h)
     (fun i j b cj=>ae (i+1) (j+1) b (by omega)) kX
    refine⟨cx,?_,fun u b hu=>(g2 u b hu).imp id fun⟨i,ay⟩=>⟨i+1,ay⟩⟩
    show a1 _ _ _ _ _ (fS (bO.fR s p) ps) _ _
    rw[eG];exact g1
   cases hg:p.g with
   |false=>exact skip (by simp[bO.fR,hg])
   |true=>
    rcases xU 0 p v rfl rfl hg with bH|⟨x,q,a0,d0,br,bD,c2,c3,c4,c5,xV,IG,IH,c9⟩
    ·exact skip (by simp only[bO.fR,hg,bH,if_true])
    ·obtain⟨ko,lE,II⟩:=n5 xV
     have eG:bO.fR s p=cf (iK x s) x (I.put q p.o (s x)):=by
      simp only[bO.fR,hg,if_true,br]
      cases IJ:p.o<;>first|rfl|(rw[IJ]at xV;simp[I.eI]at xV)
     have step:=h.fR (x:=x) (q:=q) (aX:=p.o) bD c2 II (fun b6=>⟨lE,c4 b6⟩) (fun k r b6=>⟨c5 (by rw[b6];simp),c9⟩) IH IG
      (fun b h=>(J 0 b h).1) (fun b h=>(J 0 b h).2.1) (fun u b h=>(J 0 b h).2.2.2 u) (fun b h=>(J 0 b h).2.2.1)
     rw[←eG]at step
     obtain⟨cx,g1,g2⟩:=ih vs (bO.fR s p) _ (fun i=>kZ (i+1)) step aI (by
      intro i bJ ct ah aD ev
      have hm:bJ∈ps:=List.mem_of_getElem? ah
      rcases xU (i+1) bJ ct (by simpa using ah) (by simpa using aD) ev with bH|⟨y,fN,aA,d1,bg,bw,cM,cc,c8,dj,fD,gW,jn⟩
      ·exact .inl bH
      ·have cj:y≠x:=fun e=>qj bJ hm (.inl hg) x (by rw[br];simp[I.U]) (by rw[bg,e];simp[I.U])
       have kj:bO.fR s p y=s y:=by
        rw[eG,gJ _ _ cj]
        exact xE _ (by rw[cc];simp)
       exact .inr ⟨y,fN,aA,d1,bg,by rw[kj];exact bw,by rw[kj];exact cM,by rw[kj];exact cc,c8,by rw[kj];exact dj,fD,gW,jn⟩)
      (by
       intro i b ay
       obtain⟨jk,gr,gX,ck⟩:=J (i+1) b ay
       refine⟨jk,gr,gX,fun u hu=> ?_⟩
       simp only[ei]at hu
       split at hu
       ·rcases hu with hu|hu
        ·exact ck _ hu
        ·exact ae 0 (i+1) b (by omega) hu ay
       ·exact ck _ hu)
      (fun i j b cj=>ae (i+1) (j+1) b (by omega)) kX
     refine⟨cx,g1,fun u b hu=> ?_⟩
     rcases g2 u b hu with hu|⟨i,ay⟩
     ·simp only[ei]at hu
      split at hu
      ·rename_i e;subst e
       exact hu.imp id fun h=>⟨0,h⟩
      ·exact .inl hu
     ·exact .inr ⟨i+1,ay⟩
def hW (ps:List bO):Bool:=ps.any fun p=> !p.g&& !p.a.U.isEmpty
theorem BR (h:a1 w0 F0 X F S s an w) {ps:List bO} {vs:List Value} {f:FuncId} {r:I} (aI:ps.length=vs.length)
  (gu:∀(i:Nat) (p:bO) (v:Value),ps[i]? =some p→vs[i]? =some v→p.a.plain=true∧au w F s an p.a v (fun _=>False))
  (eE:∀p∈ps,p.ok s) (hT:fZ ps=true) (bc:∀(Fc js:Nat→Prop) (cK:Nat→Nat→Prop),(∀b,F b→Fc b)→(∀b,js b→∃u,S u b)→a1 w Fc js Fc cK (dL (ps.map (·.d))) (eJ vs) w→
   lF C.P f vs.toArray w fun v ar=>∃a8 aE,a1 w Fc js a8 aE (dL (r::ps.map (·.o))) (eJ (v::vs)) ar) (aC:r.res=true)
  (aQ:hW ps=true→r.c_=true∧∀p∈ps,p.o.c_=true):
  lF C.P f vs.toArray w fun v ar=>∃a8 aE,a1 w0 F0 X a8 aE (fS (dE s ps) ps) an ar∧ie w0 X a8 aE (fS (dE s ps) ps) an ar r v∧∀b,F b→a8 b∧ar.heap[b]? =w.heap[b]? :=by
 obtain⟨Sn,bk,g1,g2,g3,g4,g5,g6,g7,g8⟩:=IC ps vs s S h aI (fun i p v ah aD=>⟨(gu i p v ah aD).1,(gu i p v ah aD).2,fun _=>eE p (List.mem_of_getElem? ah)⟩) hT
 have apart:∀(i j:Nat) (p bJ:bO),ps[i]? =some p→ps[j]? =some bJ→i≠j→(p.g=true∨bJ.g=true)→∀u∈p.a.U,u∉bJ.a.U:=by
  clear gu eE bc aQ g1 g3 g4 g8 aI
  induction ps with
  |nil=>intro i j p bJ ah;simp at ah
  |cons e6 ps ih=>
   simp only[fZ,Bool.and_eq_true,List.all_eq_true,Bool.or_eq_true,Bool.not_eq_true']at hT
   obtain⟨lD,kX⟩:=hT
   have qj:∀bJ∈ps,(e6.g=true∨bJ.g=true)→∀u∈e6.a.U,u∉bJ.a.U:=by
    intro bJ cY hg u hu
    rcases lD bJ cY with e|e
    ·rcases hg with hg|hg<;>simp[hg]at e
    ·simpa using e u hu
   intro i j p bJ ah cY cj hg u hu
   cases i with
   |zero=>
    simp at ah;subst ah
    cases j with
    |zero=>exact(cj rfl).elim
    |succ j=>exact qj bJ (List.mem_of_getElem? (by simpa using cY)) hg u hu
   |succ i=>
    cases j with
    |zero=>
     simp at cY;subst cY
     exact fun sr=>qj p (List.mem_of_getElem? (by simpa using ah)) hg.symm u sr hu
    |succ j=>exact ih kX i j p bJ (by simpa using ah) (by simpa using cY) (by omega) hg u hu
 let Fc:Nat→Prop:=fun b=>F b∨(hW ps=true∧∃u,bk u b)
 let js:Nat→Prop:=fun b=>∃i,Sn i b
 have xW:∀b,F b→¬js b:=fun b aW ⟨i,ay⟩=>by obtain⟨u,hu⟩:=g5 i b ay;exact h.dy u b hu aW
 have ss:∀u b,bk u b→¬js b:=fun u b hu ⟨i,ay⟩=>g6 i u b ay hu
 have su:∀b,js b→(X b∨w0.heap.size≤b)∧b<w.heap.size:=fun b ⟨i,ay⟩=>by obtain⟨u,hu⟩:=g5 i b ay;exact⟨h.cp u b hu,h.cV u b hu⟩
 have pre:a1 w Fc js Fc Sn (dL (ps.map (·.d))) (eJ vs) w:=by
  refine⟨fun _ h=>h,fun _ h=>.inl h,?_,fun i b ay=>(su b ⟨i,ay⟩).2,?_,fun i j b cj=>g7 i j b cj,fun i b ay=>.inl ⟨i,ay⟩,?_,fun _ _ _=>rfl,Nat.le_refl _,rfl,rfl,Out.refl _,h.dW.next h.size h.old fun b J=>(su b J).1⟩
  ·rintro b (J|⟨_,u,hu⟩)
   ·exact h.de b J
   ·exact g1.cV u b hu
  ·rintro i b ay (J|⟨_,u,hu⟩)
   ·exact xW b J ⟨i,ay⟩
   ·exact g6 i u b ay hu
  ·intro t
   cases ah:ps[t]? with
   |none=>
    have:dL (ps.map (·.d)) t= .hole:=by simp[dL,List.getD,ah]
    rw[this,au];trivial
   |some p=>
    have cJ:t<vs.length:=by rw[←aI];exact(List.getElem?_eq_some_iff.1 ah).1
    have aD:vs[t]? =some vs[t]:=List.getElem?_eq_getElem cJ
    have aF:dL (ps.map (·.d)) t=p.d:=by simp[dL,List.getD,ah]
    have aJ:eJ vs t=vs[t]:=by simp[eJ,List.getD,aD]
    rw[aF,aJ]
    have hm:p∈ps:=List.mem_of_getElem? ah
    have al:=eE p hm
    cases hg:p.g with
    |true=>
     obtain⟨x,q,a0,bg,bw,cM,cc,c8,dj,fD,gW⟩:=g3 t p _ ah aD hg
     simp only[bO.ok,hg,if_true,bg]at al
     exact(au.bB (n5 al.2.1).2.1).2 ⟨fD,ak.mono (fun b J=>.inl J) _ _ _ _ (fun _ h=>h) gW⟩
    |false=>
     simp only[bO.ok,hg]at al
     obtain⟨f1,f2⟩:=gu t p _ ah aD
     have BS:∀bJ∈ps,bJ.g=true→∀u∈bJ.a.U,u∉p.a.U:=by
      intro bJ cY ev u hu
      obtain⟨j,bE⟩:=List.getElem?_of_mem cY
      refine apart j t bJ p bE ah (fun e=> ?_) (.inl ev) u hu
      subst e;rw[ah]at bE;simp only[Option.some.injEq]at bE;rw[bE,ev]at hg;cases hg
     have uG:=g8 _ _ _ BS f2
     have iu:view (dE s ps) p.a=some p.d:=xT _ _ (fun u hu aK=>xQ (BP aK) (fun bJ cY ev sr=>BS bJ cY ev u sr hu)) (by simpa using al)
     refine au.nothing (Iw f1 iu) ((Iy g1 (Fc:=Fc) (fun b J=>.inl J) (SizeOf.sizeOf p.a)).1 p.a _ p.d (Nat.le_refl _) ?_ iu uG)
     intro u hu b J
     refine .inr ⟨?_,u,J⟩
     simp only[hW,List.any_eq_true]
     refine⟨p,hm,?_⟩
     cases fs:p.a.U with
     |nil=>rw[fs]at hu;cases hu
     |cons _ _=>simp[hg]
 refine lF.mono (bc Fc js Sn (fun b J=>.inl J) (fun b ⟨i,ay⟩=>g5 i b ay) pre) ?_
 rintro v ar ⟨a8,aE,af⟩
 have keep:∀b,b<w.heap.size→¬js b→ar.heap[b]? =w.heap[b]? :=af.old
 let lG:Nat→Prop:=fun b=>if hW ps=true then F b else a8 b
 have BT:∀b,F b→a8 b:=fun b J=>af.eB b (.inl J)
 have qk:∀b,F b→lG b:=fun b J=>by
  simp only[lG];split
  ·exact J
  ·exact BT b J
 have sv:∀b,lG b→a8 b:=fun b J=>by
  simp only[lG]at J;split at J
  ·exact BT b J
  ·exact J
 have BU:∀b,lG b→F b∨js b∨w.heap.size≤b:=fun b J=>by
  simp only[lG]at J;split at J
  ·exact .inl J
  ·rename_i nY
   rcases af.eQ b J with(J|⟨aa,_⟩)|J|J
   ·exact .inl J
   ·exact(nY aa).elim
   ·exact .inr (.inl J)
   ·exact .inr (.inr J)
 have mid:a1 w0 F0 X lG bk (dE s ps) an ar:=by
  refine⟨fun b J=>qk b (g1.eB b J),?_,fun b J=>af.de b (sv b J),fun t b J=>Nat.lt_of_lt_of_le (g1.cV t b J) af.size,?_,g1.dm,g1.cp,?_,?_,Nat.le_trans g1.size af.size,af.os.trans g1.os,af.tape.trans g1.tape,af.output.trans g1.output,g1.dW⟩
  ·intro b J
   rcases BU b J with J|J|J
   ·exact g1.eQ b J
   ·rcases(su b J).1 with h|h
    ·exact .inr (.inl h)
    ·exact .inr (.inr h)
   ·exact .inr (.inr (Nat.le_trans g1.size J))
  ·intro t b aK J
   rcases BU b J with J|J|J
   ·exact g1.dy t b aK J
   ·exact ss t b aK J
   ·exact absurd (g1.cV t b aK) (by omega)
  ·intro t
   exact au.frame (Sx:=bk) (fun b J=>keep b (h.de b J) (xW b J)) qk (fun x b J=>keep b (g1.cV x b J) (ss x b J)) g1.b2 _ _ _ (fun b J=>keep b (g1.cV t b J) (ss t b J)) (g1.b2 t)
  ·intro b J gn
   refine(keep b (Nat.lt_of_lt_of_le J g1.size) fun ai=> ?_).trans (g1.old b J gn)
   rcases(su b ai).1 with h|h
   ·exact gn h
   ·omega
 have BV:∀(d:I) (cs:List Value) (cp:Nat→Prop),(hW ps=true→d.c_=true)→ak ar a8 d cs cp→ak ar lG d cs cp:=by
  intro d cs cp xy eu
  by_cases hle:hW ps=true
  ·exact ak.c_ d cs cp (xy hle) eu
  ·exact ak.mono (fun b J=>by simp only[lG];rw[if_neg hle];exact J) _ _ _ _ (fun _ h=>h) eu
 have bound:∀i b,aE i b→b<ar.heap.size∧¬lG b∧(X b∨w0.heap.size≤b)∧∀u,¬bk u b:=by
  intro i b J
  refine⟨af.cV i b J,fun aW=>af.dy i b J (sv b aW),?_,fun u hu=> ?_⟩
  ·rcases af.cp i b J with ai|ai
   ·exact(su b ai).1
   ·exact .inr (Nat.le_trans g1.size ai)
  ·rcases af.cp i b J with ai|ai
   ·exact ss u b hu ai
   ·exact absurd (g1.cV u b hu) (by omega)
 obtain⟨cx,bg,bw⟩:=IF ps vs (dE s ps) bk (fun i=>aE (i+1)) mid aI (by
  intro i p ct ah aD hg
  have hm:p∈ps:=List.mem_of_getElem? ah
  have al:=eE p hm
  obtain⟨x,q,a0,aF,aJ,aN,bt,bN,bh,ba,gz⟩:=g3 i p ct ah aD hg
  simp only[bO.ok,hg,if_true,aF]at al
  rcases al.2.2 with bH|bH
  ·exact .inl bH
  ·obtain⟨eR,l2,xX⟩:=Iz al.2.1 bH.1 bH.2
   refine .inr ⟨x,q,a0,p.d.b0,aF,aJ,?_,bt,fun b6=>l2 _ (bN b6),bh,bH.1,?_,eR.trans (I.nP _).symm,xX⟩
   ·cases q with
    |nil=>simpa only[b_]using aN
    |cons k q=>
     have aK:=bh (by simp)
     rw[tY (k::q) _ _ (bk x) none _ ((au.bB aK).1 (g1.b2 x)).2 aJ (fun b J=>keep b (g1.cV x b J) (ss x b J))]
     exact aN
   ·have:=af.b2 (i+1)
    have fi:dL (r::ps.map (·.o)) (i+1)=p.o:=by simp[dL,List.getD,ah]
    have gT:eJ (v::vs) (i+1)=ct:=by simp[eJ,List.getD,aD]
    rw[fi,gT]at this
    exact BV _ _ _ (fun hle=>(aQ hle).2 p hm) ((au.bB (n5 bH.1).2.1).1 this).2)
  (fun i b J=>bound (i+1) b J) (fun i j b cj=>af.dm (i+1) (j+1) b (by omega)) hT
 refine⟨lG,cx,bg,?_,fun b J=>⟨qk b J,keep b (h.de b J) (xW b J)⟩⟩
 have bl:=af.b2 0
 have fi:dL (r::ps.map (·.o)) 0=r:=rfl
 have gT:eJ (v::vs) 0=v:=rfl
 rw[fi,gT]at bl
 cases aK:r.tree with
 |false=>
  cases r<;>first
   |(simp[I.tree]at aK;done)
   |(simp[I.res]at aC;done)
   |exact .inl ⟨rfl,by rw[au];trivial⟩
 |true=>
  obtain⟨s1,s2⟩:=(au.bB aK).1 bl
  have eH:=BV _ _ _ (fun hle=>(aQ hle).1) s2
  refine .inr ⟨aK,s1,aE 0,eH,fun b J=>(bound 0 b J).1,fun b J=>(bound 0 b J).2.1,fun u b J hu=> ?_,fun b J=>(bound 0 b J).2.2.1⟩
  rcases bw u b hu with hu|⟨i,ay⟩
  ·exact(bound 0 b J).2.2.2 u hu
  ·exact af.dm 0 (i+1) b (by omega) J ay
theorem IK (h:a1 w0 F0 X F S s an w) {ps:List bO} {vs:List Value} {f:FuncId} {r:I} (aI:ps.length=vs.length)
  (gu:∀(i:Nat) (p:bO) (v:Value),ps[i]? =some p→vs[i]? =some v→p.a.plain=true∧au w F s an p.a v (fun _=>False))
  (eE:∀p∈ps,p.ok s) (hT:fZ ps=true) (bc:bj C f (ps.map (·.d)) r (ps.map (·.o))) (aC:r.res=true)
  (aQ:hW ps=true→r.c_=true∧∀p∈ps,p.o.c_=true):
  lF C.P f vs.toArray w fun v ar=>∃a8 aE,a1 w0 F0 X a8 aE (fS (dE s ps) ps) an ar∧ie w0 X a8 aE (fS (dE s ps) ps) an ar r v∧∀b,F b→a8 b∧ar.heap[b]? =w.heap[b]? :=
 BR h aI gu eE hT (fun Fc js cK _ _ ah=>bc w Fc js cK vs (by simp[aI]) ah) aC aQ
end
structure bn where
 dst:Option Nat
 a7:dS
 guard:Option (Nat×Bool)
def sw (ops:Array Oper):Option (Nat×Bool)→Option (Option (Nat×Bool))
 |none=>some none
 |some (j,b)=>match(ops[j]?).bind (·.dst)with
  |some t=>some (some (t,b))
  |none=>none
structure Fr where
 n:Nat
 fx:List Nat
def jt (n:Fr):Option Nat→Bool
 |none=>true
 |some t=>decide (t<n.n)&& !n.fx.contains t
def n7 (op:Op):dS:=match bX op with
 |some a7=>a7
 |none=>.bad
def me (n:Fr) (ops:Array Oper) (o:Oper):Option bn:=
 if jt n o.dst=true then match sw ops o.guard with
  |some g=>some ⟨o.dst,n7 o.op,g⟩
  |none=>none
 else none
def mf (n:Fr) (ops:Array Oper):List Oper→Option (List bn)
 |[]=>some []
 |o::os=>match me n ops o,mf n ops os with
  |some r,some rs=>some (r::rs)
  |_,_=>none
def uH (C:bm) (s:ag) (f:aw) (args:List aw) (K:I→ag→Prop):Prop:=
 ∃(g:FuncId) (caps:List I) (ps:List bO) (r:I),az s f= .fn g caps∧I.dV caps=true∧ps.map (·.a)=args.map (az s)++caps∧(∀p∈ps,p.ok s)∧fZ ps=true∧
   bj C g (ps.map (·.d)) r (ps.map (·.o))∧r.res=true∧(hW ps=true→r.c_=true∧∀p∈ps,p.o.c_=true)∧K r (fS (dE s ps) ps)
mutual
def I.e2 (s:ag):I→Bool
 | .h x q=>q.isEmpty&&(s x).own
 | .J x _=> !(s x).plain
 | .ah _ _=>false
 | .hole=>true
 | .fn _ cap=>I.n8 s cap
 |d=>d.plain
def I.n8 (s:ag):List I→Bool
 |[]=>true
 |d::ds=>d.e2 s&&I.n8 s ds
end
def ng (s:ag):List (Nat×I)→ag
 |[]=>s
 |p::L=>ng (cf s p.1 p.2) L
def mg (s:ag):List (Nat×I)→Bool
 |[]=>true
 |p::L=>p.2.e2 s&&mg s L
def ju (s:ag) (us:List Nat):List (Nat×I):=us.map fun u=>(u,s u)
def k1 (C:bm) (s:ag) (a7:dS) (K:I→ag→Prop):Prop:=
 match a7 with
 | .call f args=>∃(g:FuncId) (caps:List I) (ps:List bO) (r:I),az s f= .fn g caps∧I.dV caps=true∧ps.map (·.a)=args.map (az s)++caps∧(∀p∈ps,p.ok s)∧fZ ps=true∧
   bj C g (ps.map (·.d)) r (ps.map (·.o))∧r.res=true∧(hW ps=true→r.c_=true∧∀p∈ps,p.o.c_=true)∧K r (fS (dE s ps) ps)
 | .shr a7=>∃av s1,aZ C s a7=some (av,s1)∧av.tree=true∧(∀vs,av≠.tuple vs)∧K av.share s1
 | .jQ f args u x=>s u= .h x []∧(s x).own=true∧uH C s f args fun av s1=>s1 u= .hole∧(s1 x).own=true∧K av (cf s1 u (.h x []))
 | .jR f args us=>mg s (ju s us)=true∧uH C s f args fun av s1=>mg s1 (ju s us)=true∧K av (ng s1 (ju s us))
 |a7=>∃av s1,aZ C s a7=some (av,s1)∧K av s1
theorem uI {C:bm} {s:ag} {a7:dS} {K ch:I→ag→Prop} (h:k1 C s a7 K) (al:∀av s,K av s→ch av s):k1 C s a7 ch:=by
 cases a7 with
 |call f args=>
  obtain⟨g,caps,ps,r,aa,eK,ab,aB,aP,bb,bQ,bT,dt⟩:=h
  exact⟨g,caps,ps,r,aa,eK,ab,aB,aP,bb,bQ,bT,al _ _ dt⟩
 |shr a7=>
  obtain⟨av,s1,aa,ab,aB,aP⟩:=h
  exact⟨av,s1,aa,ab,aB,al _ _ aP⟩
 |jQ f args u x=>
  obtain⟨bg,bw,g,caps,ps,r,aa,eK,ab,aB,aP,bb,bQ,bT,dt,eF,eZ⟩:=h
  exact⟨bg,bw,g,caps,ps,r,aa,eK,ab,aB,aP,bb,bQ,bT,dt,eF,al _ _ eZ⟩
 |jR f args us=>
  obtain⟨bw,g,caps,ps,r,aa,eK,ab,aB,aP,bb,bQ,bT,dt,eF⟩:=h
  exact⟨bw,g,caps,ps,r,aa,eK,ab,aB,aP,bb,bQ,bT,dt,al _ _ eF⟩
 |_=>
  obtain⟨av,s1,aa,ab⟩:=h
  exact⟨av,s1,aa,al _ _ ab⟩
def iP (C:bm) (s:ag) (o:bn) (K:ag→Prop):Prop:=
 match o.guard with
 |none=>k1 C s o.a7 fun av s1=>K (fin s1 o.dst av)
 |some (t,b)=>match s t with
  | .bool dK=>if dK=b then k1 C s o.a7 (fun av s1=>K (fin s1 o.dst av))else K (fin s o.dst (.tuple []))
  | .tuple []=>K (fin s o.dst (.tuple []))
  |_=>False
def ix (C:bm) (s:ag):List bn→(ag→Prop)→Prop
 |[],K=>K s
 |o::os,K=>iP C s o fun s1=>ix C s1 os K
def ha (C:bm) (ros:List bn) (s:ag):List Nat→(ag→Prop)→Prop
 |[],K=>K s
 |i::l,K=>match ros[i]? with
  |none=>ha C ros s l K
  |some o=>iP C s o fun s1=>ha C ros s1 l K
theorem IL (C:bm) (K:ag→Prop):∀(rs pre:List bn) (s:ag),ix C s rs K→ha C (pre++rs) s ((List.range rs.length).map (·+pre.length)) K:=by
 intro rs
 induction rs with
 |nil=>intro pre s h;exact h
 |cons r rs ih=>
  intro pre s h
  rw[List.length_cons,List.range_succ_eq_map,List.map_cons,List.map_map]
  simp only[ha,Nat.zero_add]
  rw[List.getElem?_append_right (Nat.le_refl _)]
  simp only[Nat.sub_self,List.getElem?_cons_zero]
  have key:∀s1,ix C s1 rs K→ha C (pre++r::rs) s1 ((List.range rs.length).map ((fun x=>x+pre.length)∘Nat.succ)) K:=by
   intro s1 aa
   have:=ih (pre++[r]) s1 aa
   simp only[List.append_assoc,List.singleton_append,List.length_append,List.length_singleton]at this
   have e:((fun x=>x+pre.length)∘Nat.succ)=fun x=>x+(pre.length+1):=by funext x;simp;omega
   rw[e];exact this
  simp only[ix]at h
  unfold iP at h⊢
  split
  ·rename_i hg;rw[hg]at h;exact uI h fun av s1=>key _
  ·rename_i t b hg
   rw[hg]at h
   simp only at h
   split
   ·rename_i dK U
    rw[U]at h
    simp only at h
    split
    ·rename_i J;rw[if_pos J]at h;exact uI h fun av s1=>key _
    ·rename_i J;rw[if_neg J]at h;exact key _ h
   ·rename_i U;rw[U]at h;exact key _ h
   ·rename_i aa ab
    split at h
    ·exact aa _ (by assumption)
    ·exact ab (by assumption)
    ·exact h
structure Rel (w0:World) (F0 X:Nat→Prop) (n:Fr) (ρ:Nat→Value) (s:ag) (a:Act) (w:World):Prop where
 defers:a.defers=[]
 size:a.tmps.size=n.n
 fixed:∀i∈n.fx,a.tmps.getD i undef=ρ i
 rel:∃F S,a1 w0 F0 X F S s (fun t=>a.tmps.getD t undef) w
section
variable {C:bm} {w0 w:World} {F0 X:Nat→Prop} {n:Fr} {ρ:Nat→Value} {s s1:ag} {a:Act} {av:I} {Q:Exit→Act→World→Prop}
theorem xY {dst:Option Nat} (v:Value) (U:a.tmps.size=n.n) (ae:jt n dst=true):
  (fun t=>(a.put dst v).tmps.getD t undef)=mP (fun t=>a.tmps.getD t undef) dst v∧(a.put dst v).tmps.size=n.n∧(a.put dst v).defers=a.defers:=by
 cases dst with
 |none=>exact⟨rfl,U,rfl⟩
 |some d=>
  simp only[jt,Bool.and_eq_true,decide_eq_true_eq]at ae
  refine⟨?_,by simp[Act.put,U],rfl⟩
  funext t
  simp only[Act.put,mP,cf,Array.getD_eq_getD_getElem?]
  by_cases h:t=d
  ·subst h
   rw[if_pos rfl,Array.getElem?_setIfInBounds_self_of_lt (by omega)];rfl
  ·rw[if_neg h,Array.getElem?_setIfInBounds_ne (fun e=>h e.symm)]
theorem Rel.put {F S} (ae:a.defers=[]) (U:a.tmps.size=n.n) (bc:∀i∈n.fx,a.tmps.getD i undef=ρ i) {ar:World} (aC:a1 w0 F0 X F S s (fun t=>a.tmps.getD t undef) ar) {v:Value} (aD:ie w0 X F S s (fun t=>a.tmps.getD t undef) ar av v)
  {dst:Option Nat} (eE:jt n dst=true):Rel w0 F0 X n ρ (fin s dst av) (a.put dst v) ar:=by
 obtain⟨aF,aJ,aN⟩:=xY (n:=n) (dst:=dst) v U eE
 obtain⟨aE,aT⟩:=aC.fin aD dst
 refine⟨aN.trans ae,aJ,fun i ay=> ?_,F,aE,by rw[aF];exact aT⟩
 rw[congrFun aF i]
 cases dst with
 |none=>exact bc i ay
 |some d=>
  simp only[jt,Bool.and_eq_true,Bool.not_eq_true',List.contains_eq_mem,decide_eq_false_iff_not]at eE
  have cj:i≠d:=fun e=>eE.2 (by rw[←e];exact ay)
  simp only[mP]
  rw[gJ _ _ cj]
  exact bc i ay
theorem Rel.skip (h:Rel w0 F0 X n ρ s a w) {dst:Option Nat} (eE:jt n dst=true):Rel w0 F0 X n ρ (fin s dst (.tuple [])) (a.put dst undef) w:=by
 obtain⟨ae,U,bc,F,S,aC⟩:=h
 refine Rel.put (av:=.tuple []) ae U bc aC (.inl ⟨rfl,(au.bB (d:=.tuple []) rfl).2 ⟨?_,?_⟩⟩) eE
 ·exact⟨#[],rfl,rfl,fun k d x al=>by simp at al⟩
 ·rw[ak,aL];rfl
theorem BW {F:Nat→Prop} {an:Nat→Value} {w:World}:∀{ds es:List I} {vs us:List Value},cG w F s an ds vs→cG w F s an es us→cG w F s an (ds++es) (vs++us):=by
 intro ds
 induction ds with
 |nil=>intro es vs us aa ab;rw[cG]at aa;subst aa;exact ab
 |cons d ds ih=>
  intro es vs us aa ab
  rw[cG]at aa
  obtain⟨v,gI,rfl,g1,g2⟩:=aa
  rw[List.cons_append,List.cons_append,cG]
  exact⟨v,_,rfl,g1,ih g2 ab⟩
theorem BX {F:Nat→Prop} {an:Nat→Value} {w:World}:∀{ds:List I} {vs:List Value},cG w F s an ds vs→ds.length=vs.length∧∀(i:Nat) (d:I) (v:Value),ds[i]? =some d→vs[i]? =some v→au w F s an d v (fun _=>False):=by
 intro ds
 induction ds with
 |nil=>intro vs h;rw[cG]at h;subst h;exact⟨rfl,fun i d v h=>by simp at h⟩
 |cons d ds ih=>
  intro vs h
  rw[cG]at h
  obtain⟨v,gI,rfl,g1,g2⟩:=h
  obtain⟨bg,bw⟩:=ih g2
  refine⟨by simp[bg],fun i aX ct ae aD=> ?_⟩
  cases i with
  |zero=>simp at ae aD;subst ae aD;exact g1
  |succ i=>exact bw i aX ct (by simpa using ae) (by simpa using aD)
theorem mh {op:Op} {a7:dS} (h:n7 op=a7):a7= .bad∨bX op=some a7:=by
 unfold n7 at h
 split at h
 ·subst h;right;assumption
 ·exact .inl h.symm
theorem IM {op:Op} {a7:dS}:bX op≠some (.shr a7):=by
 intro h
 unfold bX at h
 split at h<;>(try split at h)<;>(try split at h)<;>(try split at h)<;>(try simp[Option.map_eq_some_iff]at h)
theorem IP {op:Op} {f:aw} {args:List aw} {u x:Nat}:bX op≠some (.jQ f args u x):=by
 intro h
 unfold bX at h
 split at h<;>(try split at h)<;>(try split at h)<;>(try split at h)<;>(try simp[Option.map_eq_some_iff]at h)
theorem IQ {op:Op} {f:aw} {args:List aw} {us:List Nat}:bX op≠some (.jR f args us):=by
 intro h
 unfold bX at h
 split at h<;>(try split at h)<;>(try split at h)<;>(try split at h)<;>(try simp[Option.map_eq_some_iff]at h)
theorem IU {op:Op} {T:TypeId} {x:aw}:bX op≠some (.il T x):=by
 intro h
 unfold bX at h
 split at h<;>(try split at h)<;>(try split at h)<;>(try split at h)<;>(try simp[Option.map_eq_some_iff]at h)
theorem IV {op:Op} {x:aw}:bX op≠some (.n2 x):=by
 intro h
 unfold bX at h
 split at h<;>(try split at h)<;>(try split at h)<;>(try split at h)<;>(try simp[Option.map_eq_some_iff]at h)
theorem IW {op:Op} {x:aw}:bX op≠some (.nb x):=by
 intro h
 unfold bX at h
 split at h<;>(try split at h)<;>(try split at h)<;>(try split at h)<;>(try simp[Option.map_eq_some_iff]at h)
theorem IX {op:Op} {x:aw} (h:bX op=some (.cg x)):∃cE,op= .move cE∧cv cE=some x:=by
 unfold bX at h
 split at h<;>(try split at h)<;>(try split at h)<;>(try split at h)<;>(try simp[Option.map_eq_some_iff]at h)
 exact⟨_,rfl,h⟩
theorem IY {op:Op} {x:aw} (h:bX op=some (.df x)):∃cE,op= .assign cE∧cv cE=some x:=by
 unfold bX at h
 split at h<;>(try split at h)<;>(try split at h)<;>(try split at h)<;>(try simp[Option.map_eq_some_iff]at h)
 exact⟨_,rfl,h⟩
theorem IZ {op:Op} {T a6:TypeId} {x y:aw}:bX op≠some (.kS T a6 x y):=by
 intro h
 unfold bX at h
 split at h<;>(try split at h)<;>(try split at h)<;>(try split at h)<;>(try simp[Option.map_eq_some_iff]at h)
theorem I0 {op:Op} {T a6:TypeId} {x y:aw} (h:bX op=some (.app T a6 x y)):∃a b,op= .call ⟨.builtin .append,#[a,b],#[T,a6]⟩∧cv a=some x∧cv b=some y:=by
 cases op with
 |call c=>
  obtain⟨callee,args,argTypes⟩:=c
  simp only[bX]at h
  split at h
  ·split at h<;>simp at h
  ·split at h<;>simp at h
  ·split at h<;>simp at h
  ·(split at h<;>try split at h)<;>simp at h
  ·(split at h<;>try split at h)<;>simp at h
  ·split at h
   ·rename_i a b xZ uE jS pc
    split at h
    ·rename_i cE hP ai hy
     simp only[Option.some.injEq,dS.app.injEq]at h
     obtain⟨rfl,rfl,rfl,rfl⟩:=h
     refine⟨a,b,?_,ai,hy⟩
     have aF:args= #[a,b]:=by apply Array.ext';exact jS
     have aJ:argTypes= #[xZ,uE]:=by apply Array.ext';exact pc
     subst aF aJ
     rfl
    ·cases h
   ·cases h
  ·cases h
 |makeFunc fn first cs=>
  cases fn<;>simp only[bX]at h<;>first|(cases h;done)|(split at h<;>simp at h)
 |slice T x b5 ay da=>
  cases da<;>simp only[bX]at h<;>first|(cases h;done)|(split at h<;>simp at h)
 |makeMap T r=>cases r<;>simp only[bX]at h<;>simp at h
 |lookup T x i c=>cases c<;>simp only[bX]at h<;>first|(cases h;done)|(split at h<;>simp at h)
 |_=>simp only[bX]at h<;>first|(cases h;done)|(simp at h;done)|(split at h<;>simp at h)
theorem a1.alias {F:Nat→Prop} {S:Nat→Nat→Prop} {an:Nat→Value} {u x:Nat} (h:a1 w0 F0 X F S s an w) (hu:s u= .hole) (ai:(s x).own=true) (aD:bs (an u)=bs (an x)) (aa:Value.ep (an u)=true):
  a1 w0 F0 X F (ei S u (fun _=>False)) (cf s u (.h x [])) an w:=by
 have cL:cf an u (an u)=an:=by funext y;simp only[cf];split<;>simp_all
 have:=h.rR (t:=u) (d:=.h x []) (v:=an u) rfl (by
  rw[au]
  intro d ae ah
  simp only[I.sub,Option.some.injEq]at ae
  subst ae
  exact⟨bs (an x),none,rfl,aD,((nd ai).2.2.2.2.2 _).2 aa⟩)
 rwa [cL]at this
theorem ie.less {F:Nat→Prop} {S aE:Nat→Nat→Prop} {an:Nat→Value} {s1:ag} {v:Value} (a_:∀u b,aE u b→S u b) (aC:av.res=true) (h:ie w0 X F S s an w av v):ie w0 X F aE s1 an w av v:=by
 rcases h with⟨aa,ab⟩|⟨aa,ab,Sn,aB,aP,bb,bQ,bT⟩
 ·refine .inl ⟨aa,?_⟩
  cases av<;>first
   |(simp[I.res]at aC;done)
   |(rw[au];trivial)
   |(rw[au]at ab⊢;exact ab)
 ·exact .inr ⟨aa,ab,Sn,aB,aP,bb,fun u b J hu=>bQ u b J (a_ u b hu),bT⟩
theorem x0 (aV:C.db) (h:Rel w0 F0 X n ρ s a w) {o:Oper} {f:aw} {args:List aw} (bx:bX o.op=some (.call f args)) (ae:jt n o.dst=true) {K:I→ag→Prop} {L:ag→Prop} {next:Act→World→Prop}
  (hw:uH C s f args K) (iQ:∀F S a8 aE w ar av s1 v,a1 w0 F0 X F S s (fun t=>a.tmps.getD t undef) w→K av s1→av.res=true→a1 w0 F0 X a8 aE s1 (fun t=>a.tmps.getD t undef) ar→ie w0 X a8 aE s1 (fun t=>a.tmps.getD t undef) ar av v→(∀b,F b→a8 b∧ar.heap[b]? =w.heap[b]?)→
   ∃s2 cx,L (fin s2 o.dst av)∧a1 w0 F0 X a8 cx s2 (fun t=>a.tmps.getD t undef) ar∧ie w0 X a8 cx s2 (fun t=>a.tmps.getD t undef) ar av v)
  (aQ:∀ao bU ar,L ao→Rel w0 F0 X n ρ ao bU ar→next bU ar):o.wp C.P a w next Q:=by
 have nh:=h
 obtain⟨f_,cO,e9,F,S,aC⟩:=h
 obtain⟨g,caps,ps,r,aa,eK,ab,aB,aP,bb,bQ,bT,dt⟩:=hw
 obtain⟨dst,op,ty,pos,after,guard⟩:=o
 simp only at bx ae iQ
 cases op with
 |call c=>
  obtain⟨callee,lH,argTypes⟩:=c
  simp only[bX]at bx
  split at bx
  ·split at bx
   ·rename_i sx _ _ I1 xs bc kY
    simp only[Option.some.injEq,dS.call.injEq]at bx
    obtain⟨rfl,rfl⟩:=bx
    obtain⟨f1,f2⟩:=dv aC (fun _=>rfl) bc
    rw[aa,au]at f2
    obtain⟨arr,f3,f4⟩:=f2
    have pf:execOp a.eval {dst,op:=.call {callee:=.value sx,args:=lH,argTypes},type:=ty,pos,after,guard}=callFunc g ((lH.toList.map a.eval++arr.toList).toArray):=by
     have:a.eval sx= .func (.func g) #[] arr:=f3
     simp only[execOp,resolve,this,Deferred.ofValue,pure_bind,invoke]
     congr 1
     apply Array.ext';simp
    unfold Oper.wp
    rw[pf]
    have sy:cG w F s (fun t=>a.tmps.getD t undef) (xs.map (az s)++caps) (lH.toList.map a.eval++arr.toList):=BW (uB aC (fun _=>rfl) _ _ (pb kY)) f4
    rw[←ab]at sy
    obtain⟨eR,l2⟩:=BX sy
    have e0:∀d∈xs.map (az s)++caps,d.plain=true:=by
     intro d ae
     rcases List.mem_append.1 ae with ae|ae
     ·obtain⟨x,ai,rfl⟩:=List.mem_map.1 ae
      exact As s x fun av e=>by
       subst e
       have hm:=pb kY
       have:some (aw.c av)∈xs.map some:=List.mem_map.2 ⟨_,ai,rfl⟩
       rw[←hm]at this
       obtain⟨o,_,bH⟩:=List.mem_map.1 this
       cases o with
       |const v=>simp only[cv,Option.map_eq_some_iff]at bH;obtain⟨c,af,e⟩:=bH;cases e;exact w5 af
       |tmp n=>simp[cv]at bH
       |func g=>simp[cv]at bH
       |global g=>simp[cv]at bH
     ·obtain⟨k,al⟩:=List.getElem?_of_mem ae
      exact tX eK al
    have x1:=IK (C:=C) aC (ps:=ps) (vs:=lH.toList.map a.eval++arr.toList) (f:=g) (r:=r) (by simpa using eR)
     (fun i p v ah aD=>⟨e0 p.a (by rw[←ab];exact List.mem_map.2 ⟨p,List.mem_of_getElem? ah,rfl⟩),l2 i p.a v (by simp[ah]) aD⟩) aB aP bb bQ bT
    rcases x1 with⟨ed,cn⟩|⟨v,ar,ed,a8,aE,cn,e8,ef⟩
    ·rw[ed,Oper.upon_enter]
     refine Calls.mono cn ?_
     rintro e ar ⟨v,rfl,a8,aE,bg,bw,cM⟩
     obtain⟨s2,cx,m1,m2,m3⟩:=iQ _ _ _ _ _ _ _ _ _ aC dt bQ bg bw cM
     exact aQ _ _ _ m1 (Rel.put f_ cO e9 m2 m3 ae)
    ·rw[ed,Oper.upon_value]
     obtain⟨s2,cx,m1,m2,m3⟩:=iQ _ _ _ _ _ _ _ _ _ aC dt bQ cn e8 ef
     exact aQ _ _ _ m1 (Rel.put f_ cO e9 m2 m3 ae)
   ·cases bx
  ·split at bx
   ·simp only[Option.map_eq_some_iff]at bx;obtain⟨_,_,bx⟩:=bx;cases bx
   ·cases bx
  ·split at bx
   ·simp only[Option.map_eq_some_iff]at bx;obtain⟨_,_,bx⟩:=bx;cases bx
   ·cases bx
  iterate 3
   ·split at bx
    ·split at bx<;>cases bx
    ·cases bx
  ·cases bx
 |makeFunc fn first cs=>
  cases fn<;>simp only[bX]at bx<;>first|(cases bx;done)|(split at bx<;>simp at bx)
 |slice T x b5 ay da=>
  cases da<;>simp only[bX]at bx<;>first|(cases bx;done)|(split at bx<;>simp at bx)
 |makeMap T r=>cases r<;>simp only[bX]at bx<;>simp at bx
 |lookup T x i c=>cases c<;>simp only[bX]at bx<;>first|(cases bx;done)|(split at bx<;>simp at bx)
 |_=>simp only[bX]at bx<;>first|(cases bx;done)|(simp at bx;done)|(split at bx<;>simp at bx)
theorem I2 (aV:C.db) (h:Rel w0 F0 X n ρ s a w) {o:Oper} {a7:dS} (bx:bX o.op=some a7) (ae:jt n o.dst=true) {K:ag→Prop} {next:Act→World→Prop}
  (hw:k1 C s a7 fun av s1=>K (fin s1 o.dst av)) (aQ:∀ao bU ar,K ao→Rel w0 F0 X n ρ ao bU ar→next bU ar):o.wp C.P a w next Q:=by
 have nh:=h
 obtain⟨f_,cO,e9,F,S,aC⟩:=h
 have plain:∀av s1,aZ C s a7=some (av,s1)→K (fin s1 o.dst av)→o.wp C.P a w next Q:=by
  intro av s1 he al
  obtain⟨r,ar,v,a8,aE,aa,ab,aB,aP⟩:=Br (a:=a) aV aC (fun _=>rfl) bx he
  unfold Oper.wp
  rw[aa]
  rcases ab with rfl|⟨rfl,rfl⟩
  ·exact aQ _ _ _ al (Rel.put f_ cO e9 aB aP ae)
  ·exact aQ _ _ _ al (Rel.put f_ cO e9 aB aP ae)
 cases a7 with
 |shr a7=>exact(IM bx).elim
 |kS T a6 x y=>exact(IZ bx).elim
 |call f args=>exact x0 aV ⟨f_,cO,e9,F,S,aC⟩ bx ae (K:=fun av s1=>K (fin s1 o.dst av)) hw (fun _ _ _ aE _ _ _ s1 _ _ ab _ aB aP _=>⟨s1,aE,ab,aB,aP⟩) aQ
 |jQ f args u x=>exact(IP bx).elim
 |jR f args L=>exact(IQ bx).elim
 |il T x=>exact(IU bx).elim
 |n2 x=>exact(IV bx).elim
 |nb x=>exact(IW bx).elim
 |_=>
  obtain⟨av,s1,he,al⟩:=hw
  exact plain av s1 he al
theorem ie.share {F:Nat→Prop} {S:Nat→Nat→Prop} {an:Nat→Value} {v:Value} (h:a1 w0 F0 X F S s an w) (aD:ie w0 X F S s an w av v) (aK:av.tree=true) (aQ:∀vs,av≠.tuple vs):
  ∃a8,a1 w0 F0 X a8 S s an w∧ie w0 X a8 S s an w av.share v:=by
 obtain⟨Sn,fj,er,gM,gN,nU,pg⟩:∃Sn:Nat→Prop,cA av v∧ak w F av (bs v) Sn∧(∀b,Sn b→b<w.heap.size)∧(∀b,Sn b→¬F b)∧(∀u b,Sn b→¬S u b)∧(∀b,Sn b→X b∨w0.heap.size≤b):=by
  rcases aD with⟨aa,ab⟩|⟨_,ab,Sn,aB,aP,bb,bQ,bT⟩
  ·rw[au.bB aK]at ab
   exact⟨fun _=>False,ab.1,ab.2,fun _ h=>h.elim,fun _ h=>h.elim,fun _ _ h=>h.elim,fun _ h=>h.elim⟩
  ·exact⟨Sn,ab,aB,aP,bb,bQ,bT⟩
 refine⟨fun b=>F b∨Sn b,?_,.inl ⟨xN av,?_⟩⟩
 ·exact {
   eB:=fun b J=>.inl (h.eB b J)
   eQ:=fun b J=>by
    rcases J with J|J
    ·exact h.eQ b J
    ·exact .inr (pg b J)
   de:=fun b J=>J.elim (h.de b) (gM b)
   cV:=h.cV
   dy:=fun t b J bc=>bc.elim (h.dy t b J) (fun U=>nU t b U J)
   dm:=h.dm
   cp:=h.cp
   b2:=fun t=>au.frame (fun _ _=>rfl) (fun b J=>.inl J) (fun _ _ _=>rfl) h.b2 _ _ _ (fun _ _=>rfl) (h.b2 t)
   old:=h.old
   size:=h.size
   os:=h.os
   tape:=h.tape
   output:=h.output
   dW:=h.dW}
 ·by_cases bH:∃o,av= .b9 o
  ·obtain⟨o,rfl⟩:=bH
   rw[I.share,au];trivial
  have I3:av.share.tree=true:=by cases av<;>first|exact aK|rfl|exact(bH ⟨_,rfl⟩).elim
  rw[au.bB I3]
  exact⟨xP aQ fj,ak.shared (fun b J=>.inl J) av _ Sn (fun b J=>.inr J) er⟩
theorem I4 {op:Op} {T:TypeId} {x:aw} (h:bX op=some (.dB T x)):∃a,op= .box T a∧cv a=some x:=by
 cases op with
 |box xZ a=>
  simp only[bX,Option.map_eq_some_iff,dS.dB.injEq]at h
  obtain⟨y,hy,rfl,rfl⟩:=h
  exact⟨a,rfl,hy⟩
 |_=>
  exfalso
  unfold bX at h
  split at h<;>(try split at h)<;>(try split at h)<;>(try split at h)<;>(try simp[Option.map_eq_some_iff]at h)<;>contradiction
theorem I5 {ar:World} {F a8:Nat→Prop} {s s1:ag} {an:Nat→Value} (aW:∀b,F b→a8 b∧ar.heap[b]? =w.heap[b]?):∀(n:Nat),
  (∀(d:I) (v:Value) (S:Nat→Prop),SizeOf.sizeOf d≤n→d.e2 s=true→d.e2 s1=true→au w F s an d v S→au ar a8 s1 an d v (fun _=>False))∧
  (∀(ds:List I) (vs:List Value),SizeOf.sizeOf ds≤n→I.n8 s ds=true→I.n8 s1 ds=true→cG w F s an ds vs→cG ar a8 s1 an ds vs):=by
 intro n
 induction n with
 |zero=>
  refine⟨fun d v S bd=> ?_,fun ds vs bd=> ?_⟩
  ·cases d<;>simp at bd<;>omega
  ·cases ds<;>simp at bd<;>omega
 |succ n ih=>
  refine⟨fun d v S bd bg bw h=> ?_,fun ds vs bd bg bw h=> ?_⟩
  ·cases d with
   |hole=>rw[au];trivial
   |h x q=>
    simp only[I.e2,Bool.and_eq_true,List.isEmpty_iff]at bg bw
    obtain⟨rfl,bg⟩:=bg
    rw[au]at h⊢
    obtain⟨bK,a,d_,eW,fA⟩:=h (s x) (by simp only[I.sub]) (nd bg).1
    simp only[b_,Option.some.injEq,Prod.mk.injEq,true_and]at d_
    intro d ae _
    simp only[I.sub,Option.some.injEq]at ae
    subst ae
    exact⟨bs (an x),none,by simp only[b_],by rw[eW,←d_.1],((nd bw.2).2.2.2.2.2 _).2 (((nd bg).2.2.2.2.2 _).1 fA)⟩
   |ah x q=>simp[I.e2]at bg
   |J x k=>
    simp only[I.e2,Bool.not_eq_true']at bg
    rw[au]at h⊢
    obtain⟨b,cur,e,fr,aa,ab,aB,aP⟩:=h bg
    exact fun _=>⟨b,cur,e,fr,aa,(aW b ab).1,(aW b ab).2.trans aB,aP⟩
   |fn f cap=>
    simp only[I.e2]at bg bw
    rw[au]at h⊢
    obtain⟨arr,rfl,af⟩:=h
    exact⟨arr,rfl,ih.2 _ _ (by simp at bd;omega) bg bw af⟩
   |_=>
    simp only[I.e2]at bg
    have aT:=(au.bB rfl).1 h
    exact(au.bB rfl).2 ⟨aT.1,ak.mono (fun b J=>(aW b J).1) _ _ _ _ (fun _ h=>h) (ak.frame (fun b J=>(aW b J).2) _ _ _ (fun _ h=>h.elim) (ak.plain _ _ _ _ bg aT.2))⟩
  ·cases ds with
   |nil=>rw[cG]at h⊢;exact h
   |cons d ds=>
    simp only[I.n8,Bool.and_eq_true]at bg bw
    rw[cG]at h⊢
    obtain⟨v,gI,rfl,aa,ab⟩:=h
    simp at bd
    exact⟨v,gI,rfl,ih.1 _ _ _ (by omega) bg.1 bw.1 aa,ih.2 _ _ (by omega) bg.2 bw.2 ab⟩
theorem I6 {s:ag} {d:I} (h:d.e2 s=true):d.plain=true:=by
 cases d<;>first|rfl|(simpa [I.e2]using h)
theorem a1.ng {F:Nat→Prop} {an:Nat→Value}:∀(L:List (Nat×I)) (s:ag) (S:Nat→Nat→Prop),a1 w0 F0 X F S s an w→(∀p∈L,p.2.plain=true∧au w F s an p.2 (an p.1) (fun _=>False))→
  ∃aE,a1 w0 F0 X F aE (bZ.ng s L) an w∧∀u b,aE u b→S u b:=by
 intro L
 induction L with
 |nil=>intro s S h _;exact⟨S,h,fun _ _ h=>h⟩
 |cons p L ih=>
  intro s S h iQ
  obtain⟨aa,ab⟩:=iQ p (by simp)
  have cL:cf an p.1 (an p.1)=an:=by funext u;simp only[cf];split<;>simp_all
  have aB:=h.rR (t:=p.1) aa ab
  rw[cL]at aB
  have eP:∀x,x≠p.1→(cf s p.1 p.2 x).tree=true→cf s p.1 p.2 x=s x∧an x=an x:=fun x ai _=>⟨gJ _ _ ai,rfl⟩
  obtain⟨aE,g1,g2⟩:=ih _ _ aB (fun q b6=>⟨(iQ q (by simp[b6])).1,(au.void (t:=p.1) eP (by rw[jL];exact aa) _).1 _ _ _ (Nat.le_refl _) (iQ q (by simp[b6])).2⟩)
  refine⟨aE,g1,fun u b J=> ?_⟩
  have:=g2 u b J
  simp only[ei]at this
  split at this
  ·exact this.elim
  ·exact this
theorem x2 {s:ag}:∀{L:List (Nat×I)},mg s L=true→∀p∈L,p.2.e2 s=true
 |q::L,aa,p,ah=>by
  simp only[mg,Bool.and_eq_true]at aa
  rcases List.mem_cons.1 ah with rfl|ah
  ·exact aa.1
  ·exact x2 aa.2 p ah
theorem I7 {s:ag} {us:List Nat} {p:Nat×I} (h:p∈ju s us):p.1∈us∧s p.1=p.2:=by
 obtain⟨u,hu,rfl⟩:=List.mem_map.1 h
 exact⟨hu,rfl⟩
theorem I8 (aV:C.db) (h:Rel w0 F0 X n ρ s a w) {o:Oper} {a7:dS} (bx:n7 o.op=a7.base) (ae:jt n o.dst=true) {K:ag→Prop} {next:Act→World→Prop}
  (hw:k1 C s a7 fun av s1=>K (fin s1 o.dst av)) (aQ:∀ao bU ar,K ao→Rel w0 F0 X n ρ ao bU ar→next bU ar):o.wp C.P a w next Q:=by
 cases a7 with
 |shr a7=>
  obtain⟨av,s1,he,aK,jT,al⟩:=hw
  rcases mh bx with bx|bx
  ·change a7= .bad at bx
   subst bx;cases he
  obtain⟨f_,cO,e9,F,S,aC⟩:=h
  obtain⟨r,ar,v,a8,aE,aa,ab,aB,aP⟩:=Br (a:=a) aV aC (fun _=>rfl) bx he
  obtain⟨sv,g3,g4⟩:=ie.share aB aP aK jT
  unfold Oper.wp
  rw[aa]
  rcases ab with rfl|⟨rfl,rfl⟩
  ·exact aQ _ _ _ al (Rel.put f_ cO e9 g3 g4 ae)
  ·exact aQ _ _ _ al (Rel.put f_ cO e9 g3 g4 ae)
 |bad=>obtain⟨av,s1,he,_⟩:=hw;cases he
 |jQ f args u x=>
  obtain⟨aF,aJ,hw⟩:=hw
  rcases mh bx with J|J
  ·cases J
  ·refine x0 aV h J ae hw ?_ aQ
   rintro F S a8 aE w ar av s1 v fj ⟨er,gM,gN⟩ nU pg sA _
   have ud:=fj.b2 u
   rw[aF,au]at ud
   obtain⟨bK,a0,d_,eW,fA⟩:=ud (s x) (by simp only[I.sub]) (nd aJ).1
   simp only[b_,Option.some.injEq,Prod.mk.injEq,true_and]at d_
   have I9:∀y b,ei aE u (fun _=>False) y b→aE y b:=by
    intro y b J
    simp only[ei]at J
    split at J
    ·exact J.elim
    ·exact J
   exact⟨_,_,gN,pg.alias er gM (by rw[eW,←d_.1]) (((nd aJ).2.2.2.2.2 _).1 fA),sA.less I9 nU⟩
 |jR f args L=>
  obtain⟨aJ,hw⟩:=hw
  rcases mh bx with J|J
  ·cases J
  ·refine x0 aV h J ae hw ?_ aQ
   rintro F S a8 aE w ar av s1 v fj ⟨er,gN⟩ nU pg sA I_
   obtain⟨cx,g1,g2⟩:=pg.ng (ju s L) s1 aE (fun p ah=>by
    have ed:=(I7 ah).2
    have cn:=x2 aJ p ah
    have e8:=x2 er p ah
    refine⟨I6 cn,(I5 I_ _).1 _ _ (S p.1) (Nat.le_refl _) cn e8 ?_⟩
    have:=fj.b2 p.1
    rw[ed]at this
    exact this)
   exact⟨_,cx,gN,g1,sA.less g2 nU⟩
 |il T x=>
  obtain⟨av,s1,he,al⟩:=hw
  rcases mh bx with J|J
  ·cases J
  ·obtain⟨cE,lI,ai⟩:=I4 J
   obtain⟨f_,cO,e9,F,S,aC⟩:=h
   obtain⟨dst,op,ty,pos,after,guard⟩:=o
   simp only at lI ae al
   subst lI
   obtain⟨r,ar,v,a8,aE,aa,ab,aB,aP⟩:Next C w0 F0 X (fun t=>a.tmps.getD t undef) w (execOp a.eval ⟨dst,.box T cE,ty,pos,after,guard⟩) av s1:=(GS (T:=T) aC (dv aC (fun _=>rfl) ai).2 he).next
   unfold Oper.wp
   rw[aa]
   rcases ab with rfl|⟨rfl,rfl⟩
   ·exact aQ _ _ _ al (Rel.put f_ cO e9 aB aP ae)
   ·exact aQ _ _ _ al (Rel.put f_ cO e9 aB aP ae)
 |nb x=>
  obtain⟨av,s1,he,al⟩:=hw
  rcases mh bx with J|J
  ·cases J
  ·obtain⟨cE,lI,ai⟩:=IX J
   obtain⟨f_,cO,e9,F,S,aC⟩:=h
   obtain⟨dst,op,ty,pos,after,guard⟩:=o
   simp only at lI ae al
   subst lI
   simp only[aZ]at he
   obtain⟨g1,g2⟩:=dv aC (fun _=>rfl) ai
   obtain⟨r,ar,v,a8,aE,aa,ab,aB,aP⟩:Next C w0 F0 X (fun t=>a.tmps.getD t undef) w (execOp a.eval ⟨dst,.move cE,ty,pos,after,guard⟩) av s1:=by
    unfold l9 at he
    split at he
    ·rename_i y q hy
     rw[hy]at g1 g2
     obtain⟨bk,k0,bg,bw,Sn,cM,cc,c8,dj,fD,_⟩:=lq aC g1 g2 he
     exact⟨_,w,_,F,bk,rfl,.inl rfl,k0,.inr ⟨bg,bw,Sn,cM,cc,c8,dj,fD⟩⟩
    ·simp only[Option.some.injEq,Prod.mk.injEq]at he
     obtain⟨rfl,rfl⟩:=he
     exact⟨_,w,_,F,S,rfl,.inl rfl,aC,.inl ⟨g1,g2⟩⟩
   unfold Oper.wp
   rw[aa]
   rcases ab with rfl|⟨rfl,rfl⟩
   ·exact aQ _ _ _ al (Rel.put f_ cO e9 aB aP ae)
   ·exact aQ _ _ _ al (Rel.put f_ cO e9 aB aP ae)
 |n2 x=>
  obtain⟨av,s1,he,al⟩:=hw
  rcases mh bx with J|J
  ·cases J
  ·obtain⟨cE,lI,ai⟩:=IY J
   obtain⟨f_,cO,e9,F,S,aC⟩:=h
   obtain⟨dst,op,ty,pos,after,guard⟩:=o
   simp only at lI ae al
   subst lI
   simp only[aZ,Option.some.injEq,Prod.mk.injEq]at he
   obtain⟨rfl,rfl⟩:=he
   obtain⟨g1,g2⟩:=dv aC (fun _=>rfl) ai
   obtain⟨r,ar,v,a8,aE,aa,ab,aB,aP⟩:Next C w0 F0 X (fun t=>a.tmps.getD t undef) w (execOp a.eval ⟨dst,.assign cE,ty,pos,after,guard⟩) (az s x) s:=⟨_,w,_,F,S,rfl,.inl rfl,aC,.inl ⟨g1,g2⟩⟩
   unfold Oper.wp
   rw[aa]
   rcases ab with rfl|⟨rfl,rfl⟩
   ·exact aQ _ _ _ al (Rel.put f_ cO e9 aB aP ae)
   ·exact aQ _ _ _ al (Rel.put f_ cO e9 aB aP ae)
 |kS T a6 x y=>
  obtain⟨av,s1,he,al⟩:=hw
  rcases mh bx with J|J
  ·cases J
  ·obtain⟨cE,hP,lI,ai,hy⟩:=I0 J
   obtain⟨f_,cO,e9,F,S,aC⟩:=h
   simp only[aZ,Option.map_eq_some_iff,Prod.mk.injEq]at he
   obtain⟨d,eV,rfl,rfl⟩:=he
   obtain⟨v,ar,a8,aE,aa,ab,aB⟩:=HJ (ty:=o.type) aV aC (dv aC (fun _=>rfl) ai).2 (dv aC (fun _=>rfl) hy).2 eV
   have pf:execOp a.eval o=(do pure (.value (←Builtin.append_ #[T,a6] o.type #[a.eval cE,a.eval hP]))):=by
    obtain⟨dst,op,ty,pos,after,guard⟩:=o
    simp only at lI
    subst lI
    simp[execOp,resolve,invoke,builtin]
   unfold Oper.wp
   rw[pf]
   simp only[Sem.run_bind,aa,Result.andThen]
   exact aQ _ _ _ al (Rel.put f_ cO e9 ab aB ae)
 |_=>
  rcases mh bx with J|J
  ·cases J
  ·exact I2 aV h J ae hw aQ
end
end Go.bZ
