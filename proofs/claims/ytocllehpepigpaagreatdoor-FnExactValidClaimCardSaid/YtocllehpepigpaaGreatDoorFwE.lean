/- Part of a proof that a law returns true for every input. No condition. -/
import Derived.Test.YtocllehpepigpaaGreatDoorFwD
import Derived.Laws.Tables
namespace Go.cI
section
variable {C:bS} {w0 w:World} {F0 X F:Nat→Prop} {S:Nat→Nat→Prop} {s s1:an} {au:Nat→Value} {av:I}
theorem xm (z:List Value):∀n,(List.range (n*z.length)).map (fun i=>z[i%z.length]!)=(List.replicate n z).flatten
 |0=>by simp
 |n+1=>by
  rw[Nat.add_mul,Nat.one_mul,List.range_add,List.map_append,xm z n,List.replicate_succ',List.flatten_append]
  congr 1
  simp only[List.map_map,List.flatten_cons,List.flatten_nil,List.append_nil]
  apply List.ext_getElem
  ·simp
  ·intro i ad ag
   have ay:i<z.length:=ag
   simp[Nat.mod_eq_of_lt ay,ay]
theorem aW.replicate {d:I} {cs:List Value} (h:∀aG,ak w F d cs aG):∀n aG,aW w F (List.replicate n d) (List.replicate n cs).flatten aG
 |0,aG=>by simp only[List.replicate_zero,List.flatten_nil];rw[aW]
 |n+1,aG=>by
  rw[List.replicate_succ,List.replicate_succ,List.flatten_cons,aW]
  exact⟨cs,_,fun _=>False,fun _=>False,rfl,h _,aW.replicate h n _,fun _ h=>h.elim,fun _ h=>h.elim,fun _ h=>h.elim⟩
def dX (C:bS) (T:TypeId) (l c:I):Option I:=
 match(C.T T).k,l,c with
 | .slice e,.int .i64 n,.int .i64 m=>if n=m∧0≤n∧(C.T e).ok=true∧(C.T e).zero.wd=(C.T e).sz∧(flat (C.T e).zero).isSome=true∧(C.T e).sz≠0∧(C.T e).bytes*n≤140737488355328∧n≤9223372036854775807 then
   some (.aL (C.T e).sz (List.replicate n.toNat (C.T e).zero))else none
 |_,_,_=>none
theorem L_ (bc:C.en) (h:bw w0 F0 X F S s au w) {T:TypeId} {l c:I} {EX EY:Value} (aO:aB w F s au l EX (fun _=>False)) (aj:aB w F s au c EY (fun _=>False)) (he:dX C T l c=some av):
  Good C w0 F0 X au w (Instr.makeSlice T EX EY) av s:=by
 unfold dX at he
 split at he
 ·rename_i e n m ax
  have:=l_ aO;subst this
  have:=l_ aj;subst this
  obtain⟨A7,d,A8,aT,aX,aS,bQ,cp,bK,bH⟩:=bc.info (fh ax (by simp))
  rw[ax]at bH
  have:=kJ bH;subst this
  split at he
  ·rename_i q3
   obtain⟨rfl,aV,nW,oF,pc,dJ,EZ,p0⟩:=q3
   simp only[Option.some.injEq]at he;subst he
   obtain⟨i,A9,z,f1,f2,f3,f4,f5,f6,f7⟩:=bc.info nW
   obtain⟨ez,mb⟩:=Option.isSome_iff_exists.1 pc
   have pd:=f5 ez mb
   have gg:∀aG,ak w F (C.T e).zero ez aG:=fun aG=>(ak.flat _).1 _ ez aG (Nat.le_refl _) mb
   have nY:ez.length=(C.T e).sz:=by rw[ak.length _ _ _ (gg (fun _=>False)),oF]
   obtain⟨n,rfl⟩:=Int.eq_ofNat_of_zero_le aV
   simp only[Int.toNat_natCast]
   have sv:IntKind.i64.wrap (n:Int)=n:=by
    rw[IntKind.wrap_i64];omega
   have ss:∀k (w:World),(askRoom k).run C.P w= .ok () w:=by
    intro k w
    unfold askRoom
    split<;>rfl
   have nU:((Array.range (n*(C.T e).sz)).map (ez.toArray[·%ez.toArray.size]!)).toList=(List.replicate n ez).flatten:=by
    have:=xm ez n
    rw[nY]at this
    simpa [nY]using this
   have d_:¬(281474976710656<(i.bytes:Int)*n):=by
    rw[f3];omega
   have xn:¬((n:Int)<0):=by omega
   have run:(Instr.makeSlice T (.int .i64 n) (.int .i64 n)).run C.P w= .ok (.slice (some ⟨w.heap.size,0,none⟩) n n)
     (w.alloc (.cells (if n*(C.T e).sz=0 then(Array.range (n*(C.T e).sz)).map (fun _=>default)else(Array.range (n*(C.T e).sz)).map (ez.toArray[·%ez.toArray.size]!)) e)):=by
    by_cases bm:n*(C.T e).sz=0
    ·simp[Instr.makeSlice,run_underlying bK,asInt,asIntOf,qY f1,sv,d_,xn,ss,jR f1,f2,bm,newRow]
    ·simp only[bm,if_false]
     simp[Instr.makeSlice,run_underlying bK,asInt,asIntOf,qY f1,sv,d_,xn,ss,jR f1,f2,bm,newRow,qZ f1 f4,pd]
   have kF:(if n*(C.T e).sz=0 then(Array.range (n*(C.T e).sz)).map (fun _=>(default:Value))else(Array.range (n*(C.T e).sz)).map (ez.toArray[·%ez.toArray.size]!)).toList=(List.replicate n ez).flatten:=by
    split
    ·rename_i bm
     have:n=0:=by
      rcases Nat.mul_eq_zero.1 bm with h|h
      ·exact h
      ·exact(dJ h).elim
     subst this
     simp
    ·exact nU
   generalize re:(if n*(C.T e).sz=0 then(Array.range (n*(C.T e).sz)).map (fun _=>(default:Value))else(Array.range (n*(C.T e).sz)).map (ez.toArray[·%ez.toArray.size]!))=cur at run kF
   have iH:(List.replicate n ez).flatten.length=n*(C.T e).sz:=by simp[nY]
   have hs:cur.size=n*(C.T e).sz:=by
    have:cur.size=cur.toList.length:=by simp
    rw[this,kF,iH]
   have kr:=h.uK (aA:=w.alloc (.cells cur e)) (sz:=(C.T e).sz) (cap:=n) (xs:=List.replicate n (C.T e).zero) (cur:=cur) (e:=e) (fr:=(0,0)) (Sn:=fun _=>False) rfl rfl rfl ⟨rfl,fun _=>Nat.le_refl _⟩
    (fun o _ ⟨_,ag⟩=>absurd ag (Nat.not_lt_zero _)) (by simp) (by unfold maxLen;omega) hs (by intro d ah;rw[List.eq_of_mem_replicate ah];exact oF)
    (by rw[kF,List.length_replicate,List.take_of_length_le (by rw[iH];exact Nat.le_refl _)];exact aW.replicate gg n _) (fun _ h=>h.elim) (fun _ h=>h.elim) (fun _ _ h=>h.elim) (fun _ h=>h.elim)
   rw[List.length_replicate]at kr
   exact⟨_,_,F,S,run,kr.1,kr.2⟩
  ·cases he
 ·cases he
def ni (C:bS) (T bz:TypeId) (x y:I):Option I:=
 match(C.T T).k,(C.T bz).k,x,y with
 | .slice e,.int _,.bk,.int .i64 n=>if 0≤n∧(C.T e).ok=true∧(C.T e).zero.wd=(C.T e).sz∧(flat (C.T e).zero).isSome=true∧(C.T e).sz≠0∧(C.T e).bytes*n≤140737488355328∧n≤9223372036854775807 then
   some (.aL (C.T e).sz (List.replicate n.toNat (C.T e).zero))else none
 |_,_,_,_=>none
theorem Ma {P:Program} {T bz ty e:TypeId} {k:IntKind} {i:TypeInfo} {z:Value} (aY:P.underlying T=some (.slice e)) (hu:P.underlying bz=some (.int k)) (ay:P.info? e=some i) (bG:i.zero=some z)
  (n:Nat) (bm:n≠0) (aa:i.size≠0) (aV:n≤9223372036854775807) (U:n*i.bytes≤140737488355328):
  (Builtin.append_ #[T,bz] ty #[.slice none 0 0,.int .i64 n]).run P w= .ok (.slice (some ⟨w.heap.size,0,none⟩) n (grownCap w n 0 e))
   (w.drew.alloc (.cells (Builtin.zeroCells z.cells n++Builtin.zeroCells z.cells (grownCap w n 0 e-n)) e)):=by
 have sv:IntKind.i64.wrap (n:Int)=n:=by rw[IntKind.wrap_i64];omega
 have xn:¬((n:Int)<0):=by omega
 have hmul:(n:Int)*(i.bytes:Int)=((n*i.bytes:Nat):Int):=by simp
 have d_:¬(281474976710656<(n:Int)*(i.bytes:Int)):=by rw[hmul];omega
 have hE:¬(281474976710656<Builtin.nextslicecap n 0*i.bytes):=by
  have:Builtin.nextslicecap n 0=n:=by unfold Builtin.nextslicecap;rw[if_pos (by omega)]
  rw[this];omega
 have ss:∀k (w:World),(askRoom k).run P w= .ok () w:=by
  intro k w
  unfold askRoom
  split<;>rfl
 have A4:¬(9223372036854775807<(n:Int)):=by omega
 have Be:n*i.size≠0:=Nat.mul_ne_zero bm aa
 simp[Builtin.append_,run_underlying aY,run_underlying hu,jR ay,qY ay,asInt,asIntOf,sv,xn,d_,hE,bm,Question.forced,ss,A4,qZ ay bG,newRow,grownCap,Builtin.firstCells]
 intro hD;exact(Be hD).elim
theorem Mb (bc:C.en) (h:bw w0 F0 X F S s au w) {T bz ty:TypeId} {x y:I} {ht h6:Value} (ai:aB w F s au x ht (fun _=>False)) (hy:aB w F s au y h6 (fun _=>False)) (he:ni C T bz x y=some av):
  Good C w0 F0 X au w (Builtin.append_ #[T,bz] ty #[ht,h6]) av s:=by
 unfold ni at he
 split at he
 ·rename_i e alQ n ax E0
  have:=o_ ai;subst this
  have:=l_ hy;subst this
  obtain⟨A7,d,A8,aT,aX,aS,bQ,cp,bK,bH⟩:=bc.info (fh ax (by simp))
  rw[ax]at bH
  have:=kJ bH;subst this
  obtain⟨alR,alS,alT,sw,E1,alU,alV,alW,E2,E3⟩:=bc.info (fh E0 (by simp))
  rw[E0]at E3
  have:=uA E3;subst this
  split at he
  ·rename_i q3
   obtain⟨aV,nW,oF,pc,dJ,EZ,p0⟩:=q3
   simp only[Option.some.injEq]at he;subst he
   obtain⟨i,A9,z,f1,f2,f3,f4,f5,f6,f7⟩:=bc.info nW
   obtain⟨ez,mb⟩:=Option.isSome_iff_exists.1 pc
   have pd:=f5 ez mb
   have gg:∀aG,ak w F (C.T e).zero ez aG:=fun aG=>(ak.flat _).1 _ ez aG (Nat.le_refl _) mb
   have nY:ez.length=(C.T e).sz:=by rw[ak.length _ _ _ (gg (fun _=>False)),oF]
   obtain⟨n,rfl⟩:=Int.eq_ofNat_of_zero_le aV
   simp only[Int.toNat_natCast]
   by_cases bm:n=0
   ·subst bm
    have run:(Builtin.append_ #[T,bz] ty #[.slice none 0 0,.int .i64 ((0:Nat):Int)]).run C.P w= .ok (.slice none 0 0) w:=by
     have sv:IntKind.i64.wrap 0=0:=by decide
     simp[Builtin.append_,run_underlying bK,run_underlying E2,jR f1,qY f1,asInt,asIntOf,sv]
    exact⟨_,w,F,S,run,h,.inr ⟨rfl,rfl,fun _=>False,by simp only[bU,hp];rw[ak];exact .inl ⟨rfl,_,rfl⟩,fun _ h=>h.elim,fun _ h=>h.elim,fun _ _ h=>h.elim,fun _ h=>h.elim⟩⟩
   ·have run:=Ma (w:=w) (ty:=ty) bK E2 f1 f4 n bm (by rw[f2];exact dJ) (by omega) (by
     rw[f3]
     have:((C.T e).bytes:Int)*(n:Int)=(((C.T e).bytes*n:Nat):Int):=by simp
     rw[this]at EZ
     rw[Nat.mul_comm];omega)
    rw[pd]at run
    have uN:=grownCap_ge w n 0 e
    have uO:=grownCap_le_maxLen w n 0 e (by unfold maxLen;omega)
    have E4:∀m,(Builtin.zeroCells ez.toArray m).toList=(List.replicate m ez).flatten:=by
     intro m
     have:=xm ez m
     unfold Builtin.zeroCells
     simpa [nY]using this
    have iH:∀m,(List.replicate m ez).flatten.length=m*(C.T e).sz:=by intro m;simp[nY]
    generalize re:Builtin.zeroCells ez.toArray n++Builtin.zeroCells ez.toArray (grownCap w n 0 e-n)=cur at run
    have kF:cur.toList=(List.replicate n ez).flatten++(List.replicate (grownCap w n 0 e-n) ez).flatten:=by rw[←re,Array.toList_append,E4,E4]
    have hs:cur.size=grownCap w n 0 e*(C.T e).sz:=by
     have:cur.size=cur.toList.length:=by simp
     rw[this,kF,List.length_append,iH,iH,←Nat.add_mul]
     congr 1;omega
    have kr:=h.uK (aA:=w.drew.alloc (.cells cur e)) (sz:=(C.T e).sz) (cap:=grownCap w n 0 e) (xs:=List.replicate n (C.T e).zero) (cur:=cur) (e:=e) (fr:=(0,0)) (Sn:=fun _=>False) rfl rfl rfl ⟨rfl,fun _=>Nat.le_succ _⟩
     (fun o _ ⟨_,ag⟩=>absurd ag (Nat.not_lt_zero _)) (by simpa using uN) uO hs (by intro d ah;rw[List.eq_of_mem_replicate ah];exact oF)
     (by rw[kF,List.length_replicate,List.take_left' (iH n)];exact aW.replicate gg n _) (fun _ h=>h.elim) (fun _ h=>h.elim) (fun _ _ h=>h.elim) (fun _ h=>h.elim)
    rw[List.length_replicate]at kr
    exact⟨_,_,F,S,run,kr.1,kr.2⟩
  ·cases he
 ·cases he
def kc (s:an) (f:FuncId) (cs:List aC):Option I:=some (.fn f (cs.map (aE s)))
theorem xo {a:Act} (h:bw w0 F0 X F S s au w) (dF:∀t,au t=a.tmps.getD t undef):∀(os:List Operand) (xs:List aC),os.map db=xs.map some→dx w F s au (xs.map (aE s)) (os.map a.eval)
 |[],[],_=>by simp only[List.map_nil];rw[dx]
 |[],x::xs,h=>by simp at h
 |o::os,[],h=>by simp at h
 |o::os,x::xs,bb=>by
  simp only[List.map_cons,List.cons.injEq]at bb⊢
  rw[dx]
  exact⟨_,_,rfl,(eF h dF bb.1).2,xo h dF os xs bb.2⟩
theorem E5:∀(vs:List Value) (k off:Nat) (A:Array Value) (l m r:List Value),A.toList=l++(m++r)→l.length=off+k→m.length=vs.length→
  ((vs.zipIdx k).foldl (fun cs (x:Value×Nat)=>cs.setIfInBounds (off+x.2) x.1) A).toList=l++(vs++r)
 |[],k,off,A,l,m,r,jS,aO,hm=>by
  have:m=[]:=by simpa using hm
  subst this
  simpa using jS
 |v::vs,k,off,A,l,m,r,jS,aO,hm=>by
  obtain⟨x,m,rfl⟩:∃x jq,m=x::jq:=by
   cases m with
   |nil=>simp at hm
   |cons x m=>exact⟨x,m,rfl⟩
  rw[List.zipIdx_cons,List.foldl_cons]
  have:=E5 vs (k+1) off (A.setIfInBounds (off+k) v) (l++[v]) m r (by
   rw[Array.toList_setIfInBounds,jS,←aO,List.set_append_right _ _ (Nat.le_refl _)]
   simp) (by simp;omega) (by simpa using hm)
  simpa using this
def nj (os:List (Option Nat)) (a:I):I:=os.foldl (fun a o=>kq o a) a
def nk (place:Nat→Option (Nat×Nat)):an→List I→List (Option Nat)→List (Nat×I)→Option (List I×an)
 |s,fT,_,[]=>some (fT,s)
 |s,fT,os,(k,a)::r=>match ch s (nj os a),place k,fT[k]? with
  |some (d,s1),some (off,n),some z=>match d with
   | .tuple _=>none
   |d=>if d.wd=n∧z.wd=n∧I.dD (fT.take k)=off then nk place s1 (fT.set k d) (os++[(nj os a).owner]) r else none
  |_,_,_=>none
def gz (w:World) (F:Nat→Prop) (s:an) (au:Nat→Value):List (Nat×I)→List (Nat×Value)→Prop
 |[],[]=>True
 |(k,a)::r,(dj,v)::jr=>k=dj∧a.plain=true∧aB w F s au a v (fun _=>False)∧gz w F s au r jr
 |_,_=>False
theorem Mc (x:Nat):∀d:I,d.plain=true→(bR x d).plain=true
 | .h y q,_=>by simp only[bR];split<;>(try split)<;>rfl
 | .ao y q,_=>by simp only[bR];split<;>rfl
 | .U y q,_=>rfl
 | .fn f c,_=>by simp only[bR];rfl
 | .hole,h=>h
 | .bool _,h=>h
 | .et,h=>h
 | .int _ _,h=>h
 | .str _,h=>h
 | .cS,h=>h
 | .bk,h=>h
 | .slice _,h=>h
 | .aL _ _,h=>h
 | .ref _,h=>h
 | .bM _,h=>h
 | .agg _,h=>h
 | .tuple _,h=>h
theorem Md (o:Option Nat) (d:I) (h:d.plain=true):(kq o d).plain=true:=by
 cases o with
 |none=>exact h
 |some x=>exact Mc x d h
theorem gz.bR {w:World} {F:Nat→Prop} {s s1:an} {au:Nat→Value} {o:Option Nat} (ao:∀(bf:I) (fA:Value) (aG:Nat→Prop),aB w F s au bf fA aG→aB w F s1 au (kq o bf) fA aG):
  ∀(r:List (Nat×I)) (jr:List (Nat×Value)),gz w F s au r jr→gz w F s1 au (r.map fun p=>(p.1,kq o p.2)) jr
 |[],[],_=>trivial
 |(k,a)::r,(dj,v)::jr,h=>by
  obtain⟨ad,ag,aF,a8⟩:=h
  exact⟨ad,Md _ _ ag,ao _ _ _ aF,gz.bR ao r jr a8⟩
 |[],_::_,h=>h.elim
 |_::_,[],h=>h.elim
theorem Bf {place:Nat→Option (Nat×Nat)}:∀(ps:List (Nat×I)) (vs:List (Nat×Value)) (os:List (Option Nat)) (s:an) (S:Nat→Nat→Prop) (fT:List I) (A:Array Value) (hc:Nat→Prop),
  bw w0 F0 X F S s au w→gz w F s au (ps.map fun p=>(p.1,nj os p.2)) vs→aW w F fT A.toList hc→(∀b,hc b→b<w.heap.size)→(∀b,hc b→¬F b)→(∀u b,hc b→¬S u b)→(∀b,hc b→X b∨w0.heap.size≤b)→
  ∀ds s1,nk place s fT os ps=some (ds,s1)→∃lK bN gm,Instr.fill place A vs=some lK∧bw w0 F0 X F bN s1 au w∧aW w F ds lK.toList gm∧(∀b,gm b→b<w.heap.size)∧(∀b,gm b→¬F b)∧(∀u b,gm b→¬bN u b)∧
   (∀b,gm b→X b∨w0.heap.size≤b)∧ds.length=fT.length∧I.dD ds=I.dD fT∧(∀n,(∀d∈fT,d.wd=n)→∀d∈ds,d.wd=n)
 |[],[],os,s,S,fT,A,hc,h,_,ad,ag,aF,a8,bF,ds,s1,he=>by
  simp only[nk,Option.some.injEq,Prod.mk.injEq]at he
  obtain⟨rfl,rfl⟩:=he
  exact⟨A,S,hc,rfl,h,ad,ag,aF,a8,bF,rfl,rfl,fun _ h=>h⟩
 |(k,a)::ps,(dj,v)::vs,os,s,S,fT,A,hc,h,ao,ad,ag,aF,a8,bF,ds,s1,he=>by
  obtain⟨rfl,ks,nQ,uR⟩:=ao
  simp only[nk]at he
  split at he
  ·rename_i d uS off n z aY gT bG
   have key:∀d:I,(∀aq,d≠.tuple aq)→ch s (nj os a)=some (d,uS)→(if d.wd=n∧z.wd=n∧I.dD (fT.take k)=off then nk place uS (fT.set k d) (os++[(nj os a).owner]) ps else none)=some (ds,s1)→
     ∃lK bN gm,Instr.fill place A ((k,v)::vs)=some lK∧bw w0 F0 X F bN s1 au w∧aW w F ds lK.toList gm∧(∀b,gm b→b<w.heap.size)∧(∀b,gm b→¬F b)∧(∀u b,gm b→¬bN u b)∧
     (∀b,gm b→X b∨w0.heap.size≤b)∧ds.length=fT.length∧I.dD ds=I.dD fT∧(∀n,(∀d∈fT,d.wd=n)→∀d∈ds,d.wd=n):=by
    intro d o8 aY he
    split at he
    ·rename_i aj
     obtain⟨xp,q0,E6⟩:=aj
     obtain⟨bN,g0,g1,g2,Sn,g3,g4,g5,g6,g7,g8,g9,g10⟩:=nR h ks nQ aY
     obtain⟨b5,fe,c2,Sx,ho,jS,hd,fg,gM,hP,fz,lB⟩:=aW.pick fT _ _ k z ad bG
     have nU:=uD g2 o8
     have mJ:=ak.length _ _ _ g3
     have E7:=ak.length _ _ _ fz
     have pX:=lB w d (bU v) Sn (fun _ _=>rfl) (fun _ _=>rfl) g3 (fun b Me Mf=>by obtain⟨u,hu⟩:=g9 b Me;exact a8 u b (fg b Mf) hu)
     have E8:=E5 (bU v) 0 off A b5 fe c2 jS (by rw[hd,E6];rfl) (by rw[E7,mJ,xp,q0])
     generalize Mg:((bU v).zipIdx 0).foldl (fun cs (x:Value×Nat)=>cs.setIfInBounds (off+x.2) x.1) A=xb at E8
     obtain⟨lK,dc,gm,m1,m2,m3,m4,m5,m6,m7,m8,m9,m10⟩:=Bf (place:=place) ps vs (os++[(nj os a).owner]) uS bN (fT.set k d) xb (fun b=>Sx b∨Sn b) g0 (by have:=gz.bR g10 _ _ uR;simpa [nj,List.foldl_append,Function.comp_def]using this) (by rw[E8];exact pX)
      (by rintro b (U|U);exact ag b (fg b U);exact g4 b U) (by rintro b (U|U);exact aF b (fg b U);exact g5 b U)
      (by rintro u b (U|U);exact fun hu=>a8 u b (fg b U) (g8 u b hu);exact g6 u b U) (by rintro b (U|U);exact bF b (fg b U);exact g7 b U) ds s1 he
     refine⟨lK,dc,gm,?_,m2,m3,m4,m5,m6,m7,by rw[m8];simp,by rw[m9];exact An _ _ _ _ bG (by rw[xp,q0]),?_⟩
     ·have Bg:off+n≤A.size:=by
       have:A.size=A.toList.length:=by simp
       rw[this,jS];simp[hd,E6,E7,q0]
      simp only[Instr.fill,gT,nU,List.size_toArray,mJ,xp]
      have ko:¬(n≠n∨A.size<off+n):=by omega
      have Mh:(bU v).toArray.zipIdx.foldl (fun cs (x:Value×Nat)=>cs.setIfInBounds (off+x.2) x.1) A=xb:=by
       rw[←Mg,←Array.foldl_toList];simp
      simp only[ne_eq,not_true_eq_false,decide_false,Bool.false_or,decide_eq_true_eq,gt_iff_lt]
      rw[if_neg (by simp;omega)]
      rw[show(bU v).toArray.zipIdx.foldl (fun cs x=>match x with|(c,j)=>cs.setIfInBounds (off+j) c) A=xb from Mh]
      exact m1
     ·intro p5 lf
      refine m10 p5 (Ao lf ?_)
      rw[xp,←q0];exact lf z (List.mem_of_getElem? bG)
    ·cases he
   split at he
   ·cases he
   ·rename_i o8
    exact key _ (fun aq e=>o8 aq e) aY he
  ·cases he
 |[],_::_,_,_,_,_,_,_,_,ao,_,_,_,_,_,_,_,_=>ao.elim
 |_::_,[],_,_,_,_,_,_,_,ao,_,_,_,_,_,_,_,_=>ao.elim
def fE (C:bS) (s:an) (T:TypeId) (ps:List (Nat×I)):Option (I×an):=
 match(C.T T).k,(C.T T).zero with
 | .struct aq,.agg fT=>if(flat (.agg fT)).isSome=true∧(∀f∈aq,(C.T f.1).ok=true)then
   (match nk (fun k=>(aq[k]?).map fun f=>(f.2,(C.T f.1).sz)) s fT [] ps with
   |some (ds,s1)=>some (.agg ds,s1)
   |none=>none)else none
 |_,_=>none
def dT (C:bS) (s:an) (T:TypeId) (n:Nat) (ps:List (Nat×I)):Option (I×an):=
 match(C.T T).k with
 | .slice e=>if(C.T e).ok=true∧(C.T e).zero.wd=(C.T e).sz∧(flat (C.T e).zero).isSome=true∧(C.T e).sz≠0∧n*(C.T e).sz≤16777216 then
   (match nk (fun k=>some (k*(C.T e).sz,(C.T e).sz)) s (List.replicate n (C.T e).zero) [] ps with
   |some (ds,s1)=>some (.aL (C.T e).sz ds,s1)
   |none=>none)else none
 |_=>none
theorem Mi (bc:C.en):∀(gs:List Field),(∀g∈gs,(C.T g.type).ok=true)→
  gs.mapM (fun f=>(C.P.info? f.type).map fun i=>(f.offset,i.size))=some (gs.map fun g=>(g.offset,(C.T g.type).sz)):=by
 intro gs
 induction gs with
 |nil=>intro _;simp
 |cons g gs ih=>
  intro hg
  obtain⟨i,d,z,f1,f2,f3,f4,f5,f6,f7⟩:=bc.info (hg g (by simp))
  have:=ih (fun g gN=>hg g (by simp[gN]))
  simp[List.mapM_cons,f1,f2,this]
theorem Mj (bc:C.en) (h:bw w0 F0 X F S s au w) {T:TypeId} {ps:List (Nat×I)} {vs:List (Nat×Value)} (ao:gz w F s au ps vs) (he:fE C s T ps=some (av,s1)):
  Good C w0 F0 X au w (Instr.build T vs.toArray) av s1:=by
 unfold fE at he
 split at he
 ·rename_i aq fT ax bG
  split at he
  ·rename_i aj
   obtain⟨pc,Mk⟩:=aj
   split at he
   ·rename_i ds s2 iH
    simp only[Option.some.injEq,Prod.mk.injEq]at he
    obtain⟨rfl,rfl⟩:=he
    obtain⟨i,d,z,aT,aX,aS,bQ,cp,bK,bH⟩:=bc.info (fh ax (by simp))
    rw[ax]at bH
    obtain⟨gs,rfl,E9⟩:=uz bH
    obtain⟨ez,mb⟩:=Option.isSome_iff_exists.1 pc
    have pd:=cp ez (by rw[bG];exact mb)
    have gg:aW w F fT ez.toArray.toList (fun _=>False):=by
     have:=(ak.flat (w:=w) (F:=F) _).1 (.agg fT) ez (fun _=>False) (Nat.le_refl _) mb
     rw[ak]at this
     simpa using this
    have dY:gz w F s au (ps.map fun p=>(p.1,nj [] p.2)) vs:=by simpa [nj]using ao
    obtain⟨lK,bN,gm,m1,m2,m3,m4,m5,m6,m7,m8,m9,m10⟩:=Bf ps vs [] s S fT ez.toArray (fun _=>False) h dY gg (fun _ h=>h.elim) (fun _ h=>h.elim) (fun _ _ h=>h.elim) (fun _ h=>h.elim) ds s2 iH
    have gT:=Mi bc gs.toList (fun g hg=>Mk (g.type,g.offset) (by rw[←E9];exact List.mem_map_of_mem hg))
    have Ml:(fun(k:Nat)=>(aq[k]?).map fun(f:TypeId×Nat)=>(f.2,(C.T f.1).sz))=fun(k:Nat)=>((gs.toList.map fun g=>(g.offset,(C.T g.type).sz)).toArray)[k]? :=by
     funext k
     rw[←E9]
     simp only[List.getElem?_map,List.getElem?_toArray,Option.map_map]
     rfl
    rw[Ml]at m1
    refine⟨.agg lK,w,F,bN,run_build w T vs.toArray lK ?_,m2,.inr ⟨rfl,⟨_,rfl⟩,gm,by simp only[bU,hp];rw[ak];exact m3,m4,m5,m6,m7⟩⟩
    unfold Program.built
    simp only[aT,bK,bQ,gT,pd]
    exact m1
   ·cases he
  ·cases he
 ·cases he
theorem Mm (bc:C.en) (h:bw w0 F0 X F S s au w) {T:TypeId} {n:Nat} {ps:List (Nat×I)} {vs:List (Nat×Value)} (ao:gz w F s au ps vs) (he:dT C s T n ps=some (av,s1)):
  Good C w0 F0 X au w (Instr.buildSlice T n vs.toArray) av s1:=by
 unfold dT at he
 split at he
 ·rename_i e ax
  split at he
  ·rename_i aj
   obtain⟨nW,oF,pc,dJ,alX⟩:=aj
   split at he
   ·rename_i ds s2 iH
    simp only[Option.some.injEq,Prod.mk.injEq]at he
    obtain⟨rfl,rfl⟩:=he
    obtain⟨A7,d,A8,aT,aX,aS,bQ,cp,bK,bH⟩:=bc.info (fh ax (by simp))
    rw[ax]at bH
    have:=kJ bH;subst this
    obtain⟨i,A9,z,f1,f2,f3,f4,f5,f6,f7⟩:=bc.info nW
    obtain⟨ez,mb⟩:=Option.isSome_iff_exists.1 pc
    have pd:=f5 ez mb
    have gg:∀aG,ak w F (C.T e).zero ez aG:=fun aG=>(ak.flat _).1 _ ez aG (Nat.le_refl _) mb
    have nY:ez.length=(C.T e).sz:=by rw[ak.length _ _ _ (gg (fun _=>False)),oF]
    generalize jS:((Array.range (n*(C.T e).sz)).map ((if n*(C.T e).sz=0 then #[]else ez.toArray)[·%(if n*(C.T e).sz=0 then(#[]:Array Value)else ez.toArray).size]!))=A
    have Bg:A.toList=(List.replicate n ez).flatten:=by
     rw[←jS]
     by_cases bm:n*(C.T e).sz=0
     ·have:n=0:=by
       rcases Nat.mul_eq_zero.1 bm with h|h
       ·exact h
       ·exact(dJ h).elim
      subst this
      simp
     ·simp only[bm,if_false]
      have:=xm ez n
      rw[nY]at this
      simpa [nY]using this
    have dY:gz w F s au (ps.map fun p=>(p.1,nj [] p.2)) vs:=by simpa [nj]using ao
    obtain⟨lK,bN,gm,m1,m2,m3,m4,m5,m6,m7,m8,m9,m10⟩:=Bf ps vs [] s S (List.replicate n (C.T e).zero) A (fun _=>False) h dY (by rw[Bg];exact aW.replicate gg n _) (fun _ h=>h.elim) (fun _ h=>h.elim) (fun _ _ h=>h.elim) (fun _ h=>h.elim) ds s2 iH
    have hlen:ds.length=n:=by rw[m8];simp
    have E_:=m10 (C.T e).sz (by intro d ah;rw[List.eq_of_mem_replicate ah];exact oF)
    have Mn:lK.toList.length=n*(C.T e).sz:=by rw[aW.q9 m3 E_,hlen]
    have Mo:lK.size=n*(C.T e).sz:=by rw[←Mn];simp
    have alY:n≤16777216:=by
     have:n*1≤n*(C.T e).sz:=Nat.mul_le_mul_left _ (by omega)
     omega
    have kr:=m2.uK (aA:=w.alloc (.cells lK e)) (sz:=(C.T e).sz) (cap:=n) (xs:=ds) (cur:=lK) (e:=e) (fr:=(0,0)) (Sn:=gm) rfl rfl rfl ⟨rfl,fun _=>Nat.le_refl _⟩
     (fun o _ ⟨_,ag⟩=>absurd ag (Nat.not_lt_zero _)) (by omega) (by unfold maxLen;omega) Mo E_ (by rw[hlen,List.take_of_length_le (by omega)];exact m3) m4 m5 m6 m7
    rw[hlen]at kr
    refine⟨_,_,F,bN,?_,kr.1,kr.2⟩
    by_cases bm:n*(C.T e).sz=0
    ·simp only[bm,if_true]at jS
     have sx:(Array.map (fun _=>(default:Value)) (Array.range 0))=A:=by
      have:n=0:=by
       rcases Nat.mul_eq_zero.1 bm with h|h
       ·exact h
       ·exact(dJ h).elim
      apply Array.ext'
      rw[Bg,this]
      simp
     simp[Instr.buildSlice,run_underlying bK,jR f1,f2,bm,newRow]
     rw[sx,m1]
     simp
    ·simp only[bm,if_false]at jS
     have ko:¬(16777216<n*(C.T e).sz):=by omega
     simp[Instr.buildSlice,run_underlying bK,jR f1,f2,bm,ko,qZ f1 f4,pd,newRow]
     have sx:(Array.map (fun x=>ez[x%ez.length]?.getD default) (Array.range (n*(C.T e).sz)))=A:=by
      rw[←jS];simp
     rw[sx,m1]
     simp
   ·cases he
  ·cases he
 ·cases he
end
inductive fj where
 |bg (x:aC)
 |fk (x:aC)
 |pick (c a b:aC)
 |gU (T:TypeId)
 |cQ (T:TypeId) (x:aC)
 |fE (T:TypeId) (ps:List (Nat×aC))
 |dT (T:TypeId) (n:Nat) (ps:List (Nat×aC))
 |bY (T:TypeId) (x:aC)
 |gd (T:TypeId) (x y:aC)
 |eo (x:aC)
 |bx (op:BinOp) (T:TypeId) (x y:aC)
 |un (op:UnOp) (x:aC)
 |gr (A B:TypeId) (x:aC)
 |kc (f:FuncId) (cs:List aC)
 |dX (T:TypeId) (l c:aC)
 |dh (T:TypeId) (x:aC) (cJ ay:Option aC)
 |cH (T:TypeId) (x:aC) (k:Nat)
 |dO (T:TypeId) (x i:aC)
 |idx (T:TypeId) (x i:aC)
 |ex (x:aC) (k:Nat)
 |lF (T:TypeId) (x:aC) (k:Nat)
 |call (f:aC) (args:List aC)
 |len (T:TypeId) (x:aC)
 |app (T bz:TypeId) (x y:aC)
 |shr (bA:fj)
 |ni (T bz:TypeId) (x y:aC)
 |cap (T:TypeId) (x:aC)
 |h_ (el:Bool) (x y:aC)
 |bad
 |me (f:aC) (args:List aC) (u x:Nat)
 |mf (f:aC) (args:List aC) (us:List Nat)
 |kM (T:TypeId) (x:aC)
 |p6 (x:aC)
 |pe (x:aC)
 |uT
 |nh (T:TypeId) (x i:aC)
 |mc (T:TypeId) (x i v:aC)
def fj.base:fj→fj
 | .shr bA=>bA
 | .ni T bz x y=>.app T bz x y
 | .me f args _ _=>.call f args
 | .mf f args _=>.call f args
 | .kM T x=>.cQ T x
 | .p6 x=>.fk x
 | .pe x=>.bg x
 |bA=>bA
def sy:List Operand→Option (List aC)
 |[]=>some []
 |o::os=>match db o,sy os with
  |some x,some xs=>some (x::xs)
  |_,_=>none
def sA:List (Nat×Operand)→Option (List (Nat×aC))
 |[]=>some []
 |(k,o)::os=>match db o,sA os with
  |some x,some xs=>some ((k,x)::xs)
  |_,_=>none
def uU:Option Operand→Option (Option aC)
 |none=>some none
 |some o=>(db o).map some
def cE:Op→Option fj
 | .move x=>(db x).map .bg
 | .assign x=>(db x).map .fk
 | .pick c a b=>match db c,db a,db b with
   |some c,some a,some b=>some (.pick c a b)
   |_,_,_=>none
 | .alloc T=>some (.gU T)
 | .box T x=>(db x).map (.cQ T)
 | .build T ps=>(sA ps.toList).map (.fE T)
 | .buildSlice T n ps=>(sA ps.toList).map (.dT T n)
 | .load T x=>(db x).map (.bY T)
 | .store T x y=>match db x,db y with
   |some x,some y=>some (.gd T x y)
   |_,_=>none
 | .nilCheck x=>(db x).map .eo
 | .binOp op T x y _=>match db x,db y with
   |some x,some y=>some (.bx op T x y)
   |_,_=>none
 | .unOp op _ x=>(db x).map (.un op)
 | .convert A B x=>(db x).map (.gr A B)
 | .makeFunc (.func f) first cs=>if first.isEmpty then(sy cs.toList).map (.kc f)else none
 | .makeSlice T l c=>match db l,db c with
   |some l,some c=>some (.dX T l c)
   |_,_=>none
 | .slice T x cJ ay none=>match db x,uU cJ,uU ay with
   |some x,some cJ,some ay=>some (.dh T x cJ ay)
   |_,_,_=>none
 | .fieldAddr T x k=>(db x).map fun x=>.cH T x k
 | .indexAddr T x i=>match db x,db i with
   |some x,some i=>some (.dO T x i)
   |_,_=>none
 | .index T x i=>match db x,db i with
   |some x,some i=>some (.idx T x i)
   |_,_=>none
 | .extract x k=>(db x).map fun x=>.ex x k
 | .field T x k=>(db x).map fun x=>.lF T x k
 | .makeMap _ none=>some .uT
 | .lookup T x i false=>match db x,db i with
   |some x,some i=>some (.nh T x i)
   |_,_=>none
 | .mapUpdate T x i v=>match db x,db i,db v with
   |some x,some i,some v=>some (.mc T x i v)
   |_,_,_=>none
 | .call c=>match c.callee with
   | .value f=>match db f,sy c.args.toList with
     |some f,some xs=>some (.call f xs)
     |_,_=>none
   | .builtin .len=>match c.args.toList,c.argTypes.toList with
     |[x],[T]=>(db x).map (.len T)
     |_,_=>none
   | .builtin .cap=>match c.args.toList,c.argTypes.toList with
     |[x],[T]=>(db x).map (.cap T)
     |_,_=>none
   | .builtin .min=>match c.args.toList with
     |[x,y]=>match db x,db y with
      |some x,some y=>some (.h_ false x y)
      |_,_=>none
     |_=>none
   | .builtin .max=>match c.args.toList with
     |[x,y]=>match db x,db y with
      |some x,some y=>some (.h_ true x y)
      |_,_=>none
     |_=>none
   | .builtin .append=>match c.args.toList,c.argTypes.toList with
     |[x,y],[T,bz]=>match db x,db y with
      |some x,some y=>some (.app T bz x y)
      |_,_=>none
     |_,_=>none
   |_=>none
 |_=>none
def h_ (el:Bool):I→I→Option I
 | .str a,.str b=>some (.str (wZ el a b))
 | .int k a,.int dj b=>if k=dj then some (.int k (h3 el a b))else none
 |_,_=>none
def oH (s:an):I→Option (I×an)
 | .h y q=>ch s (.h y q)
 |d=>some (d,s)
def bq (C:bS) (s:an):fj→Option (I×an)
 | .bg x=>some (aE s x,s)
 | .fk x=>match aE s x with
   | .h y q=>ch s (.h y q)
   |d=>some (d,s)
 | .pick c a b=>match aE s c with
   | .bool e8=>some (if e8 then aE s a else aE s b,s)
   |_=>none
 | .gU T=>(gU C T).map fun d=>(d,s)
 | .cQ _ x=>cQ s (aE s x)
 | .fE T ps=>fE C s T (ps.map fun p=>(p.1,aE s p.2))
 | .dT T n ps=>dT C s T n (ps.map fun p=>(p.1,aE s p.2))
 | .bY T x=>(bY C s T (aE s x)).map fun d=>(d,s)
 | .gd T x y=>(gd C s T (aE s x) (aE s y)).map fun s1=>(.hole,s1)
 | .eo x=>(eo s (aE s x)).map fun d=>(d,s)
 | .bx op T x y=>(bx C s op T (aE s x) (aE s y)).map fun d=>(d,s)
 | .un op x=>(un op (aE s x)).map fun d=>(d,s)
 | .gr A B x=>(gr C s A B (aE s x)).map fun d=>(d,s)
 | .kc f cs=>some (.fn f (cs.map (aE s)),s)
 | .dX T l c=>(dX C T (aE s l) (aE s c)).map fun d=>(d,s)
 | .dh T x cJ ay=>dh C s T (aE s x) (cJ.map (aE s)) (ay.map (aE s))
 | .cH T x k=>(cH C s T (aE s x) k).map fun d=>(d,s)
 | .dO T x i=>(dO C s T (aE s x) (aE s i)).map fun d=>(d,s)
 | .idx T x i=>(idx C T (aE s x) (aE s i)).map fun d=>(d,s)
 | .ex x k=>(ex s (aE s x) k).map fun d=>(d,s)
 | .lF T x k=>(lF C s T (aE s x) k).bind (oH s)
 | .call _ _=>none
 | .len T x=>(lG C s T (aE s x)).map fun d=>(d,s)
 | .app T bz x y=>lI C s T bz (aE s x) (aE s y)
 | .shr _=>none
 | .me _ _ _ _=>none
 | .mf _ _ _=>none
 | .kM _ x=>kM s (aE s x)
 | .p6 x=>some (aE s x,s)
 | .pe x=>oH s (aE s x)
 | .uT=>some (.dq (.mp []),s)
 | .nh T x i=>(nh C s T (aE s x) (aE s i)).map fun d=>(d,s)
 | .mc T x i v=>(mc C s T (aE s x) (aE s i) (aE s v)).map fun s1=>(.hole,s1)
 | .ni T bz x y=>(ni C T bz (aE s x) (aE s y)).map fun d=>(d,s)
 | .cap T x=>match(C.T T).k,aE s x with
   | .slice _,.bk=>some (.int .i64 0,s)
   |_,_=>none
 | .h_ el x y=>(h_ el (aE s x) (aE s y)).map fun d=>(d,s)
 | .bad=>none
section
variable {C:bS} {w0 w:World} {F0 X F:Nat→Prop} {S:Nat→Nat→Prop} {s s1:an} {a:Act} {av:I}
theorem rf:∀{os:List Operand} {xs:List aC},sy os=some xs→os.map db=xs.map some
 |[],xs,h=>by simp[sy]at h;subst h;rfl
 |o::os,xs,h=>by
  simp only[sy]at h
  split at h
  ·rename_i x Mp ad ag
   simp at h;subst h
   simp[ad,rf ag]
  ·cases h
theorem Bh {au:Nat→Value} (h:bw w0 F0 X F S s au w) (dF:∀t,au t=a.tmps.getD t undef):∀{ps:List (Nat×Operand)} {xs:List (Nat×aC)},sA ps=some xs→
  gz w F s au (xs.map fun p=>(p.1,aE s p.2)) (ps.map fun p=>(p.1,a.eval p.2))
 |[],xs,h=>by simp[sA]at h;subst h;trivial
 |(k,o)::ps,xs,bb=>by
  simp only[sA]at bb
  split at bb
  ·rename_i x Mp ad ag
   simp at bb;subst bb
   obtain⟨g1,g2⟩:=eF h dF ad
   exact⟨rfl,g1,g2,Bh h dF ag⟩
  ·cases bb
def Next (C:bS) (w0:World) (F0 X:Nat→Prop) (au:Nat→Value) (w:World) (m:Sem Go.Next) (av:I) (s1:an):Prop:=
 ∃r aA v bC aG,m.run C.P w= .ok r aA∧(r= .value v∨r= .skip∧v=undef)∧bw w0 F0 X bC aG s1 au aA∧kI w0 X bC aG s1 au aA av v
theorem Good.next {au:Nat→Value} {m:Sem Value} (h:Good C w0 F0 X au w m av s1):Next C w0 F0 X au w (do pure (.value (←m))) av s1:=by
 obtain⟨v,aA,bC,aG,ad,ag,aF⟩:=h
 exact⟨.value v,aA,v,bC,aG,by simp[ad],.inl rfl,ag,aF⟩
theorem Fa {au:Nat→Value} (h:bw w0 F0 X F S s au w) {el:Bool} {x y:I} {ht h6:Value} {m:Sem Go.Next} (ad:aB w F s au x ht (fun _=>False)) (ag:aB w F s au y h6 (fun _=>False))
  (he:(h_ el x y).map (fun d=>(d,s))=some (av,s1)) (hm:m=(do pure (.value (←if el then Builtin.max2 ht h6 else Builtin.min2 ht h6)))):Next C w0 F0 X au w m av s1:=by
 simp only[Option.map_eq_some_iff,Prod.mk.injEq]at he
 obtain⟨d,ah,rfl,rfl⟩:=he
 unfold h_ at ah
 split at ah
 ·rename_i a b
  simp only[Option.some.injEq]at ah;subst ah
  have aT:=lE ad
  have aX:=lE ag
  subst aT aX
  subst hm
  refine⟨.value (.string ⟨⟨wZ el a b⟩⟩),w,_,F,S,?_,.inl rfl,h,.inl ⟨rfl,nV _⟩⟩
  cases el
  ·simp only[Builtin.min2,Op.stringOp,uF,wZ,Bool.false_eq_true,if_false]
   cases U:(Op.bytesLess a b||a==b)<;>simp[asBool]
  ·simp only[Builtin.max2,Op.stringOp,uF,wZ,if_true]
   cases U:Op.bytesLess a b<;>simp[asBool]
 ·rename_i k a dj b
  split at ah
  ·rename_i ax
   subst ax
   simp only[Option.some.injEq]at ah;subst ah
   have aT:=l_ ad
   have aX:=l_ ag
   subst aT aX
   subst hm
   refine⟨.value (.int k (h3 el a b)),w,_,F,S,?_,.inl rfl,h,.inl ⟨rfl,of_int _ _⟩⟩
   cases el<;>simp[Builtin.min2,Builtin.max2,h3]
  ·cases ah
 ·cases ah
theorem Fb (bc:C.en) {au:Nat→Value} (h:bw w0 F0 X F S s au w) (dF:∀t,au t=a.tmps.getD t undef) {o:Oper} {bA:fj} (aa:cE o.op=some bA) (he:bq C s bA=some (av,s1)):
  Next C w0 F0 X au w (execOp a.eval o) av s1:=by
 obtain⟨dst,op,ty,pos,after,guard⟩:=o
 simp only at aa
 cases op with
 |move x=>
  simp only[cE,Option.map_eq_some_iff]at aa
  obtain⟨dv,ai,rfl⟩:=aa
  obtain⟨g1,g2⟩:=eF h dF ai
  simp only[bq,Option.some.injEq,Prod.mk.injEq]at he
  obtain⟨rfl,rfl⟩:=he
  exact⟨_,w,_,F,S,rfl,.inl rfl,h,.inl ⟨g1,g2⟩⟩
 |assign x=>
  simp only[cE,Option.map_eq_some_iff]at aa
  obtain⟨dv,ai,rfl⟩:=aa
  obtain⟨g1,g2⟩:=eF h dF ai
  simp only[bq]at he
  split at he
  ·rename_i y q hy
   rw[hy]at g1 g2
   obtain⟨bN,k0,bV,b7,Sn,eh,dd,eO,ey,h9,_⟩:=nR h g1 g2 he
   exact⟨_,w,_,F,bN,rfl,.inl rfl,k0,.inr ⟨bV,b7,Sn,eh,dd,eO,ey,h9⟩⟩
  ·simp only[Option.some.injEq,Prod.mk.injEq]at he
   obtain⟨rfl,rfl⟩:=he
   exact⟨_,w,_,F,S,rfl,.inl rfl,h,.inl ⟨g1,g2⟩⟩
 |pick c x y=>
  simp only[cE]at aa
  split at aa
  ·rename_i Bi dv kp aj ai hy
   simp only[Option.some.injEq]at aa;subst aa
   simp only[bq]at he
   split at he
   ·rename_i b U
    simp only[Option.some.injEq,Prod.mk.injEq]at he
    obtain⟨rfl,rfl⟩:=he
    have re:=(eF h dF aj).2
    rw[U]at re
    have re:=pY re
    obtain⟨ar,aD⟩:=eF h dF ai
    obtain⟨fB,hx⟩:=eF h dF hy
    refine⟨.value (if b then a.eval x else a.eval y),w,_,F,S,?_,.inl rfl,h,.inl ?_⟩
    ·simp[execOp,re,asBool]
    ·cases b
     ·exact⟨fB,hx⟩
     ·exact⟨ar,aD⟩
   ·cases he
  ·cases aa
 |alloc T=>
  simp only[cE,Option.some.injEq]at aa;subst aa
  simp only[bq,Option.map_eq_some_iff,Prod.mk.injEq]at he
  obtain⟨d,ah,rfl,rfl⟩:=he
  exact(Lh bc h ah).next
 |box T x=>
  simp only[cE,Option.map_eq_some_iff]at aa
  obtain⟨dv,ai,rfl⟩:=aa
  obtain⟨g1,g2⟩:=eF h dF ai
  exact(Ll h g1 g2 he).next
 |build T ps=>
  simp only[cE,Option.map_eq_some_iff]at aa
  obtain⟨Mq,ao,rfl⟩:=aa
  obtain⟨ps⟩:=ps
  have:=(Mj bc h (Bh h dF ao) he).next
  simpa [execOp]using this
 |buildSlice T n ps=>
  simp only[cE,Option.map_eq_some_iff]at aa
  obtain⟨Mq,ao,rfl⟩:=aa
  obtain⟨ps⟩:=ps
  have:=(Mm bc h (Bh h dF ao) he).next
  simpa [execOp]using this
 |load T x=>
  simp only[cE,Option.map_eq_some_iff]at aa
  obtain⟨dv,ai,rfl⟩:=aa
  obtain⟨g1,g2⟩:=eF h dF ai
  simp only[bq,Option.map_eq_some_iff,Prod.mk.injEq]at he
  obtain⟨d,ah,rfl,rfl⟩:=he
  exact(Lc bc h g2 ah).next
 |store T x y=>
  simp only[cE]at aa
  split at aa
  ·rename_i dv kp ai hy
   simp only[Option.some.injEq]at aa;subst aa
   simp only[bq,Option.map_eq_some_iff,Prod.mk.injEq]at he
   obtain⟨s2,ah,rfl,rfl⟩:=he
   obtain⟨aA,aG,ad,ag⟩:=Lf bc h (eF h dF ai).2 (eF h dF hy).1 (eF h dF hy).2 ah
   exact⟨.skip,aA,undef,F,aG,by simp[execOp,ad],.inr ⟨rfl,rfl⟩,ag,.inl ⟨rfl,by rw[aB];trivial⟩⟩
  ·cases aa
 |nilCheck x=>
  simp only[cE,Option.map_eq_some_iff]at aa
  obtain⟨dv,ai,rfl⟩:=aa
  obtain⟨g1,g2⟩:=eF h dF ai
  simp only[bq,Option.map_eq_some_iff,Prod.mk.injEq]at he
  obtain⟨d,ah,rfl,rfl⟩:=he
  obtain⟨rfl,ao,aI⟩:=LA h g2 ah
  refine⟨.value (a.eval x),w,_,F,S,?_,.inl rfl,h,.inl ⟨ao,g2⟩⟩
  rcases aI with⟨b,U⟩|⟨f,c,U⟩<;>simp[execOp,U]
 |binOp op T x y alZ=>
  simp only[cE]at aa
  split at aa
  ·rename_i dv kp ai hy
   simp only[Option.some.injEq]at aa;subst aa
   simp only[bq,Option.map_eq_some_iff,Prod.mk.injEq]at he
   obtain⟨d,ah,rfl,rfl⟩:=he
   exact(Lx bc h x y (eF h dF ai).2 (eF h dF hy).2 ah).next
  ·cases aa
 |unOp op T x=>
  simp only[cE,Option.map_eq_some_iff]at aa
  obtain⟨dv,ai,rfl⟩:=aa
  simp only[bq,Option.map_eq_some_iff,Prod.mk.injEq]at he
  obtain⟨d,ah,rfl,rfl⟩:=he
  exact(Ly h (eF h dF ai).2 ah).next
 |convert A B x=>
  simp only[cE,Option.map_eq_some_iff]at aa
  obtain⟨dv,ai,rfl⟩:=aa
  simp only[bq,Option.map_eq_some_iff,Prod.mk.injEq]at he
  obtain⟨d,ah,rfl,rfl⟩:=he
  exact(LJ bc h (eF h dF ai).2 ah).next
 |makeFunc fn first cs=>
  cases fn with
  |func f=>
   simp only[cE]at aa
   split at aa
   ·rename_i Mr
    simp only[Option.map_eq_some_iff]at aa
    obtain⟨p7,hs,rfl⟩:=aa
    simp only[bq,Option.some.injEq,Prod.mk.injEq]at he
    obtain⟨rfl,rfl⟩:=he
    have Ms:first= #[]:=by simpa using Mr
    subst Ms
    refine⟨_,w,_,F,S,rfl,.inl rfl,h,.inl ⟨rfl,?_⟩⟩
    rw[aB]
    refine⟨cs.map a.eval,by simp,?_⟩
    simpa using xo h dF _ _ (rf hs)
   ·cases aa
  |_=>simp[cE]at aa
 |makeSlice T l c=>
  simp only[cE]at aa
  split at aa
  ·rename_i dv kp ai hy
   simp only[Option.some.injEq]at aa;subst aa
   simp only[bq,Option.map_eq_some_iff,Prod.mk.injEq]at he
   obtain⟨d,ah,rfl,rfl⟩:=he
   exact(L_ bc h (eF h dF ai).2 (eF h dF hy).2 ah).next
  ·cases aa
 |slice T x cJ ay el=>
  cases el with
  |some m=>simp[cE]at aa
  |none=>
   simp only[cE]at aa
   split at aa
   ·rename_i dv al0 Fe ai nb nc
    simp only[Option.some.injEq]at aa;subst aa
    obtain⟨g1,g2⟩:=eF h dF ai
    have opt:∀{o:Option Operand} {mK:Option aC},uU o=some mK→pa w F s au (mK.map (aE s)) (o.map a.eval):=by
     intro o mK cd
     cases o with
     |none=>simp[uU]at cd;subst cd;trivial
     |some o=>
      simp only[uU,Option.map_eq_some_iff]at cd
      obtain⟨x,ai,rfl⟩:=cd
      exact(eF h dF ai).2
    exact(LM bc h g1 g2 (opt nb) (opt nc) he).next
   ·cases aa
 |fieldAddr T x k=>
  simp only[cE,Option.map_eq_some_iff]at aa
  obtain⟨dv,ai,rfl⟩:=aa
  obtain⟨g1,g2⟩:=eF h dF ai
  simp only[bq,Option.map_eq_some_iff,Prod.mk.injEq]at he
  obtain⟨d,ah,rfl,rfl⟩:=he
  exact(K7 bc h g1 g2 ah).next
 |indexAddr T x i=>
  simp only[cE]at aa
  split at aa
  ·rename_i dv kp ai hy
   simp only[Option.some.injEq]at aa;subst aa
   simp only[bq,Option.map_eq_some_iff,Prod.mk.injEq]at he
   obtain⟨d,ah,rfl,rfl⟩:=he
   exact(K8 bc h (eF h dF ai).2 (eF h dF hy).2 ah).next
  ·cases aa
 |index T x i=>
  simp only[cE]at aa
  split at aa
  ·rename_i dv kp ai hy
   simp only[Option.some.injEq]at aa;subst aa
   simp only[bq,Option.map_eq_some_iff,Prod.mk.injEq]at he
   obtain⟨d,ah,rfl,rfl⟩:=he
   exact(LH bc h (eF h dF ai).2 (eF h dF hy).2 ah).next
  ·cases aa
 |makeMap t r=>
  cases r with
  |none=>
   simp only[cE,Option.some.injEq]at aa;subst aa
   simp only[bq,Option.some.injEq,Prod.mk.injEq]at he
   obtain⟨rfl,rfl⟩:=he
   exact(L9 h t).next
  |some r=>simp[cE]at aa
 |lookup T x i c=>
  cases c with
  |true=>simp[cE]at aa
  |false=>
   simp only[cE]at aa
   split at aa
   ·rename_i dv o6 ai ay
    simp only[Option.some.injEq]at aa;subst aa
    simp only[bq,Option.map_eq_some_iff,Prod.mk.injEq]at he
    obtain⟨d,ah,rfl,rfl⟩:=he
    exact(L6 bc h (eF h dF ai).2 (eF h dF ay).2 ah).next
   ·cases aa
 |mapUpdate T x i v=>
  simp only[cE]at aa
  split at aa
  ·rename_i dv o6 fA ai ay aI
   simp only[Option.some.injEq]at aa;subst aa
   simp only[bq,Option.map_eq_some_iff,Prod.mk.injEq]at he
   obtain⟨s2,ah,rfl,rfl⟩:=he
   obtain⟨aA,aG,ad,ag⟩:=L7 bc h (eF h dF ai).2 (eF h dF ay).2 (eF h dF aI).2 ah
   exact⟨.skip,aA,undef,F,aG,by simp[execOp,ad],.inr ⟨rfl,rfl⟩,ag,.inl ⟨rfl,by rw[aB];trivial⟩⟩
  ·cases aa
 |extract x k=>
  simp only[cE,Option.map_eq_some_iff]at aa
  obtain⟨dv,ai,rfl⟩:=aa
  simp only[bq,Option.map_eq_some_iff,Prod.mk.injEq]at he
  obtain⟨d,ah,rfl,rfl⟩:=he
  exact(LD h (eF h dF ai).2 ah).next
 |field T x k=>
  simp only[cE,Option.map_eq_some_iff]at aa
  obtain⟨dv,ai,rfl⟩:=aa
  simp only[bq,Option.bind_eq_some_iff]at he
  obtain⟨d,ah,he⟩:=he
  obtain⟨v,aA,bC,aG,aH,lD,nP⟩:=LF bc h (eF h dF ai).2 ah
  unfold oH at he
  split at he
  ·rename_i y q
   have Mt:aB aA bC s au (.h y q) v (fun _=>False):=by
    rcases nP with⟨_,g2⟩|⟨g1,_⟩
    ·exact g2
    ·cases g1
   obtain⟨bN,k0,bV,b7,Sn,eh,dd,eO,ey,h9,_⟩:=nR lD rfl Mt he
   exact⟨.value v,aA,v,bC,bN,by simp[execOp,aH],.inl rfl,k0,.inr ⟨bV,b7,Sn,eh,dd,eO,ey,h9⟩⟩
  ·simp only[Option.some.injEq,Prod.mk.injEq]at he
   obtain⟨rfl,rfl⟩:=he
   exact⟨.value v,aA,v,bC,aG,by simp[execOp,aH],.inl rfl,lD,nP⟩
 |call c=>
  obtain⟨callee,args,argTypes⟩:=c
  simp only[cE]at aa
  split at aa
  ·split at aa
   ·simp only[Option.some.injEq]at aa;subst aa
    simp[bq]at he
   ·cases aa
  ·split at aa
   ·rename_i x T mg rh
    simp only[Option.map_eq_some_iff]at aa
    obtain⟨dv,ai,rfl⟩:=aa
    simp only[bq,Option.map_eq_some_iff,Prod.mk.injEq]at he
    obtain⟨d,ah,rfl,rfl⟩:=he
    have:=(LI (ty:=ty) bc h (eF h dF ai).2 ah).next
    have aT:args= #[x]:=by apply Array.ext';exact mg
    have aX:argTypes= #[T]:=by apply Array.ext';exact rh
    subst aT aX
    simpa [execOp,resolve,invoke,builtin]using this
   ·cases aa
  ·split at aa
   ·rename_i x T mg rh
    simp only[Option.map_eq_some_iff]at aa
    obtain⟨dv,ai,rfl⟩:=aa
    simp only[bq]at he
    split at he
    ·rename_i e ax Mu
     simp only[Option.some.injEq,Prod.mk.injEq]at he
     obtain⟨rfl,rfl⟩:=he
     have aI:=(eF h dF ai).2
     rw[Mu]at aI
     have:=o_ aI
     obtain⟨i,d,z,aT,aX,aS,bQ,cp,bK,bH⟩:=bc.info (fh ax (by simp))
     rw[ax]at bH
     have ah:=kJ bH;subst ah
     have Mv:args= #[x]:=by apply Array.ext';exact mg
     have Mw:argTypes= #[T]:=by apply Array.ext';exact rh
     subst Mv Mw
     have aH:(Builtin.cap_ #[T] ty #[a.eval x]).run C.P w= .ok (.int .i64 0) w:=by
      rw[this];simp[Builtin.cap_,run_underlying bK,goInt]
     have:=(Good.same (av:=.int .i64 0) h aH rfl (of_int _ _)).next
     simpa [execOp,resolve,invoke,builtin]using this
    ·cases he
   ·cases aa
  ·split at aa
   ·rename_i x y mg
    split at aa
    ·rename_i dv kp ai hy
     simp only[Option.some.injEq]at aa;subst aa
     have aT:args= #[x,y]:=by apply Array.ext';exact mg
     subst aT
     exact Fa h (eF h dF ai).2 (eF h dF hy).2 he (by simp[execOp,resolve,invoke,builtin,Builtin.min_])
    ·cases aa
   ·cases aa
  ·split at aa
   ·rename_i x y mg
    split at aa
    ·rename_i dv kp ai hy
     simp only[Option.some.injEq]at aa;subst aa
     have aT:args= #[x,y]:=by apply Array.ext';exact mg
     subst aT
     exact Fa h (eF h dF ai).2 (eF h dF hy).2 he (by simp[execOp,resolve,invoke,builtin,Builtin.max_])
    ·cases aa
   ·cases aa
  ·split at aa
   ·rename_i x y T bz mg rh
    split at aa
    ·rename_i dv kp ai hy
     simp only[Option.some.injEq]at aa;subst aa
     have:=(LX (ty:=ty) bc h (eF h dF ai).2 (eF h dF hy).2 he).next
     have aT:args= #[x,y]:=by apply Array.ext';exact mg
     have aX:argTypes= #[T,bz]:=by apply Array.ext';exact rh
     subst aT aX
     simpa [execOp,resolve,invoke,builtin]using this
    ·cases aa
   ·cases aa
  ·cases aa
 |_=>simp[cE]at aa
end
mutual
def I.aa:I→List Nat
 | .h x _=>[x]
 | .ao x _=>[x]
 | .U x _=>[x]
 | .fn _ cap=>I.dK cap
 |_=>[]
def I.dK:List I→List Nat
 |[]=>[]
 |d::ds=>d.aa++I.dK ds
end
inductive oI where
 |no
 |bR
 |cl
structure gu where
 k:oI
 x:Nat
 d:I
def oI.app (k:oI) (x:Nat) (a:I):I:=match k with
 | .no=>a
 | .bR=>cI.bR x a
 | .cl=>cI.cl x a
def gu.at (m:gu) (u:Nat) (a:I):I:=if u=m.x then m.d else m.k.app m.x a
def jt:List gu→Nat→I→I
 |[],_,a=>a
 |m::ms,u,a=>jt ms u (m.at u a)
def cX (ms:List gu) (s:an):an:=fun u=>jt ms u (s u)
theorem Ff:∀(ms kt:List gu) (u:Nat) (a:I),jt (ms++kt) u a=jt kt u (jt ms u a)
 |[],_,_,_=>rfl
 |m::ms,kt,u,a=>by simp only[List.cons_append,jt];exact Ff ms kt u _
theorem lg (ms kt:List gu) (s:an):cX (ms++kt) s=cX kt (cX ms s):=by
 funext u;simp[cX,Ff]
theorem Mx {ms:List gu} {s aw:an} {u:Nat} (h:aw u=s u):cX ms aw u=cX ms s u:=by simp[cX,h]
theorem ri (s:an) (x:Nat) (d:I):c7 (hR x s) x d=cX [⟨.bR,x,d⟩] s:=by
 funext u;simp only[cX,jt,gu.at,c7,hR,oI.app]
theorem Fg (s:an) (x:Nat) (d:I):c7 (mD x s) x d=cX [⟨.cl,x,d⟩] s:=by
 funext u;simp only[cX,jt,gu.at,c7,mD,oI.app]
theorem Bj (s:an) (x:Nat) (d:I):c7 s x d=cX [⟨.no,x,d⟩] s:=by
 funext u;simp only[cX,jt,gu.at,c7,oI.app]
mutual
theorem uV {x:Nat}:∀a:I,x∉a.aa→bR x a=a
 | .h y q,h=>by
   simp only[I.aa,List.mem_singleton]at h
   simp only[bR];rw[if_neg (fun e=>h e.symm)]
 | .ao y q,h=>by
   simp only[I.aa,List.mem_singleton]at h
   simp only[bR];rw[if_neg (fun e=>h e.symm)]
 | .U y q,h=>rfl
 | .fn f cap,h=>by simp only[bR];rw[Fh cap (by simpa [I.aa]using h)]
 | .hole,_=>rfl
 | .bool _,_=>rfl
 | .et,_=>rfl
 | .int _ _,_=>rfl
 | .str _,_=>rfl
 | .cS,_=>rfl
 | .bk,_=>rfl
 | .slice _,_=>rfl
 | .aL _ _,_=>rfl
 | .ref _,_=>rfl
 | .bM _,_=>rfl
 | .agg _,_=>rfl
 | .tuple _,_=>rfl
 | .dq _,_=>rfl
theorem Fh {x:Nat}:∀ds:List I,x∉I.dK ds→h4 x ds=ds
 |[],_=>rfl
 |d::ds,h=>by
  simp only[I.dK,List.mem_append,not_or]at h
  simp only[h4];rw[uV d h.1,Fh ds h.2]
end
mutual
theorem Bk {x:Nat}:∀a:I,x∉a.aa→cl x a=a
 | .h y q,h=>by
   simp only[I.aa,List.mem_singleton]at h
   simp only[cl];rw[if_neg (fun e=>h e.symm)]
 | .ao y q,h=>by
   simp only[I.aa,List.mem_singleton]at h
   simp only[cl];rw[if_neg (fun e=>h e.symm)]
 | .U y q,h=>by
   simp only[I.aa,List.mem_singleton]at h
   simp only[cl];rw[if_neg (fun e=>h e.symm)]
 | .fn f cap,h=>by simp only[cl];rw[Fi cap (by simpa [I.aa]using h)]
 | .hole,_=>rfl
 | .bool _,_=>rfl
 | .et,_=>rfl
 | .int _ _,_=>rfl
 | .str _,_=>rfl
 | .cS,_=>rfl
 | .bk,_=>rfl
 | .slice _,_=>rfl
 | .aL _ _,_=>rfl
 | .ref _,_=>rfl
 | .bM _,_=>rfl
 | .agg _,_=>rfl
 | .tuple _,_=>rfl
 | .dq _,_=>rfl
theorem Fi {x:Nat}:∀ds:List I,x∉I.dK ds→iF x ds=ds
 |[],_=>rfl
 |d::ds,h=>by
  simp only[I.dK,List.mem_append,not_or]at h
  simp only[iF];rw[Bk d h.1,Fi ds h.2]
end
theorem uW {k:oI} {x:Nat} {a:I} (h:k= .no∨x∉a.aa):k.app x a=a:=by
 cases k with
 |no=>rfl
 |bR=>exact uV a (by simpa using h)
 |cl=>exact Bk a (by simpa using h)
mutual
theorem Fj (x y:Nat):∀a:I,bR x (bR y a)=bR y (bR x a)
 | .h z q=>by simp only[bR];by_cases ad:z=x<;>by_cases ag:z=y<;>by_cases aF:q=[]<;>simp[ad,ag,aF,bR]<;>(subst_vars;simp_all [bR])
 | .ao z q=>by simp only[bR];by_cases ad:z=x<;>by_cases ag:z=y<;>simp[ad,ag,bR]<;>(subst_vars;simp_all [bR])
 | .U z q=>rfl
 | .fn f cap=>by simp only[bR];rw[Fk x y cap]
 | .hole=>rfl
 | .bool _=>rfl
 | .et=>rfl
 | .int _ _=>rfl
 | .str _=>rfl
 | .cS=>rfl
 | .bk=>rfl
 | .slice _=>rfl
 | .aL _ _=>rfl
 | .ref _=>rfl
 | .bM _=>rfl
 | .agg _=>rfl
 | .tuple _=>rfl
 | .dq _=>rfl
theorem Fk (x y:Nat):∀ds:List I,h4 x (h4 y ds)=h4 y (h4 x ds)
 |[]=>rfl
 |d::ds=>by simp only[h4];rw[Fj x y d,Fk x y ds]
end
mutual
theorem Fl (x y:Nat):∀a:I,cl x (cl y a)=cl y (cl x a)
 | .h z q=>by simp only[cl];by_cases ad:z=x<;>by_cases ag:z=y<;>simp[ad,ag,cl]<;>(subst_vars;simp_all [cl])
 | .ao z q=>by simp only[cl];by_cases ad:z=x<;>by_cases ag:z=y<;>simp[ad,ag,cl]<;>(subst_vars;simp_all [cl])
 | .U z q=>by simp only[cl];by_cases ad:z=x<;>by_cases ag:z=y<;>simp[ad,ag,cl]<;>(subst_vars;simp_all [cl])
 | .fn f cap=>by simp only[cl];rw[Fm x y cap]
 | .hole=>rfl
 | .bool _=>rfl
 | .et=>rfl
 | .int _ _=>rfl
 | .str _=>rfl
 | .cS=>rfl
 | .bk=>rfl
 | .slice _=>rfl
 | .aL _ _=>rfl
 | .ref _=>rfl
 | .bM _=>rfl
 | .agg _=>rfl
 | .tuple _=>rfl
 | .dq _=>rfl
theorem Fm (x y:Nat):∀ds:List I,iF x (iF y ds)=iF y (iF x ds)
 |[]=>rfl
 |d::ds=>by simp only[iF];rw[Fl x y d,Fm x y ds]
end
mutual
theorem Bl (x y:Nat):∀a:I,bR x (cl y a)=cl y (bR x a)
 | .h z q=>by simp only[cl,bR];by_cases ad:z=x<;>by_cases ag:z=y<;>by_cases aF:q=[]<;>simp[ad,ag,aF,cl,bR]<;>(subst_vars;simp_all [cl,bR])
 | .ao z q=>by simp only[cl,bR];by_cases ad:z=x<;>by_cases ag:z=y<;>simp[ad,ag,cl,bR]<;>(subst_vars;simp_all [cl,bR])
 | .U z q=>by simp only[cl,bR];by_cases ag:z=y<;>simp[ag,bR]
 | .fn f cap=>by simp only[cl,bR];rw[Fo x y cap]
 | .hole=>rfl
 | .bool _=>rfl
 | .et=>rfl
 | .int _ _=>rfl
 | .str _=>rfl
 | .cS=>rfl
 | .bk=>rfl
 | .slice _=>rfl
 | .aL _ _=>rfl
 | .ref _=>rfl
 | .bM _=>rfl
 | .agg _=>rfl
 | .tuple _=>rfl
 | .dq _=>rfl
theorem Fo (x y:Nat):∀ds:List I,h4 x (iF y ds)=iF y (h4 x ds)
 |[]=>rfl
 |d::ds=>by simp only[iF,h4];rw[Bl x y d,Fo x y ds]
end
theorem My (k l:oI) (x y:Nat) (a:I):k.app x (l.app y a)=l.app y (k.app x a):=by
 cases k<;>cases l<;>simp only[oI.app]<;>first|rfl|exact Fj .. |exact Fl .. |exact Bl .. |exact(Bl ..).symm
def aC.use (s:an):aC→List Nat
 | .t n=>n::(s n).aa
 | .c av=>av.aa
 | .f _=>[]
def aC.nm (s:an):List aC→List Nat
 |[]=>[]
 |x::xs=>x.use s++aC.nm s xs
def Bm (s:an):Option aC→List Nat
 |none=>[]
 |some x=>x.use s
def use (s:an):fj→List Nat
 | .bg x=>x.use s
 | .fk x=>x.use s
 | .pick c a b=>c.use s++(a.use s++b.use s)
 | .gU _=>[]
 | .cQ _ x=>x.use s
 | .fE _ ps=>aC.nm s (ps.map (·.2))
 | .dT _ _ ps=>aC.nm s (ps.map (·.2))
 | .bY _ x=>x.use s
 | .gd _ x y=>x.use s++y.use s
 | .eo x=>x.use s
 | .bx _ _ x y=>x.use s++y.use s
 | .un _ x=>x.use s
 | .gr _ _ x=>x.use s
 | .kc _ cs=>aC.nm s cs
 | .dX _ l c=>l.use s++c.use s
 | .dh _ x cJ ay=>x.use s++(Bm s cJ++Bm s ay)
 | .cH _ x _=>x.use s
 | .dO _ x i=>x.use s++i.use s
 | .idx _ x i=>x.use s++i.use s
 | .ex x _=>x.use s
 | .lF _ x _=>x.use s
 | .call f args=>f.use s++aC.nm s args
 | .len _ x=>x.use s
 | .app _ _ x y=>x.use s++y.use s
 | .shr bA=>use s bA
 | .me f args u x=>u::x::(f.use s++aC.nm s args)
 | .mf f args us=>us.flatMap (fun u=>u::(s u).aa)++(f.use s++aC.nm s args)
 | .kM _ x=>x.use s
 | .p6 x=>x.use s
 | .pe x=>x.use s
 | .uT=>[]
 | .nh _ x i=>x.use s++i.use s
 | .mc _ x i v=>x.use s++(i.use s++v.use s)
 | .ni _ _ x y=>x.use s++y.use s
 | .cap _ x=>x.use s
 | .h_ _ x y=>x.use s++y.use s
 | .bad=>[]
def cO (s:an):fj→List Nat
 | .fk x=>(aE s x).aa
 | .cQ _ x=>(aE s x).aa
 | .fE _ ps=>I.dK (ps.map fun p=>aE s p.2)
 | .dT _ _ ps=>I.dK (ps.map fun p=>aE s p.2)
 | .gd _ x y=>(aE s x).aa++(aE s y).aa
 | .lF _ x _=>(aE s x).aa
 | .pe x=>(aE s x).aa
 | .mc _ x _ _=>(aE s x).aa
 | .dh _ x _ _=>(aE s x).aa
 | .app _ _ x y=>(aE s x).aa++(aE s y).aa
 | .shr bA=>cO s bA
 |_=>[]
def c8 (bz:List Nat) (aw s:an):Prop:=∀u∈bz,aw u=s u
theorem c8.left {bz V:List Nat} {aw s:an} (h:c8 (bz++V) aw s):c8 bz aw s:=fun u hu=>h u (List.mem_append_left _ hu)
theorem c8.right {bz V:List Nat} {aw s:an} (h:c8 (bz++V) aw s):c8 V aw s:=fun u hu=>h u (List.mem_append_right _ hu)
theorem c8.cX {bz:List Nat} {aw s:an} (h:c8 bz aw s) (ms:List gu):c8 bz (cX ms aw) (cX ms s):=fun u hu=>Mx (h u hu)
theorem c8.sub {bz V:List Nat} {aw s:an} (h:c8 bz aw s) (aa:∀u∈V,u∈bz):c8 V aw s:=fun u hu=>h u (aa u hu)
theorem aC.rj {s:an} {x:aC}:∀u∈(aE s x).aa,u∈x.use s:=by
 intro u hu
 cases x with
 |t n=>
  simp only[aE,iG]at hu
  split at hu
  ·simp[aC.use,hu]
  ·simp only[I.aa,List.mem_singleton]at hu;simp[aC.use,hu]
 |c av=>exact hu
 |f g=>simp[aE,I.aa,I.dK]at hu
theorem aC.eP {s aw:an} {x:aC} (h:c8 (x.use s) aw s):aE aw x=aE s x:=by
 cases x with
 |t n=>simp only[aE];rw[h n (by simp[aC.use])]
 |c av=>rfl
 |f g=>rfl
theorem c8.aE {s aw:an} {x:aC} (h:c8 (x.use s) aw s):c8 (aE s x).aa aw s:=h.sub aC.rj
theorem Fp {s aw:an} {x:Option aC} (h:c8 (Bm s x) aw s):x.map (aE aw)=x.map (aE s):=by
 cases x with
 |none=>rfl
 |some x=>simp only[Option.map_some];rw[aC.eP h]
theorem aC.Bn {s aw:an}:∀{xs:List aC},c8 (aC.nm s xs) aw s→xs.map (aE aw)=xs.map (aE s)
 |[],_=>rfl
 |x::xs,h=>by
  simp only[List.map_cons]
  rw[aC.eP (h.left),aC.Bn (h.right)]
theorem aC.Bo {s aw:an}:∀{ps:List (Nat×aC)},c8 (aC.nm s (ps.map (·.2))) aw s→(ps.map fun p=>(p.1,aE aw p.2))=ps.map fun p=>(p.1,aE s p.2)
 |[],_=>rfl
 |x::xs,h=>by
  simp only[List.map_cons]at h⊢
  rw[aC.eP (h.left),aC.Bo (h.right)]
theorem aC.xq {s:an}:∀{xs:List aC},∀u∈I.dK (xs.map (aE s)),u∈aC.nm s xs
 |[],u,h=>by simp[I.dK]at h
 |x::xs,u,h=>by
  simp only[List.map_cons,I.dK,List.mem_append]at h
  simp only[aC.nm,List.mem_append]
  exact h.imp (aC.rj u) (aC.xq u)
section
variable {C:bS} {s aw:an} {x y i:I} {T A B:TypeId}
theorem Bp (h:c8 x.aa aw s):loc aw x=loc s x:=by
 cases x<;>first
  |rfl
  |(simp only[loc];rw[h _ (by simp[I.aa])])
theorem Bq {z:Nat} {q:List Nat} (h:loc s x=some (z,q)):z∈x.aa:=by
 cases x with
 |h y p=>
  simp only[loc]at h
  split at h
  ·simp only[Option.some.injEq,Prod.mk.injEq]at h;simp[I.aa,h.1]
  ·cases h
 |ao y p=>
  simp only[loc]at h
  split at h
  ·simp only[Option.some.injEq,Prod.mk.injEq]at h;simp[I.aa,h.1]
  ·cases h
 |_=>simp[loc]at h
theorem Mz (h:c8 x.aa aw s):bY C aw T x=bY C s T x:=by
 have aO:=Bp h
 unfold bY
 split
 ·rfl
 ·rw[h _ (by simp[I.aa])]
 ·rw[aO]
  split
  ·rename_i e
   rw[h _ (Bq e)]
  ·rfl
theorem MA {k:Nat} (h:c8 x.aa aw s):cH C aw T x k=cH C s T x k:=by
 have aO:=Bp h
 unfold cH
 split
 ·split
  ·split
   ·split
    ·rfl
    ·rw[h _ (by simp[I.aa])]
    ·rw[aO]
     split
     ·rename_i e
      rw[h _ (Bq e)]
     ·rfl
   ·rfl
  ·rfl
 ·rfl
theorem MB (h:c8 x.aa aw s):dO C aw T x i=dO C s T x i:=by
 cases x<;>first
  |rfl
  |(simp only[dO];rw[h _ (by simp[I.aa])])
theorem MC (h:c8 x.aa aw s):lG C aw T x=lG C s T x:=by
 unfold lG
 cases(C.T T).k<;>cases x<;>first
  |rfl
  |(simp only;rw[h _ (by simp[I.aa])])
theorem MD (h:c8 x.aa aw s):gr C aw A B x=gr C s A B x:=by
 unfold gr
 cases(C.T B).k<;>cases x<;>first
  |rfl
  |(simp only;rw[h _ (by simp[I.aa])])
theorem ME (h:c8 x.aa aw s):kN aw x=kN s x:=by
 cases x<;>first
  |rfl
  |(simp only[kN];rw[h _ (by simp[I.aa])])
theorem MF (h:c8 x.aa aw s):kO aw x=kO s x:=by
 cases x<;>first
  |rfl
  |(simp only[kO];rw[h _ (by simp[I.aa])])
theorem MG {op:BinOp} (h:c8 x.aa aw s):bx C aw op T x y=bx C s op T x y:=by
 have ad:=ME h
 have ag:=MF h
 unfold bx
 split<;>first|rfl|simp only[ad,ag]
theorem MH (h:c8 x.aa aw s):eo aw x=eo s x:=by
 cases x<;>first
  |rfl
  |(simp only[eo];rw[h _ (by simp[I.aa])])
theorem MI {k y:Nat} {q:List Nat} (h:lF C s T x k=some (.h y q)):x.aa=[y]:=by
 unfold lF at h
 split at h<;>try (cases h;done)
 split at h<;>try (cases h;done)
 split at h
 ·split at h<;>try (cases h;done)
  split at h
  ·rename_i aj
   simp only[Option.some.injEq]at h
   rw[h]at aj
   exact absurd aj.2.2.2 (by simp[I.tree])
  ·cases h
 ·split at h<;>try (cases h;done)
  split at h<;>try (cases h;done)
  split at h<;>try (cases h;done)
  rename_i d ah aj
  by_cases ao:d.plain=true
  ·simp only[ao,if_true,Option.some.injEq]at h
   rw[h]at aj
   exact absurd aj.2.2.2 (by simp[I.tree])
  ·simp only[ao,Option.some.injEq]at h
   injection h with ad ag
   subst ad;rfl
 ·cases h
theorem Fq {k:Nat} (h:c8 x.aa aw s):lF C aw T x k=lF C s T x k:=by
 unfold lF
 split<;>try rfl
 split<;>try rfl
 cases x<;>first
  |rfl
  |(simp only[];rw[h _ (by simp[I.aa])])
theorem MJ {k:Nat} (h:c8 x.aa aw s):ex aw x k=ex s x k:=by
 cases x<;>first
  |rfl
  |(simp only[ex];rw[h _ (by simp[I.aa])])
theorem sB:∀(q:List Nat) (a d e:I),I.sub q a=some d→(d.plain=false∨q≠[])→(q=[]→e.aa=[])→(I.put q e a).aa=[]:=by
 intro q a d e h ao he
 cases q with
 |nil=>rw[I.put];exact he rfl
 |cons k q=>
  cases a<;>first
   |(simp[I.sub]at h;done)
   |skip
  all_goals
   unfold I.put
   repeat' split
   all_goals first|rfl|(simp_all;done)
end
def Loc {α:Type} (bz sC:List Nat) (f:an→Option (α×an)) (s:an) (av:α) (s1:an):Prop:=
 ∃ms,s1=cX ms s∧(∀m∈ms,m.x∈sC∧m.d.aa=[])∧∀aw,c8 bz aw s→f aw=some (av,cX ms aw)
theorem Loc.pure {α:Type} {bz sC:List Nat} {f:an→Option (α×an)} {s:an} {av:α} (h:∀aw,c8 bz aw s→f aw=some (av,aw)):Loc bz sC f s av s:=
 ⟨[],rfl,by simp,fun aw aa=>h aw aa⟩
theorem Loc.mono {α:Type} {bz sC xr Fs:List Nat} {f:an→Option (α×an)} {s s1:an} {av:α} (h:Loc bz sC f s av s1) (oG:∀u∈bz,u∈xr) (lb:∀u∈sC,u∈Fs):Loc xr Fs f s av s1:=by
 obtain⟨ms,ad,ag,aF⟩:=h
 exact⟨ms,ad,fun m hm=>⟨lb _ (ag m hm).1,(ag m hm).2⟩,fun aw aa=>aF aw (aa.sub oG)⟩
section
variable {C:bS} {s s1:an} {x y d:I} {T A B:TypeId}
theorem pf (h:ch s x=some (d,s1)):Loc x.aa x.aa (fun s=>ch s x) s d s1:=by
 cases x with
 |h y q=>
  simp only[ch]at h
  split at h
  ·rename_i e he
   split at h
   ·cases h
   ·rename_i ao
    simp only[Option.some.injEq,Prod.mk.injEq]at h
    obtain⟨rfl,rfl⟩:=h
    have ao:e.plain=false:=by simpa using ao
    refine⟨[⟨.bR,y,I.put q e.cG (s y)⟩],ri _ _ _,?_,?_⟩
    ·intro m hm
     simp only[List.mem_singleton]at hm;subst hm
     refine⟨by simp[I.aa],sB q _ _ _ he (.inl ao) fun cM=> ?_⟩
     subst cM
     cases e<;>first|(simp[I.plain]at ao;done)|rfl
    ·intro aw aa
     have aT:aw y=s y:=aa y (by simp[I.aa])
     simp only[ch,aT,he,ao]
     rw[←ri];rfl
  ·cases h
 |ao y q=>simp[ch]at h
 |U y q=>simp[ch]at h
 |fn f c=>simp[ch]at h
 |hole=>simp[ch]at h
 |_=>
  simp only[ch,Option.some.injEq,Prod.mk.injEq]at h
  obtain⟨rfl,rfl⟩:=h
  exact .pure fun aw _=>rfl
mutual
theorem Ft (x:Nat):∀a:I,∀u∈(bR x a).aa,u∈a.aa
 | .h y q,u,h=>by
   simp only[bR]at h
   split at h
   ·split at h
    ·exact h
    ·simp[I.aa]at h
   ·exact h
 | .ao y q,u,h=>by
   simp only[bR]at h
   split at h
   ·simp[I.aa]at h
   ·exact h
 | .U y q,u,h=>h
 | .fn f cap,u,h=>by simp only[bR,I.aa]at h⊢;exact Fu x cap u h
 | .hole,u,h=>h
 | .bool _,u,h=>h
 | .et,u,h=>h
 | .int _ _,u,h=>h
 | .str _,u,h=>h
 | .cS,u,h=>h
 | .bk,u,h=>h
 | .slice _,u,h=>h
 | .aL _ _,u,h=>h
 | .ref _,u,h=>h
 | .bM _,u,h=>h
 | .agg _,u,h=>h
 | .tuple _,u,h=>h
theorem Fu (x:Nat):∀ds:List I,∀u∈I.dK (h4 x ds),u∈I.dK ds
 |[],u,h=>h
 |d::ds,u,h=>by
  simp only[h4,I.dK,List.mem_append]at h⊢
  exact h.imp (Ft x d u) (Fu x ds u)
end
theorem Br (o:Option Nat) (a:I):∀u∈(kq o a).aa,u∈a.aa:=by
 intro u h
 cases o with
 |none=>exact h
 |some x=>exact Ft x a u h
theorem Fv:∀(os:List (Option Nat)) (a:I),∀u∈(nj os a).aa,u∈a.aa:=by
 intro os
 induction os with
 |nil=>intro a u h;exact h
 |cons o os ih=>intro a u h;exact Br o a u (ih (kq o a) u h)
theorem Fw {place:Nat→Option (Nat×Nat)}:∀{ps:List (Nat×I)} {s s1:an} {fT ds:List I} {os:List (Option Nat)},nk place s fT os ps=some (ds,s1)→
  Loc (I.dK (ps.map (·.2))) (I.dK (ps.map (·.2))) (fun s=>nk place s fT os ps) s ds s1:=by
 intro ps
 induction ps with
 |nil=>
  intro s s1 fT ds os h
  simp only[nk,Option.some.injEq,Prod.mk.injEq]at h
  obtain⟨rfl,rfl⟩:=h
  exact .pure fun aw _=>rfl
 |cons p ps ih=>
  intro s s1 fT ds os h
  obtain⟨k,a⟩:=p
  simp only[nk]at h
  split at h
  ·rename_i d s2 off n z aY gT bG
   split at h
   ·cases h
   ·rename_i bf mh
    split at h
    ·rename_i aj
     obtain⟨n0,rfl,ag,aF⟩:=pf aY
     obtain⟨p4,rfl,bF,cn⟩:=ih h
     refine⟨n0++p4,(lg _ _ _).symm,?_,?_⟩
     ·intro m hm
      simp only[List.map_cons,I.dK,List.mem_append]at hm⊢
      rcases hm with hm|hm
      ·exact⟨.inl (Fv _ _ _ (ag m hm).1),(ag m hm).2⟩
      ·exact⟨.inr (bF m hm).1,(bF m hm).2⟩
     ·intro aw aa
      simp only[List.map_cons,I.dK]at aa
      have aT:=aF aw (aa.left.sub (Fv _ _))
      have aX:=cn (cX n0 aw) (aa.right.cX n0)
      simp only at aT aX
      simp only[nk,aT,gT,bG,lg]
      rw[if_pos aj];exact aX
    ·cases h
  ·cases h
theorem MK {ps:List (Nat×I)} {av:I} (h:fE C s T ps=some (av,s1)):Loc (I.dK (ps.map (·.2))) (I.dK (ps.map (·.2))) (fun s=>fE C s T ps) s av s1:=by
 unfold fE at h
 split at h
 ·rename_i aq fT ax bG
  split at h
  ·rename_i aj
   split at h
   ·rename_i ds s2 br
    simp only[Option.some.injEq,Prod.mk.injEq]at h
    obtain⟨rfl,rfl⟩:=h
    obtain⟨ms,ad,ag,aF⟩:=Fw br
    refine⟨ms,ad,ag,fun aw aa=> ?_⟩
    have:=aF aw aa
    simp only at this
    simp only[fE,ax,bG,if_pos aj,this]
   ·cases h
  ·cases h
 ·cases h
theorem ML {n:Nat} {ps:List (Nat×I)} {av:I} (h:dT C s T n ps=some (av,s1)):Loc (I.dK (ps.map (·.2))) (I.dK (ps.map (·.2))) (fun s=>dT C s T n ps) s av s1:=by
 unfold dT at h
 split at h
 ·rename_i e ax
  split at h
  ·rename_i aj
   split at h
   ·rename_i ds s2 br
    simp only[Option.some.injEq,Prod.mk.injEq]at h
    obtain⟨rfl,rfl⟩:=h
    obtain⟨ms,ad,ag,aF⟩:=Fw br
    refine⟨ms,ad,ag,fun aw aa=> ?_⟩
    have:=aF aw aa
    simp only at this
    simp only[dT,ax,if_pos aj,this]
   ·cases h
  ·cases h
 ·cases h
theorem MM {av:I} (h:cQ s x=some (av,s1)):Loc x.aa x.aa (fun s=>cQ s x) s av s1:=by
 unfold cQ at h
 split at h
 ·cases h
 ·rename_i d s2 mh aY
  simp only[Option.some.injEq,Prod.mk.injEq]at h
  obtain⟨rfl,rfl⟩:=h
  obtain⟨ms,ad,ag,aF⟩:=pf aY
  refine⟨ms,ad,ag,fun aw aa=> ?_⟩
  have:=aF aw aa
  simp only at this
  simp only[cQ,this]
 ·cases h
theorem MN {av:I} (h:kM s x=some (av,s1)):Loc x.aa [] (fun s=>kM s x) s av s1:=by
 unfold kM at h
 split at h
 ·rename_i y q
  split at h
  ·rename_i ds mF
   split at h
   ·cases h
   ·rename_i uC
    simp only[Option.some.injEq,Prod.mk.injEq]at h
    obtain⟨rfl,rfl⟩:=h
    refine .pure fun aw aa=> ?_
    have e:aw y=s y:=aa y (by simp[I.aa])
    simp only[kM,e,mF,if_neg uC]
  ·cases h
 ·split at h
  ·rename_i aj
   simp only[Option.some.injEq,Prod.mk.injEq]at h
   obtain⟨rfl,rfl⟩:=h
   exact .pure fun aw aa=>by simp only[kM,aj,if_true]
  ·cases h
 ·cases h
theorem MO {s2:an} (h:gd C s T x y=some s2):Loc (x.aa++y.aa) (x.aa++y.aa) (fun s=>(gd C s T x y).map fun s1=>(I.hole,s1)) s .hole s2:=by
 unfold gd at h
 split at h
 ·rename_i d s1 z q aY aO
  obtain⟨ms,ad,ag,aF⟩:=pf aY
  have bG:=Bq aO
  have cM:q≠[]:=by
   cases x with
   |h y p=>
    simp only[loc]at aO
    split at aO
    ·simp only[Option.some.injEq,Prod.mk.injEq]at aO;simp[←aO.2]
    ·cases aO
   |ao y p=>
    simp only[loc]at aO
    split at aO
    ·rename_i nT
     simp only[Option.some.injEq,Prod.mk.injEq]at aO
     obtain⟨rfl,rfl⟩:=aO
     intro e;subst e;simp[I.e2]at nT
    ·cases aO
   |_=>simp[loc]at aO
  split at h
  ·cases h
  ·rename_i bf mh
   split at h
   ·rename_i d0 l9
    split at h
    ·rename_i aj
     simp only[Option.some.injEq]at h;subst h
     refine⟨ms++[⟨.bR,z,I.put q d (s z)⟩],?_,?_,?_⟩
     ·rw[lg,←ad,ri]
     ·intro m hm
      simp only[List.mem_append,List.mem_singleton]at hm⊢
      rcases hm with hm|rfl
      ·exact⟨.inr (ag m hm).1,(ag m hm).2⟩
      ·exact⟨.inl bG,sB q _ _ _ l9 (.inr cM) fun e=>(cM e).elim⟩
     ·intro aw aa
      have aT:=aF aw aa.right
      simp only at aT
      simp only[gd,aT,Bp aa.left,aO,aa.left z bG,l9]
      cases d<;>first|(simp only[if_pos aj,Option.map_some,lg,ri];done)|exact(mh _ rfl).elim
    ·cases h
   ·cases h
 ·cases h
theorem MP {cJ ay:Option I} {av:I} (h:dh C s T x cJ ay=some (av,s1)):Loc x.aa x.aa (fun s=>dh C s T x cJ ay) s av s1:=by
 cases x with
 |h y q=>
  unfold dh at h
  split at h<;>first|(cases h;done)|skip
  all_goals (rename_i ai;try cases ai)
  rename_i e ax
  split at h
  ·rename_i sz xs eE
   split at h
   ·rename_i b nb nc
    split at h
    ·rename_i aj
     split at h
     ·rename_i d s2 aY
      simp only[Option.some.injEq,Prod.mk.injEq]at h
      obtain⟨rfl,rfl⟩:=h
      obtain⟨ms,ad,ag,aF⟩:=pf aY
      refine⟨ms,ad,ag,fun aw aa=> ?_⟩
      have:=aF aw aa
      simp only at this
      have aT:aw y=s y:=aa y (by simp[I.aa])
      simp only[dh,ax,aT,eE,nb,nc,if_pos aj,this]
     ·cases h
    ·cases h
   ·cases h
  ·cases h
 |_=>
  have pg:s1=s:=by
   unfold dh at h
   repeat' split at h
   all_goals first|(cases h;done)|(simp only[Option.some.injEq,Prod.mk.injEq]at h;exact h.2.symm)|simp_all
  subst pg
  refine .pure fun aw _=> ?_
  unfold dh at h⊢
  repeat' split at h
  all_goals first
   |(cases h;done)
   |(simp only[Option.some.injEq,Prod.mk.injEq]at h
     obtain⟨rfl,_⟩:=h
     simp_all)
def oJ (C:bS) (e:TypeId) (s:an):I→Option (I×an)
 | .bk=>some (I.aL (C.T e).sz [],s)
 | .h a q=>ch s (.h a q)
 |_=>none
def kR (s1:an):I→Option (List I×an)
 | .bk=>some ([],s1)
 | .slice cf=>some (cf,s1)
 | .str l=>some (l.map na,s1)
 | .h a q=>match ch s1 (.h a q)with
   |some (.aL _ cf,s2)=>some (cf,s2)
   |_=>none
 |_=>none
theorem Bs (C:bS) (s:an) (T bz:TypeId) (x y:I):lI C s T bz x y=(match(C.T T).k with
 | .slice e=>if(C.T e).ok=true∧(C.T e).zero.wd=(C.T e).sz∧(flat (C.T e).zero).isSome=true∧xg C e bz=true then
   match oJ C e s x with
   |some (.aL sz xs,s1)=>if sz=(C.T e).sz then
     match kR s1 (kq x.owner y)with
     |some (cf,s2)=>if(∀d∈cf,d.wd=(C.T e).sz)∧(xs.length+cf.length)*(C.T e).bytes≤140737488355328∧xs.length+cf.length≤9223372036854775807 then some (.aL sz (xs++cf),s2)else none
     |none=>none
    else none
   |_=>none
   else none
 |_=>none):=by
 unfold lI
 generalize kq x.owner y=kp
 cases(C.T T).k<;>first
  |rfl
  |(cases x<;>cases kp<;>rfl)
theorem MQ {e:TypeId} {d:I} (ad:oJ C e s x=some (d,s1)):Loc x.aa x.aa (fun s=>oJ C e s x) s d s1:=by
 cases x with
 |bk=>
  simp only[oJ,Option.some.injEq,Prod.mk.injEq]at ad
  obtain⟨ad,rfl⟩:=ad
  exact .pure fun aw _=>by simp only[oJ,ad]
 |h a q=>exact pf ad
 |_=>simp[oJ]at ad
theorem MR {cf:List I} (ag:kR s y=some (cf,s1)):Loc y.aa y.aa (fun s=>kR s y) s cf s1:=by
 cases y with
 |bk=>
  simp only[kR,Option.some.injEq,Prod.mk.injEq]at ag
  obtain⟨rfl,rfl⟩:=ag
  exact .pure fun aw _=>rfl
 |slice cf=>
  simp only[kR,Option.some.injEq,Prod.mk.injEq]at ag
  obtain⟨rfl,rfl⟩:=ag
  exact .pure fun aw _=>rfl
 |str l=>
  simp only[kR,Option.some.injEq,Prod.mk.injEq]at ag
  obtain⟨rfl,rfl⟩:=ag
  exact .pure fun aw _=>rfl
 |h a q=>
  simp only[kR]at ag
  split at ag
  ·rename_i LZ al1 gV aY
   simp only[Option.some.injEq,Prod.mk.injEq]at ag
   obtain⟨rfl,rfl⟩:=ag
   obtain⟨ms,g1,g2,g3⟩:=pf aY
   refine⟨ms,g1,g2,fun aw aa=> ?_⟩
   have:=g3 aw aa
   simp only at this
   simp only[kR,this]
  ·cases ag
 |_=>simp[kR]at ag
theorem MS {av:I} (h:lI C s T A x y=some (av,s1)):Loc (x.aa++y.aa) (x.aa++y.aa) (fun s=>lI C s T A x y) s av s1:=by
 rw[Bs]at h
 split at h
 ·rename_i e ax
  split at h
  ·rename_i aj
   split at h
   ·rename_i sz xs s2 ad
    split at h
    ·rename_i dJ
     split at h
     ·rename_i cf dL ag
      split at h
      ·rename_i q0
       simp only[Option.some.injEq,Prod.mk.injEq]at h
       obtain⟨rfl,rfl⟩:=h
       obtain⟨n0,rfl,a2,a3⟩:=MQ ad
       obtain⟨p4,rfl,h8,lJ⟩:=(MR ag).mono (Br _ _) (Br _ _)
       refine⟨n0++p4,(lg _ _ _).symm,?_,?_⟩
       ·intro m hm
        simp only[List.mem_append]at hm⊢
        rcases hm with hm|hm
        ·exact⟨.inl (a2 m hm).1,(a2 m hm).2⟩
        ·exact⟨.inr (h8 m hm).1,(h8 m hm).2⟩
       ·intro aw aa
        have aT:=a3 aw aa.left
        have aX:=lJ (cX n0 aw) (aa.right.cX n0)
        simp only at aT aX
        simp only[Bs,ax,if_pos aj,aT,if_pos dJ,aX,if_pos q0,lg]
      ·cases h
     ·cases h
    ·cases h
   ·cases h
  ·cases h
 ·cases h
theorem MT {aw:an} {i:I} (h:c8 x.aa aw s):nh C aw T x i=nh C s T x i:=by
 cases x with
 |h y q=>cases i<;>simp only[nh,h y (by simp[I.aa])]
 |_=>rfl
theorem MU {i v:I} {s2:an} (h:mc C s T x i v=some s2):Loc x.aa x.aa (fun s=>(mc C s T x i v).map fun s1=>(I.hole,s1)) s .hole s2:=by
 unfold mc at h
 split at h
 ·rename_i y q k b
  split at h
  ·rename_i m ah
   split at h
   ·rename_i lb
    simp only[Option.some.injEq]at h;subst h
    refine⟨[⟨.bR,y,I.put q (.dq (.mp (ow k b m))) (s y)⟩],ri _ _ _,?_,fun aw aa=> ?_⟩
    ·intro n aV
     simp only[List.mem_singleton]at aV;subst aV
     exact⟨by simp[I.aa],sB q _ _ _ ah (.inl rfl) fun _=>rfl⟩
    ·have aT:aw y=s y:=aa y (by simp[I.aa])
     simp only[mc,aT,ah,lb,if_true,Option.map_some]
     rw[←ri]
   ·cases h
  ·cases h
 ·cases h
theorem Fx {bA:fj} {av:I} (h:bq C s bA=some (av,s1)):Loc (use s bA) (cO s bA) (fun s=>bq C s bA) s av s1:=by
 cases bA with
 |shr bA=>simp[bq]at h
 |me f args u x=>simp[bq]at h
 |mf f args L=>simp[bq]at h
 |pe x=>
  simp only[bq]at h
  unfold oH at h
  split at h
  ·rename_i y q ai
   obtain⟨ms,ad,ag,aF⟩:=pf h
   refine⟨ms,ad,by simpa only[cO,ai]using ag,fun aw aa=> ?_⟩
   have e:=aC.eP (x:=x) aa
   have aX:=aF aw (by rw[←ai];exact c8.aE aa)
   simp only[bq,e,ai,oH]
   exact aX
  ·rename_i Fy
   simp only[Option.some.injEq,Prod.mk.injEq]at h
   obtain⟨rfl,rfl⟩:=h
   refine .pure fun aw aa=> ?_
   have e:=aC.eP (x:=x) aa
   simp only[bq,e,oH]
 |p6 x=>
  simp only[bq,Option.some.injEq,Prod.mk.injEq]at h
  obtain⟨rfl,rfl⟩:=h
  exact .pure fun aw aa=>by simp only[bq,aC.eP (x:=x) aa]
 |kM T x=>
  obtain⟨ms,ad,ag,aF⟩:=MN h
  refine⟨ms,ad,ag,fun aw aa=> ?_⟩
  simp only[bq,aC.eP (x:=x) aa]
  exact aF aw (c8.aE aa)
 |ni T bz x y=>
  simp only[bq,Option.map_eq_some_iff,Prod.mk.injEq]at h
  obtain⟨d,ah,rfl,rfl⟩:=h
  exact .pure fun aw aa=>by
   simp only[use]at aa
   simp only[bq,aC.eP (x:=x) aa.left,aC.eP (x:=y) aa.right,ah,Option.map_some]
 |bad=>simp[bq]at h
 |h_ el x y=>
  simp only[bq,Option.map_eq_some_iff,Prod.mk.injEq]at h
  obtain⟨d,ah,rfl,rfl⟩:=h
  exact .pure fun aw aa=>by
   simp only[use]at aa
   simp only[bq,aC.eP (x:=x) aa.left,aC.eP (x:=y) aa.right,ah,Option.map_some]
 |cap T x=>
  simp only[bq]at h
  split at h
  ·rename_i e ax ai
   simp only[Option.some.injEq,Prod.mk.injEq]at h
   obtain⟨rfl,rfl⟩:=h
   exact .pure fun aw aa=>by simp only[bq,aC.eP (x:=x) aa,ax,ai]
  ·cases h
 |bg x=>
  simp only[bq,Option.some.injEq,Prod.mk.injEq]at h
  obtain⟨rfl,rfl⟩:=h
  exact .pure fun aw aa=>by simp only[bq,aC.eP (x:=x) aa]
 |fk x=>
  simp only[bq]at h
  split at h
  ·rename_i y q ai
   obtain⟨ms,ad,ag,aF⟩:=pf h
   refine⟨ms,ad,by simpa only[cO,ai]using ag,fun aw aa=> ?_⟩
   have e:=aC.eP (x:=x) aa
   have aX:=aF aw (by rw[←ai];exact c8.aE aa)
   simp only[bq,e,ai]
   exact aX
  ·rename_i Fy
   simp only[Option.some.injEq,Prod.mk.injEq]at h
   obtain⟨rfl,rfl⟩:=h
   refine .pure fun aw aa=> ?_
   have e:=aC.eP (x:=x) aa
   simp only[bq,e]
 |pick c a b=>
  simp only[bq]at h
  split at h
  ·rename_i e8 U
   simp only[Option.some.injEq,Prod.mk.injEq]at h
   obtain⟨rfl,rfl⟩:=h
   refine .pure fun aw aa=> ?_
   simp only[use]at aa
   simp only[bq,aC.eP (x:=c) aa.left,aC.eP (x:=a) aa.right.left,aC.eP (x:=b) aa.right.right,U]
  ·cases h
 |gU T=>
  simp only[bq,Option.map_eq_some_iff,Prod.mk.injEq]at h
  obtain⟨d,ah,rfl,rfl⟩:=h
  exact .pure fun aw aa=>by simp only[bq,ah,Option.map_some]
 |cQ T x=>
  obtain⟨ms,ad,ag,aF⟩:=MM h
  refine⟨ms,ad,ag,fun aw aa=> ?_⟩
  simp only[bq,aC.eP (x:=x) aa]
  exact aF aw (c8.aE aa)
 |fE T ps=>
  obtain⟨ms,ad,ag,aF⟩:=MK h
  simp only[List.map_map,Function.comp_def]at ag aF
  refine⟨ms,ad,ag,fun aw aa=> ?_⟩
  simp only[bq,aC.Bo (ps:=ps) aa]
  refine aF aw (aa.sub fun u hu=> ?_)
  simp only[use]
  exact aC.xq u (by simpa [List.map_map,Function.comp_def]using hu)
 |dT T n ps=>
  obtain⟨ms,ad,ag,aF⟩:=ML h
  simp only[List.map_map,Function.comp_def]at ag aF
  refine⟨ms,ad,ag,fun aw aa=> ?_⟩
  simp only[bq,aC.Bo (ps:=ps) aa]
  refine aF aw (aa.sub fun u hu=> ?_)
  simp only[use]
  exact aC.xq u (by simpa [List.map_map,Function.comp_def]using hu)
 |bY T x=>
  simp only[bq,Option.map_eq_some_iff,Prod.mk.injEq]at h
  obtain⟨d,ah,rfl,rfl⟩:=h
  exact .pure fun aw aa=>by simp only[bq,aC.eP (x:=x) aa,Mz (c8.aE aa),ah,Option.map_some]
 |gd T x y=>
  simp only[bq,Option.map_eq_some_iff,Prod.mk.injEq]at h
  obtain⟨s2,ah,rfl,rfl⟩:=h
  obtain⟨ms,ad,ag,aF⟩:=MO ah
  refine⟨ms,ad,ag,fun aw aa=> ?_⟩
  simp only[use]at aa
  simp only[bq,aC.eP (x:=x) aa.left,aC.eP (x:=y) aa.right]
  exact aF aw (aa.sub fun u hu=>by simp only[List.mem_append]at hu⊢;exact hu.imp (aC.rj u) (aC.rj u))
 |eo x=>
  simp only[bq,Option.map_eq_some_iff,Prod.mk.injEq]at h
  obtain⟨d,ah,rfl,rfl⟩:=h
  exact .pure fun aw aa=>by simp only[bq,aC.eP (x:=x) aa,MH (c8.aE aa),ah,Option.map_some]
 |bx op T x y=>
  simp only[bq,Option.map_eq_some_iff,Prod.mk.injEq]at h
  obtain⟨d,ah,rfl,rfl⟩:=h
  refine .pure fun aw aa=> ?_
  simp only[use]at aa
  simp only[bq,aC.eP (x:=x) aa.left,aC.eP (x:=y) aa.right,MG (c8.aE aa.left),ah,Option.map_some]
 |un op x=>
  simp only[bq,Option.map_eq_some_iff,Prod.mk.injEq]at h
  obtain⟨d,ah,rfl,rfl⟩:=h
  exact .pure fun aw aa=>by simp only[bq,aC.eP (x:=x) aa,ah,Option.map_some]
 |gr A B x=>
  simp only[bq,Option.map_eq_some_iff,Prod.mk.injEq]at h
  obtain⟨d,ah,rfl,rfl⟩:=h
  exact .pure fun aw aa=>by simp only[bq,aC.eP (x:=x) aa,MD (c8.aE aa),ah,Option.map_some]
 |kc f cs=>
  simp only[bq,Option.some.injEq,Prod.mk.injEq]at h
  obtain⟨rfl,rfl⟩:=h
  exact .pure fun aw aa=>by simp only[bq,aC.Bn (xs:=cs) aa]
 |dX T l c=>
  simp only[bq,Option.map_eq_some_iff,Prod.mk.injEq]at h
  obtain⟨d,ah,rfl,rfl⟩:=h
  refine .pure fun aw aa=> ?_
  simp only[use]at aa
  simp only[bq,aC.eP (x:=l) aa.left,aC.eP (x:=c) aa.right,ah,Option.map_some]
 |dh T x cJ ay=>
  simp only[bq]at h
  obtain⟨ms,ad,ag,aF⟩:=MP h
  refine⟨ms,ad,ag,fun aw aa=> ?_⟩
  simp only[use]at aa
  simp only[bq,aC.eP (x:=x) aa.left,Fp aa.right.left,Fp aa.right.right]
  exact aF aw (c8.aE aa.left)
 |cH T x k=>
  simp only[bq,Option.map_eq_some_iff,Prod.mk.injEq]at h
  obtain⟨d,ah,rfl,rfl⟩:=h
  exact .pure fun aw aa=>by simp only[bq,aC.eP (x:=x) aa,MA (c8.aE aa),ah,Option.map_some]
 |dO T x i=>
  simp only[bq,Option.map_eq_some_iff,Prod.mk.injEq]at h
  obtain⟨d,ah,rfl,rfl⟩:=h
  refine .pure fun aw aa=> ?_
  simp only[use]at aa
  simp only[bq,aC.eP (x:=x) aa.left,aC.eP (x:=i) aa.right,MB (c8.aE aa.left),ah,Option.map_some]
 |idx T x i=>
  simp only[bq,Option.map_eq_some_iff,Prod.mk.injEq]at h
  obtain⟨d,ah,rfl,rfl⟩:=h
  refine .pure fun aw aa=> ?_
  simp only[use]at aa
  simp only[bq,aC.eP (x:=x) aa.left,aC.eP (x:=i) aa.right,ah,Option.map_some]
 |ex x k=>
  simp only[bq,Option.map_eq_some_iff,Prod.mk.injEq]at h
  obtain⟨d,ah,rfl,rfl⟩:=h
  exact .pure fun aw aa=>by simp only[bq,aC.eP (x:=x) aa,MJ (c8.aE aa),ah,Option.map_some]
 |uT=>
  simp only[bq,Option.some.injEq,Prod.mk.injEq]at h
  obtain⟨rfl,rfl⟩:=h
  exact .pure fun aw aa=>rfl
 |nh T x i=>
  simp only[bq,Option.map_eq_some_iff,Prod.mk.injEq]at h
  obtain⟨d,ah,rfl,rfl⟩:=h
  refine .pure fun aw aa=> ?_
  simp only[use]at aa
  simp only[bq,aC.eP (x:=x) aa.left,aC.eP (x:=i) aa.right,MT (c8.aE aa.left),ah,Option.map_some]
 |mc T x i v=>
  simp only[bq,Option.map_eq_some_iff,Prod.mk.injEq]at h
  obtain⟨s2,ah,rfl,rfl⟩:=h
  obtain⟨ms,ad,ag,aF⟩:=MU ah
  refine⟨ms,ad,ag,fun aw aa=> ?_⟩
  simp only[use]at aa
  simp only[bq,aC.eP (x:=x) aa.left,aC.eP (x:=i) aa.right.left,aC.eP (x:=v) aa.right.right]
  exact aF aw (c8.aE aa.left)
 |lF T x k=>
  simp only[bq,Option.bind_eq_some_iff]at h
  obtain⟨d,ah,h⟩:=h
  unfold oH at h
  split at h
  ·rename_i y q
   have ai:=MI ah
   obtain⟨ms,ad,ag,aF⟩:=pf h
   refine⟨ms,ad,by simpa only[cO,ai,I.aa]using ag,fun aw aa=> ?_⟩
   have aX:=aF aw (by rw[show(I.h y q).aa=(aE s x).aa from ai.symm];exact c8.aE aa)
   simp only[bq,aC.eP (x:=x) aa,Fq (c8.aE aa),ah,Option.bind_some,oH]
   exact aX
  ·rename_i Fy
   simp only[Option.some.injEq,Prod.mk.injEq]at h
   obtain⟨rfl,rfl⟩:=h
   refine .pure fun aw aa=> ?_
   simp only[bq,aC.eP (x:=x) aa,Fq (c8.aE aa),ah,Option.bind_some,oH]
 |call f args=>simp[bq]at h
 |len T x=>
  simp only[bq,Option.map_eq_some_iff,Prod.mk.injEq]at h
  obtain⟨d,ah,rfl,rfl⟩:=h
  exact .pure fun aw aa=>by simp only[bq,aC.eP (x:=x) aa,MC (c8.aE aa),ah,Option.map_some]
 |app T bz x y=>
  obtain⟨ms,ad,ag,aF⟩:=MS h
  refine⟨ms,ad,ag,fun aw aa=> ?_⟩
  simp only[use]at aa
  simp only[bq,aC.eP (x:=x) aa.left,aC.eP (x:=y) aa.right]
  exact aF aw (aa.sub fun u hu=>by simp only[List.mem_append]at hu⊢;exact hu.imp (aC.rj u) (aC.rj u))
end
def I.one:I→Bool
 | .agg _=>false
 | .tuple _=>false
 |_=>true
mutual
def view (s:an):I→Option I
 | .h x q=>match I.sub q (s x)with
   |some d=>(match d with| .tuple _=>none| .dq _=>none|d=>if d.plain then none else some d.share)
   |none=>none
 | .ao x q=>if I.e2 q (s x)then(match I.sub q (s x)with
   |some d=>(match d with| .tuple _=>none|d=>some (.ref d.share))
   |none=>none)else none
 | .U _ _=>none
 | .fn f cap=>(views s cap).map (.fn f)
 | .hole=>none
 |d=>some d
def views (s:an):List I→Option (List I)
 |[]=>some []
 |d::ds=>match view s d,views s ds with
  |some a,some b=>some (a::b)
  |_,_=>none
end
mutual
theorem Bt:∀d:I,d.share.plain=true
 | .hole=>rfl
 | .bool _=>rfl
 | .et=>rfl
 | .int _ _=>rfl
 | .str _=>rfl
 | .cS=>rfl
 | .bk=>rfl
 | .slice _=>rfl
 | .aL _ _=>rfl
 | .ref _=>rfl
 | .bM _=>rfl
 | .agg aq=>by simp only[I.share,I.plain];exact Bu aq
 | .tuple aq=>by simp only[I.share,I.plain];exact Bu aq
 | .fn _ _=>rfl
 | .h _ _=>rfl
 | .ao _ _=>rfl
 | .U _ _=>rfl
 | .dq _=>rfl
theorem Bu:∀ds:List I,I.fK (I.shares ds)=true
 |[]=>rfl
 |d::ds=>by simp only[I.shares,I.fK];rw[Bt d,Bu ds];rfl
end
theorem MV {s:an} {a d:I} (h:a.plain=true) (he:view s a=some d):d.plain=true:=by
 cases a with
 |h x q=>
  simp only[view]at he
  split at he
  ·rename_i e eE
   cases e<;>simp only at he<;>first
    |(cases he;done)
    |(split at he
      ·cases he
      ·simp only[Option.some.injEq]at he
       subst he;exact Bt _)
  ·cases he
 |ao x q=>
  simp only[view]at he
  split at he
  ·split at he
   ·rename_i e eE
    cases e<;>simp only at he<;>first
     |(cases he;done)
     |(simp only[Option.some.injEq]at he;subst he;rfl)
   ·cases he
  ·cases he
 |fn f cap=>
  simp only[view,Option.map_eq_some_iff]at he
  obtain⟨ds,_,rfl⟩:=he
  rfl
 |hole=>simp[view]at he
 |U y q=>simp[view]at he
 |_=>simp only[view,Option.some.injEq]at he;subst he;exact h
theorem Bv {d:I} {v:Value} (ad:∀vs,d≠.tuple vs) (h:ck d v):ck d.share v:=by
 cases d<;>first|exact h|exact(ad _ rfl).elim
theorem MW (w:World):∀(q:List Nat) (av d bf:I) (cs cc:List Value) (a cz:Option (Nat×Nat)),I.sub q av=some d→bf.wd=d.wd→cL w q av cs a=some (d,cc,cz)→
  cL w q (I.put q bf av) cs a=some (bf,cc,cz):=by
 intro q
 induction q with
 |nil=>
  intro av d bf cs cc a cz ah hw h
  simp only[cL,Option.some.injEq,Prod.mk.injEq]at h
  obtain⟨rfl,rfl,rfl⟩:=h
  simp only[I.put,cL]
 |cons k q ih=>
  intro av d bf cs cc a cz ah hw h
  cases av with
  |agg aq=>
   simp only[I.sub]at ah
   split at ah
   ·rename_i x ai
    have ax:k<aq.length:=(List.getElem?_eq_some_iff.1 ai).1
    simp only[cL,ai]at h
    simp only[I.put,ai,cL]
    rw[List.getElem?_set_self ax]
    simp only[List.take_set_of_le (Nat.le_refl k),I.sg q x d bf ah hw]
    exact ih _ _ _ _ _ _ _ ah hw h
   ·cases ah
  |tuple aq=>
   simp only[I.sub]at ah
   split at ah
   ·rename_i x ai
    have ax:k<aq.length:=(List.getElem?_eq_some_iff.1 ai).1
    simp only[cL,ai]at h
    simp only[I.put,ai,cL]
    rw[List.getElem?_set_self ax]
    simp only[List.take_set_of_le (Nat.le_refl k),I.sg q x d bf ah hw]
    exact ih _ _ _ _ _ _ _ ah hw h
   ·cases ah
  |aL sz aq=>
   simp only[I.sub]at ah
   split at ah
   ·rename_i x ai
    have ax:k<aq.length:=(List.getElem?_eq_some_iff.1 ai).1
    have ld:(aq.set k (I.put q bf x))[k]? =some (I.put q bf x):=List.getElem?_set_self ax
    simp only[I.put,ai]
    rw[cL.eq_def]at h⊢
    simp only[ai]at h
    simp only
    rw[ld]
    split at h
    ·rename_i aT
     simp only[Option.some.injEq]at aT;subst aT
     exact ih _ _ _ _ _ _ _ ah hw h
    ·cases h
   ·cases ah
  |bM x=>
   cases k with
   |zero=>
    simp only[I.sub]at ah
    rw[cL.eq_def]at h⊢
    simp only at h
    simp only[I.put]
    split at h
    ·rw[I.sg q x d bf ah hw]
     exact ih _ _ _ _ _ _ _ ah hw h
    ·cases h
   |succ k=>simp[I.sub]at ah
  |_=>simp[I.sub]at ah
section
variable {w0 w aA:World} {F0 X F Fc:Nat→Prop} {S:Nat→Nat→Prop} {s aw:an} {au jP:Nat→Value}
theorem MX (h:bw w0 F0 X F S s au w) (bl:∀b,F b→Fc b):∀n,
  (∀(a:I) (v:Value) (d:I),SizeOf.sizeOf a≤n→(∀t∈a.aa,∀b,S t b→Fc b)→view s a=some d→aB w F s au a v (fun _=>False)→aB w Fc aw jP d v (fun _=>False))∧
  (∀(as:List I) (vs:List Value) (ds:List I),SizeOf.sizeOf as≤n→(∀t∈I.dK as,∀b,S t b→Fc b)→views s as=some ds→dx w F s au as vs→dx w Fc aw jP ds vs):=by
 intro n
 induction n with
 |zero=>exact⟨fun a _ _ bG=>by cases a<;>simp at bG<;>omega,fun as _ _ bG=>by cases as<;>simp at bG<;>omega⟩
 |succ n ih=>
  refine⟨fun a v d bG bI he aI=> ?_,fun as vs ds bG bI he aI=> ?_⟩
  ·cases a with
   |h x q=>
    simp only[view]at he
    split at he
    ·rename_i e eE
     have key:(∀aq,e≠.tuple aq)∧e.plain=false∧d=e.share∧∀o,e≠.dq o:=by
      cases e<;>simp only at he<;>first
       |(cases he;done)
       |(split at he
         ·cases he
         ·rename_i gT
          simp only[Option.some.injEq]at he
          exact⟨(fun _ h=>by cases h),by simpa using gT,he.symm,fun _ h=>by cases h⟩)
     obtain⟨mh,gT,rfl,ko⟩:=key
     rw[aB]at aI
     obtain⟨cc,cz,g1,g2,g3⟩:=aI e eE gT
     have aY:=hq eE (.inl gT)
     have ai:=(aB.b9 aY).1 (h.cN x)
     obtain⟨ff,a2,dE,eM,k0,bV,b7,eh,dd,eO⟩:=ctx q (s x) (bU (au x)) (S x) none e ai.2 eE
     rw[g1]at k0
     simp only[Option.some.injEq,Prod.mk.injEq,true_and]at k0
     obtain⟨rfl,rfl⟩:=k0
     have AL:e.share.tree=true:=by cases e<;>first|rfl|(simp[I.plain]at gT;done)|exact(ko _ rfl).elim
     have aH:=ak.shared bl e cc eM (fun b U=>bI x (by simp[I.aa]) b (b7 b U)) dd
     exact(aB.b9 AL).2 ⟨Bv mh g3,by rw[g2];exact aH⟩
    ·cases he
   |ao x q=>
    simp only[view]at he
    split at he
    ·rename_i nT
     split at he
     ·rename_i e eE
      have key:(∀aq,e≠.tuple aq)∧d= .ref e.share:=by
       cases e<;>simp only at he<;>first
        |(cases he;done)
        |(simp only[Option.some.injEq]at he;exact⟨(fun _ h=>by cases h),he.symm⟩)
      obtain⟨mh,rfl⟩:=key
      rw[aB]at aI
      obtain⟨cc,b,o,g1,rfl⟩:=aI e eE nT
      have aY:=hq eE (.inr nT)
      have ai:=(aB.b9 aY).1 (h.cN x)
      obtain⟨ff,a2,dE,eM,k0,bV,b7,eh,dd,eO⟩:=ctx q (s x) (bU (au x)) (S x) none e ai.2 eE
      rw[g1]at k0
      simp only[Option.some.injEq,Prod.mk.injEq,true_and]at k0
      obtain⟨rfl,rfl⟩:=k0
      have aH:=ak.shared bl e cc eM (fun b U=>bI x (by simp[I.aa]) b (b7 b U)) dd
      rcases eO with⟨l,r,_,aX,_⟩|⟨e8,cur,ty,fr,l,r,aT,aX,aS,bQ,cp,_⟩
      ·simp at aX
      ·simp only[Option.some.injEq,Prod.mk.injEq]at aT
       obtain⟨rfl,rfl⟩:=aT
       refine(aB.b9 rfl).2 ⟨rfl,?_⟩
       rw[ak]
       refine⟨b,l.length,cc,rfl,bI x (by simp[I.aa]) b (bV b aX),?_,aH⟩
       intro j c b6
       simp only[World.cell?,aS]
       have aj:cur[l.length+j]? =some c:=by
        rw[←Array.getElem?_toList,cp,List.getElem?_append_right (by omega),List.getElem?_append_left (by
         have:=(List.getElem?_eq_some_iff.1 b6).1;omega)]
        rw[←b6];congr 1;omega
       simpa using aj
     ·cases he
    ·cases he
   |fn f cap=>
    simp only[view,Option.map_eq_some_iff]at he
    obtain⟨ds,iR,rfl⟩:=he
    rw[aB]at aI
    obtain⟨arr,rfl,aj⟩:=aI
    rw[aB]
    exact⟨arr,rfl,ih.2 cap _ _ (by simp at bG;omega) (by simpa [I.aa]using bI) iR aj⟩
   |hole=>simp[view]at he
   |U y q=>simp[view]at he
   |_=>
    simp only[view,Option.some.injEq]at he;subst he
    have kK:=(aB.b9 rfl).1 aI
    exact(aB.b9 rfl).2 ⟨kK.1,ak.mono bl _ _ _ _ (fun _ h=>h) kK.2⟩
  ·cases as with
   |nil=>
    simp only[views,Option.some.injEq]at he;subst he
    rw[dx]at aI⊢;exact aI
   |cons a as=>
    simp only[views]at he
    split at he
    ·rename_i d ds ad ag
     simp only[Option.some.injEq]at he;subst he
     rw[dx]at aI⊢
     obtain⟨v,jc,rfl,g1,g2⟩:=aI
     simp at bG
     simp only[I.dK,List.mem_append]at bI
     exact⟨v,jc,rfl,ih.1 a v d (by omega) (fun t aY=>bI t (.inl aY)) ad g1,ih.2 as jc ds (by omega) (fun t aY=>bI t (.inr aY)) ag g2⟩
    ·cases he
theorem bw.kd (h:bw w0 F0 X F S s au w) {x:Nat} {q:List Nat} {d0 bf:I} {cc:List Value} {a:Option (Nat×Nat)} {Sn:Nat→Prop}
  (ah:I.sub q (s x)=some d0) (br:cL w q (s x) (bU (au x)) none=some (d0,cc,a)) (ag:∀vs,bf≠.tuple vs) (aY:q=[]→bf.tree=true∧ck bf (au x))
  (aF:∀k p,q=k::p→(s x).tree=true∧(∀v,hQ d0 v→hQ bf v)) (hw:bf.wd=d0.wd)
  (aI:ak w F bf cc Sn) (d_:∀b,Sn b→b<w.heap.size) (bl:∀b,Sn b→¬F b) (bI:∀u b,Sn b→¬S u b) (bm:∀b,Sn b→X b∨w0.heap.size≤b):
  bw w0 F0 X F (fR S x (fun b=>S x b∨Sn b)) (c7 (mD x s) x (I.put q bf (s x))) au w:=by
 have dF:c7 au x (au x)=au:=by funext u;simp only[c7];split<;>simp_all
 have main:(I.put q bf (s x)).tree=true∧ck (I.put q bf (s x)) (au x)∧ak w F (I.put q bf (s x)) (bU (au x)) (fun b=>S x b∨Sn b):=by
  cases q with
  |nil=>
   simp only[cL,Option.some.injEq,Prod.mk.injEq]at br
   obtain⟨aT,aX,aS⟩:=br
   obtain⟨g1,g2⟩:=aY rfl
   simp only[I.put]
   refine⟨g1,?_,?_⟩
   ·exact g2
   ·rw[aX];exact ak.mono (fun _ h=>h) _ _ _ _ (fun b U=>.inr U) aI
  |cons k p=>
   obtain⟨g1,g2⟩:=aF k p rfl
   have ai:=(aB.b9 g1).1 (h.cN x)
   obtain⟨ff,a2,dE,eM,k0,bV,b7,eh,dd,eO⟩:=ctx (k::p) (s x) (bU (au x)) (S x) none d0 ai.2 ah
   rw[br]at k0
   simp only[Option.some.injEq,Prod.mk.injEq,true_and]at k0
   obtain⟨rfl,rfl⟩:=k0
   refine⟨?_,?_,?_⟩
   ·rcases pV k p bf (s x)with⟨aq,gs,aT,e⟩|⟨aq,gs,aT,e⟩|⟨sz,xs,cf,aT,e⟩|⟨y,z,aT,e⟩|e<;>rw[e]<;>first|rfl|exact g1
   ·refine uq ai.1 ah g2 (fun _ vs e=>(ag vs e).elim) hw
   ·have mono:∀b,(dE b∨Sn b)→(S x b∨Sn b):=fun b U=>U.imp (bV b) id
    rcases eO with⟨l,r,aT,aX,aS⟩|⟨b,cur,ty,fr,l,r,aT,aX,aS,bQ,cp,bK⟩
    ·rw[aT]
     exact ak.mono (fun _ h=>h) _ _ _ _ mono (aS w bf cc Sn (fun _ _=>rfl) (fun _ _=>rfl) hw aI (fun b U aj=>bI x b U (bV b aj)))
    ·refine ak.mono (fun _ h=>h) _ _ _ _ mono (bK w bf cc Sn (fun _ _=>rfl) (fun _ _ _=>rfl) ?_ hw aI (fun b U aj=>bI x b U (bV b aj)))
     rw[aS,←cp]
 have:=h.Ea (t:=x) main.1 main.2.1 main.2.2 (by rintro b (U|U);exact h.eg x b U;exact d_ b U) (by rintro b (U|U);exact h.fa x b U;exact bl b U)
  (by rintro u b dr (U|U);exact fun hu=>h.eN u x b dr hu U;exact bI u b U) (by rintro b (U|U);exact h.dp x b U;exact bm b U)
 rwa [dF]at this
end
mutual
def I.cU:I→Bool
 | .slice _=>false
 | .ref _=>false
 | .fn _ _=>false
 | .h _ _=>false
 | .ao _ _=>false
 | .U _ _=>false
 | .aL _ xs=>I.ia xs
 | .bM d=>d.cU
 | .agg aq=>I.ia aq
 | .tuple aq=>I.ia aq
 |_=>true
def I.ia:List I→Bool
 |[]=>true
 |d::ds=>d.cU&&I.ia ds
end
mutual
theorem ak.cU {w:World} {F bC:Nat→Prop}:∀(d:I) (cs:List Value) (S:Nat→Prop),d.cU=true→ak w F d cs S→ak w bC d cs S
 | .hole,_,_,_,h=>h
 | .bool _,_,_,_,h=>h
 | .et,_,_,_,h=>h
 | .int _ _,_,_,_,h=>h
 | .str _,_,_,_,h=>h
 | .cS,_,_,_,h=>h
 | .bk,_,_,_,h=>h
 | .slice xs,cs,S,aV,h=>by simp[I.cU]at aV
 | .ref d,cs,S,aV,h=>by simp[I.cU]at aV
 | .aL sz xs,cs,S,aV,h=>by
   rw[ak]at h⊢
   rcases h with h|⟨b,cap,cur,e,fr,aG,ad,ag,aF,a8,bF,cn,cD,eu,gK,hn,la⟩
   ·exact .inl h
   ·exact .inr ⟨b,cap,cur,e,fr,aG,ad,ag,aF,a8,bF,cn,cD,eu,aW.cU xs _ _ aV gK,hn,la⟩
 | .bM d,cs,S,aV,h=>by
   rw[ak]at h⊢
   obtain⟨b,cur,e,fr,aG,ad,ag,aF,a8,bF,cn,cD⟩:=h
   exact⟨b,cur,e,fr,aG,ad,ag,aF,a8,ak.cU d _ _ aV bF,cn,cD⟩
 | .agg aq,cs,S,aV,h=>by rw[ak]at h⊢;exact aW.cU aq _ _ aV h
 | .tuple aq,cs,S,aV,h=>by rw[ak]at h⊢;exact aW.cU aq _ _ aV h
 | .fn _ _,_,_,aV,h=>by simp[I.cU]at aV
 | .h _ _,_,_,_,h=>h
 | .ao _ _,_,_,_,h=>h
 | .U _ _,_,_,_,h=>h
 | .dq _,_,_,_,h=>h
theorem aW.cU {w:World} {F bC:Nat→Prop}:∀(ds:List I) (cs:List Value) (S:Nat→Prop),I.ia ds=true→aW w F ds cs S→aW w bC ds cs S
 |[],_,_,_,h=>h
 |d::ds,cs,S,aV,h=>by
  simp only[I.ia,Bool.and_eq_true]at aV
  rw[aW]at h⊢
  obtain⟨b5,c2,bN,dc,ad,ag,aF,a8,bF,cn⟩:=h
  exact⟨b5,c2,bN,dc,ad,ak.cU d _ _ aV.1 ag,aW.cU ds _ _ aV.2 aF,a8,bF,cn⟩
end
theorem Fz:∀(q:List Nat) (av d e:I),I.sub q av=some d→I.sub q (I.put q e av)=some e:=by
 intro q
 induction q with
 |nil=>intro av d e _;simp[I.put,I.sub]
 |cons k q ih=>
  intro av d e h
  cases av with
  |agg aq=>
   simp only[I.sub]at h
   split at h
   ·rename_i x ai
    have ax:k<aq.length:=(List.getElem?_eq_some_iff.1 ai).1
    simp only[I.put,ai,I.sub,List.getElem?_set_self ax]
    exact ih _ _ _ h
   ·cases h
  |tuple aq=>
   simp only[I.sub]at h
   split at h
   ·rename_i x ai
    have ax:k<aq.length:=(List.getElem?_eq_some_iff.1 ai).1
    simp only[I.put,ai,I.sub,List.getElem?_set_self ax]
    exact ih _ _ _ h
   ·cases h
  |aL sz aq=>
   simp only[I.sub]at h
   split at h
   ·rename_i x ai
    have ax:k<aq.length:=(List.getElem?_eq_some_iff.1 ai).1
    simp only[I.put,ai,I.sub,List.getElem?_set_self ax]
    exact ih _ _ _ h
   ·cases h
  |bM x=>
   cases k with
   |zero=>simp only[I.sub]at h;simp only[I.put,I.sub];exact ih _ _ _ h
   |succ k=>simp[I.sub]at h
  |_=>simp[I.sub]at h
structure cR where
 a:I
 g:Bool
 d:I
 o:I
def I.own:I→Bool
 | .aL _ _=>true
 | .bM _=>true
 |_=>false
def I.hz:I→Bool
 | .aL _ _=>true
 | .bM _=>true
 | .dq _=>true
 | .agg aq=> !I.fK aq
 |_=>false
def xt (d o:I):Bool:=match d,o with
 | .agg a,.agg b=>I.dD a==I.dD b
 | .agg _,_=>false
 |_,.agg _=>false
 |_,_=>true
theorem p8 {d:I} (h:d.hz=true):d.plain=false∧d.tree=true∧∀vs,d≠.tuple vs:=by
 cases d<;>simp[I.hz]at h<;>first|exact⟨rfl,rfl,fun vs e=>by cases e⟩|exact⟨by simp only[I.plain];exact h,rfl,fun vs e=>by cases e⟩
theorem MY {d o:I} (h:d.hz=true) (cd:o.hz=true) (aO:xt d o=true):o.wd=d.wd∧(∀v,ck d v→ck o v)∧∀v,hQ d.cG v→hQ o v:=by
 cases d<;>simp[I.hz]at h<;>cases o<;>simp[I.hz]at cd<;>simp[xt]at aO<;>first
  |exact⟨rfl,fun _ h=>h,fun _ h=>h⟩
  |exact⟨by simp only[I.wd];exact aO.symm,fun _ h=>h,fun _ h=>h⟩
def cR.ok (s:an) (p:cR):Prop:=
 if p.g then(match p.a with| .h x q=>I.sub q (s x)=some p.d∧p.d.hz=true∧(p.o= .hole∨(p.o.hz=true∧xt p.d p.o=true))|_=>False)
 else view s p.a=some p.d
def iS:List cR→Bool
 |[]=>true
 |p::r=>(r.all fun ca=> !(p.g||ca.g)||(p.a.aa.all fun u=> !ca.a.aa.contains u))&&iS r
def cR.take (s:an) (p:cR):an:=
 if p.g then(match p.a with| .h x q=>c7 (hR x s) x (I.put q p.d.cG (s x))|_=>s)else s
def cR.kd (s:an) (p:cR):an:=
 if p.g then(match p.a,p.o with|_,.hole=>s| .h x q,o=>c7 (mD x s) x (I.put q o (s x))|_,_=>s)else s
def fG (s:an) (ps:List cR):an:=ps.foldl cR.take s
def ju (s:an) (ps:List cR):an:=ps.foldl cR.kd s
section
variable {w0 w aA:World} {F0 X F Fc:Nat→Prop} {S:Nat→Nat→Prop} {s aw:an} {au jP:Nat→Value}
def MZ (w:World) (F:Nat→Prop) (s1:an) (au:Nat→Value) (p:cR) (v:Value) (Sn:Nat→Prop):Prop:=
 ∃x q a0,p.a= .h x q∧I.sub q (s1 x)=some p.d.cG∧cL w q (s1 x) (bU (au x)) none=some (p.d.cG,bU v,a0)∧(s1 x).aa=[]∧(q=[]→ck p.d (au x))∧(q≠[]→(s1 x).tree=true)∧
  ck p.d v∧ak w F p.d (bU v) Sn
theorem M0 {p:cR} {x:Nat} (h:(s x).aa=[]) (ao:p.g=true→x∉p.a.aa):cR.take s p x=s x:=by
 unfold cR.take
 split
 ·rename_i hg
  cases cb:p.a with
  |h y q=>
   have:x≠y:=by
    have:=ao hg
    rw[cb]at this
    simpa [I.aa]using this
   simp only
   rw[jd _ _ this]
   exact uV _ (by rw[h];simp)
  |_=>rfl
 ·rfl
theorem Bw:∀{ps:List cR} {s:an} {x:Nat},(s x).aa=[]→(∀p∈ps,p.g=true→x∉p.a.aa)→fG s ps x=s x:=by
 intro ps
 induction ps with
 |nil=>intros;rfl
 |cons p ps ih=>
  intro s x h ao
  have e:=M0 (s:=s) (p:=p) h (ao p (by simp))
  show fG (cR.take s p) ps x=s x
  rw[ih (by rw[e];exact h) (fun ca dY=>ao ca (by simp[dY])),e]
theorem ph {d:I} (h:d.own=true):d.plain=false∧d.tree=true∧d.cG= .hole∧d.one=true∧d.wd=1∧(∀v,ck d v↔Value.f_ v=true):=by
 cases d<;>simp[I.own]at h<;>exact⟨rfl,rfl,rfl,rfl,rfl,fun v=>Iff.rfl⟩
theorem M1:∀(ps:List cR) (vs:List Value) (s:an) (S:Nat→Nat→Prop),bw w0 F0 X F S s au w→ps.length=vs.length→
  (∀(i:Nat) (p:cR) (v:Value),ps[i]? =some p→vs[i]? =some v→p.a.plain=true∧aB w F s au p.a v (fun _=>False)∧(p.g=true→p.ok s))→iS ps=true→
  ∃(Sn bN:Nat→Nat→Prop),bw w0 F0 X F bN (fG s ps) au w∧(∀u b,bN u b→S u b)∧
   (∀(i:Nat) (p:cR) (v:Value),ps[i]? =some p→vs[i]? =some v→p.g=true→MZ w F (fG s ps) au p v (Sn i))∧
   (∀i b,Sn i b→∃p,ps[i]? =some p∧p.g=true)∧
   (∀i b,Sn i b→∃u,S u b)∧(∀i u b,Sn i b→¬bN u b)∧(∀i j b,i≠j→Sn i b→¬Sn j b)∧
   (∀(bf:I) (fA:Value) (aG:Nat→Prop),(∀p∈ps,p.g=true→∀u∈p.a.aa,u∉bf.aa)→aB w F s au bf fA aG→aB w F (fG s ps) au bf fA aG):=by
 intro ps
 induction ps with
 |nil=>
  intro vs s S h aO _ _
  exact⟨fun _ _=>False,S,h,fun _ _ h=>h,fun i p v ao=>by simp at ao,fun _ _ h=>h.elim,fun _ _ h=>h.elim,fun _ _ _ h=>h.elim,fun _ _ _ _ h=>h.elim,fun _ _ _ _ h=>h⟩
 |cons p ps ih=>
  intro vs s S h aO uR ks
  cases vs with
  |nil=>simp at aO
  |cons v vs=>
   simp only[List.length_cons,Nat.add_right_cancel_iff]at aO
   simp only[iS,Bool.and_eq_true,List.all_eq_true,Bool.or_eq_true,Bool.not_eq_true']at ks
   obtain⟨n1,nn⟩:=ks
   have sD:∀ca∈ps,(p.g=true∨ca.g=true)→∀u∈p.a.aa,u∉ca.a.aa:=by
    intro ca dY hg u hu
    rcases n1 ca dY with e|e
    ·rcases hg with hg|hg<;>simp[hg]at e
    ·simpa using e u hu
   obtain⟨f1,f2,f3⟩:=uR 0 p v rfl rfl
   cases hg:p.g with
   |false=>
    have gf:cR.take s p=s:=by simp[cR.take,hg]
    obtain⟨Sn,bN,g1,g2,g3,g4,g5,g6,g7,g8⟩:=ih vs s S h aO (fun i ca fA ao aI=>uR (i+1) ca fA (by simpa using ao) (by simpa using aI)) nn
    have aT:fG s (p::ps)=fG s ps:=by show fG (cR.take s p) ps=_;rw[gf]
    rw[aT]
    refine⟨fun i=>match i with|0=>fun _=>False|i+1=>Sn i,bN,g1,g2,?_,?_,?_,?_,?_,fun bf fA aG ah=>g8 bf fA aG fun ca dY=>ah ca (by simp[dY])⟩
    ·intro i ca fA ao aI gN
     cases i with
     |zero=>simp at ao;subst ao;rw[hg]at gN;cases gN
     |succ i=>exact g3 i ca fA (by simpa using ao) (by simpa using aI) gN
    ·intro i b U
     cases i with
     |zero=>exact U.elim
     |succ i=>simpa using g4 i b U
    ·intro i b U
     cases i with
     |zero=>exact U.elim
     |succ i=>exact g5 i b U
    ·intro i u b U
     cases i with
     |zero=>exact U.elim
     |succ i=>exact g6 i u b U
    ·intro i j b dr ay b6
     cases i with
     |zero=>exact ay.elim
     |succ i=>
      cases j with
      |zero=>exact b6.elim
      |succ j=>exact g7 i j b (by omega) ay b6
   |true=>
    have gv:=f3 hg
    simp only[cR.ok,hg,if_true]at gv
    split at gv
    ·rename_i x q cb
     obtain⟨eE,Bx,qV⟩:=gv
     obtain⟨mL,n2,xu⟩:=p8 Bx
     have M3:ch s p.a=some (p.d,c7 (hR x s) x (I.put q p.d.cG (s x))):=by
      rw[cb];simp only[ch,eE,mL];rfl
     obtain⟨bN,t1,t2,t3,M4,t4,t5,t6,t7,t8,t9,t10,t11⟩:=nR h f1 f2 M3
     have gf:cR.take s p=c7 (hR x s) x (I.put q p.d.cG (s x)):=by simp[cR.take,hg,cb]
     have oK:∀ca∈ps,x∉ca.a.aa:=fun ca dY=>sD ca dY (.inl hg) x (by rw[cb];simp[I.aa])
     have Bz:cR.take s p x=I.put q p.d.cG (s x):=by rw[gf,l7]
     have FA:(cR.take s p x).aa=[]:=by
      rw[Bz];exact sB q _ _ _ eE (.inl mL) (fun _=>by cases ah:p.d<;>first|rfl|(rw[ah]at Bx;simp[I.hz]at Bx))
     obtain⟨Sn,dc,g1,g2,g3,g4,g5,g6,g7,g8⟩:=ih vs (cR.take s p) bN (by rw[gf];exact t1) aO (by
      intro i ca fA ao aI
      obtain⟨bV,b7,eh⟩:=uR (i+1) ca fA (by simpa using ao) (by simpa using aI)
      have hm:ca∈ps:=List.mem_of_getElem? ao
      refine⟨bV,?_,?_⟩
      ·have:=t11 _ _ _ b7
       rw[cb]at this
       rw[gf]
       simp only[I.owner,kq]at this
       rwa [uV _ (oK ca hm)]at this
      ·intro gN
       have:=eh gN
       simp only[cR.ok,gN,if_true]at this⊢
       split at this
       ·rename_i y h5 pj
        have dr:y≠x:=fun e=>oK ca hm (by rw[pj,e];simp[I.aa])
        rw[gf,jd _ _ dr]
        have aY:=hq this.1 (.inl (p8 this.2.1).1)
        simp only[hR,Ax aY]
        exact this
       ·exact this.elim) nn
     have aT:fG s (p::ps)=fG (cR.take s p) ps:=rfl
     have p9:fG (cR.take s p) ps x=I.put q p.d.cG (s x):=by
      rw[Bw FA (fun ca dY _=>oK ca dY),Bz]
     rw[aT]
     refine⟨fun i=>match i with|0=>M4|i+1=>Sn i,dc,g1,fun u b U=>t9 u b (g2 u b U),?_,?_,?_,?_,?_,?_⟩
     rotate_left 5
     ·intro bf fA aG ah iI
      refine g8 bf fA aG (fun ca dY=>ah ca (by simp[dY])) ?_
      have:=t11 _ _ _ iI
      rw[cb]at this
      rw[gf]
      simp only[I.owner,kq]at this
      rwa [uV _ (ah p (by simp) hg x (by rw[cb];simp[I.aa]))]at this
     ·intro i ca fA ao aI gN
      cases i with
      |zero=>
       simp at ao aI;subst ao aI
       have xv:=f2
       rw[cb,aB]at xv
       obtain⟨cc,a0,b5,c2,c3⟩:=xv _ eE mL
       refine⟨x,q,a0,cb,?_,?_,?_,?_,?_,t3,t4⟩
       ·rw[p9];exact Fz q _ _ _ eE
       ·rw[p9,c2];exact MW w q _ _ _ _ _ _ _ eE (I.pU _) b5
       ·rw[p9,←Bz];exact FA
       ·intro cM;subst cM
        simp only[I.sub,Option.some.injEq]at eE
        have:=(aB.b9 (by rw[eE];exact n2)).1 (h.cN x)
        rw[eE]at this
        exact this.1
       ·intro cM
        have aY:=hq eE (.inl mL)
        rw[p9]
        cases q with
        |nil=>exact(cM rfl).elim
        |cons k q=>rcases pV k q p.d.cG (s x)with⟨aq,gs,aT,e⟩|⟨aq,gs,aT,e⟩|⟨sz,xs,cf,aT,e⟩|⟨y,z,aT,e⟩|e<;>rw[e]<;>first|rfl|exact aY
      |succ i=>exact g3 i ca fA (by simpa using ao) (by simpa using aI) gN
     ·intro i b U
      cases i with
      |zero=>exact⟨p,rfl,hg⟩
      |succ i=>simpa using g4 i b U
     ·intro i b U
      cases i with
      |zero=>exact t10 b U
      |succ i=>obtain⟨u,hu⟩:=g5 i b U;exact⟨u,t9 u b hu⟩
     ·intro i u b U
      cases i with
      |zero=>exact fun hu=>t7 u b U (g2 u b hu)
      |succ i=>exact g6 i u b U
     ·intro i j b dr ay b6
      cases i with
      |zero=>
       cases j with
       |zero=>exact dr rfl
       |succ j=>obtain⟨u,hu⟩:=g5 j b b6;exact t7 u b ay hu
      |succ i=>
       cases j with
       |zero=>obtain⟨u,hu⟩:=g5 i b ay;exact t7 u b b6 hu
       |succ j=>exact g7 i j b (by omega) ay b6
    ·exact gv.elim
end
def e9 (l:List I):an:=fun i=>l.getD i .hole
def gA (l:List Value):Nat→Value:=fun i=>l.getD i undef
def n3 (P:Program) (f:FuncId) (args:Array Value) (w:World) (mi:Value→World→Prop):Prop:=
 ((callFunc f args).run P w= .ok (.enter f args) w∧Calls P f args w (fun e aA=>∃v,e= .returned v∧mi v aA))∨
 ∃v aA,(callFunc f args).run P w= .ok (.value v) aA∧mi v aA
theorem n3.mono {P:Program} {f:FuncId} {args:Array Value} {w:World} {mi FB:Value→World→Prop} (h:n3 P f args w mi) (aH:∀v aA,mi v aA→FB v aA):n3 P f args w FB:=by
 rcases h with⟨ad,ag⟩|⟨v,aA,ad,ag⟩
 ·exact .inl ⟨ad,Calls.mono ag fun e aA ⟨v,e,h⟩=>⟨v,e,aH v aA h⟩⟩
 ·exact .inr ⟨v,aA,ad,aH v aA ag⟩
def bh (C:bS) (f:FuncId) (as:List I) (r:I) (outs:List I):Prop:=
 ∀(w:World) (F X:Nat→Prop) (S:Nat→Nat→Prop) (vs:List Value),vs.length=as.length→bw w F X F S (e9 as) (gA vs) w→
  n3 C.P f vs.toArray w fun v aA=>∃bC aG,bw w F X bC aG (e9 (r::outs)) (gA (v::vs)) aA
def I.res:I→Bool
 | .h _ _=>false
 | .ao _ _=>false
 | .U _ _=>false
 | .fn _ _=>false
 |_=>true
theorem FC {d:I} (h:d.tree=true):d.aa=[]:=by cases d<;>first|rfl|(simp[I.tree]at h)
mutual
theorem BA {s aw:an}:∀(a:I) (d:I),(∀u∈a.aa,(s u).tree=true→aw u=s u)→view s a=some d→view aw a=some d
 | .h x q,d,hu,h=>by
   have aY:(s x).tree=true:=by
    simp only[view]at h
    split at h
    ·rename_i e eE
     cases e<;>simp only at h<;>first
      |(cases h;done)
      |(split at h
        ·cases h
        ·rename_i ao
         exact hq eE (.inl (by simpa using ao)))
    ·cases h
   simp only[view]at h⊢
   rw[hu x (by simp[I.aa]) aY];exact h
 | .ao x q,d,hu,h=>by
   have aY:(s x).tree=true:=by
    simp only[view]at h
    split at h
    ·rename_i aj
     split at h
     ·rename_i e eE;exact hq eE (.inr aj)
     ·cases h
    ·cases h
   simp only[view]at h⊢
   rw[hu x (by simp[I.aa]) aY];exact h
 | .U x q,d,hu,h=>by simp[view]at h
 | .fn f cap,d,hu,h=>by
   simp only[view,Option.map_eq_some_iff]at h⊢
   obtain⟨ds,ad,ag⟩:=h
   exact⟨ds,FD cap ds (by simpa [I.aa]using hu) ad,ag⟩
 | .hole,d,hu,h=>h
 | .bool _,d,hu,h=>h
 | .et,d,hu,h=>h
 | .int _ _,d,hu,h=>h
 | .str _,d,hu,h=>h
 | .cS,d,hu,h=>h
 | .bk,d,hu,h=>h
 | .slice _,d,hu,h=>h
 | .aL _ _,d,hu,h=>h
 | .ref _,d,hu,h=>h
 | .bM _,d,hu,h=>h
 | .agg _,d,hu,h=>h
 | .tuple _,d,hu,h=>h
 | .dq _,d,hu,h=>h
theorem FD {s aw:an}:∀(as:List I) (ds:List I),(∀u∈I.dK as,(s u).tree=true→aw u=s u)→views s as=some ds→views aw as=some ds
 |[],ds,hu,h=>h
 |a::as,ds,hu,h=>by
  simp only[I.dK,List.mem_append]at hu
  simp only[views]at h⊢
  split at h
  ·rename_i x y ad ag
   rw[BA a x (fun u hm=>hu u (.inl hm)) ad,FD as y (fun u hm=>hu u (.inr hm)) ag];exact h
  ·cases h
end
section
variable {C:bS} {w0 w aA:World} {F0 X F Fc:Nat→Prop} {S:Nat→Nat→Prop} {s aw:an} {au jP:Nat→Value}
def M5 (w:World) (F:Nat→Prop) (s:an) (au:Nat→Value) (p:cR) (v:Value) (np:Nat→Prop):Prop:=
 p.g=true→p.o= .hole∨∃x q a0 d0,p.a= .h x q∧I.sub q (s x)=some d0∧cL w q (s x) (bU (au x)) none=some (d0,bU v,a0)∧(s x).aa=[]∧
  (q=[]→ck p.o (au x))∧(q≠[]→(s x).tree=true)∧p.o.hz=true∧ak w F p.o (bU v) np∧p.o.wd=d0.wd∧∀v,hQ d0 v→hQ p.o v
theorem M6:∀(ps:List cR) (vs:List Value) (s:an) (S np:Nat→Nat→Prop),bw w0 F0 X F S s au w→ps.length=vs.length→
  (∀(i:Nat) (p:cR) (v:Value),ps[i]? =some p→vs[i]? =some v→M5 w F s au p v (np i))→
  (∀i b,np i b→b<w.heap.size∧¬F b∧(X b∨w0.heap.size≤b)∧∀u,¬S u b)→(∀i j b,i≠j→np i b→¬np j b)→iS ps=true→
  ∃dc,bw w0 F0 X F dc (ju s ps) au w∧∀u b,dc u b→S u b∨∃i,np i b:=by
 intro ps
 induction ps with
 |nil=>intro vs s S np h _ _ _ _ _;exact⟨S,h,fun u b U=>.inl U⟩
 |cons p ps ih=>
  intro vs s S np h aO BB U ah ks
  cases vs with
  |nil=>simp at aO
  |cons v vs=>
   simp only[List.length_cons,Nat.add_right_cancel_iff]at aO
   simp only[iS,Bool.and_eq_true,List.all_eq_true,Bool.or_eq_true,Bool.not_eq_true']at ks
   obtain⟨n1,nn⟩:=ks
   have sD:∀ca∈ps,(p.g=true∨ca.g=true)→∀u∈p.a.aa,u∉ca.a.aa:=by
    intro ca dY hg u hu
    rcases n1 ca dY with e|e
    ·rcases hg with hg|hg<;>simp[hg]at e
    ·simpa using e u hu
   have skip:cR.kd s p=s→∃dc,bw w0 F0 X F dc (ju s (p::ps)) au w∧∀u b,dc u b→S u b∨∃i,np i b:=by
    intro gf
    obtain⟨dc,g1,g2⟩:=ih vs s S (fun i=>np (i+1)) h aO (fun i ca fA ao aI=>BB (i+1) ca fA (by simpa using ao) (by simpa using aI)) (fun i b h=>U (i+1) b h)
     (fun i j b dr=>ah (i+1) (j+1) b (by omega)) nn
    refine⟨dc,?_,fun u b hu=>(g2 u b hu).imp id fun⟨i,ay⟩=>⟨i+1,ay⟩⟩
    show bw _ _ _ _ _ (ju (cR.kd s p) ps) _ _
    rw[gf];exact g1
   cases hg:p.g with
   |false=>exact skip (by simp[cR.kd,hg])
   |true=>
    rcases BB 0 p v rfl rfl hg with cd|⟨x,q,a0,d0,cb,b5,c2,c3,c4,c5,uX,BC,BD,c9⟩
    ·exact skip (by simp only[cR.kd,hg,cd,if_true])
    ·obtain⟨mL,n2,M7⟩:=p8 uX
     have gf:cR.kd s p=c7 (mD x s) x (I.put q p.o (s x)):=by
      simp only[cR.kd,hg,if_true,cb]
      cases M8:p.o<;>first|rfl|(rw[M8]at uX;simp[I.hz]at uX)
     have step:=h.kd (x:=x) (q:=q) (bf:=p.o) b5 c2 M7 (fun cM=>⟨n2,c4 cM⟩) (fun k r cM=>⟨c5 (by rw[cM];simp),c9⟩) BD BC
      (fun b h=>(U 0 b h).1) (fun b h=>(U 0 b h).2.1) (fun u b h=>(U 0 b h).2.2.2 u) (fun b h=>(U 0 b h).2.2.1)
     rw[←gf]at step
     obtain⟨dc,g1,g2⟩:=ih vs (cR.kd s p) _ (fun i=>np (i+1)) step aO (by
      intro i ca fA ao aI gN
      have hm:ca∈ps:=List.mem_of_getElem? ao
      rcases BB (i+1) ca fA (by simpa using ao) (by simpa using aI) gN with cd|⟨y,h5,ab,d1,bV,b7,eh,dd,eO,ey,h9,gh,lH⟩
      ·exact .inl cd
      ·have dr:y≠x:=fun e=>sD ca hm (.inl hg) x (by rw[cb];simp[I.aa]) (by rw[bV,e];simp[I.aa])
       have mF:cR.kd s p y=s y:=by
        rw[gf,jd _ _ dr]
        exact Bk _ (by rw[dd];simp)
       exact .inr ⟨y,h5,ab,d1,bV,by rw[mF];exact b7,by rw[mF];exact eh,by rw[mF];exact dd,eO,by rw[mF];exact ey,h9,gh,lH⟩)
      (by
       intro i b ay
       obtain⟨kP,h8,lJ,cq⟩:=U (i+1) b ay
       refine⟨kP,h8,lJ,fun u hu=> ?_⟩
       simp only[fR]at hu
       split at hu
       ·rcases hu with hu|hu
        ·exact cq _ hu
        ·exact ah 0 (i+1) b (by omega) hu ay
       ·exact cq _ hu)
      (fun i j b dr=>ah (i+1) (j+1) b (by omega)) nn
     refine⟨dc,g1,fun u b hu=> ?_⟩
     rcases g2 u b hu with hu|⟨i,ay⟩
     ·simp only[fR]at hu
      split at hu
      ·rename_i e;subst e
       exact hu.imp id fun h=>⟨0,h⟩
      ·exact .inl hu
     ·exact .inr ⟨i+1,ay⟩
def lh (ps:List cR):Bool:=ps.any fun p=> !p.g&& !p.a.aa.isEmpty
theorem FE (h:bw w0 F0 X F S s au w) {ps:List cR} {vs:List Value} {f:FuncId} {r:I} (aO:ps.length=vs.length)
  (iI:∀(i:Nat) (p:cR) (v:Value),ps[i]? =some p→vs[i]? =some v→p.a.plain=true∧aB w F s au p.a v (fun _=>False))
  (gv:∀p∈ps,p.ok s) (ks:iS ps=true) (br:∀(Fc lL:Nat→Prop) (dE:Nat→Nat→Prop),(∀b,F b→Fc b)→(∀b,lL b→∃u,S u b)→bw w Fc lL Fc dE (e9 (ps.map (·.d))) (gA vs) w→
   n3 C.P f vs.toArray w fun v aA=>∃bC aG,bw w Fc lL bC aG (e9 (r::ps.map (·.o))) (gA (v::vs)) aA) (aH:r.res=true)
  (aV:lh ps=true→r.cU=true∧∀p∈ps,p.o.cU=true):
  n3 C.P f vs.toArray w fun v aA=>∃bC aG,bw w0 F0 X bC aG (ju (fG s ps) ps) au aA∧kI w0 X bC aG (ju (fG s ps) ps) au aA r v∧∀b,F b→bC b∧aA.heap[b]? =w.heap[b]? :=by
 obtain⟨Sn,bN,g1,g2,g3,g4,g5,g6,g7,g8⟩:=M1 ps vs s S h aO (fun i p v ao aI=>⟨(iI i p v ao aI).1,(iI i p v ao aI).2,fun _=>gv p (List.mem_of_getElem? ao)⟩) ks
 have apart:∀(i j:Nat) (p ca:cR),ps[i]? =some p→ps[j]? =some ca→i≠j→(p.g=true∨ca.g=true)→∀u∈p.a.aa,u∉ca.a.aa:=by
  clear iI gv br aV g1 g3 g4 g8 aO
  induction ps with
  |nil=>intro i j p ca ao;simp at ao
  |cons hd ps ih=>
   simp only[iS,Bool.and_eq_true,List.all_eq_true,Bool.or_eq_true,Bool.not_eq_true']at ks
   obtain⟨n1,nn⟩:=ks
   have sD:∀ca∈ps,(hd.g=true∨ca.g=true)→∀u∈hd.a.aa,u∉ca.a.aa:=by
    intro ca dY hg u hu
    rcases n1 ca dY with e|e
    ·rcases hg with hg|hg<;>simp[hg]at e
    ·simpa using e u hu
   intro i j p ca ao dY dr hg u hu
   cases i with
   |zero=>
    simp at ao;subst ao
    cases j with
    |zero=>exact(dr rfl).elim
    |succ j=>exact sD ca (List.mem_of_getElem? (by simpa using dY)) hg u hu
   |succ i=>
    cases j with
    |zero=>
     simp at dY;subst dY
     exact fun uY=>sD p (List.mem_of_getElem? (by simpa using ao)) hg.symm u uY hu
    |succ j=>exact ih nn i j p ca (by simpa using ao) (by simpa using dY) (by omega) hg u hu
 let Fc:Nat→Prop:=fun b=>F b∨(lh ps=true∧∃u,bN u b)
 let lL:Nat→Prop:=fun b=>∃i,Sn i b
 have BE:∀b,F b→¬lL b:=fun b bl ⟨i,ay⟩=>by obtain⟨u,hu⟩:=g5 i b ay;exact h.fa u b hu bl
 have uZ:∀u b,bN u b→¬lL b:=fun u b hu ⟨i,ay⟩=>g6 i u b ay hu
 have u0:∀b,lL b→(X b∨w0.heap.size≤b)∧b<w.heap.size:=fun b ⟨i,ay⟩=>by obtain⟨u,hu⟩:=g5 i b ay;exact⟨h.dp u b hu,h.eg u b hu⟩
 have pre:bw w Fc lL Fc Sn (e9 (ps.map (·.d))) (gA vs) w:=by
  refine⟨fun _ h=>h,fun _ h=>.inl h,?_,fun i b ay=>(u0 b ⟨i,ay⟩).2,?_,fun i j b dr=>g7 i j b dr,fun i b ay=>.inl ⟨i,ay⟩,?_,fun _ _ _=>rfl,Nat.le_refl _,rfl,rfl,Out.refl _,h.gn.next h.size h.old fun b U=>(u0 b U).1⟩
  ·rintro b (U|⟨_,u,hu⟩)
   ·exact h.eT b U
   ·exact g1.eg u b hu
  ·rintro i b ay (U|⟨_,u,hu⟩)
   ·exact BE b U ⟨i,ay⟩
   ·exact g6 i u b ay hu
  ·intro t
   cases ao:ps[t]? with
   |none=>
    have:e9 (ps.map (·.d)) t= .hole:=by simp[e9,List.getD,ao]
    rw[this,aB];trivial
   |some p=>
    have d_:t<vs.length:=by rw[←aO];exact(List.getElem?_eq_some_iff.1 ao).1
    have aI:vs[t]? =some vs[t]:=List.getElem?_eq_getElem d_
    have aT:e9 (ps.map (·.d)) t=p.d:=by simp[e9,List.getD,ao]
    have aX:gA vs t=vs[t]:=by simp[gA,List.getD,aI]
    rw[aT,aX]
    have hm:p∈ps:=List.mem_of_getElem? ao
    have ax:=gv p hm
    cases hg:p.g with
    |true=>
     obtain⟨x,q,a0,bV,b7,eh,dd,eO,ey,h9,gh⟩:=g3 t p _ ao aI hg
     simp only[cR.ok,hg,if_true,bV]at ax
     exact(aB.b9 (p8 ax.2.1).2.1).2 ⟨h9,ak.mono (fun b U=>.inl U) _ _ _ _ (fun _ h=>h) gh⟩
    |false=>
     simp only[cR.ok,hg]at ax
     obtain⟨f1,f2⟩:=iI t p _ ao aI
     have FF:∀ca∈ps,ca.g=true→∀u∈ca.a.aa,u∉p.a.aa:=by
      intro ca dY gN u hu
      obtain⟨j,b6⟩:=List.getElem?_of_mem dY
      refine apart j t ca p b6 ao (fun e=> ?_) (.inl gN) u hu
      subst e;rw[ao]at b6;simp only[Option.some.injEq]at b6;rw[b6,gN]at hg;cases hg
     have xv:=g8 _ _ _ FF f2
     have ld:view (fG s ps) p.a=some p.d:=BA _ _ (fun u hu aY=>Bw (FC aY) (fun ca dY gN uY=>FF ca dY gN u uY hu)) (by simpa using ax)
     refine aB.nothing (MV f1 ld) ((MX g1 (Fc:=Fc) (fun b U=>.inl U) (SizeOf.sizeOf p.a)).1 p.a _ p.d (Nat.le_refl _) ?_ ld xv)
     intro u hu b U
     refine .inr ⟨?_,u,U⟩
     simp only[lh,List.any_eq_true]
     refine⟨p,hm,?_⟩
     cases hD:p.a.aa with
     |nil=>rw[hD]at hu;cases hu
     |cons _ _=>simp[hg]
 refine n3.mono (br Fc lL Sn (fun b U=>.inl U) (fun b ⟨i,ay⟩=>g5 i b ay) pre) ?_
 rintro v aA ⟨bC,aG,aj⟩
 have keep:∀b,b<w.heap.size→¬lL b→aA.heap[b]? =w.heap[b]? :=aj.old
 let n4:Nat→Prop:=fun b=>if lh ps=true then F b else bC b
 have FG:∀b,F b→bC b:=fun b U=>aj.gF b (.inl U)
 have sE:∀b,F b→n4 b:=fun b U=>by
  simp only[n4];split
  ·exact U
  ·exact FG b U
 have u1:∀b,n4 b→bC b:=fun b U=>by
  simp only[n4]at U;split at U
  ·exact FG b U
  ·exact U
 have FH:∀b,n4 b→F b∨lL b∨w.heap.size≤b:=fun b U=>by
  simp only[n4]at U;split at U
  ·exact .inl U
  ·rename_i p2
   rcases aj.gS b U with(U|⟨ad,_⟩)|U|U
   ·exact .inl U
   ·exact(p2 ad).elim
   ·exact .inr (.inl U)
   ·exact .inr (.inr U)
 have mid:bw w0 F0 X n4 bN (fG s ps) au aA:=by
  refine⟨fun b U=>sE b (g1.gF b U),?_,fun b U=>aj.eT b (u1 b U),fun t b U=>Nat.lt_of_lt_of_le (g1.eg t b U) aj.size,?_,g1.eN,g1.dp,?_,?_,Nat.le_trans g1.size aj.size,aj.os.trans g1.os,aj.tape.trans g1.tape,aj.output.trans g1.output,g1.gn⟩
  ·intro b U
   rcases FH b U with U|U|U
   ·exact g1.gS b U
   ·rcases(u0 b U).1 with h|h
    ·exact .inr (.inl h)
    ·exact .inr (.inr h)
   ·exact .inr (.inr (Nat.le_trans g1.size U))
  ·intro t b aY U
   rcases FH b U with U|U|U
   ·exact g1.fa t b aY U
   ·exact uZ t b aY U
   ·exact absurd (g1.eg t b aY) (by omega)
  ·intro t
   exact aB.frame (Sx:=bN) (fun b U=>keep b (h.eT b U) (BE b U)) sE (fun x b U=>keep b (g1.eg x b U) (uZ x b U)) g1.cN _ _ _ (fun b U=>keep b (g1.eg t b U) (uZ t b U)) (g1.cN t)
  ·intro b U jQ
   refine(keep b (Nat.lt_of_lt_of_le U g1.size) fun ai=> ?_).trans (g1.old b U jQ)
   rcases(u0 b ai).1 with h|h
   ·exact jQ h
   ·omega
 have FI:∀(d:I) (cs:List Value) (dp:Nat→Prop),(lh ps=true→d.cU=true)→ak aA bC d cs dp→ak aA n4 d cs dp:=by
  intro d cs dp Be gg
  by_cases hle:lh ps=true
  ·exact ak.cU d cs dp (Be hle) gg
  ·exact ak.mono (fun b U=>by simp only[n4];rw[if_neg hle];exact U) _ _ _ _ (fun _ h=>h) gg
 have bound:∀i b,aG i b→b<aA.heap.size∧¬n4 b∧(X b∨w0.heap.size≤b)∧∀u,¬bN u b:=by
  intro i b U
  refine⟨aj.eg i b U,fun bl=>aj.fa i b U (u1 b bl),?_,fun u hu=> ?_⟩
  ·rcases aj.dp i b U with ai|ai
   ·exact(u0 b ai).1
   ·exact .inr (Nat.le_trans g1.size ai)
  ·rcases aj.dp i b U with ai|ai
   ·exact uZ u b hu ai
   ·exact absurd (g1.eg u b hu) (by omega)
 obtain⟨dc,bV,b7⟩:=M6 ps vs (fG s ps) bN (fun i=>aG (i+1)) mid aO (by
  intro i p fA ao aI hg
  have hm:p∈ps:=List.mem_of_getElem? ao
  have ax:=gv p hm
  obtain⟨x,q,a0,aT,aX,aS,bQ,cp,bK,bH,gb⟩:=g3 i p fA ao aI hg
  simp only[cR.ok,hg,if_true,aT]at ax
  rcases ax.2.2 with cd|cd
  ·exact .inl cd
  ·obtain⟨gq,l2,BF⟩:=MY ax.2.1 cd.1 cd.2
   refine .inr ⟨x,q,a0,p.d.cG,aT,aX,?_,bQ,fun cM=>l2 _ (cp cM),bK,cd.1,?_,gq.trans (I.pU _).symm,BF⟩
   ·cases q with
    |nil=>simpa only[cL]using aS
    |cons k q=>
     have aY:=bK (by simp)
     rw[w3 (k::q) _ _ (bN x) none _ ((aB.b9 aY).1 (g1.cN x)).2 aX (fun b U=>keep b (g1.eg x b U) (uZ x b U))]
     exact aS
   ·have:=aj.cN (i+1)
    have h7:e9 (r::ps.map (·.o)) (i+1)=p.o:=by simp[e9,List.getD,ao]
    have iQ:gA (v::vs) (i+1)=fA:=by simp[gA,List.getD,aI]
    rw[h7,iQ]at this
    exact FI _ _ _ (fun hle=>(aV hle).2 p hm) ((aB.b9 (p8 cd.1).2.1).1 this).2)
  (fun i b U=>bound (i+1) b U) (fun i j b dr=>aj.eN (i+1) (j+1) b (by omega)) ks
 refine⟨n4,dc,bV,?_,fun b U=>⟨sE b U,keep b (h.eT b U) (BE b U)⟩⟩
 have bm:=aj.cN 0
 have h7:e9 (r::ps.map (·.o)) 0=r:=rfl
 have iQ:gA (v::vs) 0=v:=rfl
 rw[h7,iQ]at bm
 cases aY:r.tree with
 |false=>
  cases r<;>first
   |(simp[I.tree]at aY;done)
   |(simp[I.res]at aH;done)
   |exact .inl ⟨rfl,by rw[aB];trivial⟩
 |true=>
  obtain⟨s1,s2⟩:=(aB.b9 aY).1 bm
  have dL:=FI _ _ _ (fun hle=>(aV hle).1) s2
  refine .inr ⟨aY,s1,aG 0,dL,fun b U=>(bound 0 b U).1,fun b U=>(bound 0 b U).2.1,fun u b U hu=> ?_,fun b U=>(bound 0 b U).2.2.1⟩
  rcases b7 u b hu with hu|⟨i,ay⟩
  ·exact(bound 0 b U).2.2.2 u hu
  ·exact aj.eN 0 (i+1) b (by omega) U ay
theorem M9 (h:bw w0 F0 X F S s au w) {ps:List cR} {vs:List Value} {f:FuncId} {r:I} (aO:ps.length=vs.length)
  (iI:∀(i:Nat) (p:cR) (v:Value),ps[i]? =some p→vs[i]? =some v→p.a.plain=true∧aB w F s au p.a v (fun _=>False))
  (gv:∀p∈ps,p.ok s) (ks:iS ps=true) (br:bh C f (ps.map (·.d)) r (ps.map (·.o))) (aH:r.res=true)
  (aV:lh ps=true→r.cU=true∧∀p∈ps,p.o.cU=true):
  n3 C.P f vs.toArray w fun v aA=>∃bC aG,bw w0 F0 X bC aG (ju (fG s ps) ps) au aA∧kI w0 X bC aG (ju (fG s ps) ps) au aA r v∧∀b,F b→bC b∧aA.heap[b]? =w.heap[b]? :=
 FE h aO iI gv ks (fun Fc lL dE _ _ ao=>br w Fc lL dE vs (by simp[aO]) ao) aH aV
end
structure bO where
 dst:Option Nat
 bA:fj
 guard:Option (Nat×Bool)
def u2 (ops:Array Oper):Option (Nat×Bool)→Option (Option (Nat×Bool))
 |none=>some none
 |some (j,b)=>match(ops[j]?).bind (·.dst)with
  |some t=>some (some (t,b))
  |none=>none
structure Fr where
 n:Nat
 fx:List Nat
def lM (n:Fr):Option Nat→Bool
 |none=>true
 |some t=>decide (t<n.n)&& !n.fx.contains t
def p_ (op:Op):fj:=match cE op with
 |some bA=>bA
 |none=>.bad
def oL (n:Fr) (ops:Array Oper) (o:Oper):Option bO:=
 if lM n o.dst=true then match u2 ops o.guard with
  |some g=>some ⟨o.dst,p_ o.op,g⟩
  |none=>none
 else none
def oM (n:Fr) (ops:Array Oper):List Oper→Option (List bO)
 |[]=>some []
 |o::os=>match oL n ops o,oM n ops os with
  |some r,some rs=>some (r::rs)
  |_,_=>none
def xw (C:bS) (s:an) (f:aC) (args:List aC) (K:I→an→Prop):Prop:=
 ∃(g:FuncId) (caps:List I) (ps:List cR) (r:I),aE s f= .fn g caps∧I.fK caps=true∧ps.map (·.a)=args.map (aE s)++caps∧(∀p∈ps,p.ok s)∧iS ps=true∧
   bh C g (ps.map (·.d)) r (ps.map (·.o))∧r.res=true∧(lh ps=true→r.cU=true∧∀p∈ps,p.o.cU=true)∧K r (ju (fG s ps) ps)
mutual
def I.gW (s:an):I→Bool
 | .h x q=>q.isEmpty&&(s x).own
 | .U x _=> !(s x).plain
 | .ao _ _=>false
 | .hole=>true
 | .fn _ cap=>I.qa s cap
 |d=>d.plain
def I.qa (s:an):List I→Bool
 |[]=>true
 |d::ds=>d.gW s&&I.qa s ds
end
def pk (s:an):List (Nat×I)→an
 |[]=>s
 |p::L=>pk (c7 s p.1 p.2) L
def oN (s:an):List (Nat×I)→Bool
 |[]=>true
 |p::L=>p.2.gW s&&oN s L
def lN (s:an) (us:List Nat):List (Nat×I):=us.map fun u=>(u,s u)
def nq (C:bS) (s:an) (bA:fj) (K:I→an→Prop):Prop:=
 match bA with
 | .call f args=>∃(g:FuncId) (caps:List I) (ps:List cR) (r:I),aE s f= .fn g caps∧I.fK caps=true∧ps.map (·.a)=args.map (aE s)++caps∧(∀p∈ps,p.ok s)∧iS ps=true∧
   bh C g (ps.map (·.d)) r (ps.map (·.o))∧r.res=true∧(lh ps=true→r.cU=true∧∀p∈ps,p.o.cU=true)∧K r (ju (fG s ps) ps)
 | .shr bA=>∃av s1,bq C s bA=some (av,s1)∧av.tree=true∧(∀vs,av≠.tuple vs)∧K av.share s1
 | .me f args u x=>s u= .h x []∧(s x).own=true∧xw C s f args fun av s1=>s1 u= .hole∧(s1 x).own=true∧K av (c7 s1 u (.h x []))
 | .mf f args us=>oN s (lN s us)=true∧xw C s f args fun av s1=>oN s1 (lN s us)=true∧K av (pk s1 (lN s us))
 |bA=>∃av s1,bq C s bA=some (av,s1)∧K av s1
theorem xx {C:bS} {s:an} {bA:fj} {K cV:I→an→Prop} (h:nq C s bA K) (ax:∀av s,K av s→cV av s):nq C s bA cV:=by
 cases bA with
 |call f args=>
  obtain⟨g,caps,ps,r,ad,gO,ag,aF,a8,bF,cn,cD,eu⟩:=h
  exact⟨g,caps,ps,r,ad,gO,ag,aF,a8,bF,cn,cD,ax _ _ eu⟩
 |shr bA=>
  obtain⟨av,s1,ad,ag,aF,a8⟩:=h
  exact⟨av,s1,ad,ag,aF,ax _ _ a8⟩
 |me f args u x=>
  obtain⟨bV,b7,g,caps,ps,r,ad,gO,ag,aF,a8,bF,cn,cD,eu,gK,hn⟩:=h
  exact⟨bV,b7,g,caps,ps,r,ad,gO,ag,aF,a8,bF,cn,cD,eu,gK,ax _ _ hn⟩
 |mf f args us=>
  obtain⟨b7,g,caps,ps,r,ad,gO,ag,aF,a8,bF,cn,cD,eu,gK⟩:=h
  exact⟨b7,g,caps,ps,r,ad,gO,ag,aF,a8,bF,cn,cD,eu,ax _ _ gK⟩
 |_=>
  obtain⟨av,s1,ad,ag⟩:=h
  exact⟨av,s1,ad,ax _ _ ag⟩
def lj (C:bS) (s:an) (o:bO) (K:an→Prop):Prop:=
 match o.guard with
 |none=>nq C s o.bA fun av s1=>K (fin s1 o.dst av)
 |some (t,b)=>match s t with
  | .bool e8=>if e8=b then nq C s o.bA (fun av s1=>K (fin s1 o.dst av))else K (fin s o.dst (.tuple []))
  | .tuple []=>K (fin s o.dst (.tuple []))
  |_=>False
def kS (C:bS) (s:an):List bO→(an→Prop)→Prop
 |[],K=>K s
 |o::os,K=>lj C s o fun s1=>kS C s1 os K
def jv (C:bS) (ros:List bO) (s:an):List Nat→(an→Prop)→Prop
 |[],K=>K s
 |i::l,K=>match ros[i]? with
  |none=>jv C ros s l K
  |some o=>lj C s o fun s1=>jv C ros s1 l K
theorem M_ (C:bS) (K:an→Prop):∀(rs pre:List bO) (s:an),kS C s rs K→jv C (pre++rs) s ((List.range rs.length).map (·+pre.length)) K:=by
 intro rs
 induction rs with
 |nil=>intro pre s h;exact h
 |cons r rs ih=>
  intro pre s h
  rw[List.length_cons,List.range_succ_eq_map,List.map_cons,List.map_map]
  simp only[jv,Nat.zero_add]
  rw[List.getElem?_append_right (Nat.le_refl _)]
  simp only[Nat.sub_self,List.getElem?_cons_zero]
  have key:∀s1,kS C s1 rs K→jv C (pre++r::rs) s1 ((List.range rs.length).map ((fun x=>x+pre.length)∘Nat.succ)) K:=by
   intro s1 ad
   have:=ih (pre++[r]) s1 ad
   simp only[List.append_assoc,List.singleton_append,List.length_append,List.length_singleton]at this
   have e:((fun x=>x+pre.length)∘Nat.succ)=fun x=>x+(pre.length+1):=by funext x;simp;omega
   rw[e];exact this
  simp only[kS]at h
  unfold lj at h⊢
  split
  ·rename_i hg;rw[hg]at h;exact xx h fun av s1=>key _
  ·rename_i t b hg
   rw[hg]at h
   simp only at h
   split
   ·rename_i e8 aa
    rw[aa]at h
    simp only at h
    split
    ·rename_i U;rw[if_pos U]at h;exact xx h fun av s1=>key _
    ·rename_i U;rw[if_neg U]at h;exact key _ h
   ·rename_i aa;rw[aa]at h;exact key _ h
   ·rename_i ad ag
    split at h
    ·exact ad _ (by assumption)
    ·exact ag (by assumption)
    ·exact h
structure Rel (w0:World) (F0 X:Nat→Prop) (n:Fr) (ρ:Nat→Value) (s:an) (a:Act) (w:World):Prop where
 defers:a.defers=[]
 size:a.tmps.size=n.n
 fixed:∀i∈n.fx,a.tmps.getD i undef=ρ i
 rel:∃F S,bw w0 F0 X F S s (fun t=>a.tmps.getD t undef) w
section
variable {C:bS} {w0 w:World} {F0 X:Nat→Prop} {n:Fr} {ρ:Nat→Value} {s s1:an} {a:Act} {av:I} {Q:Exit→Act→World→Prop}
theorem BG {dst:Option Nat} (v:Value) (aa:a.tmps.size=n.n) (ah:lM n dst=true):
  (fun t=>(a.put dst v).tmps.getD t undef)=o5 (fun t=>a.tmps.getD t undef) dst v∧(a.put dst v).tmps.size=n.n∧(a.put dst v).defers=a.defers:=by
 cases dst with
 |none=>exact⟨rfl,aa,rfl⟩
 |some d=>
  simp only[lM,Bool.and_eq_true,decide_eq_true_eq]at ah
  refine⟨?_,by simp[Act.put,aa],rfl⟩
  funext t
  simp only[Act.put,o5,c7,Array.getD_eq_getD_getElem?]
  by_cases h:t=d
  ·subst h
   rw[if_pos rfl,Array.getElem?_setIfInBounds_self_of_lt (by omega)];rfl
  ·rw[if_neg h,Array.getElem?_setIfInBounds_ne (fun e=>h e.symm)]
theorem Rel.put {F S} (ah:a.defers=[]) (aa:a.tmps.size=n.n) (br:∀i∈n.fx,a.tmps.getD i undef=ρ i) {aA:World} (aH:bw w0 F0 X F S s (fun t=>a.tmps.getD t undef) aA) {v:Value} (aI:kI w0 X F S s (fun t=>a.tmps.getD t undef) aA av v)
  {dst:Option Nat} (gv:lM n dst=true):Rel w0 F0 X n ρ (fin s dst av) (a.put dst v) aA:=by
 obtain⟨aT,aX,aS⟩:=BG (n:=n) (dst:=dst) v aa gv
 obtain⟨aG,bb⟩:=aH.fin aI dst
 refine⟨aS.trans ah,aX,fun i ay=> ?_,F,aG,by rw[aT];exact bb⟩
 rw[congrFun aT i]
 cases dst with
 |none=>exact br i ay
 |some d=>
  simp only[lM,Bool.and_eq_true,Bool.not_eq_true',List.contains_eq_mem,decide_eq_false_iff_not]at gv
  have dr:i≠d:=fun e=>gv.2 (by rw[←e];exact ay)
  simp only[o5]
  rw[jd _ _ dr]
  exact br i ay
theorem Rel.skip (h:Rel w0 F0 X n ρ s a w) {dst:Option Nat} (gv:lM n dst=true):Rel w0 F0 X n ρ (fin s dst (.tuple [])) (a.put dst undef) w:=by
 obtain⟨ah,aa,br,F,S,aH⟩:=h
 refine Rel.put (av:=.tuple []) ah aa br aH (.inl ⟨rfl,(aB.b9 (d:=.tuple []) rfl).2 ⟨?_,?_⟩⟩) gv
 ·exact⟨#[],rfl,rfl,fun k d x ax=>by simp at ax⟩
 ·rw[ak,aW];rfl
theorem FJ {F:Nat→Prop} {au:Nat→Value} {w:World}:∀{ds es:List I} {vs us:List Value},dx w F s au ds vs→dx w F s au es us→dx w F s au (ds++es) (vs++us):=by
 intro ds
 induction ds with
 |nil=>intro es vs us ad ag;rw[dx]at ad;subst ad;exact ag
 |cons d ds ih=>
  intro es vs us ad ag
  rw[dx]at ad
  obtain⟨v,jc,rfl,g1,g2⟩:=ad
  rw[List.cons_append,List.cons_append,dx]
  exact⟨v,_,rfl,g1,ih g2 ag⟩
theorem FK {F:Nat→Prop} {au:Nat→Value} {w:World}:∀{ds:List I} {vs:List Value},dx w F s au ds vs→ds.length=vs.length∧∀(i:Nat) (d:I) (v:Value),ds[i]? =some d→vs[i]? =some v→aB w F s au d v (fun _=>False):=by
 intro ds
 induction ds with
 |nil=>intro vs h;rw[dx]at h;subst h;exact⟨rfl,fun i d v h=>by simp at h⟩
 |cons d ds ih=>
  intro vs h
  rw[dx]at h
  obtain⟨v,jc,rfl,g1,g2⟩:=h
  obtain⟨bV,b7⟩:=ih g2
  refine⟨by simp[bV],fun i bf fA ah aI=> ?_⟩
  cases i with
  |zero=>simp at ah aI;subst ah aI;exact g1
  |succ i=>exact b7 i bf fA (by simpa using ah) (by simpa using aI)
theorem oO {op:Op} {bA:fj} (h:p_ op=bA):bA= .bad∨cE op=some bA:=by
 unfold p_ at h
 split at h
 ·subst h;right;assumption
 ·exact .inl h.symm
theorem Na {op:Op} {bA:fj}:cE op≠some (.shr bA):=by
 intro h
 unfold cE at h
 split at h<;>(try split at h)<;>(try split at h)<;>(try split at h)<;>(try simp[Option.map_eq_some_iff]at h)
theorem Nb {op:Op} {f:aC} {args:List aC} {u x:Nat}:cE op≠some (.me f args u x):=by
 intro h
 unfold cE at h
 split at h<;>(try split at h)<;>(try split at h)<;>(try split at h)<;>(try simp[Option.map_eq_some_iff]at h)
theorem Nc {op:Op} {f:aC} {args:List aC} {us:List Nat}:cE op≠some (.mf f args us):=by
 intro h
 unfold cE at h
 split at h<;>(try split at h)<;>(try split at h)<;>(try split at h)<;>(try simp[Option.map_eq_some_iff]at h)
theorem Nd {op:Op} {T:TypeId} {x:aC}:cE op≠some (.kM T x):=by
 intro h
 unfold cE at h
 split at h<;>(try split at h)<;>(try split at h)<;>(try split at h)<;>(try simp[Option.map_eq_some_iff]at h)
theorem Nf {op:Op} {x:aC}:cE op≠some (.p6 x):=by
 intro h
 unfold cE at h
 split at h<;>(try split at h)<;>(try split at h)<;>(try split at h)<;>(try simp[Option.map_eq_some_iff]at h)
theorem Ng {op:Op} {x:aC}:cE op≠some (.pe x):=by
 intro h
 unfold cE at h
 split at h<;>(try split at h)<;>(try split at h)<;>(try split at h)<;>(try simp[Option.map_eq_some_iff]at h)
theorem Nh {op:Op} {x:aC} (h:cE op=some (.bg x)):∃dv,op= .move dv∧db dv=some x:=by
 unfold cE at h
 split at h<;>(try split at h)<;>(try split at h)<;>(try split at h)<;>(try simp[Option.map_eq_some_iff]at h)
 exact⟨_,rfl,h⟩
theorem Ni {op:Op} {x:aC} (h:cE op=some (.fk x)):∃dv,op= .assign dv∧db dv=some x:=by
 unfold cE at h
 split at h<;>(try split at h)<;>(try split at h)<;>(try split at h)<;>(try simp[Option.map_eq_some_iff]at h)
 exact⟨_,rfl,h⟩
theorem Nj {op:Op} {T bz:TypeId} {x y:aC}:cE op≠some (.ni T bz x y):=by
 intro h
 unfold cE at h
 split at h<;>(try split at h)<;>(try split at h)<;>(try split at h)<;>(try simp[Option.map_eq_some_iff]at h)
theorem Nk {op:Op} {T bz:TypeId} {x y:aC} (h:cE op=some (.app T bz x y)):∃a b,op= .call ⟨.builtin .append,#[a,b],#[T,bz]⟩∧db a=some x∧db b=some y:=by
 cases op with
 |call c=>
  obtain⟨callee,args,argTypes⟩:=c
  simp only[cE]at h
  split at h
  ·split at h<;>simp at h
  ·split at h<;>simp at h
  ·split at h<;>simp at h
  ·(split at h<;>try split at h)<;>simp at h
  ·(split at h<;>try split at h)<;>simp at h
  ·split at h
   ·rename_i a b BH xr mg rh
    split at h
    ·rename_i dv kp ai hy
     simp only[Option.some.injEq,fj.app.injEq]at h
     obtain⟨rfl,rfl,rfl,rfl⟩:=h
     refine⟨a,b,?_,ai,hy⟩
     have aT:args= #[a,b]:=by apply Array.ext';exact mg
     have aX:argTypes= #[BH,xr]:=by apply Array.ext';exact rh
     subst aT aX
     rfl
    ·cases h
   ·cases h
  ·cases h
 |makeFunc fn first cs=>
  cases fn<;>simp only[cE]at h<;>first|(cases h;done)|(split at h<;>simp at h)
 |slice T x cJ ay el=>
  cases el<;>simp only[cE]at h<;>first|(cases h;done)|(split at h<;>simp at h)
 |makeMap T r=>cases r<;>simp only[cE]at h<;>simp at h
 |lookup T x i c=>cases c<;>simp only[cE]at h<;>first|(cases h;done)|(split at h<;>simp at h)
 |_=>simp only[cE]at h<;>first|(cases h;done)|(simp at h;done)|(split at h<;>simp at h)
theorem bw.alias {F:Nat→Prop} {S:Nat→Nat→Prop} {au:Nat→Value} {u x:Nat} (h:bw w0 F0 X F S s au w) (hu:s u= .hole) (ai:(s x).own=true) (aI:bU (au u)=bU (au x)) (ad:Value.f_ (au u)=true):
  bw w0 F0 X F (fR S u (fun _=>False)) (c7 s u (.h x [])) au w:=by
 have dF:c7 au u (au u)=au:=by funext y;simp only[c7];split<;>simp_all
 have:=h.uo (t:=u) (d:=.h x []) (v:=au u) rfl (by
  rw[aB]
  intro d ah ao
  simp only[I.sub,Option.some.injEq]at ah
  subst ah
  exact⟨bU (au x),none,rfl,aI,((ph ai).2.2.2.2.2 _).2 ad⟩)
 rwa [dF]at this
theorem kI.less {F:Nat→Prop} {S aG:Nat→Nat→Prop} {au:Nat→Value} {s1:an} {v:Value} (bI:∀u b,aG u b→S u b) (aH:av.res=true) (h:kI w0 X F S s au w av v):kI w0 X F aG s1 au w av v:=by
 rcases h with⟨ad,ag⟩|⟨ad,ag,Sn,aF,a8,bF,cn,cD⟩
 ·refine .inl ⟨ad,?_⟩
  cases av<;>first
   |(simp[I.res]at aH;done)
   |(rw[aB];trivial)
   |(rw[aB]at ag⊢;exact ag)
 ·exact .inr ⟨ad,ag,Sn,aF,a8,bF,fun u b U hu=>cn u b U (bI u b hu),cD⟩
theorem BI (bc:C.en) (h:Rel w0 F0 X n ρ s a w) {o:Oper} {f:aC} {args:List aC} (b1:cE o.op=some (.call f args)) (ah:lM n o.dst=true) {K:I→an→Prop} {L:an→Prop} {next:Act→World→Prop}
  (hw:xw C s f args K) (jT:∀F S bC aG w aA av s1 v,bw w0 F0 X F S s (fun t=>a.tmps.getD t undef) w→K av s1→av.res=true→bw w0 F0 X bC aG s1 (fun t=>a.tmps.getD t undef) aA→kI w0 X bC aG s1 (fun t=>a.tmps.getD t undef) aA av v→(∀b,F b→bC b∧aA.heap[b]? =w.heap[b]?)→
   ∃s2 dc,L (fin s2 o.dst av)∧bw w0 F0 X bC dc s2 (fun t=>a.tmps.getD t undef) aA∧kI w0 X bC dc s2 (fun t=>a.tmps.getD t undef) aA av v)
  (aV:∀aw cz aA,L aw→Rel w0 F0 X n ρ aw cz aA→next cz aA):o.wp C.P a w next Q:=by
 have pn:=h
 obtain⟨im,dJ,hi,F,S,aH⟩:=h
 obtain⟨g,caps,ps,r,ad,gO,ag,aF,a8,bF,cn,cD,eu⟩:=hw
 obtain⟨dst,op,ty,pos,after,guard⟩:=o
 simp only at b1 ah jT
 cases op with
 |call c=>
  obtain⟨callee,n5,argTypes⟩:=c
  simp only[cE]at b1
  split at b1
  ·split at b1
   ·rename_i u3 _ _ Nl xs br oK
    simp only[Option.some.injEq,fj.call.injEq]at b1
    obtain⟨rfl,rfl⟩:=b1
    obtain⟨f1,f2⟩:=eF aH (fun _=>rfl) br
    rw[ad,aB]at f2
    obtain⟨arr,f3,f4⟩:=f2
    have rk:execOp a.eval {dst,op:=.call {callee:=.value u3,args:=n5,argTypes},type:=ty,pos,after,guard}=callFunc g ((n5.toList.map a.eval++arr.toList).toArray):=by
     have:a.eval u3= .func (.func g) #[] arr:=f3
     simp only[execOp,resolve,this,Deferred.ofValue,pure_bind,invoke]
     congr 1
     apply Array.ext';simp
    unfold Oper.wp
    rw[rk]
    have u4:dx w F s (fun t=>a.tmps.getD t undef) (xs.map (aE s)++caps) (n5.toList.map a.eval++arr.toList):=FJ (xo aH (fun _=>rfl) _ _ (rf oK)) f4
    rw[←ag]at u4
    obtain⟨gq,l2⟩:=FK u4
    have gT:∀d∈xs.map (aE s)++caps,d.plain=true:=by
     intro d ah
     rcases List.mem_append.1 ah with ah|ah
     ·obtain⟨x,ai,rfl⟩:=List.mem_map.1 ah
      exact Eg s x fun av e=>by
       subst e
       have hm:=rf oK
       have:some (aC.c av)∈xs.map some:=List.mem_map.2 ⟨_,ai,rfl⟩
       rw[←hm]at this
       obtain⟨o,_,cd⟩:=List.mem_map.1 this
       cases o with
       |const v=>simp only[db,Option.map_eq_some_iff]at cd;obtain⟨c,aj,e⟩:=cd;cases e;exact AK aj
       |tmp n=>simp[db]at cd
       |func g=>simp[db]at cd
       |global g=>simp[db]at cd
     ·obtain⟨k,ax⟩:=List.getElem?_of_mem ah
      exact w2 gO ax
    have BJ:=M9 (C:=C) aH (ps:=ps) (vs:=n5.toList.map a.eval++arr.toList) (f:=g) (r:=r) (by simpa using gq)
     (fun i p v ao aI=>⟨gT p.a (by rw[←ag];exact List.mem_map.2 ⟨p,List.mem_of_getElem? ao,rfl⟩),l2 i p.a v (by simp[ao]) aI⟩) aF a8 bF cn cD
    rcases BJ with⟨ea,bD⟩|⟨v,aA,ea,bC,aG,bD,dt,cT⟩
    ·rw[ea,Oper.upon_enter]
     refine Calls.mono bD ?_
     rintro e aA ⟨v,rfl,bC,aG,bV,b7,eh⟩
     obtain⟨s2,dc,m1,m2,m3⟩:=jT _ _ _ _ _ _ _ _ _ aH eu cn bV b7 eh
     exact aV _ _ _ m1 (Rel.put im dJ hi m2 m3 ah)
    ·rw[ea,Oper.upon_value]
     obtain⟨s2,dc,m1,m2,m3⟩:=jT _ _ _ _ _ _ _ _ _ aH eu cn bD dt cT
     exact aV _ _ _ m1 (Rel.put im dJ hi m2 m3 ah)
   ·cases b1
  ·split at b1
   ·simp only[Option.map_eq_some_iff]at b1;obtain⟨_,_,b1⟩:=b1;cases b1
   ·cases b1
  ·split at b1
   ·simp only[Option.map_eq_some_iff]at b1;obtain⟨_,_,b1⟩:=b1;cases b1
   ·cases b1
  iterate 3
   ·split at b1
    ·split at b1<;>cases b1
    ·cases b1
  ·cases b1
 |makeFunc fn first cs=>
  cases fn<;>simp only[cE]at b1<;>first|(cases b1;done)|(split at b1<;>simp at b1)
 |slice T x cJ ay el=>
  cases el<;>simp only[cE]at b1<;>first|(cases b1;done)|(split at b1<;>simp at b1)
 |makeMap T r=>cases r<;>simp only[cE]at b1<;>simp at b1
 |lookup T x i c=>cases c<;>simp only[cE]at b1<;>first|(cases b1;done)|(split at b1<;>simp at b1)
 |_=>simp only[cE]at b1<;>first|(cases b1;done)|(simp at b1;done)|(split at b1<;>simp at b1)
theorem Nn (bc:C.en) (h:Rel w0 F0 X n ρ s a w) {o:Oper} {bA:fj} (b1:cE o.op=some bA) (ah:lM n o.dst=true) {K:an→Prop} {next:Act→World→Prop}
  (hw:nq C s bA fun av s1=>K (fin s1 o.dst av)) (aV:∀aw cz aA,K aw→Rel w0 F0 X n ρ aw cz aA→next cz aA):o.wp C.P a w next Q:=by
 have pn:=h
 obtain⟨im,dJ,hi,F,S,aH⟩:=h
 have plain:∀av s1,bq C s bA=some (av,s1)→K (fin s1 o.dst av)→o.wp C.P a w next Q:=by
  intro av s1 he ax
  obtain⟨r,aA,v,bC,aG,ad,ag,aF,a8⟩:=Fb (a:=a) bc aH (fun _=>rfl) b1 he
  unfold Oper.wp
  rw[ad]
  rcases ag with rfl|⟨rfl,rfl⟩
  ·exact aV _ _ _ ax (Rel.put im dJ hi aF a8 ah)
  ·exact aV _ _ _ ax (Rel.put im dJ hi aF a8 ah)
 cases bA with
 |shr bA=>exact(Na b1).elim
 |ni T bz x y=>exact(Nj b1).elim
 |call f args=>exact BI bc ⟨im,dJ,hi,F,S,aH⟩ b1 ah (K:=fun av s1=>K (fin s1 o.dst av)) hw (fun _ _ _ aG _ _ _ s1 _ _ ag _ aF a8 _=>⟨s1,aG,ag,aF,a8⟩) aV
 |me f args u x=>exact(Nb b1).elim
 |mf f args L=>exact(Nc b1).elim
 |kM T x=>exact(Nd b1).elim
 |p6 x=>exact(Nf b1).elim
 |pe x=>exact(Ng b1).elim
 |_=>
  obtain⟨av,s1,he,ax⟩:=hw
  exact plain av s1 he ax
theorem kI.share {F:Nat→Prop} {S:Nat→Nat→Prop} {au:Nat→Value} {v:Value} (h:bw w0 F0 X F S s au w) (aI:kI w0 X F S s au w av v) (aY:av.tree=true) (aV:∀vs,av≠.tuple vs):
  ∃bC,bw w0 F0 X bC S s au w∧kI w0 X bC S s au w av.share v:=by
 obtain⟨Sn,hh,ga,jf,jg,pZ,rl⟩:∃Sn:Nat→Prop,ck av v∧ak w F av (bU v) Sn∧(∀b,Sn b→b<w.heap.size)∧(∀b,Sn b→¬F b)∧(∀u b,Sn b→¬S u b)∧(∀b,Sn b→X b∨w0.heap.size≤b):=by
  rcases aI with⟨ad,ag⟩|⟨_,ag,Sn,aF,a8,bF,cn,cD⟩
  ·rw[aB.b9 aY]at ag
   exact⟨fun _=>False,ag.1,ag.2,fun _ h=>h.elim,fun _ h=>h.elim,fun _ _ h=>h.elim,fun _ h=>h.elim⟩
  ·exact⟨Sn,ag,aF,a8,bF,cn,cD⟩
 refine⟨fun b=>F b∨Sn b,?_,.inl ⟨Bt av,?_⟩⟩
 ·exact {
   gF:=fun b U=>.inl (h.gF b U)
   gS:=fun b U=>by
    rcases U with U|U
    ·exact h.gS b U
    ·exact .inr (rl b U)
   eT:=fun b U=>U.elim (h.eT b) (jf b)
   eg:=h.eg
   fa:=fun t b U br=>br.elim (h.fa t b U) (fun aa=>pZ t b aa U)
   eN:=h.eN
   dp:=h.dp
   cN:=fun t=>aB.frame (fun _ _=>rfl) (fun b U=>.inl U) (fun _ _ _=>rfl) h.cN _ _ _ (fun _ _=>rfl) (h.cN t)
   old:=h.old
   size:=h.size
   os:=h.os
   tape:=h.tape
   output:=h.output
   gn:=h.gn}
 ·by_cases cd:∃o,av= .dq o
  ·obtain⟨o,rfl⟩:=cd
   rw[I.share,aB];trivial
  have Np:av.share.tree=true:=by cases av<;>first|exact aY|rfl|exact(cd ⟨_,rfl⟩).elim
  rw[aB.b9 Np]
  exact⟨Bv aV hh,ak.shared (fun b U=>.inl U) av _ Sn (fun b U=>.inr U) ga⟩
theorem Nq {op:Op} {T:TypeId} {x:aC} (h:cE op=some (.cQ T x)):∃a,op= .box T a∧db a=some x:=by
 cases op with
 |box BH a=>
  simp only[cE,Option.map_eq_some_iff,fj.cQ.injEq]at h
  obtain⟨y,hy,rfl,rfl⟩:=h
  exact⟨a,rfl,hy⟩
 |_=>
  exfalso
  unfold cE at h
  split at h<;>(try split at h)<;>(try split at h)<;>(try split at h)<;>(try simp[Option.map_eq_some_iff]at h)<;>contradiction
theorem Nr {aA:World} {F bC:Nat→Prop} {s s1:an} {au:Nat→Value} (bl:∀b,F b→bC b∧aA.heap[b]? =w.heap[b]?):∀(n:Nat),
  (∀(d:I) (v:Value) (S:Nat→Prop),SizeOf.sizeOf d≤n→d.gW s=true→d.gW s1=true→aB w F s au d v S→aB aA bC s1 au d v (fun _=>False))∧
  (∀(ds:List I) (vs:List Value),SizeOf.sizeOf ds≤n→I.qa s ds=true→I.qa s1 ds=true→dx w F s au ds vs→dx aA bC s1 au ds vs):=by
 intro n
 induction n with
 |zero=>
  refine⟨fun d v S bG=> ?_,fun ds vs bG=> ?_⟩
  ·cases d<;>simp at bG<;>omega
  ·cases ds<;>simp at bG<;>omega
 |succ n ih=>
  refine⟨fun d v S bG bV b7 h=> ?_,fun ds vs bG bV b7 h=> ?_⟩
  ·cases d with
   |hole=>rw[aB];trivial
   |h x q=>
    simp only[I.gW,Bool.and_eq_true,List.isEmpty_iff]at bV b7
    obtain⟨rfl,bV⟩:=bV
    rw[aB]at h⊢
    obtain⟨cc,a,fg,gM,hP⟩:=h (s x) (by simp only[I.sub]) (ph bV).1
    simp only[cL,Option.some.injEq,Prod.mk.injEq,true_and]at fg
    intro d ah _
    simp only[I.sub,Option.some.injEq]at ah
    subst ah
    exact⟨bU (au x),none,by simp only[cL],by rw[gM,←fg.1],((ph b7.2).2.2.2.2.2 _).2 (((ph bV).2.2.2.2.2 _).1 hP)⟩
   |ao x q=>simp[I.gW]at bV
   |U x k=>
    simp only[I.gW,Bool.not_eq_true']at bV
    rw[aB]at h⊢
    obtain⟨b,cur,e,fr,ad,ag,aF,a8⟩:=h bV
    exact fun _=>⟨b,cur,e,fr,ad,(bl b ag).1,(bl b ag).2.trans aF,a8⟩
   |fn f cap=>
    simp only[I.gW]at bV b7
    rw[aB]at h⊢
    obtain⟨arr,rfl,aj⟩:=h
    exact⟨arr,rfl,ih.2 _ _ (by simp at bG;omega) bV b7 aj⟩
   |_=>
    simp only[I.gW]at bV
    have bb:=(aB.b9 rfl).1 h
    exact(aB.b9 rfl).2 ⟨bb.1,ak.mono (fun b U=>(bl b U).1) _ _ _ _ (fun _ h=>h) (ak.frame (fun b U=>(bl b U).2) _ _ _ (fun _ h=>h.elim) (ak.plain _ _ _ _ bV bb.2))⟩
  ·cases ds with
   |nil=>rw[dx]at h⊢;exact h
   |cons d ds=>
    simp only[I.qa,Bool.and_eq_true]at bV b7
    rw[dx]at h⊢
    obtain⟨v,jc,rfl,ad,ag⟩:=h
    simp at bG
    exact⟨v,jc,rfl,ih.1 _ _ _ (by omega) bV.1 b7.1 ad,ih.2 _ _ (by omega) bV.2 b7.2 ag⟩
theorem Ns {s:an} {d:I} (h:d.gW s=true):d.plain=true:=by
 cases d<;>first|rfl|(simpa [I.gW]using h)
theorem bw.pk {F:Nat→Prop} {au:Nat→Value}:∀(L:List (Nat×I)) (s:an) (S:Nat→Nat→Prop),bw w0 F0 X F S s au w→(∀p∈L,p.2.plain=true∧aB w F s au p.2 (au p.1) (fun _=>False))→
  ∃aG,bw w0 F0 X F aG (cI.pk s L) au w∧∀u b,aG u b→S u b:=by
 intro L
 induction L with
 |nil=>intro s S h _;exact⟨S,h,fun _ _ h=>h⟩
 |cons p L ih=>
  intro s S h jT
  obtain⟨ad,ag⟩:=jT p (by simp)
  have dF:c7 au p.1 (au p.1)=au:=by funext u;simp only[c7];split<;>simp_all
  have aF:=h.uo (t:=p.1) ad ag
  rw[dF]at aF
  have hr:∀x,x≠p.1→(c7 s p.1 p.2 x).tree=true→c7 s p.1 p.2 x=s x∧au x=au x:=fun x ai _=>⟨jd _ _ ai,rfl⟩
  obtain⟨aG,g1,g2⟩:=ih _ _ aF (fun q cM=>⟨(jT q (by simp[cM])).1,(aB.void (t:=p.1) hr (by rw[l7];exact ad) _).1 _ _ _ (Nat.le_refl _) (jT q (by simp[cM])).2⟩)
  refine⟨aG,g1,fun u b U=> ?_⟩
  have:=g2 u b U
  simp only[fR]at this
  split at this
  ·exact this.elim
  ·exact this
theorem BK {s:an}:∀{L:List (Nat×I)},oN s L=true→∀p∈L,p.2.gW s=true
 |q::L,ad,p,ao=>by
  simp only[oN,Bool.and_eq_true]at ad
  rcases List.mem_cons.1 ao with rfl|ao
  ·exact ad.1
  ·exact BK ad.2 p ao
theorem Nt {s:an} {us:List Nat} {p:Nat×I} (h:p∈lN s us):p.1∈us∧s p.1=p.2:=by
 obtain⟨u,hu,rfl⟩:=List.mem_map.1 h
 exact⟨hu,rfl⟩
theorem Nu (bc:C.en) (h:Rel w0 F0 X n ρ s a w) {o:Oper} {bA:fj} (b1:p_ o.op=bA.base) (ah:lM n o.dst=true) {K:an→Prop} {next:Act→World→Prop}
  (hw:nq C s bA fun av s1=>K (fin s1 o.dst av)) (aV:∀aw cz aA,K aw→Rel w0 F0 X n ρ aw cz aA→next cz aA):o.wp C.P a w next Q:=by
 cases bA with
 |shr bA=>
  obtain⟨av,s1,he,aY,mh,ax⟩:=hw
  rcases oO b1 with b1|b1
  ·change bA= .bad at b1
   subst b1;cases he
  obtain⟨im,dJ,hi,F,S,aH⟩:=h
  obtain⟨r,aA,v,bC,aG,ad,ag,aF,a8⟩:=Fb (a:=a) bc aH (fun _=>rfl) b1 he
  obtain⟨u1,g3,g4⟩:=kI.share aF a8 aY mh
  unfold Oper.wp
  rw[ad]
  rcases ag with rfl|⟨rfl,rfl⟩
  ·exact aV _ _ _ ax (Rel.put im dJ hi g3 g4 ah)
  ·exact aV _ _ _ ax (Rel.put im dJ hi g3 g4 ah)
 |bad=>obtain⟨av,s1,he,_⟩:=hw;cases he
 |me f args u x=>
  obtain⟨aT,aX,hw⟩:=hw
  rcases oO b1 with U|U
  ·cases U
  ·refine BI bc h U ah hw ?_ aV
   rintro F S bC aG w aA av s1 v hh ⟨ga,jf,jg⟩ pZ rl u5 _
   have w7:=hh.cN u
   rw[aT,aB]at w7
   obtain⟨cc,a0,fg,gM,hP⟩:=w7 (s x) (by simp only[I.sub]) (ph aX).1
   simp only[cL,Option.some.injEq,Prod.mk.injEq,true_and]at fg
   have Nv:∀y b,fR aG u (fun _=>False) y b→aG y b:=by
    intro y b U
    simp only[fR]at U
    split at U
    ·exact U.elim
    ·exact U
   exact⟨_,_,jg,rl.alias ga jf (by rw[gM,←fg.1]) (((ph aX).2.2.2.2.2 _).1 hP),u5.less Nv pZ⟩
 |mf f args L=>
  obtain⟨aX,hw⟩:=hw
  rcases oO b1 with U|U
  ·cases U
  ·refine BI bc h U ah hw ?_ aV
   rintro F S bC aG w aA av s1 v hh ⟨ga,jg⟩ pZ rl u5 Nw
   obtain⟨dc,g1,g2⟩:=rl.pk (lN s L) s1 aG (fun p ao=>by
    have ea:=(Nt ao).2
    have bD:=BK aX p ao
    have dt:=BK ga p ao
    refine⟨Ns bD,(Nr Nw _).1 _ _ (S p.1) (Nat.le_refl _) bD dt ?_⟩
    have:=hh.cN p.1
    rw[ea]at this
    exact this)
   exact⟨_,dc,jg,g1,u5.less g2 pZ⟩
 |kM T x=>
  obtain⟨av,s1,he,ax⟩:=hw
  rcases oO b1 with U|U
  ·cases U
  ·obtain⟨dv,n6,ai⟩:=Nq U
   obtain⟨im,dJ,hi,F,S,aH⟩:=h
   obtain⟨dst,op,ty,pos,after,guard⟩:=o
   simp only at n6 ah ax
   subst n6
   obtain⟨r,aA,v,bC,aG,ad,ag,aF,a8⟩:Next C w0 F0 X (fun t=>a.tmps.getD t undef) w (execOp a.eval ⟨dst,.box T dv,ty,pos,after,guard⟩) av s1:=(Lk (T:=T) aH (eF aH (fun _=>rfl) ai).2 he).next
   unfold Oper.wp
   rw[ad]
   rcases ag with rfl|⟨rfl,rfl⟩
   ·exact aV _ _ _ ax (Rel.put im dJ hi aF a8 ah)
   ·exact aV _ _ _ ax (Rel.put im dJ hi aF a8 ah)
 |pe x=>
  obtain⟨av,s1,he,ax⟩:=hw
  rcases oO b1 with U|U
  ·cases U
  ·obtain⟨dv,n6,ai⟩:=Nh U
   obtain⟨im,dJ,hi,F,S,aH⟩:=h
   obtain⟨dst,op,ty,pos,after,guard⟩:=o
   simp only at n6 ah ax
   subst n6
   simp only[bq]at he
   obtain⟨g1,g2⟩:=eF aH (fun _=>rfl) ai
   obtain⟨r,aA,v,bC,aG,ad,ag,aF,a8⟩:Next C w0 F0 X (fun t=>a.tmps.getD t undef) w (execOp a.eval ⟨dst,.move dv,ty,pos,after,guard⟩) av s1:=by
    unfold oH at he
    split at he
    ·rename_i y q hy
     rw[hy]at g1 g2
     obtain⟨bN,k0,bV,b7,Sn,eh,dd,eO,ey,h9,_⟩:=nR aH g1 g2 he
     exact⟨_,w,_,F,bN,rfl,.inl rfl,k0,.inr ⟨bV,b7,Sn,eh,dd,eO,ey,h9⟩⟩
    ·simp only[Option.some.injEq,Prod.mk.injEq]at he
     obtain⟨rfl,rfl⟩:=he
     exact⟨_,w,_,F,S,rfl,.inl rfl,aH,.inl ⟨g1,g2⟩⟩
   unfold Oper.wp
   rw[ad]
   rcases ag with rfl|⟨rfl,rfl⟩
   ·exact aV _ _ _ ax (Rel.put im dJ hi aF a8 ah)
   ·exact aV _ _ _ ax (Rel.put im dJ hi aF a8 ah)
 |p6 x=>
  obtain⟨av,s1,he,ax⟩:=hw
  rcases oO b1 with U|U
  ·cases U
  ·obtain⟨dv,n6,ai⟩:=Ni U
   obtain⟨im,dJ,hi,F,S,aH⟩:=h
   obtain⟨dst,op,ty,pos,after,guard⟩:=o
   simp only at n6 ah ax
   subst n6
   simp only[bq,Option.some.injEq,Prod.mk.injEq]at he
   obtain⟨rfl,rfl⟩:=he
   obtain⟨g1,g2⟩:=eF aH (fun _=>rfl) ai
   obtain⟨r,aA,v,bC,aG,ad,ag,aF,a8⟩:Next C w0 F0 X (fun t=>a.tmps.getD t undef) w (execOp a.eval ⟨dst,.assign dv,ty,pos,after,guard⟩) (aE s x) s:=⟨_,w,_,F,S,rfl,.inl rfl,aH,.inl ⟨g1,g2⟩⟩
   unfold Oper.wp
   rw[ad]
   rcases ag with rfl|⟨rfl,rfl⟩
   ·exact aV _ _ _ ax (Rel.put im dJ hi aF a8 ah)
   ·exact aV _ _ _ ax (Rel.put im dJ hi aF a8 ah)
 |ni T bz x y=>
  obtain⟨av,s1,he,ax⟩:=hw
  rcases oO b1 with U|U
  ·cases U
  ·obtain⟨dv,kp,n6,ai,hy⟩:=Nk U
   obtain⟨im,dJ,hi,F,S,aH⟩:=h
   simp only[bq,Option.map_eq_some_iff,Prod.mk.injEq]at he
   obtain⟨d,gL,rfl,rfl⟩:=he
   obtain⟨v,aA,bC,aG,ad,ag,aF⟩:=Mb (ty:=o.type) bc aH (eF aH (fun _=>rfl) ai).2 (eF aH (fun _=>rfl) hy).2 gL
   have rk:execOp a.eval o=(do pure (.value (←Builtin.append_ #[T,bz] o.type #[a.eval dv,a.eval kp]))):=by
    obtain⟨dst,op,ty,pos,after,guard⟩:=o
    simp only at n6
    subst n6
    simp[execOp,resolve,invoke,builtin]
   unfold Oper.wp
   rw[rk]
   simp only[Sem.run_bind,ad,Result.andThen]
   exact aV _ _ _ ax (Rel.put im dJ hi ag aF ah)
 |_=>
  rcases oO b1 with U|U
  ·cases U
  ·exact Nn bc h U ah hw aV
end
end Go.cI
