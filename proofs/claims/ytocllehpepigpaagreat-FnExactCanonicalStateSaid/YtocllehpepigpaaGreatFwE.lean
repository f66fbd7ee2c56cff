/- Part of a proof that a law returns true for every input. No condition. -/
import Derived.Test.YtocllehpepigpaaGreatFwD
import Derived.Laws.Tables
namespace Go.cZ
section
variable {C:cw} {w0 w:World} {F0 X F:Nat→Prop} {S:Nat→Nat→Prop} {s s1:ar} {aA:Nat→Value} {av:I}
theorem Bc (z:List Value):∀n,(List.range (n*z.length)).map (fun i=>z[i%z.length]!)=(List.replicate n z).flatten
 |0=>by simp
 |n+1=>by
  rw[Nat.add_mul,Nat.one_mul,List.range_add,List.map_append,Bc z n,List.replicate_succ',List.flatten_append]
  congr 1
  simp only[List.map_map,List.flatten_cons,List.flatten_nil,List.append_nil]
  apply List.ext_getElem
  ·simp
  ·intro i h1 ah
   have ao:i<z.length:=ah
   simp[Nat.mod_eq_of_lt ao,ao]
theorem bc.replicate {d:I} {cs:List Value} (h:∀aR,ax w F d cs aR):∀n aR,bc w F (List.replicate n d) (List.replicate n cs).flatten aR
 |0,aR=>by simp only[List.replicate_zero,List.flatten_nil];rw[bc]
 |n+1,aR=>by
  rw[List.replicate_succ,List.replicate_succ,List.flatten_cons,bc]
  exact⟨cs,_,fun _=>False,fun _=>False,rfl,h _,bc.replicate h n _,fun _ h=>h.elim,fun _ h=>h.elim,fun _ h=>h.elim⟩
def eS (C:cw) (T:TypeId) (l c:I):Option I:=
 match(C.T T).k,l,c with
 | .slice e,.int .i64 n,.int .i64 m=>if n=m∧0≤n∧(C.T e).ok=true∧(C.T e).zero.wd=(C.T e).sz∧(flat (C.T e).zero).isSome=true∧(C.T e).sz≠0∧(C.T e).bytes*n≤140737488355328∧n≤9223372036854775807 then
   some (.an (C.T e).sz (List.replicate n.toNat (C.T e).zero))else none
 |_,_,_=>none
theorem SG (bu:C.Ok) (h:bQ w0 F0 X F S s aA w) {T:TypeId} {l c:I} {J1 J2:Value} (hl:aL w F s aA l J1 (fun _=>False)) (aq:aL w F s aA c J2 (fun _=>False)) (he:eS C T l c=some av):
  Good C w0 F0 X aA w (Instr.makeSlice T J1 J2) av s:=by
 unfold eS at he
 split at he
 ·rename_i e n m hk
  have:=ob hl;subst this
  have:=ob aq;subst this
  obtain⟨FA,d,FB,aS,aZ,aQ,cF,cR,ch,b3⟩:=bu.info (gr hk (by simp))
  rw[hk]at b3
  have:=lG b3;subst this
  split at he
  ·rename_i sQ
   obtain⟨rfl,a6,o5,pY,qM,dR,J3,FE⟩:=sQ
   simp only[Option.some.injEq]at he;subst he
   obtain⟨i,FC,z,f1,f2,f3,f4,f5,f6,f7⟩:=bu.info o5
   obtain⟨ft,l5⟩:=Option.isSome_iff_exists.1 qM
   have qN:=f5 ft l5
   have gv:∀aR,ax w F (C.T e).zero ft aR:=fun aR=>(ax.flat _).1 _ ft aR (Nat.le_refl _) l5
   have o7:ft.length=(C.T e).sz:=by rw[ax.length _ _ _ (gv (fun _=>False)),pY]
   obtain⟨n,rfl⟩:=Int.eq_ofNat_of_zero_le a6
   simp only[Int.toNat_natCast]
   have vk:IntKind.i64.wrap (n:Int)=n:=by
    rw[IntKind.wrap_i64];omega
   have vi:∀k (w:World),(askRoom k).run C.P w= .ok () w:=by
    intro k w
    unfold askRoom
    split<;>rfl
   have o2:((Array.range (n*(C.T e).sz)).map (ft.toArray[·%ft.toArray.size]!)).toList=(List.replicate n ft).flatten:=by
    have:=Bc ft n
    rw[o7]at this
    simpa [o7]using this
   have e7:¬(281474976710656<(i.bytes:Int)*n):=by
    rw[f3];omega
   have Bd:¬((n:Int)<0):=by omega
   have run:(Instr.makeSlice T (.int .i64 n) (.int .i64 n)).run C.P w= .ok (.slice (some ⟨w.heap.size,0,none⟩) n n)
     (w.alloc (.cells (if n*(C.T e).sz=0 then(Array.range (n*(C.T e).sz)).map (fun _=>default)else(Array.range (n*(C.T e).sz)).map (ft.toArray[·%ft.toArray.size]!)) e)):=by
    by_cases bf:n*(C.T e).sz=0
    ·simp[Instr.makeSlice,run_underlying ch,asInt,asIntOf,sO f1,vk,e7,Bd,vi,kh f1,f2,bf,newRow]
    ·simp only[bf,if_false]
     simp[Instr.makeSlice,run_underlying ch,asInt,asIntOf,sO f1,vk,e7,Bd,vi,kh f1,f2,bf,newRow,rC f1 f4,qN]
   have lC:(if n*(C.T e).sz=0 then(Array.range (n*(C.T e).sz)).map (fun _=>(default:Value))else(Array.range (n*(C.T e).sz)).map (ft.toArray[·%ft.toArray.size]!)).toList=(List.replicate n ft).flatten:=by
    split
    ·rename_i bf
     have:n=0:=by
      rcases Nat.mul_eq_zero.1 bf with h|h
      ·exact h
      ·exact(dR h).elim
     subst this
     simp
    ·exact o2
   generalize sZ:(if n*(C.T e).sz=0 then(Array.range (n*(C.T e).sz)).map (fun _=>(default:Value))else(Array.range (n*(C.T e).sz)).map (ft.toArray[·%ft.toArray.size]!))=cur at run lC
   have jK:(List.replicate n ft).flatten.length=n*(C.T e).sz:=by simp[o7]
   have hb:cur.size=n*(C.T e).sz:=by
    have:cur.size=cur.toList.length:=by simp
    rw[this,lC,jK]
   have kx:=h.xN (aG:=w.alloc (.cells cur e)) (sz:=(C.T e).sz) (cap:=n) (xs:=List.replicate n (C.T e).zero) (cur:=cur) (e:=e) (fr:=(0,0)) (Sn:=fun _=>False) rfl rfl rfl ⟨rfl,fun _=>Nat.le_refl _⟩
    (fun o _ ⟨_,ah⟩=>absurd ah (Nat.not_lt_zero _)) (by simp) (by unfold maxLen;omega) hb (by intro d aj;rw[List.eq_of_mem_replicate aj];exact pY)
    (by rw[lC,List.length_replicate,List.take_of_length_le (by rw[jK];exact Nat.le_refl _)];exact bc.replicate gv n _) (fun _ h=>h.elim) (fun _ h=>h.elim) (fun _ _ h=>h.elim) (fun _ h=>h.elim)
   rw[List.length_replicate]at kx
   exact⟨_,_,F,S,run,kx.1,kx.2⟩
  ·cases he
 ·cases he
def oq (C:cw) (T bZ:TypeId) (x y:I):Option I:=
 match(C.T T).k,(C.T bZ).k,x,y with
 | .slice e,.int _,.bk,.int .i64 n=>if 0≤n∧(C.T e).ok=true∧(C.T e).zero.wd=(C.T e).sz∧(flat (C.T e).zero).isSome=true∧(C.T e).sz≠0∧(C.T e).bytes*n≤140737488355328∧n≤9223372036854775807 then
   some (.an (C.T e).sz (List.replicate n.toNat (C.T e).zero))else none
 |_,_,_,_=>none
theorem SH {P:Program} {T bZ ty e:TypeId} {k:IntKind} {i:TypeInfo} {z:Value} (ba:P.underlying T=some (.slice e)) (hu:P.underlying bZ=some (.int k)) (ao:P.info? e=some i) (cf:i.zero=some z)
  (n:Nat) (bf:n≠0) (ag:i.size≠0) (a6:n≤9223372036854775807) (ae:n*i.bytes≤140737488355328):
  (Builtin.append_ #[T,bZ] ty #[.slice none 0 0,.int .i64 n]).run P w= .ok (.slice (some ⟨w.heap.size,0,none⟩) n (grownCap w n 0 e))
   (w.drew.alloc (.cells (Builtin.zeroCells z.cells n++Builtin.zeroCells z.cells (grownCap w n 0 e-n)) e)):=by
 have vk:IntKind.i64.wrap (n:Int)=n:=by rw[IntKind.wrap_i64];omega
 have Bd:¬((n:Int)<0):=by omega
 have hmul:(n:Int)*(i.bytes:Int)=((n*i.bytes:Nat):Int):=by simp
 have e7:¬(281474976710656<(n:Int)*(i.bytes:Int)):=by rw[hmul];omega
 have iw:¬(281474976710656<Builtin.nextslicecap n 0*i.bytes):=by
  have:Builtin.nextslicecap n 0=n:=by unfold Builtin.nextslicecap;rw[if_pos (by omega)]
  rw[this];omega
 have vi:∀k (w:World),(askRoom k).run P w= .ok () w:=by
  intro k w
  unfold askRoom
  split<;>rfl
 have Fx:¬(9223372036854775807<(n:Int)):=by omega
 have FJ:n*i.size≠0:=Nat.mul_ne_zero bf ag
 simp[Builtin.append_,run_underlying ba,run_underlying hu,kh ao,sO ao,asInt,asIntOf,vk,Bd,e7,iw,bf,Question.forced,vi,Fx,rC ao cf,newRow,grownCap,Builtin.firstCells]
 intro kT;exact(FJ kT).elim
theorem SI (bu:C.Ok) (h:bQ w0 F0 X F S s aA w) {T bZ ty:TypeId} {x y:I} {ij ja:Value} (aw:aL w F s aA x ij (fun _=>False)) (bt:aL w F s aA y ja (fun _=>False)) (he:oq C T bZ x y=some av):
  Good C w0 F0 X aA w (Builtin.append_ #[T,bZ] ty #[ij,ja]) av s:=by
 unfold oq at he
 split at he
 ·rename_i e aDy n hk J4
  have:=qJ aw;subst this
  have:=ob bt;subst this
  obtain⟨FA,d,FB,aS,aZ,aQ,cF,cR,ch,b3⟩:=bu.info (gr hk (by simp))
  rw[hk]at b3
  have:=lG b3;subst this
  obtain⟨aDz,aDA,aDB,rL,Be,Bf,xV,aDC,FK,J5⟩:=bu.info (gr J4 (by simp))
  rw[J4]at J5
  have:=xE J5;subst this
  split at he
  ·rename_i sQ
   obtain⟨a6,o5,pY,qM,dR,J3,FE⟩:=sQ
   simp only[Option.some.injEq]at he;subst he
   obtain⟨i,FC,z,f1,f2,f3,f4,f5,f6,f7⟩:=bu.info o5
   obtain⟨ft,l5⟩:=Option.isSome_iff_exists.1 qM
   have qN:=f5 ft l5
   have gv:∀aR,ax w F (C.T e).zero ft aR:=fun aR=>(ax.flat _).1 _ ft aR (Nat.le_refl _) l5
   have o7:ft.length=(C.T e).sz:=by rw[ax.length _ _ _ (gv (fun _=>False)),pY]
   obtain⟨n,rfl⟩:=Int.eq_ofNat_of_zero_le a6
   simp only[Int.toNat_natCast]
   by_cases bf:n=0
   ·subst bf
    have run:(Builtin.append_ #[T,bZ] ty #[.slice none 0 0,.int .i64 ((0:Nat):Int)]).run C.P w= .ok (.slice none 0 0) w:=by
     have vk:IntKind.i64.wrap 0=0:=by decide
     simp[Builtin.append_,run_underlying ch,run_underlying FK,kh f1,sO f1,asInt,asIntOf,vk]
    exact⟨_,w,F,S,run,h,.inr ⟨rfl,rfl,fun _=>False,by simp only[cC,h6];rw[ax];exact .inl ⟨rfl,_,rfl⟩,fun _ h=>h.elim,fun _ h=>h.elim,fun _ _ h=>h.elim,fun _ h=>h.elim⟩⟩
   ·have run:=SH (w:=w) (ty:=ty) ch FK f1 f4 n bf (by rw[f2];exact dR) (by omega) (by
     rw[f3]
     have:((C.T e).bytes:Int)*(n:Int)=(((C.T e).bytes*n:Nat):Int):=by simp
     rw[this]at J3
     rw[Nat.mul_comm];omega)
    rw[qN]at run
    have xQ:=grownCap_ge w n 0 e
    have xR:=grownCap_le_maxLen w n 0 e (by unfold maxLen;omega)
    have J6:∀m,(Builtin.zeroCells ft.toArray m).toList=(List.replicate m ft).flatten:=by
     intro m
     have:=Bc ft m
     unfold Builtin.zeroCells
     simpa [o7]using this
    have jK:∀m,(List.replicate m ft).flatten.length=m*(C.T e).sz:=by intro m;simp[o7]
    generalize sZ:Builtin.zeroCells ft.toArray n++Builtin.zeroCells ft.toArray (grownCap w n 0 e-n)=cur at run
    have lC:cur.toList=(List.replicate n ft).flatten++(List.replicate (grownCap w n 0 e-n) ft).flatten:=by rw[←sZ,Array.toList_append,J6,J6]
    have hb:cur.size=grownCap w n 0 e*(C.T e).sz:=by
     have:cur.size=cur.toList.length:=by simp
     rw[this,lC,List.length_append,jK,jK,←Nat.add_mul]
     congr 1;omega
    have kx:=h.xN (aG:=w.drew.alloc (.cells cur e)) (sz:=(C.T e).sz) (cap:=grownCap w n 0 e) (xs:=List.replicate n (C.T e).zero) (cur:=cur) (e:=e) (fr:=(0,0)) (Sn:=fun _=>False) rfl rfl rfl ⟨rfl,fun _=>Nat.le_succ _⟩
     (fun o _ ⟨_,ah⟩=>absurd ah (Nat.not_lt_zero _)) (by simpa using xQ) xR hb (by intro d aj;rw[List.eq_of_mem_replicate aj];exact pY)
     (by rw[lC,List.length_replicate,List.take_left' (jK n)];exact bc.replicate gv n _) (fun _ h=>h.elim) (fun _ h=>h.elim) (fun _ _ h=>h.elim) (fun _ h=>h.elim)
    rw[List.length_replicate]at kx
    exact⟨_,_,F,S,run,kx.1,kx.2⟩
  ·cases he
 ·cases he
def iz (s:ar) (f:FuncId) (cs:List aK):Option I:=some (.fn f (cs.map (aN s)))
theorem Bg {a:Act} (h:bQ w0 F0 X F S s aA w) (eE:∀t,aA t=a.tmps.getD t undef):∀(os:List Operand) (xs:List aK),os.map dO=xs.map some→eA w F s aA (xs.map (aN s)) (os.map a.eval)
 |[],[],_=>by simp only[List.map_nil];rw[eA]
 |[],x::xs,h=>by simp at h
 |o::os,[],h=>by simp at h
 |o::os,x::xs,bL=>by
  simp only[List.map_cons,List.cons.injEq]at bL⊢
  rw[eA]
  exact⟨_,_,rfl,(fA h eE bL.1).2,Bg h eE os xs bL.2⟩
theorem J7:∀(vs:List Value) (k off:Nat) (A:Array Value) (l m r:List Value),A.toList=l++(m++r)→l.length=off+k→m.length=vs.length→
  ((vs.zipIdx k).foldl (fun cs (x:Value×Nat)=>cs.setIfInBounds (off+x.2) x.1) A).toList=l++(vs++r)
 |[],k,off,A,l,m,r,iQ,hl,hm=>by
  have:m=[]:=by simpa using hm
  subst this
  simpa using iQ
 |v::vs,k,off,A,l,m,r,iQ,hl,hm=>by
  obtain⟨x,m,rfl⟩:∃x ix,m=x::ix:=by
   cases m with
   |nil=>simp at hm
   |cons x m=>exact⟨x,m,rfl⟩
  rw[List.zipIdx_cons,List.foldl_cons]
  have:=J7 vs (k+1) off (A.setIfInBounds (off+k) v) (l++[v]) m r (by
   rw[Array.toList_setIfInBounds,iQ,←hl,List.set_append_right _ _ (Nat.le_refl _)]
   simp) (by simp;omega) (by simpa using hm)
  simpa using this
def lk (os:List (Option Nat)) (a:I):I:=os.foldl (fun a o=>kV o a) a
def eL (place:Nat→Option (Nat×Nat)):ar→List I→List (Option Nat)→List (Nat×I)→Option (List I×ar)
 |s,eG,_,[]=>some (eG,s)
 |s,eG,os,(k,a)::r=>match c7 s (lk os a),place k,eG[k]? with
  |some (d,s1),some (off,n),some z=>match d with
   | .tuple _=>none
   |d=>if d.wd=n∧z.wd=n∧I.eC (eG.take k)=off then eL place s1 (eG.set k d) (os++[(lk os a).owner]) r else none
  |_,_,_=>none
def ot (w:World) (F:Nat→Prop) (s:ar) (aA:Nat→Value):List (Nat×I)→List (Nat×Value)→Prop
 |[],[]=>True
 |(k,a)::r,(cW,v)::gU=>k=cW∧a.plain=true∧aL w F s aA a v (fun _=>False)∧ot w F s aA r gU
 |_,_=>False
theorem SJ (x:Nat):∀d:I,d.plain=true→(cv x d).plain=true
 | .h y q,_=>by simp only[cv];split<;>(try split)<;>rfl
 | .au y q,_=>by simp only[cv];split<;>rfl
 | .ae y q,_=>rfl
 | .fn f c,_=>by simp only[cv];rfl
 | .hole,h=>h
 | .bool _,h=>h
 | .fb,h=>h
 | .int _ _,h=>h
 | .str _,h=>h
 | .dI,h=>h
 | .bk,h=>h
 | .slice _,h=>h
 | .an _ _,h=>h
 | .ref _,h=>h
 | .bd _,h=>h
 | .agg _,h=>h
 | .tuple _,h=>h
theorem SK (o:Option Nat) (d:I) (h:d.plain=true):(kV o d).plain=true:=by
 cases o with
 |none=>exact h
 |some x=>exact SJ x d h
theorem ot.cv {w:World} {F:Nat→Prop} {s s1:ar} {aA:Nat→Value} {o:Option Nat} (au:∀(bp:I) (gG:Value) (aR:Nat→Prop),aL w F s aA bp gG aR→aL w F s1 aA (kV o bp) gG aR):
  ∀(r:List (Nat×I)) (gU:List (Nat×Value)),ot w F s aA r gU→ot w F s1 aA (r.map fun p=>(p.1,kV o p.2)) gU
 |[],[],_=>trivial
 |(k,a)::r,(cW,v)::gU,h=>by
  obtain⟨h1,ah,aC,a8⟩:=h
  exact⟨h1,SK _ _ ah,au _ _ _ aC,ot.cv au r gU a8⟩
 |[],_::_,h=>h.elim
 |_::_,[],h=>h.elim
theorem FL {place:Nat→Option (Nat×Nat)}:∀(ps:List (Nat×I)) (vs:List (Nat×Value)) (os:List (Option Nat)) (s:ar) (S:Nat→Nat→Prop) (eG:List I) (A:Array Value) (h4:Nat→Prop),
  bQ w0 F0 X F S s aA w→ot w F s aA (ps.map fun p=>(p.1,lk os p.2)) vs→bc w F eG A.toList h4→(∀b,h4 b→b<w.heap.size)→(∀b,h4 b→¬F b)→(∀u b,h4 b→¬S u b)→(∀b,h4 b→X b∨w0.heap.size≤b)→
  ∀ds s1,eL place s eG os ps=some (ds,s1)→∃mz cq hn,Instr.fill place A vs=some mz∧bQ w0 F0 X F cq s1 aA w∧bc w F ds mz.toList hn∧(∀b,hn b→b<w.heap.size)∧(∀b,hn b→¬F b)∧(∀u b,hn b→¬cq u b)∧
   (∀b,hn b→X b∨w0.heap.size≤b)∧ds.length=eG.length∧I.eC ds=I.eC eG∧(∀n,(∀d∈eG,d.wd=n)→∀d∈ds,d.wd=n)
 |[],[],os,s,S,eG,A,h4,h,_,h1,ah,aC,a8,bK,ds,s1,he=>by
  simp only[eL,Option.some.injEq,Prod.mk.injEq]at he
  obtain⟨rfl,rfl⟩:=he
  exact⟨A,S,h4,rfl,h,h1,ah,aC,a8,bK,rfl,rfl,fun _ h=>h⟩
 |(k,a)::ps,(cW,v)::vs,os,s,S,eG,A,h4,h,au,h1,ah,aC,a8,bK,ds,s1,he=>by
  obtain⟨rfl,ll,oX,xW⟩:=au
  simp only[eL]at he
  split at he
  ·rename_i d vl off n z ba gq cf
   have key:∀d:I,(∀ay,d≠.tuple ay)→c7 s (lk os a)=some (d,vl)→(if d.wd=n∧z.wd=n∧I.eC (eG.take k)=off then eL place vl (eG.set k d) (os++[(lk os a).owner]) ps else none)=some (ds,s1)→
     ∃mz cq hn,Instr.fill place A ((k,v)::vs)=some mz∧bQ w0 F0 X F cq s1 aA w∧bc w F ds mz.toList hn∧(∀b,hn b→b<w.heap.size)∧(∀b,hn b→¬F b)∧(∀u b,hn b→¬cq u b)∧
     (∀b,hn b→X b∨w0.heap.size≤b)∧ds.length=eG.length∧I.eC ds=I.eC eG∧(∀n,(∀d∈eG,d.wd=n)→∀d∈ds,d.wd=n):=by
    intro d qH ba he
    split at he
    ·rename_i aq
     obtain⟨nD,mW,J8⟩:=aq
     obtain⟨cq,g0,g1,g2,Sn,g3,g4,g5,g6,g7,g8,g9,g10⟩:=oY h ll oX ba
     obtain⟨cB,gn,cu,Sx,ic,iQ,h5,fQ,hC,ie,gD,mn⟩:=bc.pick eG _ _ k z h1 cf
     have o2:=xH g2 qH
     have rM:=ax.length _ _ _ g3
     have J9:=ax.length _ _ _ gD
     have rE:=mn w d (cC v) Sn (fun _ _=>rfl) (fun _ _=>rfl) g3 (fun b SL SM=>by obtain⟨u,hu⟩:=g9 b SL;exact a8 u b (fQ b SM) hu)
     have J_:=J7 (cC v) 0 off A cB gn cu iQ (by rw[h5,J8];rfl) (by rw[J9,rM,nD,mW])
     generalize xX:((cC v).zipIdx 0).foldl (fun cs (x:Value×Nat)=>cs.setIfInBounds (off+x.2) x.1) A=A2 at J_
     obtain⟨mz,dU,hn,m1,m2,m3,m4,m5,m6,m7,m8,m9,m10⟩:=FL (place:=place) ps vs (os++[(lk os a).owner]) vl cq (eG.set k d) A2 (fun b=>Sx b∨Sn b) g0 (by have:=ot.cv g10 _ _ xW;simpa [lk,List.foldl_append,Function.comp_def]using this) (by rw[J_];exact rE)
      (by rintro b (ae|ae);exact ah b (fQ b ae);exact g4 b ae) (by rintro b (ae|ae);exact aC b (fQ b ae);exact g5 b ae)
      (by rintro u b (ae|ae);exact fun hu=>a8 u b (fQ b ae) (g8 u b hu);exact g6 u b ae) (by rintro b (ae|ae);exact bK b (fQ b ae);exact g7 b ae) ds s1 he
     refine⟨mz,dU,hn,?_,m2,m3,m4,m5,m6,m7,by rw[m8];simp,by rw[m9];exact EX _ _ _ _ cf (by rw[nD,mW]),?_⟩
     ·have FM:off+n≤A.size:=by
       have:A.size=A.toList.length:=by simp
       rw[this,iQ];simp[h5,J8,J9,mW]
      simp only[Instr.fill,gq,o2,List.size_toArray,rM,nD]
      have l1:¬(n≠n∨A.size<off+n):=by omega
      have SN:(cC v).toArray.zipIdx.foldl (fun cs (x:Value×Nat)=>cs.setIfInBounds (off+x.2) x.1) A=A2:=by
       rw[←xX,←Array.foldl_toList];simp
      simp only[ne_eq,not_true_eq_false,decide_false,Bool.false_or,decide_eq_true_eq,gt_iff_lt]
      rw[if_neg (by simp;omega)]
      rw[show(cC v).toArray.zipIdx.foldl (fun cs x=>match x with|(c,j)=>cs.setIfInBounds (off+j) c) A=A2 from SN]
      exact m1
     ·intro FN xY
      refine m10 FN (EY xY ?_)
      rw[nD,←mW];exact xY z (List.mem_of_getElem? cf)
    ·cases he
   split at he
   ·cases he
   ·rename_i qH
    exact key _ (fun ay e=>qH ay e) ba he
  ·cases he
 |[],_::_,_,_,_,_,_,_,_,au,_,_,_,_,_,_,_,_=>au.elim
 |_::_,[],_,_,_,_,_,_,_,au,_,_,_,_,_,_,_,_=>au.elim
def e0 (C:cw) (s:ar) (T:TypeId) (ps:List (Nat×I)):Option (I×ar):=
 match(C.T T).k,(C.T T).zero with
 | .struct ay,.agg eG=>if(flat (.agg eG)).isSome=true∧(∀f∈ay,(C.T f.1).ok=true)then
   (match eL (fun k=>(ay[k]?).map fun f=>(f.2,(C.T f.1).sz)) s eG [] ps with
   |some (ds,s1)=>some (.agg ds,s1)
   |none=>none)else none
 |_,_=>none
def dG (C:cw) (s:ar) (T:TypeId) (n:Nat) (ps:List (Nat×I)):Option (I×ar):=
 match(C.T T).k with
 | .slice e=>if(C.T e).ok=true∧(C.T e).zero.wd=(C.T e).sz∧(flat (C.T e).zero).isSome=true∧(C.T e).sz≠0∧n*(C.T e).sz≤16777216 then
   (match eL (fun k=>some (k*(C.T e).sz,(C.T e).sz)) s (List.replicate n (C.T e).zero) [] ps with
   |some (ds,s1)=>some (.an (C.T e).sz ds,s1)
   |none=>none)else none
 |_=>none
theorem SO (bu:C.Ok):∀(gs:List Field),(∀g∈gs,(C.T g.type).ok=true)→
  gs.mapM (fun f=>(C.P.info? f.type).map fun i=>(f.offset,i.size))=some (gs.map fun g=>(g.offset,(C.T g.type).sz)):=by
 intro gs
 induction gs with
 |nil=>intro _;simp
 |cons g gs ih=>
  intro b9
  obtain⟨i,d,z,f1,f2,f3,f4,f5,f6,f7⟩:=bu.info (b9 g (by simp))
  have:=ih (fun g h8=>b9 g (by simp[h8]))
  simp[List.mapM_cons,f1,f2,this]
theorem SP (bu:C.Ok) (h:bQ w0 F0 X F S s aA w) {T:TypeId} {ps:List (Nat×I)} {vs:List (Nat×Value)} (au:ot w F s aA ps vs) (he:e0 C s T ps=some (av,s1)):
  Good C w0 F0 X aA w (Instr.build T vs.toArray) av s1:=by
 unfold e0 at he
 split at he
 ·rename_i ay eG hk cf
  split at he
  ·rename_i aq
   obtain⟨qM,s0⟩:=aq
   split at he
   ·rename_i ds s2 jK
    simp only[Option.some.injEq,Prod.mk.injEq]at he
    obtain⟨rfl,rfl⟩:=he
    obtain⟨i,d,z,aS,aZ,aQ,cF,cR,ch,b3⟩:=bu.info (gr hk (by simp))
    rw[hk]at b3
    obtain⟨gs,rfl,Ka⟩:=xD b3
    obtain⟨ft,l5⟩:=Option.isSome_iff_exists.1 qM
    have qN:=cR ft (by rw[cf];exact l5)
    have gv:bc w F eG ft.toArray.toList (fun _=>False):=by
     have:=(ax.flat (w:=w) (F:=F) _).1 (.agg eG) ft (fun _=>False) (Nat.le_refl _) l5
     rw[ax]at this
     simpa using this
    have eW:ot w F s aA (ps.map fun p=>(p.1,lk [] p.2)) vs:=by simpa [lk]using au
    obtain⟨mz,cq,hn,m1,m2,m3,m4,m5,m6,m7,m8,m9,m10⟩:=FL ps vs [] s S eG ft.toArray (fun _=>False) h eW gv (fun _ h=>h.elim) (fun _ h=>h.elim) (fun _ _ h=>h.elim) (fun _ h=>h.elim) ds s2 jK
    have gq:=SO bu gs.toList (fun g b9=>s0 (g.type,g.offset) (by rw[←Ka];exact List.mem_map_of_mem b9))
    have SQ:(fun(k:Nat)=>(ay[k]?).map fun(f:TypeId×Nat)=>(f.2,(C.T f.1).sz))=fun(k:Nat)=>((gs.toList.map fun g=>(g.offset,(C.T g.type).sz)).toArray)[k]? :=by
     funext k
     rw[←Ka]
     simp only[List.getElem?_map,List.getElem?_toArray,Option.map_map]
     rfl
    rw[SQ]at m1
    refine⟨.agg mz,w,F,cq,run_build w T vs.toArray mz ?_,m2,.inr ⟨rfl,⟨_,rfl⟩,hn,by simp only[cC,h6];rw[ax];exact m3,m4,m5,m6,m7⟩⟩
    unfold Program.built
    simp only[aS,ch,cF,gq,qN]
    exact m1
   ·cases he
  ·cases he
 ·cases he
theorem SR (bu:C.Ok) (h:bQ w0 F0 X F S s aA w) {T:TypeId} {n:Nat} {ps:List (Nat×I)} {vs:List (Nat×Value)} (au:ot w F s aA ps vs) (he:dG C s T n ps=some (av,s1)):
  Good C w0 F0 X aA w (Instr.buildSlice T n vs.toArray) av s1:=by
 unfold dG at he
 split at he
 ·rename_i e hk
  split at he
  ·rename_i aq
   obtain⟨o5,pY,qM,dR,aDD⟩:=aq
   split at he
   ·rename_i ds s2 jK
    simp only[Option.some.injEq,Prod.mk.injEq]at he
    obtain⟨rfl,rfl⟩:=he
    obtain⟨FA,d,FB,aS,aZ,aQ,cF,cR,ch,b3⟩:=bu.info (gr hk (by simp))
    rw[hk]at b3
    have:=lG b3;subst this
    obtain⟨i,FC,z,f1,f2,f3,f4,f5,f6,f7⟩:=bu.info o5
    obtain⟨ft,l5⟩:=Option.isSome_iff_exists.1 qM
    have qN:=f5 ft l5
    have gv:∀aR,ax w F (C.T e).zero ft aR:=fun aR=>(ax.flat _).1 _ ft aR (Nat.le_refl _) l5
    have o7:ft.length=(C.T e).sz:=by rw[ax.length _ _ _ (gv (fun _=>False)),pY]
    generalize iQ:((Array.range (n*(C.T e).sz)).map ((if n*(C.T e).sz=0 then #[]else ft.toArray)[·%(if n*(C.T e).sz=0 then(#[]:Array Value)else ft.toArray).size]!))=A
    have FM:A.toList=(List.replicate n ft).flatten:=by
     rw[←iQ]
     by_cases bf:n*(C.T e).sz=0
     ·have:n=0:=by
       rcases Nat.mul_eq_zero.1 bf with h|h
       ·exact h
       ·exact(dR h).elim
      subst this
      simp
     ·simp only[bf,if_false]
      have:=Bc ft n
      rw[o7]at this
      simpa [o7]using this
    have eW:ot w F s aA (ps.map fun p=>(p.1,lk [] p.2)) vs:=by simpa [lk]using au
    obtain⟨mz,cq,hn,m1,m2,m3,m4,m5,m6,m7,m8,m9,m10⟩:=FL ps vs [] s S (List.replicate n (C.T e).zero) A (fun _=>False) h eW (by rw[FM];exact bc.replicate gv n _) (fun _ h=>h.elim) (fun _ h=>h.elim) (fun _ _ h=>h.elim) (fun _ h=>h.elim) ds s2 jK
    have hlen:ds.length=n:=by rw[m8];simp
    have Kb:=m10 (C.T e).sz (by intro d aj;rw[List.eq_of_mem_replicate aj];exact pY)
    have SS:mz.toList.length=n*(C.T e).sz:=by rw[bc.sW m3 Kb,hlen]
    have SU:mz.size=n*(C.T e).sz:=by rw[←SS];simp
    have aDE:n≤16777216:=by
     have:n*1≤n*(C.T e).sz:=Nat.mul_le_mul_left _ (by omega)
     omega
    have kx:=m2.xN (aG:=w.alloc (.cells mz e)) (sz:=(C.T e).sz) (cap:=n) (xs:=ds) (cur:=mz) (e:=e) (fr:=(0,0)) (Sn:=hn) rfl rfl rfl ⟨rfl,fun _=>Nat.le_refl _⟩
     (fun o _ ⟨_,ah⟩=>absurd ah (Nat.not_lt_zero _)) (by omega) (by unfold maxLen;omega) SU Kb (by rw[hlen,List.take_of_length_le (by omega)];exact m3) m4 m5 m6 m7
    rw[hlen]at kx
    refine⟨_,_,F,cq,?_,kx.1,kx.2⟩
    by_cases bf:n*(C.T e).sz=0
    ·simp only[bf,if_true]at iQ
     have vm:(Array.map (fun _=>(default:Value)) (Array.range 0))=A:=by
      have:n=0:=by
       rcases Nat.mul_eq_zero.1 bf with h|h
       ·exact h
       ·exact(dR h).elim
      apply Array.ext'
      rw[FM,this]
      simp
     simp[Instr.buildSlice,run_underlying ch,kh f1,f2,bf,newRow]
     rw[vm,m1]
     simp
    ·simp only[bf,if_false]at iQ
     have l1:¬(16777216<n*(C.T e).sz):=by omega
     simp[Instr.buildSlice,run_underlying ch,kh f1,f2,bf,l1,rC f1 f4,qN,newRow]
     have vm:(Array.map (fun x=>ft[x%ft.length]?.getD default) (Array.range (n*(C.T e).sz)))=A:=by
      rw[←iQ];simp
     rw[vm,m1]
     simp
   ·cases he
  ·cases he
 ·cases he
end
inductive gb where
 |ct (x:aK)
 |iR (x:aK)
 |pick (c a b:aK)
 |hc (T:TypeId)
 |da (T:TypeId) (x:aK)
 |e0 (T:TypeId) (ps:List (Nat×aK))
 |dG (T:TypeId) (n:Nat) (ps:List (Nat×aK))
 |ld (T:TypeId) (x:aK)
 |gu (T:TypeId) (x y:aK)
 |ga (x:aK)
 |ck (op:BinOp) (T:TypeId) (x y:aK)
 |un (op:UnOp) (x:aK)
 |gw (A B:TypeId) (x:aK)
 |iz (f:FuncId) (cs:List aK)
 |eS (T:TypeId) (l c:aK)
 |fG (T:TypeId) (x:aK) (dv ao:Option aK)
 |c1 (T:TypeId) (x:aK) (k:Nat)
 |fc (T:TypeId) (x i:aK)
 |idx (T:TypeId) (x i:aK)
 |ex (x:aK) (k:Nat)
 |mv (T:TypeId) (x:aK) (k:Nat)
 |call (f:aK) (args:List aK)
 |len (T:TypeId) (x:aK)
 |app (T bZ:TypeId) (x y:aK)
 |shr (b0:gb)
 |oq (T bZ:TypeId) (x y:aK)
 |cap (T:TypeId) (x:aK)
 |p1 (hj:Bool) (x y:aK)
 |bad
 |mZ (f:aK) (args:List aK) (u x:Nat)
 |ky (f:aK) (args:List aK) (us:List Nat)
 |j4 (T:TypeId) (x:aK)
 |rN (x:aK)
 |qO (x:aK)
 |xZ
 |oo (T:TypeId) (x i:aK)
 |mY (T:TypeId) (x i v:aK)
def gb.base:gb→gb
 | .shr b0=>b0
 | .oq T bZ x y=>.app T bZ x y
 | .mZ f args _ _=>.call f args
 | .ky f args _=>.call f args
 | .j4 T x=>.da T x
 | .rN x=>.iR x
 | .qO x=>.ct x
 |b0=>b0
def o_:List Operand→Option (List aK)
 |[]=>some []
 |o::os=>match dO o,o_ os with
  |some x,some xs=>some (x::xs)
  |_,_=>none
def vn:List (Nat×Operand)→Option (List (Nat×aK))
 |[]=>some []
 |(k,o)::os=>match dO o,vn os with
  |some x,some xs=>some ((k,x)::xs)
  |_,_=>none
def x0:Option Operand→Option (Option aK)
 |none=>some none
 |some o=>(dO o).map some
def cK:Op→Option gb
 | .move x=>(dO x).map .ct
 | .assign x=>(dO x).map .iR
 | .pick c a b=>match dO c,dO a,dO b with
   |some c,some a,some b=>some (.pick c a b)
   |_,_,_=>none
 | .alloc T=>some (.hc T)
 | .box T x=>(dO x).map (.da T)
 | .build T ps=>(vn ps.toList).map (.e0 T)
 | .buildSlice T n ps=>(vn ps.toList).map (.dG T n)
 | .load T x=>(dO x).map (.ld T)
 | .store T x y=>match dO x,dO y with
   |some x,some y=>some (.gu T x y)
   |_,_=>none
 | .nilCheck x=>(dO x).map .ga
 | .binOp op T x y _=>match dO x,dO y with
   |some x,some y=>some (.ck op T x y)
   |_,_=>none
 | .unOp op _ x=>(dO x).map (.un op)
 | .convert A B x=>(dO x).map (.gw A B)
 | .makeFunc (.func f) first cs=>if first.isEmpty then(o_ cs.toList).map (.iz f)else none
 | .makeSlice T l c=>match dO l,dO c with
   |some l,some c=>some (.eS T l c)
   |_,_=>none
 | .slice T x dv ao none=>match dO x,x0 dv,x0 ao with
   |some x,some dv,some ao=>some (.fG T x dv ao)
   |_,_,_=>none
 | .fieldAddr T x k=>(dO x).map fun x=>.c1 T x k
 | .indexAddr T x i=>match dO x,dO i with
   |some x,some i=>some (.fc T x i)
   |_,_=>none
 | .index T x i=>match dO x,dO i with
   |some x,some i=>some (.idx T x i)
   |_,_=>none
 | .extract x k=>(dO x).map fun x=>.ex x k
 | .field T x k=>(dO x).map fun x=>.mv T x k
 | .makeMap _ none=>some .xZ
 | .lookup T x i false=>match dO x,dO i with
   |some x,some i=>some (.oo T x i)
   |_,_=>none
 | .mapUpdate T x i v=>match dO x,dO i,dO v with
   |some x,some i,some v=>some (.mY T x i v)
   |_,_,_=>none
 | .call c=>match c.callee with
   | .value f=>match dO f,o_ c.args.toList with
     |some f,some xs=>some (.call f xs)
     |_,_=>none
   | .builtin .len=>match c.args.toList,c.argTypes.toList with
     |[x],[T]=>(dO x).map (.len T)
     |_,_=>none
   | .builtin .cap=>match c.args.toList,c.argTypes.toList with
     |[x],[T]=>(dO x).map (.cap T)
     |_,_=>none
   | .builtin .min=>match c.args.toList with
     |[x,y]=>match dO x,dO y with
      |some x,some y=>some (.p1 false x y)
      |_,_=>none
     |_=>none
   | .builtin .max=>match c.args.toList with
     |[x,y]=>match dO x,dO y with
      |some x,some y=>some (.p1 true x y)
      |_,_=>none
     |_=>none
   | .builtin .append=>match c.args.toList,c.argTypes.toList with
     |[x,y],[T,bZ]=>match dO x,dO y with
      |some x,some y=>some (.app T bZ x y)
      |_,_=>none
     |_,_=>none
   |_=>none
 |_=>none
def p1 (hj:Bool):I→I→Option I
 | .str a,.str b=>some (.str (AN hj a b))
 | .int k a,.int cW b=>if k=cW then some (.int k (EU hj a b))else none
 |_,_=>none
def p2 (s:ar):I→Option (I×ar)
 | .h y q=>c7 s (.h y q)
 |d=>some (d,s)
def bR (C:cw) (s:ar):gb→Option (I×ar)
 | .ct x=>some (aN s x,s)
 | .iR x=>match aN s x with
   | .h y q=>c7 s (.h y q)
   |d=>some (d,s)
 | .pick c a b=>match aN s c with
   | .bool fZ=>some (if fZ then aN s a else aN s b,s)
   |_=>none
 | .hc T=>(hc C T).map fun d=>(d,s)
 | .da _ x=>da s (aN s x)
 | .e0 T ps=>e0 C s T (ps.map fun p=>(p.1,aN s p.2))
 | .dG T n ps=>dG C s T n (ps.map fun p=>(p.1,aN s p.2))
 | .ld T x=>(ld C s T (aN s x)).map fun d=>(d,s)
 | .gu T x y=>(gu C s T (aN s x) (aN s y)).map fun s1=>(.hole,s1)
 | .ga x=>(ga s (aN s x)).map fun d=>(d,s)
 | .ck op T x y=>(ck C s op T (aN s x) (aN s y)).map fun d=>(d,s)
 | .un op x=>(un op (aN s x)).map fun d=>(d,s)
 | .gw A B x=>(gw C s A B (aN s x)).map fun d=>(d,s)
 | .iz f cs=>some (.fn f (cs.map (aN s)),s)
 | .eS T l c=>(eS C T (aN s l) (aN s c)).map fun d=>(d,s)
 | .fG T x dv ao=>fG C s T (aN s x) (dv.map (aN s)) (ao.map (aN s))
 | .c1 T x k=>(c1 C s T (aN s x) k).map fun d=>(d,s)
 | .fc T x i=>(fc C s T (aN s x) (aN s i)).map fun d=>(d,s)
 | .idx T x i=>(idx C T (aN s x) (aN s i)).map fun d=>(d,s)
 | .ex x k=>(ex s (aN s x) k).map fun d=>(d,s)
 | .mv T x k=>(mv C s T (aN s x) k).bind (p2 s)
 | .call _ _=>none
 | .len T x=>(mw C s T (aN s x)).map fun d=>(d,s)
 | .app T bZ x y=>my C s T bZ (aN s x) (aN s y)
 | .shr _=>none
 | .mZ _ _ _ _=>none
 | .ky _ _ _=>none
 | .j4 _ x=>j4 s (aN s x)
 | .rN x=>some (aN s x,s)
 | .qO x=>p2 s (aN s x)
 | .xZ=>some (.en (.mp []),s)
 | .oo T x i=>(oo C s T (aN s x) (aN s i)).map fun d=>(d,s)
 | .mY T x i v=>(mY C s T (aN s x) (aN s i) (aN s v)).map fun s1=>(.hole,s1)
 | .oq T bZ x y=>(oq C T bZ (aN s x) (aN s y)).map fun d=>(d,s)
 | .cap T x=>match(C.T T).k,aN s x with
   | .slice _,.bk=>some (.int .i64 0,s)
   |_,_=>none
 | .p1 hj x y=>(p1 hj (aN s x) (aN s y)).map fun d=>(d,s)
 | .bad=>none
section
variable {C:cw} {w0 w:World} {F0 X F:Nat→Prop} {S:Nat→Nat→Prop} {s s1:ar} {a:Act} {av:I}
theorem s3:∀{os:List Operand} {xs:List aK},o_ os=some xs→os.map dO=xs.map some
 |[],xs,h=>by simp[o_]at h;subst h;rfl
 |o::os,xs,h=>by
  simp only[o_]at h
  split at h
  ·rename_i x Kc h1 ah
   simp at h;subst h
   simp[h1,s3 ah]
  ·cases h
theorem FO {aA:Nat→Value} (h:bQ w0 F0 X F S s aA w) (eE:∀t,aA t=a.tmps.getD t undef):∀{ps:List (Nat×Operand)} {xs:List (Nat×aK)},vn ps=some xs→
  ot w F s aA (xs.map fun p=>(p.1,aN s p.2)) (ps.map fun p=>(p.1,a.eval p.2))
 |[],xs,h=>by simp[vn]at h;subst h;trivial
 |(k,o)::ps,xs,bL=>by
  simp only[vn]at bL
  split at bL
  ·rename_i x Kc h1 ah
   simp at bL;subst bL
   obtain⟨g1,g2⟩:=fA h eE h1
   exact⟨rfl,g1,g2,FO h eE ah⟩
  ·cases bL
def Next (C:cw) (w0:World) (F0 X:Nat→Prop) (aA:Nat→Value) (w:World) (m:Sem Go.Next) (av:I) (s1:ar):Prop:=
 ∃r aG v b2 aR,m.run C.P w= .ok r aG∧(r= .value v∨r= .skip∧v=undef)∧bQ w0 F0 X b2 aR s1 aA aG∧lF w0 X b2 aR s1 aA aG av v
theorem Good.next {aA:Nat→Value} {m:Sem Value} (h:Good C w0 F0 X aA w m av s1):Next C w0 F0 X aA w (do pure (.value (←m))) av s1:=by
 obtain⟨v,aG,b2,aR,h1,ah,aC⟩:=h
 exact⟨.value v,aG,v,b2,aR,by simp[h1],.inl rfl,ah,aC⟩
theorem Kd {aA:Nat→Value} (h:bQ w0 F0 X F S s aA w) {hj:Bool} {x y:I} {ij ja:Value} {m:Sem Go.Next} (h1:aL w F s aA x ij (fun _=>False)) (ah:aL w F s aA y ja (fun _=>False))
  (he:(p1 hj x y).map (fun d=>(d,s))=some (av,s1)) (hm:m=(do pure (.value (←if hj then Builtin.max2 ij ja else Builtin.min2 ij ja)))):Next C w0 F0 X aA w m av s1:=by
 simp only[Option.map_eq_some_iff,Prod.mk.injEq]at he
 obtain⟨d,aj,rfl,rfl⟩:=he
 unfold p1 at aj
 split at aj
 ·rename_i a b
  simp only[Option.some.injEq]at aj;subst aj
  have aS:=oc h1
  have aZ:=oc ah
  subst aS aZ
  subst hm
  refine⟨.value (.string ⟨⟨AN hj a b⟩⟩),w,_,F,S,?_,.inl rfl,h,.inl ⟨rfl,o3 _⟩⟩
  cases hj
  ·simp only[Builtin.min2,Op.stringOp,xI,AN,Bool.false_eq_true,if_false]
   cases ae:(Op.bytesLess a b||a==b)<;>simp[asBool]
  ·simp only[Builtin.max2,Op.stringOp,xI,AN,if_true]
   cases ae:Op.bytesLess a b<;>simp[asBool]
 ·rename_i k a cW b
  split at aj
  ·rename_i hk
   subst hk
   simp only[Option.some.injEq]at aj;subst aj
   have aS:=ob h1
   have aZ:=ob ah
   subst aS aZ
   subst hm
   refine⟨.value (.int k (EU hj a b)),w,_,F,S,?_,.inl rfl,h,.inl ⟨rfl,of_int _ _⟩⟩
   cases hj<;>simp[Builtin.min2,Builtin.max2,EU]
  ·cases aj
 ·cases aj
theorem Ke (bu:C.Ok) {aA:Nat→Value} (h:bQ w0 F0 X F S s aA w) (eE:∀t,aA t=a.tmps.getD t undef) {o:Oper} {b0:gb} (ag:cK o.op=some b0) (he:bR C s b0=some (av,s1)):
  Next C w0 F0 X aA w (execOp a.eval o) av s1:=by
 obtain⟨dst,op,ty,pos,after,guard⟩:=o
 simp only at ag
 cases op with
 |move x=>
  simp only[cK,Option.map_eq_some_iff]at ag
  obtain⟨cz,aw,rfl⟩:=ag
  obtain⟨g1,g2⟩:=fA h eE aw
  simp only[bR,Option.some.injEq,Prod.mk.injEq]at he
  obtain⟨rfl,rfl⟩:=he
  exact⟨_,w,_,F,S,rfl,.inl rfl,h,.inl ⟨g1,g2⟩⟩
 |assign x=>
  simp only[cK,Option.map_eq_some_iff]at ag
  obtain⟨cz,aw,rfl⟩:=ag
  obtain⟨g1,g2⟩:=fA h eE aw
  simp only[bR]at he
  split at he
  ·rename_i y q bt
   rw[bt]at g1 g2
   obtain⟨cq,k0,b8,cy,Sn,e_,ed,fF,dr,jb,_⟩:=oY h g1 g2 he
   exact⟨_,w,_,F,cq,rfl,.inl rfl,k0,.inr ⟨b8,cy,Sn,e_,ed,fF,dr,jb⟩⟩
  ·simp only[Option.some.injEq,Prod.mk.injEq]at he
   obtain⟨rfl,rfl⟩:=he
   exact⟨_,w,_,F,S,rfl,.inl rfl,h,.inl ⟨g1,g2⟩⟩
 |pick c x y=>
  simp only[cK]at ag
  split at ag
  ·rename_i x1 cz kU aq aw bt
   simp only[Option.some.injEq]at ag;subst ag
   simp only[bR]at he
   split at he
   ·rename_i b ae
    simp only[Option.some.injEq,Prod.mk.injEq]at he
    obtain⟨rfl,rfl⟩:=he
    have sZ:=(fA h eE aq).2
    rw[ae]at sZ
    have sZ:=rF sZ
    obtain⟨af,ak⟩:=fA h eE aw
    obtain⟨eT,gV⟩:=fA h eE bt
    refine⟨.value (if b then a.eval x else a.eval y),w,_,F,S,?_,.inl rfl,h,.inl ?_⟩
    ·simp[execOp,sZ,asBool]
    ·cases b
     ·exact⟨eT,gV⟩
     ·exact⟨af,ak⟩
   ·cases he
  ·cases ag
 |alloc T=>
  simp only[cK,Option.some.injEq]at ag;subst ag
  simp only[bR,Option.map_eq_some_iff,Prod.mk.injEq]at he
  obtain⟨d,aj,rfl,rfl⟩:=he
  exact(RM bu h aj).next
 |box T x=>
  simp only[cK,Option.map_eq_some_iff]at ag
  obtain⟨cz,aw,rfl⟩:=ag
  obtain⟨g1,g2⟩:=fA h eE aw
  exact(RQ h g1 g2 he).next
 |build T ps=>
  simp only[cK,Option.map_eq_some_iff]at ag
  obtain⟨SV,au,rfl⟩:=ag
  obtain⟨ps⟩:=ps
  have:=(SP bu h (FO h eE au) he).next
  simpa [execOp]using this
 |buildSlice T n ps=>
  simp only[cK,Option.map_eq_some_iff]at ag
  obtain⟨SV,au,rfl⟩:=ag
  obtain⟨ps⟩:=ps
  have:=(SR bu h (FO h eE au) he).next
  simpa [execOp]using this
 |load T x=>
  simp only[cK,Option.map_eq_some_iff]at ag
  obtain⟨cz,aw,rfl⟩:=ag
  obtain⟨g1,g2⟩:=fA h eE aw
  simp only[bR,Option.map_eq_some_iff,Prod.mk.injEq]at he
  obtain⟨d,aj,rfl,rfl⟩:=he
  exact(RH bu h g2 aj).next
 |store T x y=>
  simp only[cK]at ag
  split at ag
  ·rename_i cz kU aw bt
   simp only[Option.some.injEq]at ag;subst ag
   simp only[bR,Option.map_eq_some_iff,Prod.mk.injEq]at he
   obtain⟨s2,aj,rfl,rfl⟩:=he
   obtain⟨aG,aR,h1,ah⟩:=RK bu h (fA h eE aw).2 (fA h eE bt).1 (fA h eE bt).2 aj
   exact⟨.skip,aG,undef,F,aR,by simp[execOp,h1],.inr ⟨rfl,rfl⟩,ah,.inl ⟨rfl,by rw[aL];trivial⟩⟩
  ·cases ag
 |nilCheck x=>
  simp only[cK,Option.map_eq_some_iff]at ag
  obtain⟨cz,aw,rfl⟩:=ag
  obtain⟨g1,g2⟩:=fA h eE aw
  simp only[bR,Option.map_eq_some_iff,Prod.mk.injEq]at he
  obtain⟨d,aj,rfl,rfl⟩:=he
  obtain⟨rfl,au,aM⟩:=R5 h g2 aj
  refine⟨.value (a.eval x),w,_,F,S,?_,.inl rfl,h,.inl ⟨au,g2⟩⟩
  rcases aM with⟨b,ae⟩|⟨f,c,ae⟩<;>simp[execOp,ae]
 |binOp op T x y aDF=>
  simp only[cK]at ag
  split at ag
  ·rename_i cz kU aw bt
   simp only[Option.some.injEq]at ag;subst ag
   simp only[bR,Option.map_eq_some_iff,Prod.mk.injEq]at he
   obtain⟨d,aj,rfl,rfl⟩:=he
   exact(R2 bu h x y (fA h eE aw).2 (fA h eE bt).2 aj).next
  ·cases ag
 |unOp op T x=>
  simp only[cK,Option.map_eq_some_iff]at ag
  obtain⟨cz,aw,rfl⟩:=ag
  simp only[bR,Option.map_eq_some_iff,Prod.mk.injEq]at he
  obtain⟨d,aj,rfl,rfl⟩:=he
  exact(R3 h (fA h eE aw).2 aj).next
 |convert A B x=>
  simp only[cK,Option.map_eq_some_iff]at ag
  obtain⟨cz,aw,rfl⟩:=ag
  simp only[bR,Option.map_eq_some_iff,Prod.mk.injEq]at he
  obtain⟨d,aj,rfl,rfl⟩:=he
  exact(Sd bu h (fA h eE aw).2 aj).next
 |makeFunc fn first cs=>
  cases fn with
  |func f=>
   simp only[cK]at ag
   split at ag
   ·rename_i FP
    simp only[Option.map_eq_some_iff]at ag
    obtain⟨ou,hb,rfl⟩:=ag
    simp only[bR,Option.some.injEq,Prod.mk.injEq]at he
    obtain⟨rfl,rfl⟩:=he
    have FQ:first= #[]:=by simpa using FP
    subst FQ
    refine⟨_,w,_,F,S,rfl,.inl rfl,h,.inl ⟨rfl,?_⟩⟩
    rw[aL]
    refine⟨cs.map a.eval,by simp,?_⟩
    simpa using Bg h eE _ _ (s3 hb)
   ·cases ag
  |_=>simp[cK]at ag
 |makeSlice T l c=>
  simp only[cK]at ag
  split at ag
  ·rename_i cz kU aw bt
   simp only[Option.some.injEq]at ag;subst ag
   simp only[bR,Option.map_eq_some_iff,Prod.mk.injEq]at he
   obtain⟨d,aj,rfl,rfl⟩:=he
   exact(SG bu h (fA h eE aw).2 (fA h eE bt).2 aj).next
  ·cases ag
 |slice T x dv ao hj=>
  cases hj with
  |some m=>simp[cK]at ag
  |none=>
   simp only[cK]at ag
   split at ag
   ·rename_i cz aDG vo aw og oh
    simp only[Option.some.injEq]at ag;subst ag
    obtain⟨g1,g2⟩:=fA h eE aw
    have opt:∀{o:Option Operand} {nE:Option aK},x0 o=some nE→qK w F s aA (nE.map (aN s)) (o.map a.eval):=by
     intro o nE cr
     cases o with
     |none=>simp[x0]at cr;subst cr;trivial
     |some o=>
      simp only[x0,Option.map_eq_some_iff]at cr
      obtain⟨x,aw,rfl⟩:=cr
      exact(fA h eE aw).2
    exact(Sg bu h g1 g2 (opt og) (opt oh) he).next
   ·cases ag
 |fieldAddr T x k=>
  simp only[cK,Option.map_eq_some_iff]at ag
  obtain⟨cz,aw,rfl⟩:=ag
  obtain⟨g1,g2⟩:=fA h eE aw
  simp only[bR,Option.map_eq_some_iff,Prod.mk.injEq]at he
  obtain⟨d,aj,rfl,rfl⟩:=he
  exact(RB bu h g1 g2 aj).next
 |indexAddr T x i=>
  simp only[cK]at ag
  split at ag
  ·rename_i cz kU aw bt
   simp only[Option.some.injEq]at ag;subst ag
   simp only[bR,Option.map_eq_some_iff,Prod.mk.injEq]at he
   obtain⟨d,aj,rfl,rfl⟩:=he
   exact(RC bu h (fA h eE aw).2 (fA h eE bt).2 aj).next
  ·cases ag
 |index T x i=>
  simp only[cK]at ag
  split at ag
  ·rename_i cz kU aw bt
   simp only[Option.some.injEq]at ag;subst ag
   simp only[bR,Option.map_eq_some_iff,Prod.mk.injEq]at he
   obtain⟨d,aj,rfl,rfl⟩:=he
   exact(Sa bu h (fA h eE aw).2 (fA h eE bt).2 aj).next
  ·cases ag
 |makeMap t r=>
  cases r with
  |none=>
   simp only[cK,Option.some.injEq]at ag;subst ag
   simp only[bR,Option.some.injEq,Prod.mk.injEq]at he
   obtain⟨rfl,rfl⟩:=he
   exact(SF h t).next
  |some r=>simp[cK]at ag
 |lookup T x i c=>
  cases c with
  |true=>simp[cK]at ag
  |false=>
   simp only[cK]at ag
   split at ag
   ·rename_i cz qF aw ao
    simp only[Option.some.injEq]at ag;subst ag
    simp only[bR,Option.map_eq_some_iff,Prod.mk.injEq]at he
    obtain⟨d,aj,rfl,rfl⟩:=he
    exact(SC bu h (fA h eE aw).2 (fA h eE ao).2 aj).next
   ·cases ag
 |mapUpdate T x i v=>
  simp only[cK]at ag
  split at ag
  ·rename_i cz qF gG aw ao aM
   simp only[Option.some.injEq]at ag;subst ag
   simp only[bR,Option.map_eq_some_iff,Prod.mk.injEq]at he
   obtain⟨s2,aj,rfl,rfl⟩:=he
   obtain⟨aG,aR,h1,ah⟩:=SD bu h (fA h eE aw).2 (fA h eE ao).2 (fA h eE aM).2 aj
   exact⟨.skip,aG,undef,F,aR,by simp[execOp,h1],.inr ⟨rfl,rfl⟩,ah,.inl ⟨rfl,by rw[aL];trivial⟩⟩
  ·cases ag
 |extract x k=>
  simp only[cK,Option.map_eq_some_iff]at ag
  obtain⟨cz,aw,rfl⟩:=ag
  simp only[bR,Option.map_eq_some_iff,Prod.mk.injEq]at he
  obtain⟨d,aj,rfl,rfl⟩:=he
  exact(R8 h (fA h eE aw).2 aj).next
 |field T x k=>
  simp only[cK,Option.map_eq_some_iff]at ag
  obtain⟨cz,aw,rfl⟩:=ag
  simp only[bR,Option.bind_eq_some_iff]at he
  obtain⟨d,aj,he⟩:=he
  obtain⟨v,aG,b2,aR,aX,mo,oW⟩:=R9 bu h (fA h eE aw).2 aj
  unfold p2 at he
  split at he
  ·rename_i y q
   have SX:aL aG b2 s aA (.h y q) v (fun _=>False):=by
    rcases oW with⟨_,g2⟩|⟨g1,_⟩
    ·exact g2
    ·cases g1
   obtain⟨cq,k0,b8,cy,Sn,e_,ed,fF,dr,jb,_⟩:=oY mo rfl SX he
   exact⟨.value v,aG,v,b2,cq,by simp[execOp,aX],.inl rfl,k0,.inr ⟨b8,cy,Sn,e_,ed,fF,dr,jb⟩⟩
  ·simp only[Option.some.injEq,Prod.mk.injEq]at he
   obtain⟨rfl,rfl⟩:=he
   exact⟨.value v,aG,v,b2,aR,by simp[execOp,aX],.inl rfl,mo,oW⟩
 |call c=>
  obtain⟨callee,args,argTypes⟩:=c
  simp only[cK]at ag
  split at ag
  ·split at ag
   ·simp only[Option.some.injEq]at ag;subst ag
    simp[bR]at he
   ·cases ag
  ·split at ag
   ·rename_i x T na s4
    simp only[Option.map_eq_some_iff]at ag
    obtain⟨cz,aw,rfl⟩:=ag
    simp only[bR,Option.map_eq_some_iff,Prod.mk.injEq]at he
    obtain⟨d,aj,rfl,rfl⟩:=he
    have:=(Sb (ty:=ty) bu h (fA h eE aw).2 aj).next
    have aS:args= #[x]:=by apply Array.ext';exact na
    have aZ:argTypes= #[T]:=by apply Array.ext';exact s4
    subst aS aZ
    simpa [execOp,resolve,invoke,builtin]using this
   ·cases ag
  ·split at ag
   ·rename_i x T na s4
    simp only[Option.map_eq_some_iff]at ag
    obtain⟨cz,aw,rfl⟩:=ag
    simp only[bR]at he
    split at he
    ·rename_i e hk SY
     simp only[Option.some.injEq,Prod.mk.injEq]at he
     obtain⟨rfl,rfl⟩:=he
     have aM:=(fA h eE aw).2
     rw[SY]at aM
     have:=qJ aM
     obtain⟨i,d,z,aS,aZ,aQ,cF,cR,ch,b3⟩:=bu.info (gr hk (by simp))
     rw[hk]at b3
     have aj:=lG b3;subst aj
     have FR:args= #[x]:=by apply Array.ext';exact na
     have SZ:argTypes= #[T]:=by apply Array.ext';exact s4
     subst FR SZ
     have aX:(Builtin.cap_ #[T] ty #[a.eval x]).run C.P w= .ok (.int .i64 0) w:=by
      rw[this];simp[Builtin.cap_,run_underlying ch,goInt]
     have:=(Good.same (av:=.int .i64 0) h aX rfl (of_int _ _)).next
     simpa [execOp,resolve,invoke,builtin]using this
    ·cases he
   ·cases ag
  ·split at ag
   ·rename_i x y na
    split at ag
    ·rename_i cz kU aw bt
     simp only[Option.some.injEq]at ag;subst ag
     have aS:args= #[x,y]:=by apply Array.ext';exact na
     subst aS
     exact Kd h (fA h eE aw).2 (fA h eE bt).2 he (by simp[execOp,resolve,invoke,builtin,Builtin.min_])
    ·cases ag
   ·cases ag
  ·split at ag
   ·rename_i x y na
    split at ag
    ·rename_i cz kU aw bt
     simp only[Option.some.injEq]at ag;subst ag
     have aS:args= #[x,y]:=by apply Array.ext';exact na
     subst aS
     exact Kd h (fA h eE aw).2 (fA h eE bt).2 he (by simp[execOp,resolve,invoke,builtin,Builtin.max_])
    ·cases ag
   ·cases ag
  ·split at ag
   ·rename_i x y T bZ na s4
    split at ag
    ·rename_i cz kU aw bt
     simp only[Option.some.injEq]at ag;subst ag
     have:=(Ss (ty:=ty) bu h (fA h eE aw).2 (fA h eE bt).2 he).next
     have aS:args= #[x,y]:=by apply Array.ext';exact na
     have aZ:argTypes= #[T,bZ]:=by apply Array.ext';exact s4
     subst aS aZ
     simpa [execOp,resolve,invoke,builtin]using this
    ·cases ag
   ·cases ag
  ·cases ag
 |_=>simp[cK]at ag
end
mutual
def I.ag:I→List Nat
 | .h x _=>[x]
 | .au x _=>[x]
 | .ae x _=>[x]
 | .fn _ cap=>I.er cap
 |_=>[]
def I.er:List I→List Nat
 |[]=>[]
 |d::ds=>d.ag++I.er ds
end
inductive p3 where
 |no
 |cv
 |c5
structure hr where
 k:p3
 x:Nat
 d:I
def p3.app (k:p3) (x:Nat) (a:I):I:=match k with
 | .no=>a
 | .cv=>cZ.cv x a
 | .c5=>cZ.c5 x a
def hr.at (m:hr) (u:Nat) (a:I):I:=if u=m.x then m.d else m.k.app m.x a
def ki:List hr→Nat→I→I
 |[],_,a=>a
 |m::ms,u,a=>ki ms u (m.at u a)
def dP (ms:List hr) (s:ar):ar:=fun u=>ki ms u (s u)
theorem Kf:∀(ms ln:List hr) (u:Nat) (a:I),ki (ms++ln) u a=ki ln u (ki ms u a)
 |[],_,_,_=>rfl
 |m::ms,ln,u,a=>by simp only[List.cons_append,ki];exact Kf ms ln u _
theorem l6 (ms ln:List hr) (s:ar):dP (ms++ln) s=dP ln (dP ms s):=by
 funext u;simp[dP,Kf]
theorem S0 {ms:List hr} {s az:ar} {u:Nat} (h:az u=s u):dP ms az u=dP ms s u:=by simp[dP,h]
theorem s5 (s:ar) (x:Nat) (d:I):du (iu x s) x d=dP [⟨.cv,x,d⟩] s:=by
 funext u;simp only[dP,ki,hr.at,du,iu,p3.app]
theorem Kg (s:ar) (x:Nat) (d:I):du (lZ x s) x d=dP [⟨.c5,x,d⟩] s:=by
 funext u;simp only[dP,ki,hr.at,du,lZ,p3.app]
theorem FT (s:ar) (x:Nat) (d:I):du s x d=dP [⟨.no,x,d⟩] s:=by
 funext u;simp only[dP,ki,hr.at,du,p3.app]
mutual
theorem x2 {x:Nat}:∀a:I,x∉a.ag→cv x a=a
 | .h y q,h=>by
   simp only[I.ag,List.mem_singleton]at h
   simp only[cv];rw[if_neg (fun e=>h e.symm)]
 | .au y q,h=>by
   simp only[I.ag,List.mem_singleton]at h
   simp only[cv];rw[if_neg (fun e=>h e.symm)]
 | .ae y q,h=>rfl
 | .fn f cap,h=>by simp only[cv];rw[Kh cap (by simpa [I.ag]using h)]
 | .hole,_=>rfl
 | .bool _,_=>rfl
 | .fb,_=>rfl
 | .int _ _,_=>rfl
 | .str _,_=>rfl
 | .dI,_=>rfl
 | .bk,_=>rfl
 | .slice _,_=>rfl
 | .an _ _,_=>rfl
 | .ref _,_=>rfl
 | .bd _,_=>rfl
 | .agg _,_=>rfl
 | .tuple _,_=>rfl
 | .en _,_=>rfl
theorem Kh {x:Nat}:∀ds:List I,x∉I.er ds→i_ x ds=ds
 |[],_=>rfl
 |d::ds,h=>by
  simp only[I.er,List.mem_append,not_or]at h
  simp only[i_];rw[x2 d h.1,Kh ds h.2]
end
mutual
theorem FU {x:Nat}:∀a:I,x∉a.ag→c5 x a=a
 | .h y q,h=>by
   simp only[I.ag,List.mem_singleton]at h
   simp only[c5];rw[if_neg (fun e=>h e.symm)]
 | .au y q,h=>by
   simp only[I.ag,List.mem_singleton]at h
   simp only[c5];rw[if_neg (fun e=>h e.symm)]
 | .ae y q,h=>by
   simp only[I.ag,List.mem_singleton]at h
   simp only[c5];rw[if_neg (fun e=>h e.symm)]
 | .fn f cap,h=>by simp only[c5];rw[Ki cap (by simpa [I.ag]using h)]
 | .hole,_=>rfl
 | .bool _,_=>rfl
 | .fb,_=>rfl
 | .int _ _,_=>rfl
 | .str _,_=>rfl
 | .dI,_=>rfl
 | .bk,_=>rfl
 | .slice _,_=>rfl
 | .an _ _,_=>rfl
 | .ref _,_=>rfl
 | .bd _,_=>rfl
 | .agg _,_=>rfl
 | .tuple _,_=>rfl
 | .en _,_=>rfl
theorem Ki {x:Nat}:∀ds:List I,x∉I.er ds→jG x ds=ds
 |[],_=>rfl
 |d::ds,h=>by
  simp only[I.er,List.mem_append,not_or]at h
  simp only[jG];rw[FU d h.1,Ki ds h.2]
end
theorem x3 {k:p3} {x:Nat} {a:I} (h:k= .no∨x∉a.ag):k.app x a=a:=by
 cases k with
 |no=>rfl
 |cv=>exact x2 a (by simpa using h)
 |c5=>exact FU a (by simpa using h)
mutual
theorem Kj (x y:Nat):∀a:I,cv x (cv y a)=cv y (cv x a)
 | .h z q=>by simp only[cv];by_cases h1:z=x<;>by_cases ah:z=y<;>by_cases aC:q=[]<;>simp[h1,ah,aC,cv]<;>(subst_vars;simp_all [cv])
 | .au z q=>by simp only[cv];by_cases h1:z=x<;>by_cases ah:z=y<;>simp[h1,ah,cv]<;>(subst_vars;simp_all [cv])
 | .ae z q=>rfl
 | .fn f cap=>by simp only[cv];rw[Kk x y cap]
 | .hole=>rfl
 | .bool _=>rfl
 | .fb=>rfl
 | .int _ _=>rfl
 | .str _=>rfl
 | .dI=>rfl
 | .bk=>rfl
 | .slice _=>rfl
 | .an _ _=>rfl
 | .ref _=>rfl
 | .bd _=>rfl
 | .agg _=>rfl
 | .tuple _=>rfl
 | .en _=>rfl
theorem Kk (x y:Nat):∀ds:List I,i_ x (i_ y ds)=i_ y (i_ x ds)
 |[]=>rfl
 |d::ds=>by simp only[i_];rw[Kj x y d,Kk x y ds]
end
mutual
theorem Kl (x y:Nat):∀a:I,c5 x (c5 y a)=c5 y (c5 x a)
 | .h z q=>by simp only[c5];by_cases h1:z=x<;>by_cases ah:z=y<;>simp[h1,ah,c5]<;>(subst_vars;simp_all [c5])
 | .au z q=>by simp only[c5];by_cases h1:z=x<;>by_cases ah:z=y<;>simp[h1,ah,c5]<;>(subst_vars;simp_all [c5])
 | .ae z q=>by simp only[c5];by_cases h1:z=x<;>by_cases ah:z=y<;>simp[h1,ah,c5]<;>(subst_vars;simp_all [c5])
 | .fn f cap=>by simp only[c5];rw[Km x y cap]
 | .hole=>rfl
 | .bool _=>rfl
 | .fb=>rfl
 | .int _ _=>rfl
 | .str _=>rfl
 | .dI=>rfl
 | .bk=>rfl
 | .slice _=>rfl
 | .an _ _=>rfl
 | .ref _=>rfl
 | .bd _=>rfl
 | .agg _=>rfl
 | .tuple _=>rfl
 | .en _=>rfl
theorem Km (x y:Nat):∀ds:List I,jG x (jG y ds)=jG y (jG x ds)
 |[]=>rfl
 |d::ds=>by simp only[jG];rw[Kl x y d,Km x y ds]
end
mutual
theorem FV (x y:Nat):∀a:I,cv x (c5 y a)=c5 y (cv x a)
 | .h z q=>by simp only[c5,cv];by_cases h1:z=x<;>by_cases ah:z=y<;>by_cases aC:q=[]<;>simp[h1,ah,aC,c5,cv]<;>(subst_vars;simp_all [c5,cv])
 | .au z q=>by simp only[c5,cv];by_cases h1:z=x<;>by_cases ah:z=y<;>simp[h1,ah,c5,cv]<;>(subst_vars;simp_all [c5,cv])
 | .ae z q=>by simp only[c5,cv];by_cases ah:z=y<;>simp[ah,cv]
 | .fn f cap=>by simp only[c5,cv];rw[Kn x y cap]
 | .hole=>rfl
 | .bool _=>rfl
 | .fb=>rfl
 | .int _ _=>rfl
 | .str _=>rfl
 | .dI=>rfl
 | .bk=>rfl
 | .slice _=>rfl
 | .an _ _=>rfl
 | .ref _=>rfl
 | .bd _=>rfl
 | .agg _=>rfl
 | .tuple _=>rfl
 | .en _=>rfl
theorem Kn (x y:Nat):∀ds:List I,i_ x (jG y ds)=jG y (i_ x ds)
 |[]=>rfl
 |d::ds=>by simp only[jG,i_];rw[FV x y d,Kn x y ds]
end
theorem S1 (k l:p3) (x y:Nat) (a:I):k.app x (l.app y a)=l.app y (k.app x a):=by
 cases k<;>cases l<;>simp only[p3.app]<;>first|rfl|exact Kj .. |exact Kl .. |exact FV .. |exact(FV ..).symm
def aK.use (s:ar):aK→List Nat
 | .t n=>n::(s n).ag
 | .c av=>av.ag
 | .f _=>[]
def aK.ov (s:ar):List aK→List Nat
 |[]=>[]
 |x::xs=>x.use s++aK.ov s xs
def FW (s:ar):Option aK→List Nat
 |none=>[]
 |some x=>x.use s
def use (s:ar):gb→List Nat
 | .ct x=>x.use s
 | .iR x=>x.use s
 | .pick c a b=>c.use s++(a.use s++b.use s)
 | .hc _=>[]
 | .da _ x=>x.use s
 | .e0 _ ps=>aK.ov s (ps.map (·.2))
 | .dG _ _ ps=>aK.ov s (ps.map (·.2))
 | .ld _ x=>x.use s
 | .gu _ x y=>x.use s++y.use s
 | .ga x=>x.use s
 | .ck _ _ x y=>x.use s++y.use s
 | .un _ x=>x.use s
 | .gw _ _ x=>x.use s
 | .iz _ cs=>aK.ov s cs
 | .eS _ l c=>l.use s++c.use s
 | .fG _ x dv ao=>x.use s++(FW s dv++FW s ao)
 | .c1 _ x _=>x.use s
 | .fc _ x i=>x.use s++i.use s
 | .idx _ x i=>x.use s++i.use s
 | .ex x _=>x.use s
 | .mv _ x _=>x.use s
 | .call f args=>f.use s++aK.ov s args
 | .len _ x=>x.use s
 | .app _ _ x y=>x.use s++y.use s
 | .shr b0=>use s b0
 | .mZ f args u x=>u::x::(f.use s++aK.ov s args)
 | .ky f args us=>us.flatMap (fun u=>u::(s u).ag)++(f.use s++aK.ov s args)
 | .j4 _ x=>x.use s
 | .rN x=>x.use s
 | .qO x=>x.use s
 | .xZ=>[]
 | .oo _ x i=>x.use s++i.use s
 | .mY _ x i v=>x.use s++(i.use s++v.use s)
 | .oq _ _ x y=>x.use s++y.use s
 | .cap _ x=>x.use s
 | .p1 _ x y=>x.use s++y.use s
 | .bad=>[]
def dL (s:ar):gb→List Nat
 | .iR x=>(aN s x).ag
 | .da _ x=>(aN s x).ag
 | .e0 _ ps=>I.er (ps.map fun p=>aN s p.2)
 | .dG _ _ ps=>I.er (ps.map fun p=>aN s p.2)
 | .gu _ x y=>(aN s x).ag++(aN s y).ag
 | .mv _ x _=>(aN s x).ag
 | .qO x=>(aN s x).ag
 | .mY _ x _ _=>(aN s x).ag
 | .fG _ x _ _=>(aN s x).ag
 | .app _ _ x y=>(aN s x).ag++(aN s y).ag
 | .shr b0=>dL s b0
 |_=>[]
def dV (bZ:List Nat) (az s:ar):Prop:=∀u∈bZ,az u=s u
theorem dV.left {bZ V:List Nat} {az s:ar} (h:dV (bZ++V) az s):dV bZ az s:=fun u hu=>h u (List.mem_append_left _ hu)
theorem dV.right {bZ V:List Nat} {az s:ar} (h:dV (bZ++V) az s):dV V az s:=fun u hu=>h u (List.mem_append_right _ hu)
theorem dV.dP {bZ:List Nat} {az s:ar} (h:dV bZ az s) (ms:List hr):dV bZ (dP ms az) (dP ms s):=fun u hu=>S0 (h u hu)
theorem dV.sub {bZ V:List Nat} {az s:ar} (h:dV bZ az s) (ag:∀u∈V,u∈bZ):dV V az s:=fun u hu=>h u (ag u hu)
theorem aK.s6 {s:ar} {x:aK}:∀u∈(aN s x).ag,u∈x.use s:=by
 intro u hu
 cases x with
 |t n=>
  simp only[aN,js]at hu
  split at hu
  ·simp[aK.use,hu]
  ·simp only[I.ag,List.mem_singleton]at hu;simp[aK.use,hu]
 |c av=>exact hu
 |f g=>simp[aN,I.ag,I.er]at hu
theorem aK.fH {s az:ar} {x:aK} (h:dV (x.use s) az s):aN az x=aN s x:=by
 cases x with
 |t n=>simp only[aN];rw[h n (by simp[aK.use])]
 |c av=>rfl
 |f g=>rfl
theorem dV.aN {s az:ar} {x:aK} (h:dV (x.use s) az s):dV (aN s x).ag az s:=h.sub aK.s6
theorem Ko {s az:ar} {x:Option aK} (h:dV (FW s x) az s):x.map (aN az)=x.map (aN s):=by
 cases x with
 |none=>rfl
 |some x=>simp only[Option.map_some];rw[aK.fH h]
theorem aK.FX {s az:ar}:∀{xs:List aK},dV (aK.ov s xs) az s→xs.map (aN az)=xs.map (aN s)
 |[],_=>rfl
 |x::xs,h=>by
  simp only[List.map_cons]
  rw[aK.fH (h.left),aK.FX (h.right)]
theorem aK.FY {s az:ar}:∀{ps:List (Nat×aK)},dV (aK.ov s (ps.map (·.2))) az s→(ps.map fun p=>(p.1,aN az p.2))=ps.map fun p=>(p.1,aN s p.2)
 |[],_=>rfl
 |x::xs,h=>by
  simp only[List.map_cons]at h⊢
  rw[aK.fH (h.left),aK.FY (h.right)]
theorem aK.Bh {s:ar}:∀{xs:List aK},∀u∈I.er (xs.map (aN s)),u∈aK.ov s xs
 |[],u,h=>by simp[I.er]at h
 |x::xs,u,h=>by
  simp only[List.map_cons,I.er,List.mem_append]at h
  simp only[aK.ov,List.mem_append]
  exact h.imp (aK.s6 u) (aK.Bh u)
section
variable {C:cw} {s az:ar} {x y i:I} {T A B:TypeId}
theorem FZ (h:dV x.ag az s):loc az x=loc s x:=by
 cases x<;>first
  |rfl
  |(simp only[loc];rw[h _ (by simp[I.ag])])
theorem F1 {z:Nat} {q:List Nat} (h:loc s x=some (z,q)):z∈x.ag:=by
 cases x with
 |h y p=>
  simp only[loc]at h
  split at h
  ·simp only[Option.some.injEq,Prod.mk.injEq]at h;simp[I.ag,h.1]
  ·cases h
 |au y p=>
  simp only[loc]at h
  split at h
  ·simp only[Option.some.injEq,Prod.mk.injEq]at h;simp[I.ag,h.1]
  ·cases h
 |_=>simp[loc]at h
theorem S2 (h:dV x.ag az s):ld C az T x=ld C s T x:=by
 have hl:=FZ h
 unfold ld
 split
 ·rfl
 ·rw[h _ (by simp[I.ag])]
 ·rw[hl]
  split
  ·rename_i e
   rw[h _ (F1 e)]
  ·rfl
theorem S3 {k:Nat} (h:dV x.ag az s):c1 C az T x k=c1 C s T x k:=by
 have hl:=FZ h
 unfold c1
 split
 ·split
  ·split
   ·split
    ·rfl
    ·rw[h _ (by simp[I.ag])]
    ·rw[hl]
     split
     ·rename_i e
      rw[h _ (F1 e)]
     ·rfl
   ·rfl
  ·rfl
 ·rfl
theorem S4 (h:dV x.ag az s):fc C az T x i=fc C s T x i:=by
 cases x<;>first
  |rfl
  |(simp only[fc];rw[h _ (by simp[I.ag])])
theorem S5 (h:dV x.ag az s):mw C az T x=mw C s T x:=by
 unfold mw
 cases(C.T T).k<;>cases x<;>first
  |rfl
  |(simp only;rw[h _ (by simp[I.ag])])
theorem S6 (h:dV x.ag az s):gw C az A B x=gw C s A B x:=by
 unfold gw
 cases(C.T B).k<;>cases x<;>first
  |rfl
  |(simp only;rw[h _ (by simp[I.ag])])
theorem S7 (h:dV x.ag az s):j5 az x=j5 s x:=by
 cases x<;>first
  |rfl
  |(simp only[j5];rw[h _ (by simp[I.ag])])
theorem S8 (h:dV x.ag az s):lH az x=lH s x:=by
 cases x<;>first
  |rfl
  |(simp only[lH];rw[h _ (by simp[I.ag])])
theorem S9 {op:BinOp} (h:dV x.ag az s):ck C az op T x y=ck C s op T x y:=by
 have h1:=S7 h
 have ah:=S8 h
 unfold ck
 split<;>first|rfl|simp only[h1,ah]
theorem S_ (h:dV x.ag az s):ga az x=ga s x:=by
 cases x<;>first
  |rfl
  |(simp only[ga];rw[h _ (by simp[I.ag])])
theorem Ta {k y:Nat} {q:List Nat} (h:mv C s T x k=some (.h y q)):x.ag=[y]:=by
 unfold mv at h
 split at h<;>try (cases h;done)
 split at h<;>try (cases h;done)
 split at h
 ·split at h<;>try (cases h;done)
  split at h
  ·rename_i aq
   simp only[Option.some.injEq]at h
   rw[h]at aq
   exact absurd aq.2.2.2 (by simp[I.tree])
  ·cases h
 ·split at h<;>try (cases h;done)
  split at h<;>try (cases h;done)
  split at h<;>try (cases h;done)
  rename_i d aj aq
  by_cases au:d.plain=true
  ·simp only[au,if_true,Option.some.injEq]at h
   rw[h]at aq
   exact absurd aq.2.2.2 (by simp[I.tree])
  ·simp only[au,Option.some.injEq]at h
   injection h with h1 ah
   subst h1;rfl
 ·cases h
theorem Kp {k:Nat} (h:dV x.ag az s):mv C az T x k=mv C s T x k:=by
 unfold mv
 split<;>try rfl
 split<;>try rfl
 cases x<;>first
  |rfl
  |(simp only[];rw[h _ (by simp[I.ag])])
theorem Tb {k:Nat} (h:dV x.ag az s):ex az x k=ex s x k:=by
 cases x<;>first
  |rfl
  |(simp only[ex];rw[h _ (by simp[I.ag])])
theorem vp:∀(q:List Nat) (a d e:I),I.sub q a=some d→(d.plain=false∨q≠[])→(q=[]→e.ag=[])→(I.put q e a).ag=[]:=by
 intro q a d e h au he
 cases q with
 |nil=>rw[I.put];exact he rfl
 |cons k q=>
  cases a<;>first
   |(simp[I.sub]at h;done)
   |skip
  all_goals
   unfold I.put
   repeat' split
   all_goals first|rfl|(simp_all;done)
end
def Loc {α:Type} (bZ vq:List Nat) (f:ar→Option (α×ar)) (s:ar) (av:α) (s1:ar):Prop:=
 ∃ms,s1=dP ms s∧(∀m∈ms,m.x∈vq∧m.d.ag=[])∧∀az,dV bZ az s→f az=some (av,dP ms az)
theorem Loc.pure {α:Type} {bZ vq:List Nat} {f:ar→Option (α×ar)} {s:ar} {av:α} (h:∀az,dV bZ az s→f az=some (av,az)):Loc bZ vq f s av s:=
 ⟨[],rfl,by simp,fun az ag=>h az ag⟩
theorem Loc.mono {α:Type} {bZ vq Bi Kq:List Nat} {f:ar→Option (α×ar)} {s s1:ar} {av:α} (h:Loc bZ vq f s av s1) (pZ:∀u∈bZ,u∈Bi) (jJ:∀u∈vq,u∈Kq):Loc Bi Kq f s av s1:=by
 obtain⟨ms,h1,ah,aC⟩:=h
 exact⟨ms,h1,fun m hm=>⟨jJ _ (ah m hm).1,(ah m hm).2⟩,fun az ag=>aC az (ag.sub pZ)⟩
section
variable {C:cw} {s s1:ar} {x y d:I} {T A B:TypeId}
theorem qP (h:c7 s x=some (d,s1)):Loc x.ag x.ag (fun s=>c7 s x) s d s1:=by
 cases x with
 |h y q=>
  simp only[c7]at h
  split at h
  ·rename_i e he
   split at h
   ·cases h
   ·rename_i au
    simp only[Option.some.injEq,Prod.mk.injEq]at h
    obtain⟨rfl,rfl⟩:=h
    have au:e.plain=false:=by simpa using au
    refine⟨[⟨.cv,y,I.put q e.dq (s y)⟩],s5 _ _ _,?_,?_⟩
    ·intro m hm
     simp only[List.mem_singleton]at hm;subst hm
     refine⟨by simp[I.ag],vp q _ _ _ he (.inl au) fun c6=> ?_⟩
     subst c6
     cases e<;>first|(simp[I.plain]at au;done)|rfl
    ·intro az ag
     have aS:az y=s y:=ag y (by simp[I.ag])
     simp only[c7,aS,he,au]
     rw[←s5];rfl
  ·cases h
 |au y q=>simp[c7]at h
 |ae y q=>simp[c7]at h
 |fn f c=>simp[c7]at h
 |hole=>simp[c7]at h
 |_=>
  simp only[c7,Option.some.injEq,Prod.mk.injEq]at h
  obtain⟨rfl,rfl⟩:=h
  exact .pure fun az _=>rfl
mutual
theorem Kr (x:Nat):∀a:I,∀u∈(cv x a).ag,u∈a.ag
 | .h y q,u,h=>by
   simp only[cv]at h
   split at h
   ·split at h
    ·exact h
    ·simp[I.ag]at h
   ·exact h
 | .au y q,u,h=>by
   simp only[cv]at h
   split at h
   ·simp[I.ag]at h
   ·exact h
 | .ae y q,u,h=>h
 | .fn f cap,u,h=>by simp only[cv,I.ag]at h⊢;exact Ks x cap u h
 | .hole,u,h=>h
 | .bool _,u,h=>h
 | .fb,u,h=>h
 | .int _ _,u,h=>h
 | .str _,u,h=>h
 | .dI,u,h=>h
 | .bk,u,h=>h
 | .slice _,u,h=>h
 | .an _ _,u,h=>h
 | .ref _,u,h=>h
 | .bd _,u,h=>h
 | .agg _,u,h=>h
 | .tuple _,u,h=>h
theorem Ks (x:Nat):∀ds:List I,∀u∈I.er (i_ x ds),u∈I.er ds
 |[],u,h=>h
 |d::ds,u,h=>by
  simp only[i_,I.er,List.mem_append]at h⊢
  exact h.imp (Kr x d u) (Ks x ds u)
end
theorem F2 (o:Option Nat) (a:I):∀u∈(kV o a).ag,u∈a.ag:=by
 intro u h
 cases o with
 |none=>exact h
 |some x=>exact Kr x a u h
theorem Kt:∀(os:List (Option Nat)) (a:I),∀u∈(lk os a).ag,u∈a.ag:=by
 intro os
 induction os with
 |nil=>intro a u h;exact h
 |cons o os ih=>intro a u h;exact F2 o a u (ih (kV o a) u h)
theorem Ku {place:Nat→Option (Nat×Nat)}:∀{ps:List (Nat×I)} {s s1:ar} {eG ds:List I} {os:List (Option Nat)},eL place s eG os ps=some (ds,s1)→
  Loc (I.er (ps.map (·.2))) (I.er (ps.map (·.2))) (fun s=>eL place s eG os ps) s ds s1:=by
 intro ps
 induction ps with
 |nil=>
  intro s s1 eG ds os h
  simp only[eL,Option.some.injEq,Prod.mk.injEq]at h
  obtain⟨rfl,rfl⟩:=h
  exact .pure fun az _=>rfl
 |cons p ps ih=>
  intro s s1 eG ds os h
  obtain⟨k,a⟩:=p
  simp only[eL]at h
  split at h
  ·rename_i d s2 off n z ba gq cf
   split at h
   ·cases h
   ·rename_i bp nb
    split at h
    ·rename_i aq
     obtain⟨pa,rfl,ah,aC⟩:=qP ba
     obtain⟨rK,rfl,bK,cU⟩:=ih h
     refine⟨pa++rK,(l6 _ _ _).symm,?_,?_⟩
     ·intro m hm
      simp only[List.map_cons,I.er,List.mem_append]at hm⊢
      rcases hm with hm|hm
      ·exact⟨.inl (Kt _ _ _ (ah m hm).1),(ah m hm).2⟩
      ·exact⟨.inr (bK m hm).1,(bK m hm).2⟩
     ·intro az ag
      simp only[List.map_cons,I.er]at ag
      have aS:=aC az (ag.left.sub (Kt _ _))
      have aZ:=cU (dP pa az) (ag.right.dP pa)
      simp only at aS aZ
      simp only[eL,aS,gq,cf,l6]
      rw[if_pos aq];exact aZ
    ·cases h
  ·cases h
theorem Tc {ps:List (Nat×I)} {av:I} (h:e0 C s T ps=some (av,s1)):Loc (I.er (ps.map (·.2))) (I.er (ps.map (·.2))) (fun s=>e0 C s T ps) s av s1:=by
 unfold e0 at h
 split at h
 ·rename_i ay eG hk cf
  split at h
  ·rename_i aq
   split at h
   ·rename_i ds s2 bC
    simp only[Option.some.injEq,Prod.mk.injEq]at h
    obtain⟨rfl,rfl⟩:=h
    obtain⟨ms,h1,ah,aC⟩:=Ku bC
    refine⟨ms,h1,ah,fun az ag=> ?_⟩
    have:=aC az ag
    simp only at this
    simp only[e0,hk,cf,if_pos aq,this]
   ·cases h
  ·cases h
 ·cases h
theorem Td {n:Nat} {ps:List (Nat×I)} {av:I} (h:dG C s T n ps=some (av,s1)):Loc (I.er (ps.map (·.2))) (I.er (ps.map (·.2))) (fun s=>dG C s T n ps) s av s1:=by
 unfold dG at h
 split at h
 ·rename_i e hk
  split at h
  ·rename_i aq
   split at h
   ·rename_i ds s2 bC
    simp only[Option.some.injEq,Prod.mk.injEq]at h
    obtain⟨rfl,rfl⟩:=h
    obtain⟨ms,h1,ah,aC⟩:=Ku bC
    refine⟨ms,h1,ah,fun az ag=> ?_⟩
    have:=aC az ag
    simp only at this
    simp only[dG,hk,if_pos aq,this]
   ·cases h
  ·cases h
 ·cases h
theorem Te {av:I} (h:da s x=some (av,s1)):Loc x.ag x.ag (fun s=>da s x) s av s1:=by
 unfold da at h
 split at h
 ·cases h
 ·rename_i d s2 nb ba
  simp only[Option.some.injEq,Prod.mk.injEq]at h
  obtain⟨rfl,rfl⟩:=h
  obtain⟨ms,h1,ah,aC⟩:=qP ba
  refine⟨ms,h1,ah,fun az ag=> ?_⟩
  have:=aC az ag
  simp only at this
  simp only[da,this]
 ·cases h
theorem Tf {av:I} (h:j4 s x=some (av,s1)):Loc x.ag [] (fun s=>j4 s x) s av s1:=by
 unfold j4 at h
 split at h
 ·rename_i y q
  split at h
  ·rename_i ds nA
   split at h
   ·cases h
   ·rename_i xG
    simp only[Option.some.injEq,Prod.mk.injEq]at h
    obtain⟨rfl,rfl⟩:=h
    refine .pure fun az ag=> ?_
    have e:az y=s y:=ag y (by simp[I.ag])
    simp only[j4,e,nA,if_neg xG]
  ·cases h
 ·split at h
  ·rename_i aq
   simp only[Option.some.injEq,Prod.mk.injEq]at h
   obtain⟨rfl,rfl⟩:=h
   exact .pure fun az ag=>by simp only[j4,aq,if_true]
  ·cases h
 ·cases h
theorem Tg {s2:ar} (h:gu C s T x y=some s2):Loc (x.ag++y.ag) (x.ag++y.ag) (fun s=>(gu C s T x y).map fun s1=>(I.hole,s1)) s .hole s2:=by
 unfold gu at h
 split at h
 ·rename_i d s1 z q ba hl
  obtain⟨ms,h1,ah,aC⟩:=qP ba
  have cf:=F1 hl
  have c6:q≠[]:=by
   cases x with
   |h y p=>
    simp only[loc]at hl
    split at hl
    ·simp only[Option.some.injEq,Prod.mk.injEq]at hl;simp[←hl.2]
    ·cases hl
   |au y p=>
    simp only[loc]at hl
    split at hl
    ·rename_i o1
     simp only[Option.some.injEq,Prod.mk.injEq]at hl
     obtain⟨rfl,rfl⟩:=hl
     intro e;subst e;simp[I.fU]at o1
    ·cases hl
   |_=>simp[loc]at hl
  split at h
  ·cases h
  ·rename_i bp nb
   split at h
   ·rename_i d0 lg
    split at h
    ·rename_i aq
     simp only[Option.some.injEq]at h;subst h
     refine⟨ms++[⟨.cv,z,I.put q d (s z)⟩],?_,?_,?_⟩
     ·rw[l6,←h1,s5]
     ·intro m hm
      simp only[List.mem_append,List.mem_singleton]at hm⊢
      rcases hm with hm|rfl
      ·exact⟨.inr (ah m hm).1,(ah m hm).2⟩
      ·exact⟨.inl cf,vp q _ _ _ lg (.inr c6) fun e=>(c6 e).elim⟩
     ·intro az ag
      have aS:=aC az ag.right
      simp only at aS
      simp only[gu,aS,FZ ag.left,hl,ag.left z cf,lg]
      cases d<;>first|(simp only[if_pos aq,Option.map_some,l6,s5];done)|exact(nb _ rfl).elim
    ·cases h
   ·cases h
 ·cases h
theorem Th {dv ao:Option I} {av:I} (h:fG C s T x dv ao=some (av,s1)):Loc x.ag x.ag (fun s=>fG C s T x dv ao) s av s1:=by
 cases x with
 |h y q=>
  unfold fG at h
  split at h<;>first|(cases h;done)|skip
  all_goals (rename_i aw;try cases aw)
  rename_i e hk
  split at h
  ·rename_i sz xs fy
   split at h
   ·rename_i b og oh
    split at h
    ·rename_i aq
     split at h
     ·rename_i d s2 ba
      simp only[Option.some.injEq,Prod.mk.injEq]at h
      obtain⟨rfl,rfl⟩:=h
      obtain⟨ms,h1,ah,aC⟩:=qP ba
      refine⟨ms,h1,ah,fun az ag=> ?_⟩
      have:=aC az ag
      simp only at this
      have aS:az y=s y:=ag y (by simp[I.ag])
      simp only[fG,hk,aS,fy,og,oh,if_pos aq,this]
     ·cases h
    ·cases h
   ·cases h
  ·cases h
 |_=>
  have qQ:s1=s:=by
   unfold fG at h
   repeat' split at h
   all_goals first|(cases h;done)|(simp only[Option.some.injEq,Prod.mk.injEq]at h;exact h.2.symm)|simp_all
  subst qQ
  refine .pure fun az _=> ?_
  unfold fG at h⊢
  repeat' split at h
  all_goals first
   |(cases h;done)
   |(simp only[Option.some.injEq,Prod.mk.injEq]at h
     obtain⟨rfl,_⟩:=h
     simp_all)
def p4 (C:cw) (e:TypeId) (s:ar):I→Option (I×ar)
 | .bk=>some (I.an (C.T e).sz [],s)
 | .h a q=>c7 s (.h a q)
 |_=>none
def lK (s1:ar):I→Option (List I×ar)
 | .bk=>some ([],s1)
 | .slice ys=>some (ys,s1)
 | .str l=>some (l.map kX,s1)
 | .h a q=>match c7 s1 (.h a q)with
   |some (.an _ ys,s2)=>some (ys,s2)
   |_=>none
 |_=>none
theorem F3 (C:cw) (s:ar) (T bZ:TypeId) (x y:I):my C s T bZ x y=(match(C.T T).k with
 | .slice e=>if(C.T e).ok=true∧(C.T e).zero.wd=(C.T e).sz∧(flat (C.T e).zero).isSome=true∧A7 C e bZ=true then
   match p4 C e s x with
   |some (.an sz xs,s1)=>if sz=(C.T e).sz then
     match lK s1 (kV x.owner y)with
     |some (ys,s2)=>if(∀d∈ys,d.wd=(C.T e).sz)∧(xs.length+ys.length)*(C.T e).bytes≤140737488355328∧xs.length+ys.length≤9223372036854775807 then some (.an sz (xs++ys),s2)else none
     |none=>none
    else none
   |_=>none
   else none
 |_=>none):=by
 unfold my
 generalize kV x.owner y=kU
 cases(C.T T).k<;>first
  |rfl
  |(cases x<;>cases kU<;>rfl)
theorem Ti {e:TypeId} {d:I} (h1:p4 C e s x=some (d,s1)):Loc x.ag x.ag (fun s=>p4 C e s x) s d s1:=by
 cases x with
 |bk=>
  simp only[p4,Option.some.injEq,Prod.mk.injEq]at h1
  obtain⟨h1,rfl⟩:=h1
  exact .pure fun az _=>by simp only[p4,h1]
 |h a q=>exact qP h1
 |_=>simp[p4]at h1
theorem Tj {ys:List I} (ah:lK s y=some (ys,s1)):Loc y.ag y.ag (fun s=>lK s y) s ys s1:=by
 cases y with
 |bk=>
  simp only[lK,Option.some.injEq,Prod.mk.injEq]at ah
  obtain⟨rfl,rfl⟩:=ah
  exact .pure fun az _=>rfl
 |slice ys=>
  simp only[lK,Option.some.injEq,Prod.mk.injEq]at ah
  obtain⟨rfl,rfl⟩:=ah
  exact .pure fun az _=>rfl
 |str l=>
  simp only[lK,Option.some.injEq,Prod.mk.injEq]at ah
  obtain⟨rfl,rfl⟩:=ah
  exact .pure fun az _=>rfl
 |h a q=>
  simp only[lK]at ah
  split at ah
  ·rename_i Su aDH hP ba
   simp only[Option.some.injEq,Prod.mk.injEq]at ah
   obtain⟨rfl,rfl⟩:=ah
   obtain⟨ms,g1,g2,g3⟩:=qP ba
   refine⟨ms,g1,g2,fun az ag=> ?_⟩
   have:=g3 az ag
   simp only at this
   simp only[lK,this]
  ·cases ah
 |_=>simp[lK]at ah
theorem Tk {av:I} (h:my C s T A x y=some (av,s1)):Loc (x.ag++y.ag) (x.ag++y.ag) (fun s=>my C s T A x y) s av s1:=by
 rw[F3]at h
 split at h
 ·rename_i e hk
  split at h
  ·rename_i aq
   split at h
   ·rename_i sz xs s2 h1
    split at h
    ·rename_i dR
     split at h
     ·rename_i ys e4 ah
      split at h
      ·rename_i mW
       simp only[Option.some.injEq,Prod.mk.injEq]at h
       obtain⟨rfl,rfl⟩:=h
       obtain⟨pa,rfl,a2,a3⟩:=Ti h1
       obtain⟨rK,rfl,iP,lJ⟩:=(Tj ah).mono (F2 _ _) (F2 _ _)
       refine⟨pa++rK,(l6 _ _ _).symm,?_,?_⟩
       ·intro m hm
        simp only[List.mem_append]at hm⊢
        rcases hm with hm|hm
        ·exact⟨.inl (a2 m hm).1,(a2 m hm).2⟩
        ·exact⟨.inr (iP m hm).1,(iP m hm).2⟩
       ·intro az ag
        have aS:=a3 az ag.left
        have aZ:=lJ (dP pa az) (ag.right.dP pa)
        simp only at aS aZ
        simp only[F3,hk,if_pos aq,aS,if_pos dR,aZ,if_pos mW,l6]
      ·cases h
     ·cases h
    ·cases h
   ·cases h
  ·cases h
 ·cases h
theorem Tl {az:ar} {i:I} (h:dV x.ag az s):oo C az T x i=oo C s T x i:=by
 cases x with
 |h y q=>cases i<;>simp only[oo,h y (by simp[I.ag])]
 |_=>rfl
theorem Tm {i v:I} {s2:ar} (h:mY C s T x i v=some s2):Loc x.ag x.ag (fun s=>(mY C s T x i v).map fun s1=>(I.hole,s1)) s .hole s2:=by
 unfold mY at h
 split at h
 ·rename_i y q k b
  split at h
  ·rename_i m aj
   split at h
   ·rename_i jJ
    simp only[Option.some.injEq]at h;subst h
    refine⟨[⟨.cv,y,I.put q (.en (.mp (pQ k b m))) (s y)⟩],s5 _ _ _,?_,fun az ag=> ?_⟩
    ·intro n a6
     simp only[List.mem_singleton]at a6;subst a6
     exact⟨by simp[I.ag],vp q _ _ _ aj (.inl rfl) fun _=>rfl⟩
    ·have aS:az y=s y:=ag y (by simp[I.ag])
     simp only[mY,aS,aj,jJ,if_true,Option.map_some]
     rw[←s5]
   ·cases h
  ·cases h
 ·cases h
theorem Kv {b0:gb} {av:I} (h:bR C s b0=some (av,s1)):Loc (use s b0) (dL s b0) (fun s=>bR C s b0) s av s1:=by
 cases b0 with
 |shr b0=>simp[bR]at h
 |mZ f args u x=>simp[bR]at h
 |ky f args L=>simp[bR]at h
 |qO x=>
  simp only[bR]at h
  unfold p2 at h
  split at h
  ·rename_i y q aw
   obtain⟨ms,h1,ah,aC⟩:=qP h
   refine⟨ms,h1,by simpa only[dL,aw]using ah,fun az ag=> ?_⟩
   have e:=aK.fH (x:=x) ag
   have aZ:=aC az (by rw[←aw];exact dV.aN ag)
   simp only[bR,e,aw,p2]
   exact aZ
  ·rename_i Kw
   simp only[Option.some.injEq,Prod.mk.injEq]at h
   obtain⟨rfl,rfl⟩:=h
   refine .pure fun az ag=> ?_
   have e:=aK.fH (x:=x) ag
   simp only[bR,e,p2]
 |rN x=>
  simp only[bR,Option.some.injEq,Prod.mk.injEq]at h
  obtain⟨rfl,rfl⟩:=h
  exact .pure fun az ag=>by simp only[bR,aK.fH (x:=x) ag]
 |j4 T x=>
  obtain⟨ms,h1,ah,aC⟩:=Tf h
  refine⟨ms,h1,ah,fun az ag=> ?_⟩
  simp only[bR,aK.fH (x:=x) ag]
  exact aC az (dV.aN ag)
 |oq T bZ x y=>
  simp only[bR,Option.map_eq_some_iff,Prod.mk.injEq]at h
  obtain⟨d,aj,rfl,rfl⟩:=h
  exact .pure fun az ag=>by
   simp only[use]at ag
   simp only[bR,aK.fH (x:=x) ag.left,aK.fH (x:=y) ag.right,aj,Option.map_some]
 |bad=>simp[bR]at h
 |p1 hj x y=>
  simp only[bR,Option.map_eq_some_iff,Prod.mk.injEq]at h
  obtain⟨d,aj,rfl,rfl⟩:=h
  exact .pure fun az ag=>by
   simp only[use]at ag
   simp only[bR,aK.fH (x:=x) ag.left,aK.fH (x:=y) ag.right,aj,Option.map_some]
 |cap T x=>
  simp only[bR]at h
  split at h
  ·rename_i e hk aw
   simp only[Option.some.injEq,Prod.mk.injEq]at h
   obtain⟨rfl,rfl⟩:=h
   exact .pure fun az ag=>by simp only[bR,aK.fH (x:=x) ag,hk,aw]
  ·cases h
 |ct x=>
  simp only[bR,Option.some.injEq,Prod.mk.injEq]at h
  obtain⟨rfl,rfl⟩:=h
  exact .pure fun az ag=>by simp only[bR,aK.fH (x:=x) ag]
 |iR x=>
  simp only[bR]at h
  split at h
  ·rename_i y q aw
   obtain⟨ms,h1,ah,aC⟩:=qP h
   refine⟨ms,h1,by simpa only[dL,aw]using ah,fun az ag=> ?_⟩
   have e:=aK.fH (x:=x) ag
   have aZ:=aC az (by rw[←aw];exact dV.aN ag)
   simp only[bR,e,aw]
   exact aZ
  ·rename_i Kw
   simp only[Option.some.injEq,Prod.mk.injEq]at h
   obtain⟨rfl,rfl⟩:=h
   refine .pure fun az ag=> ?_
   have e:=aK.fH (x:=x) ag
   simp only[bR,e]
 |pick c a b=>
  simp only[bR]at h
  split at h
  ·rename_i fZ ae
   simp only[Option.some.injEq,Prod.mk.injEq]at h
   obtain⟨rfl,rfl⟩:=h
   refine .pure fun az ag=> ?_
   simp only[use]at ag
   simp only[bR,aK.fH (x:=c) ag.left,aK.fH (x:=a) ag.right.left,aK.fH (x:=b) ag.right.right,ae]
  ·cases h
 |hc T=>
  simp only[bR,Option.map_eq_some_iff,Prod.mk.injEq]at h
  obtain⟨d,aj,rfl,rfl⟩:=h
  exact .pure fun az ag=>by simp only[bR,aj,Option.map_some]
 |da T x=>
  obtain⟨ms,h1,ah,aC⟩:=Te h
  refine⟨ms,h1,ah,fun az ag=> ?_⟩
  simp only[bR,aK.fH (x:=x) ag]
  exact aC az (dV.aN ag)
 |e0 T ps=>
  obtain⟨ms,h1,ah,aC⟩:=Tc h
  simp only[List.map_map,Function.comp_def]at ah aC
  refine⟨ms,h1,ah,fun az ag=> ?_⟩
  simp only[bR,aK.FY (ps:=ps) ag]
  refine aC az (ag.sub fun u hu=> ?_)
  simp only[use]
  exact aK.Bh u (by simpa [List.map_map,Function.comp_def]using hu)
 |dG T n ps=>
  obtain⟨ms,h1,ah,aC⟩:=Td h
  simp only[List.map_map,Function.comp_def]at ah aC
  refine⟨ms,h1,ah,fun az ag=> ?_⟩
  simp only[bR,aK.FY (ps:=ps) ag]
  refine aC az (ag.sub fun u hu=> ?_)
  simp only[use]
  exact aK.Bh u (by simpa [List.map_map,Function.comp_def]using hu)
 |ld T x=>
  simp only[bR,Option.map_eq_some_iff,Prod.mk.injEq]at h
  obtain⟨d,aj,rfl,rfl⟩:=h
  exact .pure fun az ag=>by simp only[bR,aK.fH (x:=x) ag,S2 (dV.aN ag),aj,Option.map_some]
 |gu T x y=>
  simp only[bR,Option.map_eq_some_iff,Prod.mk.injEq]at h
  obtain⟨s2,aj,rfl,rfl⟩:=h
  obtain⟨ms,h1,ah,aC⟩:=Tg aj
  refine⟨ms,h1,ah,fun az ag=> ?_⟩
  simp only[use]at ag
  simp only[bR,aK.fH (x:=x) ag.left,aK.fH (x:=y) ag.right]
  exact aC az (ag.sub fun u hu=>by simp only[List.mem_append]at hu⊢;exact hu.imp (aK.s6 u) (aK.s6 u))
 |ga x=>
  simp only[bR,Option.map_eq_some_iff,Prod.mk.injEq]at h
  obtain⟨d,aj,rfl,rfl⟩:=h
  exact .pure fun az ag=>by simp only[bR,aK.fH (x:=x) ag,S_ (dV.aN ag),aj,Option.map_some]
 |ck op T x y=>
  simp only[bR,Option.map_eq_some_iff,Prod.mk.injEq]at h
  obtain⟨d,aj,rfl,rfl⟩:=h
  refine .pure fun az ag=> ?_
  simp only[use]at ag
  simp only[bR,aK.fH (x:=x) ag.left,aK.fH (x:=y) ag.right,S9 (dV.aN ag.left),aj,Option.map_some]
 |un op x=>
  simp only[bR,Option.map_eq_some_iff,Prod.mk.injEq]at h
  obtain⟨d,aj,rfl,rfl⟩:=h
  exact .pure fun az ag=>by simp only[bR,aK.fH (x:=x) ag,aj,Option.map_some]
 |gw A B x=>
  simp only[bR,Option.map_eq_some_iff,Prod.mk.injEq]at h
  obtain⟨d,aj,rfl,rfl⟩:=h
  exact .pure fun az ag=>by simp only[bR,aK.fH (x:=x) ag,S6 (dV.aN ag),aj,Option.map_some]
 |iz f cs=>
  simp only[bR,Option.some.injEq,Prod.mk.injEq]at h
  obtain⟨rfl,rfl⟩:=h
  exact .pure fun az ag=>by simp only[bR,aK.FX (xs:=cs) ag]
 |eS T l c=>
  simp only[bR,Option.map_eq_some_iff,Prod.mk.injEq]at h
  obtain⟨d,aj,rfl,rfl⟩:=h
  refine .pure fun az ag=> ?_
  simp only[use]at ag
  simp only[bR,aK.fH (x:=l) ag.left,aK.fH (x:=c) ag.right,aj,Option.map_some]
 |fG T x dv ao=>
  simp only[bR]at h
  obtain⟨ms,h1,ah,aC⟩:=Th h
  refine⟨ms,h1,ah,fun az ag=> ?_⟩
  simp only[use]at ag
  simp only[bR,aK.fH (x:=x) ag.left,Ko ag.right.left,Ko ag.right.right]
  exact aC az (dV.aN ag.left)
 |c1 T x k=>
  simp only[bR,Option.map_eq_some_iff,Prod.mk.injEq]at h
  obtain⟨d,aj,rfl,rfl⟩:=h
  exact .pure fun az ag=>by simp only[bR,aK.fH (x:=x) ag,S3 (dV.aN ag),aj,Option.map_some]
 |fc T x i=>
  simp only[bR,Option.map_eq_some_iff,Prod.mk.injEq]at h
  obtain⟨d,aj,rfl,rfl⟩:=h
  refine .pure fun az ag=> ?_
  simp only[use]at ag
  simp only[bR,aK.fH (x:=x) ag.left,aK.fH (x:=i) ag.right,S4 (dV.aN ag.left),aj,Option.map_some]
 |idx T x i=>
  simp only[bR,Option.map_eq_some_iff,Prod.mk.injEq]at h
  obtain⟨d,aj,rfl,rfl⟩:=h
  refine .pure fun az ag=> ?_
  simp only[use]at ag
  simp only[bR,aK.fH (x:=x) ag.left,aK.fH (x:=i) ag.right,aj,Option.map_some]
 |ex x k=>
  simp only[bR,Option.map_eq_some_iff,Prod.mk.injEq]at h
  obtain⟨d,aj,rfl,rfl⟩:=h
  exact .pure fun az ag=>by simp only[bR,aK.fH (x:=x) ag,Tb (dV.aN ag),aj,Option.map_some]
 |xZ=>
  simp only[bR,Option.some.injEq,Prod.mk.injEq]at h
  obtain⟨rfl,rfl⟩:=h
  exact .pure fun az ag=>rfl
 |oo T x i=>
  simp only[bR,Option.map_eq_some_iff,Prod.mk.injEq]at h
  obtain⟨d,aj,rfl,rfl⟩:=h
  refine .pure fun az ag=> ?_
  simp only[use]at ag
  simp only[bR,aK.fH (x:=x) ag.left,aK.fH (x:=i) ag.right,Tl (dV.aN ag.left),aj,Option.map_some]
 |mY T x i v=>
  simp only[bR,Option.map_eq_some_iff,Prod.mk.injEq]at h
  obtain⟨s2,aj,rfl,rfl⟩:=h
  obtain⟨ms,h1,ah,aC⟩:=Tm aj
  refine⟨ms,h1,ah,fun az ag=> ?_⟩
  simp only[use]at ag
  simp only[bR,aK.fH (x:=x) ag.left,aK.fH (x:=i) ag.right.left,aK.fH (x:=v) ag.right.right]
  exact aC az (dV.aN ag.left)
 |mv T x k=>
  simp only[bR,Option.bind_eq_some_iff]at h
  obtain⟨d,aj,h⟩:=h
  unfold p2 at h
  split at h
  ·rename_i y q
   have aw:=Ta aj
   obtain⟨ms,h1,ah,aC⟩:=qP h
   refine⟨ms,h1,by simpa only[dL,aw,I.ag]using ah,fun az ag=> ?_⟩
   have aZ:=aC az (by rw[show(I.h y q).ag=(aN s x).ag from aw.symm];exact dV.aN ag)
   simp only[bR,aK.fH (x:=x) ag,Kp (dV.aN ag),aj,Option.bind_some,p2]
   exact aZ
  ·rename_i Kw
   simp only[Option.some.injEq,Prod.mk.injEq]at h
   obtain⟨rfl,rfl⟩:=h
   refine .pure fun az ag=> ?_
   simp only[bR,aK.fH (x:=x) ag,Kp (dV.aN ag),aj,Option.bind_some,p2]
 |call f args=>simp[bR]at h
 |len T x=>
  simp only[bR,Option.map_eq_some_iff,Prod.mk.injEq]at h
  obtain⟨d,aj,rfl,rfl⟩:=h
  exact .pure fun az ag=>by simp only[bR,aK.fH (x:=x) ag,S5 (dV.aN ag),aj,Option.map_some]
 |app T bZ x y=>
  obtain⟨ms,h1,ah,aC⟩:=Tk h
  refine⟨ms,h1,ah,fun az ag=> ?_⟩
  simp only[use]at ag
  simp only[bR,aK.fH (x:=x) ag.left,aK.fH (x:=y) ag.right]
  exact aC az (ag.sub fun u hu=>by simp only[List.mem_append]at hu⊢;exact hu.imp (aK.s6 u) (aK.s6 u))
end
def I.one:I→Bool
 | .agg _=>false
 | .tuple _=>false
 |_=>true
mutual
def view (s:ar):I→Option I
 | .h x q=>match I.sub q (s x)with
   |some d=>(match d with| .tuple _=>none| .en _=>none|d=>if d.plain then none else some d.share)
   |none=>none
 | .au x q=>if I.fU q (s x)then(match I.sub q (s x)with
   |some d=>(match d with| .tuple _=>none|d=>some (.ref d.share))
   |none=>none)else none
 | .ae _ _=>none
 | .fn f cap=>(views s cap).map (.fn f)
 | .hole=>none
 |d=>some d
def views (s:ar):List I→Option (List I)
 |[]=>some []
 |d::ds=>match view s d,views s ds with
  |some a,some b=>some (a::b)
  |_,_=>none
end
mutual
theorem F4:∀d:I,d.share.plain=true
 | .hole=>rfl
 | .bool _=>rfl
 | .fb=>rfl
 | .int _ _=>rfl
 | .str _=>rfl
 | .dI=>rfl
 | .bk=>rfl
 | .slice _=>rfl
 | .an _ _=>rfl
 | .ref _=>rfl
 | .bd _=>rfl
 | .agg ay=>by simp only[I.share,I.plain];exact F5 ay
 | .tuple ay=>by simp only[I.share,I.plain];exact F5 ay
 | .fn _ _=>rfl
 | .h _ _=>rfl
 | .au _ _=>rfl
 | .ae _ _=>rfl
 | .en _=>rfl
theorem F5:∀ds:List I,I.dX (I.shares ds)=true
 |[]=>rfl
 |d::ds=>by simp only[I.shares,I.dX];rw[F4 d,F5 ds];rfl
end
theorem Tn {s:ar} {a d:I} (h:a.plain=true) (he:view s a=some d):d.plain=true:=by
 cases a with
 |h x q=>
  simp only[view]at he
  split at he
  ·rename_i e fy
   cases e<;>simp only at he<;>first
    |(cases he;done)
    |(split at he
      ·cases he
      ·simp only[Option.some.injEq]at he
       subst he;exact F4 _)
  ·cases he
 |au x q=>
  simp only[view]at he
  split at he
  ·split at he
   ·rename_i e fy
    cases e<;>simp only at he<;>first
     |(cases he;done)
     |(simp only[Option.some.injEq]at he;subst he;rfl)
   ·cases he
  ·cases he
 |fn f cap=>
  simp only[view,Option.map_eq_some_iff]at he
  obtain⟨ds,_,rfl⟩:=he
  rfl
 |hole=>simp[view]at he
 |ae y q=>simp[view]at he
 |_=>simp only[view,Option.some.injEq]at he;subst he;exact h
theorem F6 {d:I} {v:Value} (h1:∀vs,d≠.tuple vs) (h:ei d v):ei d.share v:=by
 cases d<;>first|exact h|exact(h1 _ rfl).elim
theorem To (w:World):∀(q:List Nat) (av d bp:I) (cs c3:List Value) (a c4:Option (Nat×Nat)),I.sub q av=some d→bp.wd=d.wd→dB w q av cs a=some (d,c3,c4)→
  dB w q (I.put q bp av) cs a=some (bp,c3,c4):=by
 intro q
 induction q with
 |nil=>
  intro av d bp cs c3 a c4 aj hw h
  simp only[dB,Option.some.injEq,Prod.mk.injEq]at h
  obtain⟨rfl,rfl,rfl⟩:=h
  simp only[I.put,dB]
 |cons k q ih=>
  intro av d bp cs c3 a c4 aj hw h
  cases av with
  |agg ay=>
   simp only[I.sub]at aj
   split at aj
   ·rename_i x aw
    have hk:k<ay.length:=(List.getElem?_eq_some_iff.1 aw).1
    simp only[dB,aw]at h
    simp only[I.put,aw,dB]
    rw[List.getElem?_set_self hk]
    simp only[List.take_set_of_le (Nat.le_refl k),I.u6 q x d bp aj hw]
    exact ih _ _ _ _ _ _ _ aj hw h
   ·cases aj
  |tuple ay=>
   simp only[I.sub]at aj
   split at aj
   ·rename_i x aw
    have hk:k<ay.length:=(List.getElem?_eq_some_iff.1 aw).1
    simp only[dB,aw]at h
    simp only[I.put,aw,dB]
    rw[List.getElem?_set_self hk]
    simp only[List.take_set_of_le (Nat.le_refl k),I.u6 q x d bp aj hw]
    exact ih _ _ _ _ _ _ _ aj hw h
   ·cases aj
  |an sz ay=>
   simp only[I.sub]at aj
   split at aj
   ·rename_i x aw
    have hk:k<ay.length:=(List.getElem?_eq_some_iff.1 aw).1
    have lj:(ay.set k (I.put q bp x))[k]? =some (I.put q bp x):=List.getElem?_set_self hk
    simp only[I.put,aw]
    rw[dB.eq_def]at h⊢
    simp only[aw]at h
    simp only
    rw[lj]
    split at h
    ·rename_i aS
     simp only[Option.some.injEq]at aS;subst aS
     exact ih _ _ _ _ _ _ _ aj hw h
    ·cases h
   ·cases aj
  |bd x=>
   cases k with
   |zero=>
    simp only[I.sub]at aj
    rw[dB.eq_def]at h⊢
    simp only at h
    simp only[I.put]
    split at h
    ·rw[I.u6 q x d bp aj hw]
     exact ih _ _ _ _ _ _ _ aj hw h
    ·cases h
   |succ k=>simp[I.sub]at aj
  |_=>simp[I.sub]at aj
section
variable {w0 w aG:World} {F0 X F Fc:Nat→Prop} {S:Nat→Nat→Prop} {s az:ar} {aA jI:Nat→Value}
theorem Tp (h:bQ w0 F0 X F S s aA w) (bI:∀b,F b→Fc b):∀n,
  (∀(a:I) (v:Value) (d:I),SizeOf.sizeOf a≤n→(∀t∈a.ag,∀b,S t b→Fc b)→view s a=some d→aL w F s aA a v (fun _=>False)→aL w Fc az jI d v (fun _=>False))∧
  (∀(as:List I) (vs:List Value) (ds:List I),SizeOf.sizeOf as≤n→(∀t∈I.er as,∀b,S t b→Fc b)→views s as=some ds→eA w F s aA as vs→eA w Fc az jI ds vs):=by
 intro n
 induction n with
 |zero=>exact⟨fun a _ _ cf=>by cases a<;>simp at cf<;>omega,fun as _ _ cf=>by cases as<;>simp at cf<;>omega⟩
 |succ n ih=>
  refine⟨fun a v d cf b1 he aM=> ?_,fun as vs ds cf b1 he aM=> ?_⟩
  ·cases a with
   |h x q=>
    simp only[view]at he
    split at he
    ·rename_i e fy
     have key:(∀ay,e≠.tuple ay)∧e.plain=false∧d=e.share∧∀o,e≠.en o:=by
      cases e<;>simp only at he<;>first
       |(cases he;done)
       |(split at he
         ·cases he
         ·rename_i gq
          simp only[Option.some.injEq]at he
          exact⟨(fun _ h=>by cases h),by simpa using gq,he.symm,fun _ h=>by cases h⟩)
     obtain⟨nb,gq,rfl,l1⟩:=key
     rw[aL]at aM
     obtain⟨c3,c4,g1,g2,g3⟩:=aM e fy gq
     have ba:=ig fy (.inl gq)
     have aw:=(aL.cV ba).1 (h.dF x)
     obtain⟨gp,a2,eF,fE,k0,b8,cy,e_,ed,fF⟩:=ctx q (s x) (cC (aA x)) (S x) none e aw.2 fy
     rw[g1]at k0
     simp only[Option.some.injEq,Prod.mk.injEq,true_and]at k0
     obtain⟨rfl,rfl⟩:=k0
     have Ff:e.share.tree=true:=by cases e<;>first|rfl|(simp[I.plain]at gq;done)|exact(l1 _ rfl).elim
     have aX:=ax.shared bI e c3 fE (fun b ae=>b1 x (by simp[I.ag]) b (cy b ae)) ed
     exact(aL.cV Ff).2 ⟨F6 nb g3,by rw[g2];exact aX⟩
    ·cases he
   |au x q=>
    simp only[view]at he
    split at he
    ·rename_i o1
     split at he
     ·rename_i e fy
      have key:(∀ay,e≠.tuple ay)∧d= .ref e.share:=by
       cases e<;>simp only at he<;>first
        |(cases he;done)
        |(simp only[Option.some.injEq]at he;exact⟨(fun _ h=>by cases h),he.symm⟩)
      obtain⟨nb,rfl⟩:=key
      rw[aL]at aM
      obtain⟨c3,b,o,g1,rfl⟩:=aM e fy o1
      have ba:=ig fy (.inr o1)
      have aw:=(aL.cV ba).1 (h.dF x)
      obtain⟨gp,a2,eF,fE,k0,b8,cy,e_,ed,fF⟩:=ctx q (s x) (cC (aA x)) (S x) none e aw.2 fy
      rw[g1]at k0
      simp only[Option.some.injEq,Prod.mk.injEq,true_and]at k0
      obtain⟨rfl,rfl⟩:=k0
      have aX:=ax.shared bI e c3 fE (fun b ae=>b1 x (by simp[I.ag]) b (cy b ae)) ed
      rcases fF with⟨l,r,_,aZ,_⟩|⟨fZ,cur,ty,fr,l,r,aS,aZ,aQ,cF,cR,_⟩
      ·simp at aZ
      ·simp only[Option.some.injEq,Prod.mk.injEq]at aS
       obtain⟨rfl,rfl⟩:=aS
       refine(aL.cV rfl).2 ⟨rfl,?_⟩
       rw[ax]
       refine⟨b,l.length,c3,rfl,b1 x (by simp[I.ag]) b (b8 b aZ),?_,aX⟩
       intro j c b_
       simp only[World.cell?,aQ]
       have aq:cur[l.length+j]? =some c:=by
        rw[←Array.getElem?_toList,cR,List.getElem?_append_right (by omega),List.getElem?_append_left (by
         have:=(List.getElem?_eq_some_iff.1 b_).1;omega)]
        rw[←b_];congr 1;omega
       simpa using aq
     ·cases he
    ·cases he
   |fn f cap=>
    simp only[view,Option.map_eq_some_iff]at he
    obtain⟨ds,jS,rfl⟩:=he
    rw[aL]at aM
    obtain⟨arr,rfl,aq⟩:=aM
    rw[aL]
    exact⟨arr,rfl,ih.2 cap _ _ (by simp at cf;omega) (by simpa [I.ag]using b1) jS aq⟩
   |hole=>simp[view]at he
   |ae y q=>simp[view]at he
   |_=>
    simp only[view,Option.some.injEq]at he;subst he
    have mq:=(aL.cV rfl).1 aM
    exact(aL.cV rfl).2 ⟨mq.1,ax.mono bI _ _ _ _ (fun _ h=>h) mq.2⟩
  ·cases as with
   |nil=>
    simp only[views,Option.some.injEq]at he;subst he
    rw[eA]at aM⊢;exact aM
   |cons a as=>
    simp only[views]at he
    split at he
    ·rename_i d ds h1 ah
     simp only[Option.some.injEq]at he;subst he
     rw[eA]at aM⊢
     obtain⟨v,j1,rfl,g1,g2⟩:=aM
     simp at cf
     simp only[I.er,List.mem_append]at b1
     exact⟨v,j1,rfl,ih.1 a v d (by omega) (fun t ba=>b1 t (.inl ba)) h1 g1,ih.2 as j1 ds (by omega) (fun t ba=>b1 t (.inr ba)) ah g2⟩
    ·cases he
theorem bQ.jc (h:bQ w0 F0 X F S s aA w) {x:Nat} {q:List Nat} {d0 bp:I} {c3:List Value} {a:Option (Nat×Nat)} {Sn:Nat→Prop}
  (aj:I.sub q (s x)=some d0) (bC:dB w q (s x) (cC (aA x)) none=some (d0,c3,a)) (ah:∀vs,bp≠.tuple vs) (ba:q=[]→bp.tree=true∧ei bp (aA x))
  (aC:∀k p,q=k::p→(s x).tree=true∧(∀v,iO d0 v→iO bp v)) (hw:bp.wd=d0.wd)
  (aM:ax w F bp c3 Sn) (e7:∀b,Sn b→b<w.heap.size) (bI:∀b,Sn b→¬F b) (b1:∀u b,Sn b→¬S u b) (bf:∀b,Sn b→X b∨w0.heap.size≤b):
  bQ w0 F0 X F (f_ S x (fun b=>S x b∨Sn b)) (du (lZ x s) x (I.put q bp (s x))) aA w:=by
 have eE:du aA x (aA x)=aA:=by funext u;simp only[du];split<;>simp_all
 have main:(I.put q bp (s x)).tree=true∧ei (I.put q bp (s x)) (aA x)∧ax w F (I.put q bp (s x)) (cC (aA x)) (fun b=>S x b∨Sn b):=by
  cases q with
  |nil=>
   simp only[dB,Option.some.injEq,Prod.mk.injEq]at bC
   obtain⟨aS,aZ,aQ⟩:=bC
   obtain⟨g1,g2⟩:=ba rfl
   simp only[I.put]
   refine⟨g1,?_,?_⟩
   ·exact g2
   ·rw[aZ];exact ax.mono (fun _ h=>h) _ _ _ _ (fun b ae=>.inr ae) aM
  |cons k p=>
   obtain⟨g1,g2⟩:=aC k p rfl
   have aw:=(aL.cV g1).1 (h.dF x)
   obtain⟨gp,a2,eF,fE,k0,b8,cy,e_,ed,fF⟩:=ctx (k::p) (s x) (cC (aA x)) (S x) none d0 aw.2 aj
   rw[bC]at k0
   simp only[Option.some.injEq,Prod.mk.injEq,true_and]at k0
   obtain⟨rfl,rfl⟩:=k0
   refine⟨?_,?_,?_⟩
   ·rcases rA k p bp (s x)with⟨ay,gs,aS,e⟩|⟨ay,gs,aS,e⟩|⟨sz,xs,ys,aS,e⟩|⟨y,z,aS,e⟩|e<;>rw[e]<;>first|rfl|exact g1
   ·refine xx aw.1 aj g2 (fun _ vs e=>(ah vs e).elim) hw
   ·have mono:∀b,(eF b∨Sn b)→(S x b∨Sn b):=fun b ae=>ae.imp (b8 b) id
    rcases fF with⟨l,r,aS,aZ,aQ⟩|⟨b,cur,ty,fr,l,r,aS,aZ,aQ,cF,cR,ch⟩
    ·rw[aS]
     exact ax.mono (fun _ h=>h) _ _ _ _ mono (aQ w bp c3 Sn (fun _ _=>rfl) (fun _ _=>rfl) hw aM (fun b ae aq=>b1 x b ae (b8 b aq)))
    ·refine ax.mono (fun _ h=>h) _ _ _ _ mono (ch w bp c3 Sn (fun _ _=>rfl) (fun _ _ _=>rfl) ?_ hw aM (fun b ae aq=>b1 x b ae (b8 b aq)))
     rw[aQ,←cR]
 have:=h.Ji (t:=x) main.1 main.2.1 main.2.2 (by rintro b (ae|ae);exact h.eD x b ae;exact e7 b ae) (by rintro b (ae|ae);exact h.fz x b ae;exact bI b ae)
  (by rintro u b df (ae|ae);exact fun hu=>h.fs u x b df hu ae;exact b1 u b ae) (by rintro b (ae|ae);exact h.dZ x b ae;exact bf b ae)
 rwa [eE]at this
end
mutual
def I.dd:I→Bool
 | .slice _=>false
 | .ref _=>false
 | .fn _ _=>false
 | .h _ _=>false
 | .au _ _=>false
 | .ae _ _=>false
 | .an _ xs=>I.hY xs
 | .bd d=>d.dd
 | .agg ay=>I.hY ay
 | .tuple ay=>I.hY ay
 |_=>true
def I.hY:List I→Bool
 |[]=>true
 |d::ds=>d.dd&&I.hY ds
end
mutual
theorem ax.dd {w:World} {F b2:Nat→Prop}:∀(d:I) (cs:List Value) (S:Nat→Prop),d.dd=true→ax w F d cs S→ax w b2 d cs S
 | .hole,_,_,_,h=>h
 | .bool _,_,_,_,h=>h
 | .fb,_,_,_,h=>h
 | .int _ _,_,_,_,h=>h
 | .str _,_,_,_,h=>h
 | .dI,_,_,_,h=>h
 | .bk,_,_,_,h=>h
 | .slice xs,cs,S,a6,h=>by simp[I.dd]at a6
 | .ref d,cs,S,a6,h=>by simp[I.dd]at a6
 | .an sz xs,cs,S,a6,h=>by
   rw[ax]at h⊢
   rcases h with h|⟨b,cap,cur,e,fr,aR,h1,ah,aC,a8,bK,cU,cJ,fw,hR,h3,lf⟩
   ·exact .inl h
   ·exact .inr ⟨b,cap,cur,e,fr,aR,h1,ah,aC,a8,bK,cU,cJ,fw,bc.dd xs _ _ a6 hR,h3,lf⟩
 | .bd d,cs,S,a6,h=>by
   rw[ax]at h⊢
   obtain⟨b,cur,e,fr,aR,h1,ah,aC,a8,bK,cU,cJ⟩:=h
   exact⟨b,cur,e,fr,aR,h1,ah,aC,a8,ax.dd d _ _ a6 bK,cU,cJ⟩
 | .agg ay,cs,S,a6,h=>by rw[ax]at h⊢;exact bc.dd ay _ _ a6 h
 | .tuple ay,cs,S,a6,h=>by rw[ax]at h⊢;exact bc.dd ay _ _ a6 h
 | .fn _ _,_,_,a6,h=>by simp[I.dd]at a6
 | .h _ _,_,_,_,h=>h
 | .au _ _,_,_,_,h=>h
 | .ae _ _,_,_,_,h=>h
 | .en _,_,_,_,h=>h
theorem bc.dd {w:World} {F b2:Nat→Prop}:∀(ds:List I) (cs:List Value) (S:Nat→Prop),I.hY ds=true→bc w F ds cs S→bc w b2 ds cs S
 |[],_,_,_,h=>h
 |d::ds,cs,S,a6,h=>by
  simp only[I.hY,Bool.and_eq_true]at a6
  rw[bc]at h⊢
  obtain⟨cB,cu,cq,dU,h1,ah,aC,a8,bK,cU⟩:=h
  exact⟨cB,cu,cq,dU,h1,ax.dd d _ _ a6.1 ah,bc.dd ds _ _ a6.2 aC,a8,bK,cU⟩
end
theorem Kx:∀(q:List Nat) (av d e:I),I.sub q av=some d→I.sub q (I.put q e av)=some e:=by
 intro q
 induction q with
 |nil=>intro av d e _;simp[I.put,I.sub]
 |cons k q ih=>
  intro av d e h
  cases av with
  |agg ay=>
   simp only[I.sub]at h
   split at h
   ·rename_i x aw
    have hk:k<ay.length:=(List.getElem?_eq_some_iff.1 aw).1
    simp only[I.put,aw,I.sub,List.getElem?_set_self hk]
    exact ih _ _ _ h
   ·cases h
  |tuple ay=>
   simp only[I.sub]at h
   split at h
   ·rename_i x aw
    have hk:k<ay.length:=(List.getElem?_eq_some_iff.1 aw).1
    simp only[I.put,aw,I.sub,List.getElem?_set_self hk]
    exact ih _ _ _ h
   ·cases h
  |an sz ay=>
   simp only[I.sub]at h
   split at h
   ·rename_i x aw
    have hk:k<ay.length:=(List.getElem?_eq_some_iff.1 aw).1
    simp only[I.put,aw,I.sub,List.getElem?_set_self hk]
    exact ih _ _ _ h
   ·cases h
  |bd x=>
   cases k with
   |zero=>simp only[I.sub]at h;simp only[I.put,I.sub];exact ih _ _ _ h
   |succ k=>simp[I.sub]at h
  |_=>simp[I.sub]at h
structure c2 where
 a:I
 g:Bool
 d:I
 o:I
def I.own:I→Bool
 | .an _ _=>true
 | .bd _=>true
 |_=>false
def I.gW:I→Bool
 | .an _ _=>true
 | .bd _=>true
 | .en _=>true
 | .agg ay=> !I.dX ay
 |_=>false
def rO (d o:I):Bool:=match d,o with
 | .agg a,.agg b=>I.eC a==I.eC b
 | .agg _,_=>false
 |_,.agg _=>false
 |_,_=>true
theorem rP {d:I} (h:d.gW=true):d.plain=false∧d.tree=true∧∀vs,d≠.tuple vs:=by
 cases d<;>simp[I.gW]at h<;>first|exact⟨rfl,rfl,fun vs e=>by cases e⟩|exact⟨by simp only[I.plain];exact h,rfl,fun vs e=>by cases e⟩
theorem Tq {d o:I} (h:d.gW=true) (cr:o.gW=true) (hl:rO d o=true):o.wd=d.wd∧(∀v,ei d v→ei o v)∧∀v,iO d.dq v→iO o v:=by
 cases d<;>simp[I.gW]at h<;>cases o<;>simp[I.gW]at cr<;>simp[rO]at hl<;>first
  |exact⟨rfl,fun _ h=>h,fun _ h=>h⟩
  |exact⟨by simp only[I.wd];exact hl.symm,fun _ h=>h,fun _ h=>h⟩
def c2.ok (s:ar) (p:c2):Prop:=
 if p.g then(match p.a with| .h x q=>I.sub q (s x)=some p.d∧p.d.gW=true∧(p.o= .hole∨(p.o.gW=true∧rO p.d p.o=true))|_=>False)
 else view s p.a=some p.d
def iS:List c2→Bool
 |[]=>true
 |p::r=>(r.all fun cX=> !(p.g||cX.g)||(p.a.ag.all fun u=> !cX.a.ag.contains u))&&iS r
def c2.take (s:ar) (p:c2):ar:=
 if p.g then(match p.a with| .h x q=>du (iu x s) x (I.put q p.d.dq (s x))|_=>s)else s
def c2.jc (s:ar) (p:c2):ar:=
 if p.g then(match p.a,p.o with|_,.hole=>s| .h x q,o=>du (lZ x s) x (I.put q o (s x))|_,_=>s)else s
def fo (s:ar) (ps:List c2):ar:=ps.foldl c2.take s
def h9 (s:ar) (ps:List c2):ar:=ps.foldl c2.jc s
section
variable {w0 w aG:World} {F0 X F Fc:Nat→Prop} {S:Nat→Nat→Prop} {s az:ar} {aA jI:Nat→Value}
def Tr (w:World) (F:Nat→Prop) (s1:ar) (aA:Nat→Value) (p:c2) (v:Value) (Sn:Nat→Prop):Prop:=
 ∃x q a0,p.a= .h x q∧I.sub q (s1 x)=some p.d.dq∧dB w q (s1 x) (cC (aA x)) none=some (p.d.dq,cC v,a0)∧(s1 x).ag=[]∧(q=[]→ei p.d (aA x))∧(q≠[]→(s1 x).tree=true)∧
  ei p.d v∧ax w F p.d (cC v) Sn
theorem Ts {p:c2} {x:Nat} (h:(s x).ag=[]) (au:p.g=true→x∉p.a.ag):c2.take s p x=s x:=by
 unfold c2.take
 split
 ·rename_i b9
  cases cE:p.a with
  |h y q=>
   have:x≠y:=by
    have:=au b9
    rw[cE]at this
    simpa [I.ag]using this
   simp only
   rw[jH _ _ this]
   exact x2 _ (by rw[h];simp)
  |_=>rfl
 ·rfl
theorem F7:∀{ps:List c2} {s:ar} {x:Nat},(s x).ag=[]→(∀p∈ps,p.g=true→x∉p.a.ag)→fo s ps x=s x:=by
 intro ps
 induction ps with
 |nil=>intros;rfl
 |cons p ps ih=>
  intro s x h au
  have e:=Ts (s:=s) (p:=p) h (au p (by simp))
  show fo (c2.take s p) ps x=s x
  rw[ih (by rw[e];exact h) (fun cX eW=>au cX (by simp[eW])),e]
theorem qR {d:I} (h:d.own=true):d.plain=false∧d.tree=true∧d.dq= .hole∧d.one=true∧d.wd=1∧(∀v,ei d v↔Value.gC v=true):=by
 cases d<;>simp[I.own]at h<;>exact⟨rfl,rfl,rfl,rfl,rfl,fun v=>Iff.rfl⟩
theorem Tt:∀(ps:List c2) (vs:List Value) (s:ar) (S:Nat→Nat→Prop),bQ w0 F0 X F S s aA w→ps.length=vs.length→
  (∀(i:Nat) (p:c2) (v:Value),ps[i]? =some p→vs[i]? =some v→p.a.plain=true∧aL w F s aA p.a v (fun _=>False)∧(p.g=true→p.ok s))→iS ps=true→
  ∃(Sn cq:Nat→Nat→Prop),bQ w0 F0 X F cq (fo s ps) aA w∧(∀u b,cq u b→S u b)∧
   (∀(i:Nat) (p:c2) (v:Value),ps[i]? =some p→vs[i]? =some v→p.g=true→Tr w F (fo s ps) aA p v (Sn i))∧
   (∀i b,Sn i b→∃p,ps[i]? =some p∧p.g=true)∧
   (∀i b,Sn i b→∃u,S u b)∧(∀i u b,Sn i b→¬cq u b)∧(∀i j b,i≠j→Sn i b→¬Sn j b)∧
   (∀(bp:I) (gG:Value) (aR:Nat→Prop),(∀p∈ps,p.g=true→∀u∈p.a.ag,u∉bp.ag)→aL w F s aA bp gG aR→aL w F (fo s ps) aA bp gG aR):=by
 intro ps
 induction ps with
 |nil=>
  intro vs s S h hl _ _
  exact⟨fun _ _=>False,S,h,fun _ _ h=>h,fun i p v au=>by simp at au,fun _ _ h=>h.elim,fun _ _ h=>h.elim,fun _ _ _ h=>h.elim,fun _ _ _ _ h=>h.elim,fun _ _ _ _ h=>h⟩
 |cons p ps ih=>
  intro vs s S h hl xW ll
  cases vs with
  |nil=>simp at hl
  |cons v vs=>
   simp only[List.length_cons,Nat.add_right_cancel_iff]at hl
   simp only[iS,Bool.and_eq_true,List.all_eq_true,Bool.or_eq_true,Bool.not_eq_true']at ll
   obtain⟨pb,ow⟩:=ll
   have vr:∀cX∈ps,(p.g=true∨cX.g=true)→∀u∈p.a.ag,u∉cX.a.ag:=by
    intro cX eW b9 u hu
    rcases pb cX eW with e|e
    ·rcases b9 with b9|b9<;>simp[b9]at e
    ·simpa using e u hu
   obtain⟨f1,f2,f3⟩:=xW 0 p v rfl rfl
   cases b9:p.g with
   |false=>
    have gT:c2.take s p=s:=by simp[c2.take,b9]
    obtain⟨Sn,cq,g1,g2,g3,g4,g5,g6,g7,g8⟩:=ih vs s S h hl (fun i cX gG au aM=>xW (i+1) cX gG (by simpa using au) (by simpa using aM)) ow
    have aS:fo s (p::ps)=fo s ps:=by show fo (c2.take s p) ps=_;rw[gT]
    rw[aS]
    refine⟨fun i=>match i with|0=>fun _=>False|i+1=>Sn i,cq,g1,g2,?_,?_,?_,?_,?_,fun bp gG aR aj=>g8 bp gG aR fun cX eW=>aj cX (by simp[eW])⟩
    ·intro i cX gG au aM h8
     cases i with
     |zero=>simp at au;subst au;rw[b9]at h8;cases h8
     |succ i=>exact g3 i cX gG (by simpa using au) (by simpa using aM) h8
    ·intro i b ae
     cases i with
     |zero=>exact ae.elim
     |succ i=>simpa using g4 i b ae
    ·intro i b ae
     cases i with
     |zero=>exact ae.elim
     |succ i=>exact g5 i b ae
    ·intro i u b ae
     cases i with
     |zero=>exact ae.elim
     |succ i=>exact g6 i u b ae
    ·intro i j b df ao b_
     cases i with
     |zero=>exact ao.elim
     |succ i=>
      cases j with
      |zero=>exact b_.elim
      |succ j=>exact g7 i j b (by omega) ao b_
   |true=>
    have fW:=f3 b9
    simp only[c2.ok,b9,if_true]at fW
    split at fW
    ·rename_i x q cE
     obtain⟨fy,x4,sL⟩:=fW
     obtain⟨nF,lo,pc⟩:=rP x4
     have rQ:c7 s p.a=some (p.d,du (iu x s) x (I.put q p.d.dq (s x))):=by
      rw[cE];simp only[c7,fy,nF];rfl
     obtain⟨cq,t1,t2,t3,Tu,t4,t5,t6,t7,t8,t9,t10,t11⟩:=oY h f1 f2 rQ
     have gT:c2.take s p=du (iu x s) x (I.put q p.d.dq (s x)):=by simp[c2.take,b9,cE]
     have mA:∀cX∈ps,x∉cX.a.ag:=fun cX eW=>vr cX eW (.inl b9) x (by rw[cE];simp[I.ag])
     have F8:c2.take s p x=I.put q p.d.dq (s x):=by rw[gT,l0]
     have Bj:(c2.take s p x).ag=[]:=by
      rw[F8];exact vp q _ _ _ fy (.inl nF) (fun _=>by cases aj:p.d<;>first|rfl|(rw[aj]at x4;simp[I.gW]at x4))
     obtain⟨Sn,dU,g1,g2,g3,g4,g5,g6,g7,g8⟩:=ih vs (c2.take s p) cq (by rw[gT];exact t1) hl (by
      intro i cX gG au aM
      obtain⟨b8,cy,e_⟩:=xW (i+1) cX gG (by simpa using au) (by simpa using aM)
      have hm:cX∈ps:=List.mem_of_getElem? au
      refine⟨b8,?_,?_⟩
      ·have:=t11 _ _ _ cy
       rw[cE]at this
       rw[gT]
       simp only[I.owner,kV]at this
       rwa [x2 _ (mA cX hm)]at this
      ·intro h8
       have:=e_ h8
       simp only[c2.ok,h8,if_true]at this⊢
       split at this
       ·rename_i y jQ s7
        have df:y≠x:=fun e=>mA cX hm (by rw[s7,e];simp[I.ag])
        rw[gT,jH _ _ df]
        have ba:=ig this.1 (.inl (rP this.2.1).1)
        simp only[iu,E7 ba]
        exact this
       ·exact this.elim) ow
     have aS:fo s (p::ps)=fo (c2.take s p) ps:=rfl
     have rR:fo (c2.take s p) ps x=I.put q p.d.dq (s x):=by
      rw[F7 Bj (fun cX eW _=>mA cX eW),F8]
     rw[aS]
     refine⟨fun i=>match i with|0=>Tu|i+1=>Sn i,dU,g1,fun u b ae=>t9 u b (g2 u b ae),?_,?_,?_,?_,?_,?_⟩
     rotate_left 5
     ·intro bp gG aR aj jd
      refine g8 bp gG aR (fun cX eW=>aj cX (by simp[eW])) ?_
      have:=t11 _ _ _ jd
      rw[cE]at this
      rw[gT]
      simp only[I.owner,kV]at this
      rwa [x2 _ (aj p (by simp) b9 x (by rw[cE];simp[I.ag]))]at this
     ·intro i cX gG au aM h8
      cases i with
      |zero=>
       simp at au aM;subst au aM
       have Bk:=f2
       rw[cE,aL]at Bk
       obtain⟨c3,a0,cB,cu,je⟩:=Bk _ fy nF
       refine⟨x,q,a0,cE,?_,?_,?_,?_,?_,t3,t4⟩
       ·rw[rR];exact Kx q _ _ _ fy
       ·rw[rR,cu];exact To w q _ _ _ _ _ _ _ fy (I.rz _) cB
       ·rw[rR,←F8];exact Bj
       ·intro c6;subst c6
        simp only[I.sub,Option.some.injEq]at fy
        have:=(aL.cV (by rw[fy];exact lo)).1 (h.dF x)
        rw[fy]at this
        exact this.1
       ·intro c6
        have ba:=ig fy (.inl nF)
        rw[rR]
        cases q with
        |nil=>exact(c6 rfl).elim
        |cons k q=>rcases rA k q p.d.dq (s x)with⟨ay,gs,aS,e⟩|⟨ay,gs,aS,e⟩|⟨sz,xs,ys,aS,e⟩|⟨y,z,aS,e⟩|e<;>rw[e]<;>first|rfl|exact ba
      |succ i=>exact g3 i cX gG (by simpa using au) (by simpa using aM) h8
     ·intro i b ae
      cases i with
      |zero=>exact⟨p,rfl,b9⟩
      |succ i=>simpa using g4 i b ae
     ·intro i b ae
      cases i with
      |zero=>exact t10 b ae
      |succ i=>obtain⟨u,hu⟩:=g5 i b ae;exact⟨u,t9 u b hu⟩
     ·intro i u b ae
      cases i with
      |zero=>exact fun hu=>t7 u b ae (g2 u b hu)
      |succ i=>exact g6 i u b ae
     ·intro i j b df ao b_
      cases i with
      |zero=>
       cases j with
       |zero=>exact df rfl
       |succ j=>obtain⟨u,hu⟩:=g5 j b b_;exact t7 u b ao hu
      |succ i=>
       cases j with
       |zero=>obtain⟨u,hu⟩:=g5 i b ao;exact t7 u b b_ hu
       |succ j=>exact g7 i j b (by omega) ao b_
    ·exact fW.elim
end
def fI (l:List I):ar:=fun i=>l.getD i .hole
def hs (l:List Value):Nat→Value:=fun i=>l.getD i undef
def ox (P:Program) (f:FuncId) (args:Array Value) (w:World) (nc:Value→World→Prop):Prop:=
 ((callFunc f args).run P w= .ok (.enter f args) w∧Calls P f args w (fun e aG=>∃v,e= .returned v∧nc v aG))∨
 ∃v aG,(callFunc f args).run P w= .ok (.value v) aG∧nc v aG
theorem ox.mono {P:Program} {f:FuncId} {args:Array Value} {w:World} {nc Ky:Value→World→Prop} (h:ox P f args w nc) (aX:∀v aG,nc v aG→Ky v aG):ox P f args w Ky:=by
 rcases h with⟨h1,ah⟩|⟨v,aG,h1,ah⟩
 ·exact .inl ⟨h1,Calls.mono ah fun e aG ⟨v,e,h⟩=>⟨v,e,aX v aG h⟩⟩
 ·exact .inr ⟨v,aG,h1,aX v aG ah⟩
def bl (C:cw) (f:FuncId) (as:List I) (r:I) (outs:List I):Prop:=
 ∀(w:World) (F X:Nat→Prop) (S:Nat→Nat→Prop) (vs:List Value),vs.length=as.length→bQ w F X F S (fI as) (hs vs) w→
  ox C.P f vs.toArray w fun v aG=>∃b2 aR,bQ w F X b2 aR (fI (r::outs)) (hs (v::vs)) aG
def I.res:I→Bool
 | .h _ _=>false
 | .au _ _=>false
 | .ae _ _=>false
 | .fn _ _=>false
 |_=>true
theorem F9 {d:I} (h:d.tree=true):d.ag=[]:=by cases d<;>first|rfl|(simp[I.tree]at h)
mutual
theorem F_ {s az:ar}:∀(a:I) (d:I),(∀u∈a.ag,(s u).tree=true→az u=s u)→view s a=some d→view az a=some d
 | .h x q,d,hu,h=>by
   have ba:(s x).tree=true:=by
    simp only[view]at h
    split at h
    ·rename_i e fy
     cases e<;>simp only at h<;>first
      |(cases h;done)
      |(split at h
        ·cases h
        ·rename_i au
         exact ig fy (.inl (by simpa using au)))
    ·cases h
   simp only[view]at h⊢
   rw[hu x (by simp[I.ag]) ba];exact h
 | .au x q,d,hu,h=>by
   have ba:(s x).tree=true:=by
    simp only[view]at h
    split at h
    ·rename_i aq
     split at h
     ·rename_i e fy;exact ig fy (.inr aq)
     ·cases h
    ·cases h
   simp only[view]at h⊢
   rw[hu x (by simp[I.ag]) ba];exact h
 | .ae x q,d,hu,h=>by simp[view]at h
 | .fn f cap,d,hu,h=>by
   simp only[view,Option.map_eq_some_iff]at h⊢
   obtain⟨ds,h1,ah⟩:=h
   exact⟨ds,Kz cap ds (by simpa [I.ag]using hu) h1,ah⟩
 | .hole,d,hu,h=>h
 | .bool _,d,hu,h=>h
 | .fb,d,hu,h=>h
 | .int _ _,d,hu,h=>h
 | .str _,d,hu,h=>h
 | .dI,d,hu,h=>h
 | .bk,d,hu,h=>h
 | .slice _,d,hu,h=>h
 | .an _ _,d,hu,h=>h
 | .ref _,d,hu,h=>h
 | .bd _,d,hu,h=>h
 | .agg _,d,hu,h=>h
 | .tuple _,d,hu,h=>h
 | .en _,d,hu,h=>h
theorem Kz {s az:ar}:∀(as:List I) (ds:List I),(∀u∈I.er as,(s u).tree=true→az u=s u)→views s as=some ds→views az as=some ds
 |[],ds,hu,h=>h
 |a::as,ds,hu,h=>by
  simp only[I.er,List.mem_append]at hu
  simp only[views]at h⊢
  split at h
  ·rename_i x y h1 ah
   rw[F_ a x (fun u hm=>hu u (.inl hm)) h1,Kz as y (fun u hm=>hu u (.inr hm)) ah];exact h
  ·cases h
end
section
variable {C:cw} {w0 w aG:World} {F0 X F Fc:Nat→Prop} {S:Nat→Nat→Prop} {s az:ar} {aA jI:Nat→Value}
def Tv (w:World) (F:Nat→Prop) (s:ar) (aA:Nat→Value) (p:c2) (v:Value) (So:Nat→Prop):Prop:=
 p.g=true→p.o= .hole∨∃x q a0 d0,p.a= .h x q∧I.sub q (s x)=some d0∧dB w q (s x) (cC (aA x)) none=some (d0,cC v,a0)∧(s x).ag=[]∧
  (q=[]→ei p.o (aA x))∧(q≠[]→(s x).tree=true)∧p.o.gW=true∧ax w F p.o (cC v) So∧p.o.wd=d0.wd∧∀v,iO d0 v→iO p.o v
theorem Tw:∀(ps:List c2) (vs:List Value) (s:ar) (S So:Nat→Nat→Prop),bQ w0 F0 X F S s aA w→ps.length=vs.length→
  (∀(i:Nat) (p:c2) (v:Value),ps[i]? =some p→vs[i]? =some v→Tv w F s aA p v (So i))→
  (∀i b,So i b→b<w.heap.size∧¬F b∧(X b∨w0.heap.size≤b)∧∀u,¬S u b)→(∀i j b,i≠j→So i b→¬So j b)→iS ps=true→
  ∃dU,bQ w0 F0 X F dU (h9 s ps) aA w∧∀u b,dU u b→S u b∨∃i,So i b:=by
 intro ps
 induction ps with
 |nil=>intro vs s S So h _ _ _ _ _;exact⟨S,h,fun u b ae=>.inl ae⟩
 |cons p ps ih=>
  intro vs s S So h hl Ga ae aj ll
  cases vs with
  |nil=>simp at hl
  |cons v vs=>
   simp only[List.length_cons,Nat.add_right_cancel_iff]at hl
   simp only[iS,Bool.and_eq_true,List.all_eq_true,Bool.or_eq_true,Bool.not_eq_true']at ll
   obtain⟨pb,ow⟩:=ll
   have vr:∀cX∈ps,(p.g=true∨cX.g=true)→∀u∈p.a.ag,u∉cX.a.ag:=by
    intro cX eW b9 u hu
    rcases pb cX eW with e|e
    ·rcases b9 with b9|b9<;>simp[b9]at e
    ·simpa using e u hu
   have skip:c2.jc s p=s→∃dU,bQ w0 F0 X F dU (h9 s (p::ps)) aA w∧∀u b,dU u b→S u b∨∃i,So i b:=by
    intro gT
    obtain⟨dU,g1,g2⟩:=ih vs s S (fun i=>So (i+1)) h hl (fun i cX gG au aM=>Ga (i+1) cX gG (by simpa using au) (by simpa using aM)) (fun i b h=>ae (i+1) b h)
     (fun i j b df=>aj (i+1) (j+1) b (by omega)) ow
    refine⟨dU,?_,fun u b hu=>(g2 u b hu).imp id fun⟨i,ao⟩=>⟨i+1,ao⟩⟩
    show bQ _ _ _ _ _ (h9 (c2.jc s p) ps) _ _
    rw[gT];exact g1
   cases b9:p.g with
   |false=>exact skip (by simp[c2.jc,b9])
   |true=>
    rcases Ga 0 p v rfl rfl b9 with cr|⟨x,q,a0,d0,cE,cB,cu,je,mX,s8,Gb,Tx,Gc,Gd⟩
    ·exact skip (by simp only[c2.jc,b9,cr,if_true])
    ·obtain⟨nF,lo,rS⟩:=rP Gb
     have gT:c2.jc s p=du (lZ x s) x (I.put q p.o (s x)):=by
      simp only[c2.jc,b9,if_true,cE]
      cases Ty:p.o<;>first|rfl|(rw[Ty]at Gb;simp[I.gW]at Gb)
     have step:=h.jc (x:=x) (q:=q) (bp:=p.o) cB cu rS (fun c6=>⟨lo,mX c6⟩) (fun k r c6=>⟨s8 (by rw[c6];simp),Gd⟩) Gc Tx
      (fun b h=>(ae 0 b h).1) (fun b h=>(ae 0 b h).2.1) (fun u b h=>(ae 0 b h).2.2.2 u) (fun b h=>(ae 0 b h).2.2.1)
     rw[←gT]at step
     obtain⟨dU,g1,g2⟩:=ih vs (c2.jc s p) _ (fun i=>So (i+1)) step hl (by
      intro i cX gG au aM h8
      have hm:cX∈ps:=List.mem_of_getElem? au
      rcases Ga (i+1) cX gG (by simpa using au) (by simpa using aM) h8 with cr|⟨y,jQ,R,d1,b8,cy,e_,ed,fF,dr,jb,fV,mx⟩
      ·exact .inl cr
      ·have df:y≠x:=fun e=>vr cX hm (.inl b9) x (by rw[cE];simp[I.ag]) (by rw[b8,e];simp[I.ag])
       have nA:c2.jc s p y=s y:=by
        rw[gT,jH _ _ df]
        exact FU _ (by rw[ed];simp)
       exact .inr ⟨y,jQ,R,d1,b8,by rw[nA];exact cy,by rw[nA];exact e_,by rw[nA];exact ed,fF,by rw[nA];exact dr,jb,fV,mx⟩)
      (by
       intro i b ao
       obtain⟨kW,iP,lJ,b4⟩:=ae (i+1) b ao
       refine⟨kW,iP,lJ,fun u hu=> ?_⟩
       simp only[f_]at hu
       split at hu
       ·rcases hu with hu|hu
        ·exact b4 _ hu
        ·exact aj 0 (i+1) b (by omega) hu ao
       ·exact b4 _ hu)
      (fun i j b df=>aj (i+1) (j+1) b (by omega)) ow
     refine⟨dU,g1,fun u b hu=> ?_⟩
     rcases g2 u b hu with hu|⟨i,ao⟩
     ·simp only[f_]at hu
      split at hu
      ·rename_i e;subst e
       exact hu.imp id fun h=>⟨0,h⟩
      ·exact .inl hu
     ·exact .inr ⟨i+1,ao⟩
def kj (ps:List c2):Bool:=ps.any fun p=> !p.g&& !p.a.ag.isEmpty
theorem KA (h:bQ w0 F0 X F S s aA w) {ps:List c2} {vs:List Value} {f:FuncId} {r:I} (hl:ps.length=vs.length)
  (jd:∀(i:Nat) (p:c2) (v:Value),ps[i]? =some p→vs[i]? =some v→p.a.plain=true∧aL w F s aA p.a v (fun _=>False))
  (fW:∀p∈ps,p.ok s) (ll:iS ps=true) (bC:∀(Fc mB:Nat→Prop) (eF:Nat→Nat→Prop),(∀b,F b→Fc b)→(∀b,mB b→∃u,S u b)→bQ w Fc mB Fc eF (fI (ps.map (·.d))) (hs vs) w→
   ox C.P f vs.toArray w fun v aG=>∃b2 aR,bQ w Fc mB b2 aR (fI (r::ps.map (·.o))) (hs (v::vs)) aG) (aX:r.res=true)
  (a6:kj ps=true→r.dd=true∧∀p∈ps,p.o.dd=true):
  ox C.P f vs.toArray w fun v aG=>∃b2 aR,bQ w0 F0 X b2 aR (h9 (fo s ps) ps) aA aG∧lF w0 X b2 aR (h9 (fo s ps) ps) aA aG r v∧∀b,F b→b2 b∧aG.heap[b]? =w.heap[b]? :=by
 obtain⟨Sn,cq,g1,g2,g3,g4,g5,g6,g7,g8⟩:=Tt ps vs s S h hl (fun i p v au aM=>⟨(jd i p v au aM).1,(jd i p v au aM).2,fun _=>fW p (List.mem_of_getElem? au)⟩) ll
 have apart:∀(i j:Nat) (p cX:c2),ps[i]? =some p→ps[j]? =some cX→i≠j→(p.g=true∨cX.g=true)→∀u∈p.a.ag,u∉cX.a.ag:=by
  clear jd fW bC a6 g1 g3 g4 g8 hl
  induction ps with
  |nil=>intro i j p cX au;simp at au
  |cons h5 ps ih=>
   simp only[iS,Bool.and_eq_true,List.all_eq_true,Bool.or_eq_true,Bool.not_eq_true']at ll
   obtain⟨pb,ow⟩:=ll
   have vr:∀cX∈ps,(h5.g=true∨cX.g=true)→∀u∈h5.a.ag,u∉cX.a.ag:=by
    intro cX eW b9 u hu
    rcases pb cX eW with e|e
    ·rcases b9 with b9|b9<;>simp[b9]at e
    ·simpa using e u hu
   intro i j p cX au eW df b9 u hu
   cases i with
   |zero=>
    simp at au;subst au
    cases j with
    |zero=>exact(df rfl).elim
    |succ j=>exact vr cX (List.mem_of_getElem? (by simpa using eW)) b9 u hu
   |succ i=>
    cases j with
    |zero=>
     simp at eW;subst eW
     exact fun x5=>vr p (List.mem_of_getElem? (by simpa using au)) b9.symm u x5 hu
    |succ j=>exact ih ow i j p cX (by simpa using au) (by simpa using eW) (by omega) b9 u hu
 let Fc:Nat→Prop:=fun b=>F b∨(kj ps=true∧∃u,cq u b)
 let mB:Nat→Prop:=fun b=>∃i,Sn i b
 have Ge:∀b,F b→¬mB b:=fun b bI ⟨i,ao⟩=>by obtain⟨u,hu⟩:=g5 i b ao;exact h.fz u b hu bI
 have x6:∀u b,cq u b→¬mB b:=fun u b hu ⟨i,ao⟩=>g6 i u b ao hu
 have x7:∀b,mB b→(X b∨w0.heap.size≤b)∧b<w.heap.size:=fun b ⟨i,ao⟩=>by obtain⟨u,hu⟩:=g5 i b ao;exact⟨h.dZ u b hu,h.eD u b hu⟩
 have pre:bQ w Fc mB Fc Sn (fI (ps.map (·.d))) (hs vs) w:=by
  refine⟨fun _ h=>h,fun _ h=>.inl h,?_,fun i b ao=>(x7 b ⟨i,ao⟩).2,?_,fun i j b df=>g7 i j b df,fun i b ao=>.inl ⟨i,ao⟩,?_,fun _ _ _=>rfl,Nat.le_refl _,rfl,rfl,Out.refl _,h.hD.next h.size h.old fun b ae=>(x7 b ae).1⟩
  ·rintro b (ae|⟨_,u,hu⟩)
   ·exact h.fm b ae
   ·exact g1.eD u b hu
  ·rintro i b ao (ae|⟨_,u,hu⟩)
   ·exact Ge b ae ⟨i,ao⟩
   ·exact g6 i u b ao hu
  ·intro t
   cases au:ps[t]? with
   |none=>
    have:fI (ps.map (·.d)) t= .hole:=by simp[fI,List.getD,au]
    rw[this,aL];trivial
   |some p=>
    have e7:t<vs.length:=by rw[←hl];exact(List.getElem?_eq_some_iff.1 au).1
    have aM:vs[t]? =some vs[t]:=List.getElem?_eq_getElem e7
    have aS:fI (ps.map (·.d)) t=p.d:=by simp[fI,List.getD,au]
    have aZ:hs vs t=vs[t]:=by simp[hs,List.getD,aM]
    rw[aS,aZ]
    have hm:p∈ps:=List.mem_of_getElem? au
    have hk:=fW p hm
    cases b9:p.g with
    |true=>
     obtain⟨x,q,a0,b8,cy,e_,ed,fF,dr,jb,fV⟩:=g3 t p _ au aM b9
     simp only[c2.ok,b9,if_true,b8]at hk
     exact(aL.cV (rP hk.2.1).2.1).2 ⟨jb,ax.mono (fun b ae=>.inl ae) _ _ _ _ (fun _ h=>h) fV⟩
    |false=>
     simp only[c2.ok,b9]at hk
     obtain⟨f1,f2⟩:=jd t p _ au aM
     have KB:∀cX∈ps,cX.g=true→∀u∈cX.a.ag,u∉p.a.ag:=by
      intro cX eW h8 u hu
      obtain⟨j,b_⟩:=List.getElem?_of_mem eW
      refine apart j t cX p b_ au (fun e=> ?_) (.inl h8) u hu
      subst e;rw[au]at b_;simp only[Option.some.injEq]at b_;rw[b_,h8]at b9;cases b9
     have Bk:=g8 _ _ _ KB f2
     have lj:view (fo s ps) p.a=some p.d:=F_ _ _ (fun u hu ba=>F7 (F9 ba) (fun cX eW h8 x5=>KB cX eW h8 u x5 hu)) (by simpa using hk)
     refine aL.nothing (Tn f1 lj) ((Tp g1 (Fc:=Fc) (fun b ae=>.inl ae) (SizeOf.sizeOf p.a)).1 p.a _ p.d (Nat.le_refl _) ?_ lj Bk)
     intro u hu b ae
     refine .inr ⟨?_,u,ae⟩
     simp only[kj,List.any_eq_true]
     refine⟨p,hm,?_⟩
     cases kT:p.a.ag with
     |nil=>rw[kT]at hu;cases hu
     |cons _ _=>simp[b9]
 refine ox.mono (bC Fc mB Sn (fun b ae=>.inl ae) (fun b ⟨i,ao⟩=>g5 i b ao) pre) ?_
 rintro v aG ⟨b2,aR,aq⟩
 have keep:∀b,b<w.heap.size→¬mB b→aG.heap[b]? =w.heap[b]? :=aq.old
 let pd:Nat→Prop:=fun b=>if kj ps=true then F b else b2 b
 have KC:∀b,F b→b2 b:=fun b ae=>aq.ho b (.inl ae)
 have vt:∀b,F b→pd b:=fun b ae=>by
  simp only[pd];split
  ·exact ae
  ·exact KC b ae
 have s9:∀b,pd b→b2 b:=fun b ae=>by
  simp only[pd]at ae;split at ae
  ·exact KC b ae
  ·exact ae
 have KD:∀b,pd b→F b∨mB b∨w.heap.size≤b:=fun b ae=>by
  simp only[pd]at ae;split at ae
  ·exact .inl ae
  ·rename_i rJ
   rcases aq.hO b ae with(ae|⟨h1,_⟩)|ae|ae
   ·exact .inl ae
   ·exact(rJ h1).elim
   ·exact .inr (.inl ae)
   ·exact .inr (.inr ae)
 have mid:bQ w0 F0 X pd cq (fo s ps) aA aG:=by
  refine⟨fun b ae=>vt b (g1.ho b ae),?_,fun b ae=>aq.fm b (s9 b ae),fun t b ae=>Nat.lt_of_lt_of_le (g1.eD t b ae) aq.size,?_,g1.fs,g1.dZ,?_,?_,Nat.le_trans g1.size aq.size,aq.os.trans g1.os,aq.tape.trans g1.tape,aq.output.trans g1.output,g1.hD⟩
  ·intro b ae
   rcases KD b ae with ae|ae|ae
   ·exact g1.hO b ae
   ·rcases(x7 b ae).1 with h|h
    ·exact .inr (.inl h)
    ·exact .inr (.inr h)
   ·exact .inr (.inr (Nat.le_trans g1.size ae))
  ·intro t b ba ae
   rcases KD b ae with ae|ae|ae
   ·exact g1.fz t b ba ae
   ·exact x6 t b ba ae
   ·exact absurd (g1.eD t b ba) (by omega)
  ·intro t
   exact aL.frame (Sx:=cq) (fun b ae=>keep b (h.fm b ae) (Ge b ae)) vt (fun x b ae=>keep b (g1.eD x b ae) (x6 x b ae)) g1.dF _ _ _ (fun b ae=>keep b (g1.eD t b ae) (x6 t b ae)) (g1.dF t)
  ·intro b ae j2
   refine(keep b (Nat.lt_of_lt_of_le ae g1.size) fun aw=> ?_).trans (g1.old b ae j2)
   rcases(x7 b aw).1 with h|h
   ·exact j2 h
   ·omega
 have KE:∀(d:I) (cs:List Value) (dZ:Nat→Prop),(kj ps=true→d.dd=true)→ax aG b2 d cs dZ→ax aG pd d cs dZ:=by
  intro d cs dZ FJ gv
  by_cases hle:kj ps=true
  ·exact ax.dd d cs dZ (FJ hle) gv
  ·exact ax.mono (fun b ae=>by simp only[pd];rw[if_neg hle];exact ae) _ _ _ _ (fun _ h=>h) gv
 have bound:∀i b,aR i b→b<aG.heap.size∧¬pd b∧(X b∨w0.heap.size≤b)∧∀u,¬cq u b:=by
  intro i b ae
  refine⟨aq.eD i b ae,fun bI=>aq.fz i b ae (s9 b bI),?_,fun u hu=> ?_⟩
  ·rcases aq.dZ i b ae with aw|aw
   ·exact(x7 b aw).1
   ·exact .inr (Nat.le_trans g1.size aw)
  ·rcases aq.dZ i b ae with aw|aw
   ·exact x6 u b hu aw
   ·exact absurd (g1.eD u b hu) (by omega)
 obtain⟨dU,b8,cy⟩:=Tw ps vs (fo s ps) cq (fun i=>aR (i+1)) mid hl (by
  intro i p gG au aM b9
  have hm:p∈ps:=List.mem_of_getElem? au
  have hk:=fW p hm
  obtain⟨x,q,a0,aS,aZ,aQ,cF,cR,ch,b3,hq⟩:=g3 i p gG au aM b9
  simp only[c2.ok,b9,if_true,aS]at hk
  rcases hk.2.2 with cr|cr
  ·exact .inl cr
  ·obtain⟨gH,l2,x8⟩:=Tq hk.2.1 cr.1 cr.2
   refine .inr ⟨x,q,a0,p.d.dq,aS,aZ,?_,cF,fun c6=>l2 _ (cR c6),ch,cr.1,?_,gH.trans (I.rz _).symm,x8⟩
   ·cases q with
    |nil=>simpa only[dB]using aQ
    |cons k q=>
     have ba:=ch (by simp)
     rw[AQ (k::q) _ _ (cq x) none _ ((aL.cV ba).1 (g1.dF x)).2 aZ (fun b ae=>keep b (g1.eD x b ae) (x6 x b ae))]
     exact aQ
   ·have:=aq.dF (i+1)
    have lh:fI (r::ps.map (·.o)) (i+1)=p.o:=by simp[fI,List.getD,au]
    have mu:hs (v::vs) (i+1)=gG:=by simp[hs,List.getD,aM]
    rw[lh,mu]at this
    exact KE _ _ _ (fun hle=>(a6 hle).2 p hm) ((aL.cV (rP cr.1).2.1).1 this).2)
  (fun i b ae=>bound (i+1) b ae) (fun i j b df=>aq.fs (i+1) (j+1) b (by omega)) ll
 refine⟨pd,dU,b8,?_,fun b ae=>⟨vt b ae,keep b (h.fm b ae) (Ge b ae)⟩⟩
 have bf:=aq.dF 0
 have lh:fI (r::ps.map (·.o)) 0=r:=rfl
 have mu:hs (v::vs) 0=v:=rfl
 rw[lh,mu]at bf
 cases ba:r.tree with
 |false=>
  cases r<;>first
   |(simp[I.tree]at ba;done)
   |(simp[I.res]at aX;done)
   |exact .inl ⟨rfl,by rw[aL];trivial⟩
 |true=>
  obtain⟨s1,s2⟩:=(aL.cV ba).1 bf
  have e4:=KE _ _ _ (fun hle=>(a6 hle).1) s2
  refine .inr ⟨ba,s1,aR 0,e4,fun b ae=>(bound 0 b ae).1,fun b ae=>(bound 0 b ae).2.1,fun u b ae hu=> ?_,fun b ae=>(bound 0 b ae).2.2.1⟩
  rcases cy u b hu with hu|⟨i,ao⟩
  ·exact(bound 0 b ae).2.2.2 u hu
  ·exact aq.fs 0 (i+1) b (by omega) ae ao
theorem Tz (h:bQ w0 F0 X F S s aA w) {ps:List c2} {vs:List Value} {f:FuncId} {r:I} (hl:ps.length=vs.length)
  (jd:∀(i:Nat) (p:c2) (v:Value),ps[i]? =some p→vs[i]? =some v→p.a.plain=true∧aL w F s aA p.a v (fun _=>False))
  (fW:∀p∈ps,p.ok s) (ll:iS ps=true) (bC:bl C f (ps.map (·.d)) r (ps.map (·.o))) (aX:r.res=true)
  (a6:kj ps=true→r.dd=true∧∀p∈ps,p.o.dd=true):
  ox C.P f vs.toArray w fun v aG=>∃b2 aR,bQ w0 F0 X b2 aR (h9 (fo s ps) ps) aA aG∧lF w0 X b2 aR (h9 (fo s ps) ps) aA aG r v∧∀b,F b→b2 b∧aG.heap[b]? =w.heap[b]? :=
 KA h hl jd fW ll (fun Fc mB eF _ _ au=>bC w Fc mB eF vs (by simp[hl]) au) aX a6
end
structure cj where
 dst:Option Nat
 b0:gb
 guard:Option (Nat×Bool)
def x9 (ops:Array Oper):Option (Nat×Bool)→Option (Option (Nat×Bool))
 |none=>some none
 |some (j,b)=>match(ops[j]?).bind (·.dst)with
  |some t=>some (some (t,b))
  |none=>none
structure Fr where
 n:Nat
 fx:List Nat
def lL (n:Fr):Option Nat→Bool
 |none=>true
 |some t=>decide (t<n.n)&& !n.fx.contains t
def pe (op:Op):gb:=match cK op with
 |some b0=>b0
 |none=>.bad
def p5 (n:Fr) (ops:Array Oper) (o:Oper):Option cj:=
 if lL n o.dst=true then match x9 ops o.guard with
  |some g=>some ⟨o.dst,pe o.op,g⟩
  |none=>none
 else none
def p6 (n:Fr) (ops:Array Oper):List Oper→Option (List cj)
 |[]=>some []
 |o::os=>match p5 n ops o,p6 n ops os with
  |some r,some rs=>some (r::rs)
  |_,_=>none
def Bl (C:cw) (s:ar) (f:aK) (args:List aK) (K:I→ar→Prop):Prop:=
 ∃(g:FuncId) (caps:List I) (ps:List c2) (r:I),aN s f= .fn g caps∧I.dX caps=true∧ps.map (·.a)=args.map (aN s)++caps∧(∀p∈ps,p.ok s)∧iS ps=true∧
   bl C g (ps.map (·.d)) r (ps.map (·.o))∧r.res=true∧(kj ps=true→r.dd=true∧∀p∈ps,p.o.dd=true)∧K r (h9 (fo s ps) ps)
mutual
def I.fX (s:ar):I→Bool
 | .h x q=>q.isEmpty&&(s x).own
 | .ae x _=> !(s x).plain
 | .au _ _=>false
 | .hole=>true
 | .fn _ cap=>I.oy s cap
 |d=>d.plain
def I.oy (s:ar):List I→Bool
 |[]=>true
 |d::ds=>d.fX s&&I.oy s ds
end
def nd (s:ar):List (Nat×I)→ar
 |[]=>s
 |p::L=>nd (du s p.1 p.2) L
def lM (s:ar):List (Nat×I)→Bool
 |[]=>true
 |p::L=>p.2.fX s&&lM s L
def jL (s:ar) (us:List Nat):List (Nat×I):=us.map fun u=>(u,s u)
def oz (C:cw) (s:ar) (b0:gb) (K:I→ar→Prop):Prop:=
 match b0 with
 | .call f args=>∃(g:FuncId) (caps:List I) (ps:List c2) (r:I),aN s f= .fn g caps∧I.dX caps=true∧ps.map (·.a)=args.map (aN s)++caps∧(∀p∈ps,p.ok s)∧iS ps=true∧
   bl C g (ps.map (·.d)) r (ps.map (·.o))∧r.res=true∧(kj ps=true→r.dd=true∧∀p∈ps,p.o.dd=true)∧K r (h9 (fo s ps) ps)
 | .shr b0=>∃av s1,bR C s b0=some (av,s1)∧av.tree=true∧(∀vs,av≠.tuple vs)∧K av.share s1
 | .mZ f args u x=>s u= .h x []∧(s x).own=true∧Bl C s f args fun av s1=>s1 u= .hole∧(s1 x).own=true∧K av (du s1 u (.h x []))
 | .ky f args us=>lM s (jL s us)=true∧Bl C s f args fun av s1=>lM s1 (jL s us)=true∧K av (nd s1 (jL s us))
 |b0=>∃av s1,bR C s b0=some (av,s1)∧K av s1
theorem Bm {C:cw} {s:ar} {b0:gb} {K dM:I→ar→Prop} (h:oz C s b0 K) (hk:∀av s,K av s→dM av s):oz C s b0 dM:=by
 cases b0 with
 |call f args=>
  obtain⟨g,caps,ps,r,h1,gI,ah,aC,a8,bK,cU,cJ,fw⟩:=h
  exact⟨g,caps,ps,r,h1,gI,ah,aC,a8,bK,cU,cJ,hk _ _ fw⟩
 |shr b0=>
  obtain⟨av,s1,h1,ah,aC,a8⟩:=h
  exact⟨av,s1,h1,ah,aC,hk _ _ a8⟩
 |mZ f args u x=>
  obtain⟨b8,cy,g,caps,ps,r,h1,gI,ah,aC,a8,bK,cU,cJ,fw,hR,h3⟩:=h
  exact⟨b8,cy,g,caps,ps,r,h1,gI,ah,aC,a8,bK,cU,cJ,fw,hR,hk _ _ h3⟩
 |ky f args us=>
  obtain⟨cy,g,caps,ps,r,h1,gI,ah,aC,a8,bK,cU,cJ,fw,hR⟩:=h
  exact⟨cy,g,caps,ps,r,h1,gI,ah,aC,a8,bK,cU,cJ,fw,hk _ _ hR⟩
 |_=>
  obtain⟨av,s1,h1,ah⟩:=h
  exact⟨av,s1,h1,hk _ _ ah⟩
def l7 (C:cw) (s:ar) (o:cj) (K:ar→Prop):Prop:=
 match o.guard with
 |none=>oz C s o.b0 fun av s1=>K (fin s1 o.dst av)
 |some (t,b)=>match s t with
  | .bool fZ=>if fZ=b then oz C s o.b0 (fun av s1=>K (fin s1 o.dst av))else K (fin s o.dst (.tuple []))
  | .tuple []=>K (fin s o.dst (.tuple []))
  |_=>False
def lN (C:cw) (s:ar):List cj→(ar→Prop)→Prop
 |[],K=>K s
 |o::os,K=>l7 C s o fun s1=>lN C s1 os K
def kk (C:cw) (ros:List cj) (s:ar):List Nat→(ar→Prop)→Prop
 |[],K=>K s
 |i::l,K=>match ros[i]? with
  |none=>kk C ros s l K
  |some o=>l7 C s o fun s1=>kk C ros s1 l K
theorem TA (C:cw) (K:ar→Prop):∀(rs pre:List cj) (s:ar),lN C s rs K→kk C (pre++rs) s ((List.range rs.length).map (·+pre.length)) K:=by
 intro rs
 induction rs with
 |nil=>intro pre s h;exact h
 |cons r rs ih=>
  intro pre s h
  rw[List.length_cons,List.range_succ_eq_map,List.map_cons,List.map_map]
  simp only[kk,Nat.zero_add]
  rw[List.getElem?_append_right (Nat.le_refl _)]
  simp only[Nat.sub_self,List.getElem?_cons_zero]
  have key:∀s1,lN C s1 rs K→kk C (pre++r::rs) s1 ((List.range rs.length).map ((fun x=>x+pre.length)∘Nat.succ)) K:=by
   intro s1 h1
   have:=ih (pre++[r]) s1 h1
   simp only[List.append_assoc,List.singleton_append,List.length_append,List.length_singleton]at this
   have e:((fun x=>x+pre.length)∘Nat.succ)=fun x=>x+(pre.length+1):=by funext x;simp;omega
   rw[e];exact this
  simp only[lN]at h
  unfold l7 at h⊢
  split
  ·rename_i b9;rw[b9]at h;exact Bm h fun av s1=>key _
  ·rename_i t b b9
   rw[b9]at h
   simp only at h
   split
   ·rename_i fZ ag
    rw[ag]at h
    simp only at h
    split
    ·rename_i ae;rw[if_pos ae]at h;exact Bm h fun av s1=>key _
    ·rename_i ae;rw[if_neg ae]at h;exact key _ h
   ·rename_i ag;rw[ag]at h;exact key _ h
   ·rename_i h1 ah
    split at h
    ·exact h1 _ (by assumption)
    ·exact ah (by assumption)
    ·exact h
structure Rel (w0:World) (F0 X:Nat→Prop) (n:Fr) (ρ:Nat→Value) (s:ar) (a:Act) (w:World):Prop where
 defers:a.defers=[]
 size:a.tmps.size=n.n
 fixed:∀i∈n.fx,a.tmps.getD i undef=ρ i
 rel:∃F S,bQ w0 F0 X F S s (fun t=>a.tmps.getD t undef) w
section
variable {C:cw} {w0 w:World} {F0 X:Nat→Prop} {n:Fr} {ρ:Nat→Value} {s s1:ar} {a:Act} {av:I} {Q:Exit→Act→World→Prop}
theorem x_ {dst:Option Nat} (v:Value) (ag:a.tmps.size=n.n) (aj:lL n dst=true):
  (fun t=>(a.put dst v).tmps.getD t undef)=nz (fun t=>a.tmps.getD t undef) dst v∧(a.put dst v).tmps.size=n.n∧(a.put dst v).defers=a.defers:=by
 cases dst with
 |none=>exact⟨rfl,ag,rfl⟩
 |some d=>
  simp only[lL,Bool.and_eq_true,decide_eq_true_eq]at aj
  refine⟨?_,by simp[Act.put,ag],rfl⟩
  funext t
  simp only[Act.put,nz,du,Array.getD_eq_getD_getElem?]
  by_cases h:t=d
  ·subst h
   rw[if_pos rfl,Array.getElem?_setIfInBounds_self_of_lt (by omega)];rfl
  ·rw[if_neg h,Array.getElem?_setIfInBounds_ne (fun e=>h e.symm)]
theorem Rel.put {F S} (aj:a.defers=[]) (ag:a.tmps.size=n.n) (bC:∀i∈n.fx,a.tmps.getD i undef=ρ i) {aG:World} (aX:bQ w0 F0 X F S s (fun t=>a.tmps.getD t undef) aG) {v:Value} (aM:lF w0 X F S s (fun t=>a.tmps.getD t undef) aG av v)
  {dst:Option Nat} (fW:lL n dst=true):Rel w0 F0 X n ρ (fin s dst av) (a.put dst v) aG:=by
 obtain⟨aS,aZ,aQ⟩:=x_ (n:=n) (dst:=dst) v ag fW
 obtain⟨aR,bL⟩:=aX.fin aM dst
 refine⟨aQ.trans aj,aZ,fun i ao=> ?_,F,aR,by rw[aS];exact bL⟩
 rw[congrFun aS i]
 cases dst with
 |none=>exact bC i ao
 |some d=>
  simp only[lL,Bool.and_eq_true,Bool.not_eq_true',List.contains_eq_mem,decide_eq_false_iff_not]at fW
  have df:i≠d:=fun e=>fW.2 (by rw[←e];exact ao)
  simp only[nz]
  rw[jH _ _ df]
  exact bC i ao
theorem Rel.skip (h:Rel w0 F0 X n ρ s a w) {dst:Option Nat} (fW:lL n dst=true):Rel w0 F0 X n ρ (fin s dst (.tuple [])) (a.put dst undef) w:=by
 obtain⟨aj,ag,bC,F,S,aX⟩:=h
 refine Rel.put (av:=.tuple []) aj ag bC aX (.inl ⟨rfl,(aL.cV (d:=.tuple []) rfl).2 ⟨?_,?_⟩⟩) fW
 ·exact⟨#[],rfl,rfl,fun k d x hk=>by simp at hk⟩
 ·rw[ax,bc];rfl
theorem KF {F:Nat→Prop} {aA:Nat→Value} {w:World}:∀{ds es:List I} {vs us:List Value},eA w F s aA ds vs→eA w F s aA es us→eA w F s aA (ds++es) (vs++us):=by
 intro ds
 induction ds with
 |nil=>intro es vs us h1 ah;rw[eA]at h1;subst h1;exact ah
 |cons d ds ih=>
  intro es vs us h1 ah
  rw[eA]at h1
  obtain⟨v,j1,rfl,g1,g2⟩:=h1
  rw[List.cons_append,List.cons_append,eA]
  exact⟨v,_,rfl,g1,ih g2 ah⟩
theorem KG {F:Nat→Prop} {aA:Nat→Value} {w:World}:∀{ds:List I} {vs:List Value},eA w F s aA ds vs→ds.length=vs.length∧∀(i:Nat) (d:I) (v:Value),ds[i]? =some d→vs[i]? =some v→aL w F s aA d v (fun _=>False):=by
 intro ds
 induction ds with
 |nil=>intro vs h;rw[eA]at h;subst h;exact⟨rfl,fun i d v h=>by simp at h⟩
 |cons d ds ih=>
  intro vs h
  rw[eA]at h
  obtain⟨v,j1,rfl,g1,g2⟩:=h
  obtain⟨b8,cy⟩:=ih g2
  refine⟨by simp[b8],fun i bp gG aj aM=> ?_⟩
  cases i with
  |zero=>simp at aj aM;subst aj aM;exact g1
  |succ i=>exact cy i bp gG (by simpa using aj) (by simpa using aM)
theorem nG {op:Op} {b0:gb} (h:pe op=b0):b0= .bad∨cK op=some b0:=by
 unfold pe at h
 split at h
 ·subst h;right;assumption
 ·exact .inl h.symm
theorem TB {op:Op} {b0:gb}:cK op≠some (.shr b0):=by
 intro h
 unfold cK at h
 split at h<;>(try split at h)<;>(try split at h)<;>(try split at h)<;>(try simp[Option.map_eq_some_iff]at h)
theorem TC {op:Op} {f:aK} {args:List aK} {u x:Nat}:cK op≠some (.mZ f args u x):=by
 intro h
 unfold cK at h
 split at h<;>(try split at h)<;>(try split at h)<;>(try split at h)<;>(try simp[Option.map_eq_some_iff]at h)
theorem TD {op:Op} {f:aK} {args:List aK} {us:List Nat}:cK op≠some (.ky f args us):=by
 intro h
 unfold cK at h
 split at h<;>(try split at h)<;>(try split at h)<;>(try split at h)<;>(try simp[Option.map_eq_some_iff]at h)
theorem TE {op:Op} {T:TypeId} {x:aK}:cK op≠some (.j4 T x):=by
 intro h
 unfold cK at h
 split at h<;>(try split at h)<;>(try split at h)<;>(try split at h)<;>(try simp[Option.map_eq_some_iff]at h)
theorem TF {op:Op} {x:aK}:cK op≠some (.rN x):=by
 intro h
 unfold cK at h
 split at h<;>(try split at h)<;>(try split at h)<;>(try split at h)<;>(try simp[Option.map_eq_some_iff]at h)
theorem TG {op:Op} {x:aK}:cK op≠some (.qO x):=by
 intro h
 unfold cK at h
 split at h<;>(try split at h)<;>(try split at h)<;>(try split at h)<;>(try simp[Option.map_eq_some_iff]at h)
theorem TH {op:Op} {x:aK} (h:cK op=some (.ct x)):∃cz,op= .move cz∧dO cz=some x:=by
 unfold cK at h
 split at h<;>(try split at h)<;>(try split at h)<;>(try split at h)<;>(try simp[Option.map_eq_some_iff]at h)
 exact⟨_,rfl,h⟩
theorem TI {op:Op} {x:aK} (h:cK op=some (.iR x)):∃cz,op= .assign cz∧dO cz=some x:=by
 unfold cK at h
 split at h<;>(try split at h)<;>(try split at h)<;>(try split at h)<;>(try simp[Option.map_eq_some_iff]at h)
 exact⟨_,rfl,h⟩
theorem TJ {op:Op} {T bZ:TypeId} {x y:aK}:cK op≠some (.oq T bZ x y):=by
 intro h
 unfold cK at h
 split at h<;>(try split at h)<;>(try split at h)<;>(try split at h)<;>(try simp[Option.map_eq_some_iff]at h)
theorem TK {op:Op} {T bZ:TypeId} {x y:aK} (h:cK op=some (.app T bZ x y)):∃a b,op= .call ⟨.builtin .append,#[a,b],#[T,bZ]⟩∧dO a=some x∧dO b=some y:=by
 cases op with
 |call c=>
  obtain⟨callee,args,argTypes⟩:=c
  simp only[cK]at h
  split at h
  ·split at h<;>simp at h
  ·split at h<;>simp at h
  ·split at h<;>simp at h
  ·(split at h<;>try split at h)<;>simp at h
  ·(split at h<;>try split at h)<;>simp at h
  ·split at h
   ·rename_i a b ya Bi na s4
    split at h
    ·rename_i cz kU aw bt
     simp only[Option.some.injEq,gb.app.injEq]at h
     obtain⟨rfl,rfl,rfl,rfl⟩:=h
     refine⟨a,b,?_,aw,bt⟩
     have aS:args= #[a,b]:=by apply Array.ext';exact na
     have aZ:argTypes= #[ya,Bi]:=by apply Array.ext';exact s4
     subst aS aZ
     rfl
    ·cases h
   ·cases h
  ·cases h
 |makeFunc fn first cs=>
  cases fn<;>simp only[cK]at h<;>first|(cases h;done)|(split at h<;>simp at h)
 |slice T x dv ao hj=>
  cases hj<;>simp only[cK]at h<;>first|(cases h;done)|(split at h<;>simp at h)
 |makeMap T r=>cases r<;>simp only[cK]at h<;>simp at h
 |lookup T x i c=>cases c<;>simp only[cK]at h<;>first|(cases h;done)|(split at h<;>simp at h)
 |_=>simp only[cK]at h<;>first|(cases h;done)|(simp at h;done)|(split at h<;>simp at h)
theorem bQ.alias {F:Nat→Prop} {S:Nat→Nat→Prop} {aA:Nat→Value} {u x:Nat} (h:bQ w0 F0 X F S s aA w) (hu:s u= .hole) (aw:(s x).own=true) (aM:cC (aA u)=cC (aA x)) (h1:Value.gC (aA u)=true):
  bQ w0 F0 X F (f_ S u (fun _=>False)) (du s u (.h x [])) aA w:=by
 have eE:du aA u (aA u)=aA:=by funext y;simp only[du];split<;>simp_all
 have:=h.u_ (t:=u) (d:=.h x []) (v:=aA u) rfl (by
  rw[aL]
  intro d aj au
  simp only[I.sub,Option.some.injEq]at aj
  subst aj
  exact⟨cC (aA x),none,rfl,aM,((qR aw).2.2.2.2.2 _).2 h1⟩)
 rwa [eE]at this
theorem lF.less {F:Nat→Prop} {S aR:Nat→Nat→Prop} {aA:Nat→Value} {s1:ar} {v:Value} (b1:∀u b,aR u b→S u b) (aX:av.res=true) (h:lF w0 X F S s aA w av v):lF w0 X F aR s1 aA w av v:=by
 rcases h with⟨h1,ah⟩|⟨h1,ah,Sn,aC,a8,bK,cU,cJ⟩
 ·refine .inl ⟨h1,?_⟩
  cases av<;>first
   |(simp[I.res]at aX;done)
   |(rw[aL];trivial)
   |(rw[aL]at ah⊢;exact ah)
 ·exact .inr ⟨h1,ah,Sn,aC,a8,bK,fun u b ae hu=>cU u b ae (b1 u b hu),cJ⟩
theorem Gf (bu:C.Ok) (h:Rel w0 F0 X n ρ s a w) {o:Oper} {f:aK} {args:List aK} (cI:cK o.op=some (.call f args)) (aj:lL n o.dst=true) {K:I→ar→Prop} {L:ar→Prop} {next:Act→World→Prop}
  (hw:Bl C s f args K) (s_:∀F S b2 aR w aG av s1 v,bQ w0 F0 X F S s (fun t=>a.tmps.getD t undef) w→K av s1→av.res=true→bQ w0 F0 X b2 aR s1 (fun t=>a.tmps.getD t undef) aG→lF w0 X b2 aR s1 (fun t=>a.tmps.getD t undef) aG av v→(∀b,F b→b2 b∧aG.heap[b]? =w.heap[b]?)→
   ∃s2 dU,L (fin s2 o.dst av)∧bQ w0 F0 X b2 dU s2 (fun t=>a.tmps.getD t undef) aG∧lF w0 X b2 dU s2 (fun t=>a.tmps.getD t undef) aG av v)
  (a6:∀az c4 aG,L az→Rel w0 F0 X n ρ az c4 aG→next c4 aG):o.wp C.P a w next Q:=by
 have nH:=h
 obtain⟨iY,dR,hS,F,S,aX⟩:=h
 obtain⟨g,caps,ps,r,h1,gI,ah,aC,a8,bK,cU,cJ,fw⟩:=hw
 obtain⟨dst,op,ty,pos,after,guard⟩:=o
 simp only at cI aj s_
 cases op with
 |call c=>
  obtain⟨callee,nf,argTypes⟩:=c
  simp only[cK]at cI
  split at cI
  ·split at cI
   ·rename_i yb _ _ TL xs bC mA
    simp only[Option.some.injEq,gb.call.injEq]at cI
    obtain⟨rfl,rfl⟩:=cI
    obtain⟨f1,f2⟩:=fA aX (fun _=>rfl) bC
    rw[h1,aL]at f2
    obtain⟨arr,f3,f4⟩:=f2
    have ta:execOp a.eval {dst,op:=.call {callee:=.value yb,args:=nf,argTypes},type:=ty,pos,after,guard}=callFunc g ((nf.toList.map a.eval++arr.toList).toArray):=by
     have:a.eval yb= .func (.func g) #[] arr:=f3
     simp only[execOp,resolve,this,Deferred.ofValue,pure_bind,invoke]
     congr 1
     apply Array.ext';simp
    unfold Oper.wp
    rw[ta]
    have yc:eA w F s (fun t=>a.tmps.getD t undef) (xs.map (aN s)++caps) (nf.toList.map a.eval++arr.toList):=KF (Bg aX (fun _=>rfl) _ _ (s3 mA)) f4
    rw[←ah]at yc
    obtain⟨gH,l2⟩:=KG yc
    have gq:∀d∈xs.map (aN s)++caps,d.plain=true:=by
     intro d aj
     rcases List.mem_append.1 aj with aj|aj
     ·obtain⟨x,aw,rfl⟩:=List.mem_map.1 aj
      exact Jo s x fun av e=>by
       subst e
       have hm:=s3 mA
       have:some (aK.c av)∈xs.map some:=List.mem_map.2 ⟨_,aw,rfl⟩
       rw[←hm]at this
       obtain⟨o,_,cr⟩:=List.mem_map.1 this
       cases o with
       |const v=>simp only[dO,Option.map_eq_some_iff]at cr;obtain⟨c,aq,e⟩:=cr;cases e;exact Fb aq
       |tmp n=>simp[dO]at cr
       |func g=>simp[dO]at cr
       |global g=>simp[dO]at cr
     ·obtain⟨k,hk⟩:=List.getElem?_of_mem aj
      exact AP gI hk
    have vu:=Tz (C:=C) aX (ps:=ps) (vs:=nf.toList.map a.eval++arr.toList) (f:=g) (r:=r) (by simpa using gH)
     (fun i p v au aM=>⟨gq p.a (by rw[←ah];exact List.mem_map.2 ⟨p,List.mem_of_getElem? au,rfl⟩),l2 i p.a v (by simp[au]) aM⟩) aC a8 bK cU cJ
    rcases vu with⟨dw,bg⟩|⟨v,aG,dw,b2,aR,bg,di,cd⟩
    ·rw[dw,Oper.upon_enter]
     refine Calls.mono bg ?_
     rintro e aG ⟨v,rfl,b2,aR,b8,cy,e_⟩
     obtain⟨s2,dU,m1,m2,m3⟩:=s_ _ _ _ _ _ _ _ _ _ aX fw cU b8 cy e_
     exact a6 _ _ _ m1 (Rel.put iY dR hS m2 m3 aj)
    ·rw[dw,Oper.upon_value]
     obtain⟨s2,dU,m1,m2,m3⟩:=s_ _ _ _ _ _ _ _ _ _ aX fw cU bg di cd
     exact a6 _ _ _ m1 (Rel.put iY dR hS m2 m3 aj)
   ·cases cI
  ·split at cI
   ·simp only[Option.map_eq_some_iff]at cI;obtain⟨_,_,cI⟩:=cI;cases cI
   ·cases cI
  ·split at cI
   ·simp only[Option.map_eq_some_iff]at cI;obtain⟨_,_,cI⟩:=cI;cases cI
   ·cases cI
  iterate 3
   ·split at cI
    ·split at cI<;>cases cI
    ·cases cI
  ·cases cI
 |makeFunc fn first cs=>
  cases fn<;>simp only[cK]at cI<;>first|(cases cI;done)|(split at cI<;>simp at cI)
 |slice T x dv ao hj=>
  cases hj<;>simp only[cK]at cI<;>first|(cases cI;done)|(split at cI<;>simp at cI)
 |makeMap T r=>cases r<;>simp only[cK]at cI<;>simp at cI
 |lookup T x i c=>cases c<;>simp only[cK]at cI<;>first|(cases cI;done)|(split at cI<;>simp at cI)
 |_=>simp only[cK]at cI<;>first|(cases cI;done)|(simp at cI;done)|(split at cI<;>simp at cI)
theorem TM (bu:C.Ok) (h:Rel w0 F0 X n ρ s a w) {o:Oper} {b0:gb} (cI:cK o.op=some b0) (aj:lL n o.dst=true) {K:ar→Prop} {next:Act→World→Prop}
  (hw:oz C s b0 fun av s1=>K (fin s1 o.dst av)) (a6:∀az c4 aG,K az→Rel w0 F0 X n ρ az c4 aG→next c4 aG):o.wp C.P a w next Q:=by
 have nH:=h
 obtain⟨iY,dR,hS,F,S,aX⟩:=h
 have plain:∀av s1,bR C s b0=some (av,s1)→K (fin s1 o.dst av)→o.wp C.P a w next Q:=by
  intro av s1 he hk
  obtain⟨r,aG,v,b2,aR,h1,ah,aC,a8⟩:=Ke (a:=a) bu aX (fun _=>rfl) cI he
  unfold Oper.wp
  rw[h1]
  rcases ah with rfl|⟨rfl,rfl⟩
  ·exact a6 _ _ _ hk (Rel.put iY dR hS aC a8 aj)
  ·exact a6 _ _ _ hk (Rel.put iY dR hS aC a8 aj)
 cases b0 with
 |shr b0=>exact(TB cI).elim
 |oq T bZ x y=>exact(TJ cI).elim
 |call f args=>exact Gf bu ⟨iY,dR,hS,F,S,aX⟩ cI aj (K:=fun av s1=>K (fin s1 o.dst av)) hw (fun _ _ _ aR _ _ _ s1 _ _ ah _ aC a8 _=>⟨s1,aR,ah,aC,a8⟩) a6
 |mZ f args u x=>exact(TC cI).elim
 |ky f args L=>exact(TD cI).elim
 |j4 T x=>exact(TE cI).elim
 |rN x=>exact(TF cI).elim
 |qO x=>exact(TG cI).elim
 |_=>
  obtain⟨av,s1,he,hk⟩:=hw
  exact plain av s1 he hk
theorem lF.share {F:Nat→Prop} {S:Nat→Nat→Prop} {aA:Nat→Value} {v:Value} (h:bQ w0 F0 X F S s aA w) (aM:lF w0 X F S s aA w av v) (ba:av.tree=true) (a6:∀vs,av≠.tuple vs):
  ∃b2,bQ w0 F0 X b2 S s aA w∧lF w0 X b2 S s aA w av.share v:=by
 obtain⟨Sn,hd,gF,h7,iy,oe,tb⟩:∃Sn:Nat→Prop,ei av v∧ax w F av (cC v) Sn∧(∀b,Sn b→b<w.heap.size)∧(∀b,Sn b→¬F b)∧(∀u b,Sn b→¬S u b)∧(∀b,Sn b→X b∨w0.heap.size≤b):=by
  rcases aM with⟨h1,ah⟩|⟨_,ah,Sn,aC,a8,bK,cU,cJ⟩
  ·rw[aL.cV ba]at ah
   exact⟨fun _=>False,ah.1,ah.2,fun _ h=>h.elim,fun _ h=>h.elim,fun _ _ h=>h.elim,fun _ h=>h.elim⟩
  ·exact⟨Sn,ah,aC,a8,bK,cU,cJ⟩
 refine⟨fun b=>F b∨Sn b,?_,.inl ⟨F4 av,?_⟩⟩
 ·exact {
   ho:=fun b ae=>.inl (h.ho b ae)
   hO:=fun b ae=>by
    rcases ae with ae|ae
    ·exact h.hO b ae
    ·exact .inr (tb b ae)
   fm:=fun b ae=>ae.elim (h.fm b) (h7 b)
   eD:=h.eD
   fz:=fun t b ae bC=>bC.elim (h.fz t b ae) (fun ag=>oe t b ag ae)
   fs:=h.fs
   dZ:=h.dZ
   dF:=fun t=>aL.frame (fun _ _=>rfl) (fun b ae=>.inl ae) (fun _ _ _=>rfl) h.dF _ _ _ (fun _ _=>rfl) (h.dF t)
   old:=h.old
   size:=h.size
   os:=h.os
   tape:=h.tape
   output:=h.output
   hD:=h.hD}
 ·by_cases cr:∃o,av= .en o
  ·obtain⟨o,rfl⟩:=cr
   rw[I.share,aL];trivial
  have TN:av.share.tree=true:=by cases av<;>first|exact ba|rfl|exact(cr ⟨_,rfl⟩).elim
  rw[aL.cV TN]
  exact⟨F6 a6 hd,ax.shared (fun b ae=>.inl ae) av _ Sn (fun b ae=>.inr ae) gF⟩
theorem TO {op:Op} {T:TypeId} {x:aK} (h:cK op=some (.da T x)):∃a,op= .box T a∧dO a=some x:=by
 cases op with
 |box ya a=>
  simp only[cK,Option.map_eq_some_iff,gb.da.injEq]at h
  obtain⟨y,bt,rfl,rfl⟩:=h
  exact⟨a,rfl,bt⟩
 |_=>
  exfalso
  unfold cK at h
  split at h<;>(try split at h)<;>(try split at h)<;>(try split at h)<;>(try simp[Option.map_eq_some_iff]at h)<;>contradiction
theorem TP {aG:World} {F b2:Nat→Prop} {s s1:ar} {aA:Nat→Value} (bI:∀b,F b→b2 b∧aG.heap[b]? =w.heap[b]?):∀(n:Nat),
  (∀(d:I) (v:Value) (S:Nat→Prop),SizeOf.sizeOf d≤n→d.fX s=true→d.fX s1=true→aL w F s aA d v S→aL aG b2 s1 aA d v (fun _=>False))∧
  (∀(ds:List I) (vs:List Value),SizeOf.sizeOf ds≤n→I.oy s ds=true→I.oy s1 ds=true→eA w F s aA ds vs→eA aG b2 s1 aA ds vs):=by
 intro n
 induction n with
 |zero=>
  refine⟨fun d v S cf=> ?_,fun ds vs cf=> ?_⟩
  ·cases d<;>simp at cf<;>omega
  ·cases ds<;>simp at cf<;>omega
 |succ n ih=>
  refine⟨fun d v S cf b8 cy h=> ?_,fun ds vs cf b8 cy h=> ?_⟩
  ·cases d with
   |hole=>rw[aL];trivial
   |h x q=>
    simp only[I.fX,Bool.and_eq_true,List.isEmpty_iff]at b8 cy
    obtain⟨rfl,b8⟩:=b8
    rw[aL]at h⊢
    obtain⟨c3,a,fQ,hC,ie⟩:=h (s x) (by simp only[I.sub]) (qR b8).1
    simp only[dB,Option.some.injEq,Prod.mk.injEq,true_and]at fQ
    intro d aj _
    simp only[I.sub,Option.some.injEq]at aj
    subst aj
    exact⟨cC (aA x),none,by simp only[dB],by rw[hC,←fQ.1],((qR cy.2).2.2.2.2.2 _).2 (((qR b8).2.2.2.2.2 _).1 ie)⟩
   |au x q=>simp[I.fX]at b8
   |ae x k=>
    simp only[I.fX,Bool.not_eq_true']at b8
    rw[aL]at h⊢
    obtain⟨b,cur,e,fr,h1,ah,aC,a8⟩:=h b8
    exact fun _=>⟨b,cur,e,fr,h1,(bI b ah).1,(bI b ah).2.trans aC,a8⟩
   |fn f cap=>
    simp only[I.fX]at b8 cy
    rw[aL]at h⊢
    obtain⟨arr,rfl,aq⟩:=h
    exact⟨arr,rfl,ih.2 _ _ (by simp at cf;omega) b8 cy aq⟩
   |_=>
    simp only[I.fX]at b8
    have bL:=(aL.cV rfl).1 h
    exact(aL.cV rfl).2 ⟨bL.1,ax.mono (fun b ae=>(bI b ae).1) _ _ _ _ (fun _ h=>h) (ax.frame (fun b ae=>(bI b ae).2) _ _ _ (fun _ h=>h.elim) (ax.plain _ _ _ _ b8 bL.2))⟩
  ·cases ds with
   |nil=>rw[eA]at h⊢;exact h
   |cons d ds=>
    simp only[I.oy,Bool.and_eq_true]at b8 cy
    rw[eA]at h⊢
    obtain⟨v,j1,rfl,h1,ah⟩:=h
    simp at cf
    exact⟨v,j1,rfl,ih.1 _ _ _ (by omega) b8.1 cy.1 h1,ih.2 _ _ (by omega) b8.2 cy.2 ah⟩
theorem TQ {s:ar} {d:I} (h:d.fX s=true):d.plain=true:=by
 cases d<;>first|rfl|(simpa [I.fX]using h)
theorem bQ.nd {F:Nat→Prop} {aA:Nat→Value}:∀(L:List (Nat×I)) (s:ar) (S:Nat→Nat→Prop),bQ w0 F0 X F S s aA w→(∀p∈L,p.2.plain=true∧aL w F s aA p.2 (aA p.1) (fun _=>False))→
  ∃aR,bQ w0 F0 X F aR (cZ.nd s L) aA w∧∀u b,aR u b→S u b:=by
 intro L
 induction L with
 |nil=>intro s S h _;exact⟨S,h,fun _ _ h=>h⟩
 |cons p L ih=>
  intro s S h s_
  obtain⟨h1,ah⟩:=s_ p (by simp)
  have eE:du aA p.1 (aA p.1)=aA:=by funext u;simp only[du];split<;>simp_all
  have aC:=h.u_ (t:=p.1) h1 ah
  rw[eE]at aC
  have hN:∀x,x≠p.1→(du s p.1 p.2 x).tree=true→du s p.1 p.2 x=s x∧aA x=aA x:=fun x aw _=>⟨jH _ _ aw,rfl⟩
  obtain⟨aR,g1,g2⟩:=ih _ _ aC (fun q c6=>⟨(s_ q (by simp[c6])).1,(aL.void (t:=p.1) hN (by rw[l0];exact h1) _).1 _ _ _ (Nat.le_refl _) (s_ q (by simp[c6])).2⟩)
  refine⟨aR,g1,fun u b ae=> ?_⟩
  have:=g2 u b ae
  simp only[f_]at this
  split at this
  ·exact this.elim
  ·exact this
theorem Gg {s:ar}:∀{L:List (Nat×I)},lM s L=true→∀p∈L,p.2.fX s=true
 |q::L,h1,p,au=>by
  simp only[lM,Bool.and_eq_true]at h1
  rcases List.mem_cons.1 au with rfl|au
  ·exact h1.1
  ·exact Gg h1.2 p au
theorem TR {s:ar} {us:List Nat} {p:Nat×I} (h:p∈jL s us):p.1∈us∧s p.1=p.2:=by
 obtain⟨u,hu,rfl⟩:=List.mem_map.1 h
 exact⟨hu,rfl⟩
theorem TS (bu:C.Ok) (h:Rel w0 F0 X n ρ s a w) {o:Oper} {b0:gb} (cI:pe o.op=b0.base) (aj:lL n o.dst=true) {K:ar→Prop} {next:Act→World→Prop}
  (hw:oz C s b0 fun av s1=>K (fin s1 o.dst av)) (a6:∀az c4 aG,K az→Rel w0 F0 X n ρ az c4 aG→next c4 aG):o.wp C.P a w next Q:=by
 cases b0 with
 |shr b0=>
  obtain⟨av,s1,he,ba,nb,hk⟩:=hw
  rcases nG cI with cI|cI
  ·change b0= .bad at cI
   subst cI;cases he
  obtain⟨iY,dR,hS,F,S,aX⟩:=h
  obtain⟨r,aG,v,b2,aR,h1,ah,aC,a8⟩:=Ke (a:=a) bu aX (fun _=>rfl) cI he
  obtain⟨s9,g3,g4⟩:=lF.share aC a8 ba nb
  unfold Oper.wp
  rw[h1]
  rcases ah with rfl|⟨rfl,rfl⟩
  ·exact a6 _ _ _ hk (Rel.put iY dR hS g3 g4 aj)
  ·exact a6 _ _ _ hk (Rel.put iY dR hS g3 g4 aj)
 |bad=>obtain⟨av,s1,he,_⟩:=hw;cases he
 |mZ f args u x=>
  obtain⟨aS,aZ,hw⟩:=hw
  rcases nG cI with ae|ae
  ·cases ae
  ·refine Gf bu h ae aj hw ?_ a6
   rintro F S b2 aR w aG av s1 v hd ⟨gF,h7,iy⟩ oe tb yd _
   have AW:=hd.dF u
   rw[aS,aL]at AW
   obtain⟨c3,a0,fQ,hC,ie⟩:=AW (s x) (by simp only[I.sub]) (qR aZ).1
   simp only[dB,Option.some.injEq,Prod.mk.injEq,true_and]at fQ
   have TT:∀y b,f_ aR u (fun _=>False) y b→aR y b:=by
    intro y b ae
    simp only[f_]at ae
    split at ae
    ·exact ae.elim
    ·exact ae
   exact⟨_,_,iy,tb.alias gF h7 (by rw[hC,←fQ.1]) (((qR aZ).2.2.2.2.2 _).1 ie),yd.less TT oe⟩
 |ky f args L=>
  obtain⟨aZ,hw⟩:=hw
  rcases nG cI with ae|ae
  ·cases ae
  ·refine Gf bu h ae aj hw ?_ a6
   rintro F S b2 aR w aG av s1 v hd ⟨gF,iy⟩ oe tb yd TU
   obtain⟨dU,g1,g2⟩:=tb.nd (jL s L) s1 aR (fun p au=>by
    have dw:=(TR au).2
    have bg:=Gg aZ p au
    have di:=Gg gF p au
    refine⟨TQ bg,(TP TU _).1 _ _ (S p.1) (Nat.le_refl _) bg di ?_⟩
    have:=hd.dF p.1
    rw[dw]at this
    exact this)
   exact⟨_,dU,iy,g1,yd.less g2 oe⟩
 |j4 T x=>
  obtain⟨av,s1,he,hk⟩:=hw
  rcases nG cI with ae|ae
  ·cases ae
  ·obtain⟨cz,pf,aw⟩:=TO ae
   obtain⟨iY,dR,hS,F,S,aX⟩:=h
   obtain⟨dst,op,ty,pos,after,guard⟩:=o
   simp only at pf aj hk
   subst pf
   obtain⟨r,aG,v,b2,aR,h1,ah,aC,a8⟩:Next C w0 F0 X (fun t=>a.tmps.getD t undef) w (execOp a.eval ⟨dst,.box T cz,ty,pos,after,guard⟩) av s1:=(RP (T:=T) aX (fA aX (fun _=>rfl) aw).2 he).next
   unfold Oper.wp
   rw[h1]
   rcases ah with rfl|⟨rfl,rfl⟩
   ·exact a6 _ _ _ hk (Rel.put iY dR hS aC a8 aj)
   ·exact a6 _ _ _ hk (Rel.put iY dR hS aC a8 aj)
 |qO x=>
  obtain⟨av,s1,he,hk⟩:=hw
  rcases nG cI with ae|ae
  ·cases ae
  ·obtain⟨cz,pf,aw⟩:=TH ae
   obtain⟨iY,dR,hS,F,S,aX⟩:=h
   obtain⟨dst,op,ty,pos,after,guard⟩:=o
   simp only at pf aj hk
   subst pf
   simp only[bR]at he
   obtain⟨g1,g2⟩:=fA aX (fun _=>rfl) aw
   obtain⟨r,aG,v,b2,aR,h1,ah,aC,a8⟩:Next C w0 F0 X (fun t=>a.tmps.getD t undef) w (execOp a.eval ⟨dst,.move cz,ty,pos,after,guard⟩) av s1:=by
    unfold p2 at he
    split at he
    ·rename_i y q bt
     rw[bt]at g1 g2
     obtain⟨cq,k0,b8,cy,Sn,e_,ed,fF,dr,jb,_⟩:=oY aX g1 g2 he
     exact⟨_,w,_,F,cq,rfl,.inl rfl,k0,.inr ⟨b8,cy,Sn,e_,ed,fF,dr,jb⟩⟩
    ·simp only[Option.some.injEq,Prod.mk.injEq]at he
     obtain⟨rfl,rfl⟩:=he
     exact⟨_,w,_,F,S,rfl,.inl rfl,aX,.inl ⟨g1,g2⟩⟩
   unfold Oper.wp
   rw[h1]
   rcases ah with rfl|⟨rfl,rfl⟩
   ·exact a6 _ _ _ hk (Rel.put iY dR hS aC a8 aj)
   ·exact a6 _ _ _ hk (Rel.put iY dR hS aC a8 aj)
 |rN x=>
  obtain⟨av,s1,he,hk⟩:=hw
  rcases nG cI with ae|ae
  ·cases ae
  ·obtain⟨cz,pf,aw⟩:=TI ae
   obtain⟨iY,dR,hS,F,S,aX⟩:=h
   obtain⟨dst,op,ty,pos,after,guard⟩:=o
   simp only at pf aj hk
   subst pf
   simp only[bR,Option.some.injEq,Prod.mk.injEq]at he
   obtain⟨rfl,rfl⟩:=he
   obtain⟨g1,g2⟩:=fA aX (fun _=>rfl) aw
   obtain⟨r,aG,v,b2,aR,h1,ah,aC,a8⟩:Next C w0 F0 X (fun t=>a.tmps.getD t undef) w (execOp a.eval ⟨dst,.assign cz,ty,pos,after,guard⟩) (aN s x) s:=⟨_,w,_,F,S,rfl,.inl rfl,aX,.inl ⟨g1,g2⟩⟩
   unfold Oper.wp
   rw[h1]
   rcases ah with rfl|⟨rfl,rfl⟩
   ·exact a6 _ _ _ hk (Rel.put iY dR hS aC a8 aj)
   ·exact a6 _ _ _ hk (Rel.put iY dR hS aC a8 aj)
 |oq T bZ x y=>
  obtain⟨av,s1,he,hk⟩:=hw
  rcases nG cI with ae|ae
  ·cases ae
  ·obtain⟨cz,kU,pf,aw,bt⟩:=TK ae
   obtain⟨iY,dR,hS,F,S,aX⟩:=h
   simp only[bR,Option.map_eq_some_iff,Prod.mk.injEq]at he
   obtain⟨d,ha,rfl,rfl⟩:=he
   obtain⟨v,aG,b2,aR,h1,ah,aC⟩:=SI (ty:=o.type) bu aX (fA aX (fun _=>rfl) aw).2 (fA aX (fun _=>rfl) bt).2 ha
   have ta:execOp a.eval o=(do pure (.value (←Builtin.append_ #[T,bZ] o.type #[a.eval cz,a.eval kU]))):=by
    obtain⟨dst,op,ty,pos,after,guard⟩:=o
    simp only at pf
    subst pf
    simp[execOp,resolve,invoke,builtin]
   unfold Oper.wp
   rw[ta]
   simp only[Sem.run_bind,h1,Result.andThen]
   exact a6 _ _ _ hk (Rel.put iY dR hS ah aC aj)
 |_=>
  rcases nG cI with ae|ae
  ·cases ae
  ·exact TM bu h ae aj hw a6
end
end Go.cZ
