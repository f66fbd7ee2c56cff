/- Part of a proof that a law returns true for every input. No condition. -/
import Derived.Test.YtpddiknnnoomoaaFwD
import Derived.Laws.Tables
namespace Go.bV
section
variable {C:bq} {w0 w:World} {F0 X F:Nat→Prop} {S:Nat→Nat→Prop} {s s1:af} {ak:Nat→Value} {av:j}
theorem sn (z:List Value):∀n,(List.range (n*z.length)).map (fun i=>z[i%z.length]!)=(List.replicate n z).flatten
 |0=>by simp
 |n+1=>by
  rw[Nat.add_mul,Nat.one_mul,List.range_add,List.map_append,sn z n,List.replicate_succ',List.flatten_append]
  congr 1
  simp only[List.map_map,List.flatten_cons,List.flatten_nil,List.append_nil]
  apply List.ext_getElem
  ·simp
  ·intro i U aa
   have az:i<z.length:=aa
   simp[Nat.mod_eq_of_lt az,az]
theorem aH.replicate {d:j} {cs:List Value} (h:∀ay,al w F d cs ay):∀n ay,aH w F (List.replicate n d) (List.replicate n cs).flatten ay
 |0,ay=>by simp only[List.replicate_zero,List.flatten_nil];rw[aH]
 |n+1,ay=>by
  rw[List.replicate_succ,List.replicate_succ,List.flatten_cons,aH]
  exact⟨cs,_,fun _=>False,fun _=>False,rfl,h _,aH.replicate h n _,fun _ h=>h.elim,fun _ h=>h.elim,fun _ h=>h.elim⟩
def fe (C:bq) (T:TypeId) (l c:j):Option j:=
 match(C.T T).k,l,c with
 | .slice e,.int .i64 n,.int .i64 m=>if n=m∧0≤n∧(C.T e).ok=true∧(C.T e).zero.wd=(C.T e).sz∧(flat (C.T e).zero).isSome=true∧(C.T e).sz≠0∧(C.T e).bytes*n≤140737488355328∧n≤9223372036854775807 then
   some (.aK (C.T e).sz (List.replicate n.toNat (C.T e).zero))else none
 |_,_,_=>none
theorem DP (aQ:C.cY) (h:aY w0 F0 X F S s ak w) {T:TypeId} {l c:j} {x_ ya:Value} (hl:ar w F s ak l x_ (fun _=>False)) (ae:ar w F s ak c ya (fun _=>False)) (he:fe C T l c=some av):
  Good C w0 F0 X ak w (Instr.makeSlice T x_ ya) av s:=by
 unfold fe at he
 split at he
 ·rename_i e n m ai
  have:=jn hl;subst this
  have:=jn ae;subst this
  obtain⟨uD,d,uE,aE,aL,bb,b2,b9,bl,bf⟩:=aQ.info (dB ai (by simp))
  rw[ai]at bf
  have:=hh bf;subst this
  split at he
  ·rename_i np
   obtain⟨rfl,aV,j6,kP,lH,cp,yb,uG⟩:=np
   simp only[Option.some.injEq]at he;subst he
   obtain⟨i,uF,z,f1,f2,f3,f4,f5,f6,f7⟩:=aQ.info j6
   obtain⟨c9,iI⟩:=Option.isSome_iff_exists.1 lH
   have lI:=f5 c9 iI
   have dN:∀ay,al w F (C.T e).zero c9 ay:=fun ay=>(al.flat _).1 _ c9 ay (Nat.le_refl _) iI
   have j8:c9.length=(C.T e).sz:=by rw[al.length _ _ _ (dN (fun _=>False)),kP]
   obtain⟨n,rfl⟩:=Int.eq_ofNat_of_zero_le aV
   simp only[Int.toNat_natCast]
   have oz:IntKind.i64.wrap (n:Int)=n:=by
    rw[IntKind.wrap_i64];omega
   have ox:∀k (w:World),(askRoom k).run C.P w= .ok () w:=by
    intro k w
    unfold askRoom
    split<;>rfl
   have j3:((Array.range (n*(C.T e).sz)).map (c9.toArray[·%c9.toArray.size]!)).toList=(List.replicate n c9).flatten:=by
    have:=sn c9 n
    rw[j8]at this
    simpa [j8]using this
   have cv:¬(281474976710656<(i.bytes:Int)*n):=by
    rw[f3];omega
   have so:¬((n:Int)<0):=by omega
   have run:(Instr.makeSlice T (.int .i64 n) (.int .i64 n)).run C.P w= .ok (.slice (some ⟨w.heap.size,0,none⟩) n n)
     (w.alloc (.cells (if n*(C.T e).sz=0 then(Array.range (n*(C.T e).sz)).map (fun _=>default)else(Array.range (n*(C.T e).sz)).map (c9.toArray[·%c9.toArray.size]!)) e)):=by
    by_cases bI:n*(C.T e).sz=0
    ·simp[Instr.makeSlice,run_underlying bl,asInt,asIntOf,nj f1,oz,cv,so,ox,gE f1,f2,bI,newRow]
    ·simp only[bI,if_false]
     simp[Instr.makeSlice,run_underlying bl,asInt,asIntOf,nj f1,oz,cv,so,ox,gE f1,f2,bI,newRow,nk f1 f4,lI]
   have hc:(if n*(C.T e).sz=0 then(Array.range (n*(C.T e).sz)).map (fun _=>(default:Value))else(Array.range (n*(C.T e).sz)).map (c9.toArray[·%c9.toArray.size]!)).toList=(List.replicate n c9).flatten:=by
    split
    ·rename_i bI
     have:n=0:=by
      rcases Nat.mul_eq_zero.1 bI with h|h
      ·exact h
      ·exact(cp h).elim
     subst this
     simp
    ·exact j3
   generalize nC:(if n*(C.T e).sz=0 then(Array.range (n*(C.T e).sz)).map (fun _=>(default:Value))else(Array.range (n*(C.T e).sz)).map (c9.toArray[·%c9.toArray.size]!))=cur at run hc
   have fO:(List.replicate n c9).flatten.length=n*(C.T e).sz:=by simp[j8]
   have e3:cur.size=n*(C.T e).sz:=by
    have:cur.size=cur.toList.length:=by simp
    rw[this,hc,fO]
   have g1:=h.qu (aq:=w.alloc (.cells cur e)) (sz:=(C.T e).sz) (cap:=n) (xs:=List.replicate n (C.T e).zero) (cur:=cur) (e:=e) (fr:=(0,0)) (Sn:=fun _=>False) rfl rfl rfl ⟨rfl,fun _=>Nat.le_refl _⟩
    (fun o _ ⟨_,aa⟩=>absurd aa (Nat.not_lt_zero _)) (by simp) (by unfold maxLen;omega) e3 (by intro d ab;rw[List.eq_of_mem_replicate ab];exact kP)
    (by rw[hc,List.length_replicate,List.take_of_length_le (by rw[fO];exact Nat.le_refl _)];exact aH.replicate dN n _) (fun _ h=>h.elim) (fun _ h=>h.elim) (fun _ _ h=>h.elim) (fun _ h=>h.elim)
   rw[List.length_replicate]at g1
   exact⟨_,_,F,S,run,g1.1,g1.2⟩
  ·cases he
 ·cases he
def jw (C:bq) (T a6:TypeId) (x y:j):Option j:=
 match(C.T T).k,(C.T a6).k,x,y with
 | .slice e,.int _,.bG,.int .i64 n=>if 0≤n∧(C.T e).ok=true∧(C.T e).zero.wd=(C.T e).sz∧(flat (C.T e).zero).isSome=true∧(C.T e).sz≠0∧(C.T e).bytes*n≤140737488355328∧n≤9223372036854775807 then
   some (.aK (C.T e).sz (List.replicate n.toNat (C.T e).zero))else none
 |_,_,_,_=>none
theorem DQ {P:Program} {T a6 ty e:TypeId} {k:IntKind} {i:TypeInfo} {z:Value} (aG:P.underlying T=some (.slice e)) (hu:P.underlying a6=some (.int k)) (az:P.info? e=some i) (bj:i.zero=some z)
  (n:Nat) (bI:n≠0) (R:i.size≠0) (aV:n≤9223372036854775807) (I:n*i.bytes≤140737488355328):
  (Builtin.append_ #[T,a6] ty #[.slice none 0 0,.int .i64 n]).run P w= .ok (.slice (some ⟨w.heap.size,0,none⟩) n (grownCap w n 0 e))
   (w.drew.alloc (.cells (Builtin.zeroCells z.cells n++Builtin.zeroCells z.cells (grownCap w n 0 e-n)) e)):=by
 have oz:IntKind.i64.wrap (n:Int)=n:=by rw[IntKind.wrap_i64];omega
 have so:¬((n:Int)<0):=by omega
 have hmul:(n:Int)*(i.bytes:Int)=((n*i.bytes:Nat):Int):=by simp
 have cv:¬(281474976710656<(n:Int)*(i.bytes:Int)):=by rw[hmul];omega
 have fb:¬(281474976710656<Builtin.nextslicecap n 0*i.bytes):=by
  have:Builtin.nextslicecap n 0=n:=by unfold Builtin.nextslicecap;rw[if_pos (by omega)]
  rw[this];omega
 have ox:∀k (w:World),(askRoom k).run P w= .ok () w:=by
  intro k w
  unfold askRoom
  split<;>rfl
 have uA:¬(9223372036854775807<(n:Int)):=by omega
 have uM:n*i.size≠0:=Nat.mul_ne_zero bI R
 simp[Builtin.append_,run_underlying aG,run_underlying hu,gE az,nj az,asInt,asIntOf,oz,so,cv,fb,bI,Question.forced,ox,uA,nk az bj,newRow,grownCap,Builtin.firstCells]
 intro iB;exact(uM iB).elim
theorem DR (aQ:C.cY) (h:aY w0 F0 X F S s ak w) {T a6 ty:TypeId} {x y:j} {e5 fw:Value} (ao:ar w F s ak x e5 (fun _=>False)) (aW:ar w F s ak y fw (fun _=>False)) (he:jw C T a6 x y=some av):
  Good C w0 F0 X ak w (Builtin.append_ #[T,a6] ty #[e5,fw]) av s:=by
 unfold jw at he
 split at he
 ·rename_i e PA n ai yc
  have:=lE ao;subst this
  have:=jn aW;subst this
  obtain⟨uD,d,uE,aE,aL,bb,b2,b9,bl,bf⟩:=aQ.info (dB ai (by simp))
  rw[ai]at bf
  have:=hh bf;subst this
  obtain⟨PB,PC,PD,yd,ye,PE,PF,PG,yf,yg⟩:=aQ.info (dB yc (by simp))
  rw[yc]at yg
  have:=qj yg;subst this
  split at he
  ·rename_i np
   obtain⟨aV,j6,kP,lH,cp,yb,uG⟩:=np
   simp only[Option.some.injEq]at he;subst he
   obtain⟨i,uF,z,f1,f2,f3,f4,f5,f6,f7⟩:=aQ.info j6
   obtain⟨c9,iI⟩:=Option.isSome_iff_exists.1 lH
   have lI:=f5 c9 iI
   have dN:∀ay,al w F (C.T e).zero c9 ay:=fun ay=>(al.flat _).1 _ c9 ay (Nat.le_refl _) iI
   have j8:c9.length=(C.T e).sz:=by rw[al.length _ _ _ (dN (fun _=>False)),kP]
   obtain⟨n,rfl⟩:=Int.eq_ofNat_of_zero_le aV
   simp only[Int.toNat_natCast]
   by_cases bI:n=0
   ·subst bI
    have run:(Builtin.append_ #[T,a6] ty #[.slice none 0 0,.int .i64 ((0:Nat):Int)]).run C.P w= .ok (.slice none 0 0) w:=by
     have oz:IntKind.i64.wrap 0=0:=by decide
     simp[Builtin.append_,run_underlying bl,run_underlying yf,gE f1,nj f1,asInt,asIntOf,oz]
    exact⟨_,w,F,S,run,h,.inr ⟨rfl,rfl,fun _=>False,by simp only[bd,e9];rw[al];exact .inl ⟨rfl,_,rfl⟩,fun _ h=>h.elim,fun _ h=>h.elim,fun _ _ h=>h.elim,fun _ h=>h.elim⟩⟩
   ·have run:=DQ (w:=w) (ty:=ty) bl yf f1 f4 n bI (by rw[f2];exact cp) (by omega) (by
     rw[f3]
     have:((C.T e).bytes:Int)*(n:Int)=(((C.T e).bytes*n:Nat):Int):=by simp
     rw[this]at yb
     rw[Nat.mul_comm];omega)
    rw[lI]at run
    have qy:=grownCap_ge w n 0 e
    have qz:=grownCap_le_maxLen w n 0 e (by unfold maxLen;omega)
    have yh:∀m,(Builtin.zeroCells c9.toArray m).toList=(List.replicate m c9).flatten:=by
     intro m
     have:=sn c9 m
     unfold Builtin.zeroCells
     simpa [j8]using this
    have fO:∀m,(List.replicate m c9).flatten.length=m*(C.T e).sz:=by intro m;simp[j8]
    generalize nC:Builtin.zeroCells c9.toArray n++Builtin.zeroCells c9.toArray (grownCap w n 0 e-n)=cur at run
    have hc:cur.toList=(List.replicate n c9).flatten++(List.replicate (grownCap w n 0 e-n) c9).flatten:=by rw[←nC,Array.toList_append,yh,yh]
    have e3:cur.size=grownCap w n 0 e*(C.T e).sz:=by
     have:cur.size=cur.toList.length:=by simp
     rw[this,hc,List.length_append,fO,fO,←Nat.add_mul]
     congr 1;omega
    have g1:=h.qu (aq:=w.drew.alloc (.cells cur e)) (sz:=(C.T e).sz) (cap:=grownCap w n 0 e) (xs:=List.replicate n (C.T e).zero) (cur:=cur) (e:=e) (fr:=(0,0)) (Sn:=fun _=>False) rfl rfl rfl ⟨rfl,fun _=>Nat.le_succ _⟩
     (fun o _ ⟨_,aa⟩=>absurd aa (Nat.not_lt_zero _)) (by simpa using qy) qz e3 (by intro d ab;rw[List.eq_of_mem_replicate ab];exact kP)
     (by rw[hc,List.length_replicate,List.take_left' (fO n)];exact aH.replicate dN n _) (fun _ h=>h.elim) (fun _ h=>h.elim) (fun _ _ h=>h.elim) (fun _ h=>h.elim)
    rw[List.length_replicate]at g1
    exact⟨_,_,F,S,run,g1.1,g1.2⟩
  ·cases he
 ·cases he
def gR (s:af) (f:FuncId) (cs:List au):Option j:=some (.fn f (cs.map (ax s)))
theorem sq {a:Act} (h:aY w0 F0 X F S s ak w) (cE:∀t,ak t=a.tmps.getD t undef):∀(os:List Operand) (xs:List au),os.map cd=xs.map some→cx w F s ak (xs.map (ax s)) (os.map a.eval)
 |[],[],_=>by simp only[List.map_nil];rw[cx]
 |[],x::xs,h=>by simp at h
 |o::os,[],h=>by simp at h
 |o::os,x::xs,a5=>by
  simp only[List.map_cons,List.cons.injEq]at a5⊢
  rw[cx]
  exact⟨_,_,rfl,(da h cE a5.1).2,sq h cE os xs a5.2⟩
theorem yi:∀(vs:List Value) (k off:Nat) (A:Array Value) (l m r:List Value),A.toList=l++(m++r)→l.length=off+k→m.length=vs.length→
  ((vs.zipIdx k).foldl (fun cs (x:Value×Nat)=>cs.setIfInBounds (off+x.2) x.1) A).toList=l++(vs++r)
 |[],k,off,A,l,m,r,fF,hl,hm=>by
  have:m=[]:=by simpa using hm
  subst this
  simpa using fF
 |v::vs,k,off,A,l,m,r,fF,hl,hm=>by
  obtain⟨x,m,rfl⟩:∃x e4,m=x::e4:=by
   cases m with
   |nil=>simp at hm
   |cons x m=>exact⟨x,m,rfl⟩
  rw[List.zipIdx_cons,List.foldl_cons]
  have:=yi vs (k+1) off (A.setIfInBounds (off+k) v) (l++[v]) m r (by
   rw[Array.toList_setIfInBounds,fF,←hl,List.set_append_right _ _ (Nat.le_refl _)]
   simp) (by simp;omega) (by simpa using hm)
  simpa using this
def jx (os:List (Option Nat)) (a:j):j:=os.foldl (fun a o=>g0 o a) a
def jy (place:Nat→Option (Nat×Nat)):af→List j→List (Option Nat)→List (Nat×j)→Option (List j×af)
 |s,eu,_,[]=>some (eu,s)
 |s,eu,os,(k,a)::r=>match bL s (jx os a),place k,eu[k]? with
  |some (d,s1),some (off,n),some z=>match d with
   | .tuple _=>none
   |d=>if d.wd=n∧z.wd=n∧j.cz (eu.take k)=off then jy place s1 (eu.set k d) (os++[(jx os a).owner]) r else none
  |_,_,_=>none
def jz (w:World) (F:Nat→Prop) (s:af) (ak:Nat→Value):List (Nat×j)→List (Nat×Value)→Prop
 |[],[]=>True
 |(k,a)::r,(bY,v)::fy=>k=bY∧a.plain=true∧ar w F s ak a v (fun _=>False)∧jz w F s ak r fy
 |_,_=>False
theorem DS (x:Nat):∀d:j,d.plain=true→(bo x d).plain=true
 | .h y q,_=>by simp only[bo];split<;>(try split)<;>rfl
 | .an y q,_=>by simp only[bo];split<;>rfl
 | .I y q,_=>rfl
 | .fn f c,_=>by simp only[bo];rfl
 | .hole,h=>h
 | .bool _,h=>h
 | .c1,h=>h
 | .int _ _,h=>h
 | .str _,h=>h
 | .ck,h=>h
 | .bG,h=>h
 | .slice _,h=>h
 | .aK _ _,h=>h
 | .ref _,h=>h
 | .bc _,h=>h
 | .agg _,h=>h
 | .tuple _,h=>h
theorem DT (o:Option Nat) (d:j) (h:d.plain=true):(g0 o d).plain=true:=by
 cases o with
 |none=>exact h
 |some x=>exact DS x d h
theorem jz.bo {w:World} {F:Nat→Prop} {s s1:af} {ak:Nat→Value} {o:Option Nat} (an:∀(aT:j) (dJ:Value) (ay:Nat→Prop),ar w F s ak aT dJ ay→ar w F s1 ak (g0 o aT) dJ ay):
  ∀(r:List (Nat×j)) (fy:List (Nat×Value)),jz w F s ak r fy→jz w F s1 ak (r.map fun p=>(p.1,g0 o p.2)) fy
 |[],[],_=>trivial
 |(k,a)::r,(bY,v)::fy,h=>by
  obtain⟨U,aa,aw,aN⟩:=h
  exact⟨U,DT _ _ aa,an _ _ _ aw,jz.bo an r fy aN⟩
 |[],_::_,h=>h.elim
 |_::_,[],h=>h.elim
theorem uN {place:Nat→Option (Nat×Nat)}:∀(ps:List (Nat×j)) (vs:List (Nat×Value)) (os:List (Option Nat)) (s:af) (S:Nat→Nat→Prop) (eu:List j) (A:Array Value) (eS:Nat→Prop),
  aY w0 F0 X F S s ak w→jz w F s ak (ps.map fun p=>(p.1,jx os p.2)) vs→aH w F eu A.toList eS→(∀b,eS b→b<w.heap.size)→(∀b,eS b→¬F b)→(∀u b,eS b→¬S u b)→(∀b,eS b→X b∨w0.heap.size≤b)→
  ∀ds s1,jy place s eu os ps=some (ds,s1)→∃h9 bh ei,Instr.fill place A vs=some h9∧aY w0 F0 X F bh s1 ak w∧aH w F ds h9.toList ei∧(∀b,ei b→b<w.heap.size)∧(∀b,ei b→¬F b)∧(∀u b,ei b→¬bh u b)∧
   (∀b,ei b→X b∨w0.heap.size≤b)∧ds.length=eu.length∧j.cz ds=j.cz eu∧(∀n,(∀d∈eu,d.wd=n)→∀d∈ds,d.wd=n)
 |[],[],os,s,S,eu,A,eS,h,_,U,aa,aw,aN,a2,ds,s1,he=>by
  simp only[jy,Option.some.injEq,Prod.mk.injEq]at he
  obtain⟨rfl,rfl⟩:=he
  exact⟨A,S,eS,rfl,h,U,aa,aw,aN,a2,rfl,rfl,fun _ h=>h⟩
 |(k,a)::ps,(bY,v)::vs,os,s,S,eu,A,eS,h,an,U,aa,aw,aN,a2,ds,s1,he=>by
  obtain⟨rfl,g2,jY,qD⟩:=an
  simp only[jy]at he
  split at he
  ·rename_i d qE off n z aG eJ bj
   have key:∀d:j,(∀ag,d≠.tuple ag)→bL s (jx os a)=some (d,qE)→(if d.wd=n∧z.wd=n∧j.cz (eu.take k)=off then jy place qE (eu.set k d) (os++[(jx os a).owner]) ps else none)=some (ds,s1)→
     ∃h9 bh ei,Instr.fill place A ((k,v)::vs)=some h9∧aY w0 F0 X F bh s1 ak w∧aH w F ds h9.toList ei∧(∀b,ei b→b<w.heap.size)∧(∀b,ei b→¬F b)∧(∀u b,ei b→¬bh u b)∧
     (∀b,ei b→X b∨w0.heap.size≤b)∧ds.length=eu.length∧j.cz ds=j.cz eu∧(∀n,(∀d∈eu,d.wd=n)→∀d∈ds,d.wd=n):=by
    intro d lB aG he
    split at he
    ·rename_i ae
     obtain⟨sr,nm,yj⟩:=ae
     obtain⟨bh,dI,aD,aO,Sn,bg,b6,cJ,ec,ew,fE,iJ,sj⟩:=jZ h g2 jY aG
     obtain⟨bz,dy,bA,Sx,e1,fF,eT,dw,dU,eB,dH,hX⟩:=aH.pick eu _ _ k z U bj
     have j3:=qm aO lB
     have i4:=al.length _ _ _ bg
     have yk:=al.length _ _ _ dH
     have mo:=hX w d (bd v) Sn (fun _ _=>rfl) (fun _ _=>rfl) bg (fun b DU DV=>by obtain⟨u,hu⟩:=iJ b DU;exact aN u b (dw b DV) hu)
     have yl:=yi (bd v) 0 off A bz dy bA fF (by rw[eT,yj];rfl) (by rw[yk,i4,sr,nm])
     generalize qF:((bd v).zipIdx 0).foldl (fun cs (x:Value×Nat)=>cs.setIfInBounds (off+x.2) x.1) A=sa at yl
     obtain⟨h9,cc,ei,ey,fi,fW,j2,kL,e6,lC,gS,uO,kU⟩:=uN (place:=place) ps vs (os++[(jx os a).owner]) qE bh (eu.set k d) sa (fun b=>Sx b∨Sn b) dI (by have:=jz.bo sj _ _ qD;simpa [jx,List.foldl_append,Function.comp_def]using this) (by rw[yl];exact mo)
      (by rintro b (I|I);exact aa b (dw b I);exact b6 b I) (by rintro b (I|I);exact aw b (dw b I);exact cJ b I)
      (by rintro u b (I|I);exact fun hu=>aN u b (dw b I) (fE u b hu);exact ec u b I) (by rintro b (I|I);exact a2 b (dw b I);exact ew b I) ds s1 he
     refine⟨h9,cc,ei,?_,fi,fW,j2,kL,e6,lC,by rw[gS];simp,by rw[uO];exact tP _ _ _ _ bj (by rw[sr,nm]),?_⟩
     ·have uP:off+n≤A.size:=by
       have:A.size=A.toList.length:=by simp
       rw[this,fF];simp[eT,yj,yk,nm]
      simp only[Instr.fill,eJ,j3,List.size_toArray,i4,sr]
      have hF:¬(n≠n∨A.size<off+n):=by omega
      have DW:(bd v).toArray.zipIdx.foldl (fun cs (x:Value×Nat)=>cs.setIfInBounds (off+x.2) x.1) A=sa:=by
       rw[←qF,←Array.foldl_toList];simp
      simp only[ne_eq,not_true_eq_false,decide_false,Bool.false_or,decide_eq_true_eq,gt_iff_lt]
      rw[if_neg (by simp;omega)]
      rw[show(bd v).toArray.zipIdx.foldl (fun cs x=>match x with|(c,ad)=>cs.setIfInBounds (off+ad) c) A=sa from DW]
      exact ey
     ·intro DX qG
      refine kU DX (tQ qG ?_)
      rw[sr,←nm];exact qG z (List.mem_of_getElem? bj)
    ·cases he
   split at he
   ·cases he
   ·rename_i lB
    exact key _ (fun ag e=>lB ag e) aG he
  ·cases he
 |[],_::_,_,_,_,_,_,_,_,an,_,_,_,_,_,_,_,_=>an.elim
 |_::_,[],_,_,_,_,_,_,_,an,_,_,_,_,_,_,_,_=>an.elim
def cL (C:bq) (s:af) (T:TypeId) (ps:List (Nat×j)):Option (j×af):=
 match(C.T T).k,(C.T T).zero with
 | .struct ag,.agg eu=>if(flat (.agg eu)).isSome=true∧(∀f∈ag,(C.T f.1).ok=true)then
   (match jy (fun k=>(ag[k]?).map fun f=>(f.2,(C.T f.1).sz)) s eu [] ps with
   |some (ds,s1)=>some (.agg ds,s1)
   |none=>none)else none
 |_,_=>none
def c0 (C:bq) (s:af) (T:TypeId) (n:Nat) (ps:List (Nat×j)):Option (j×af):=
 match(C.T T).k with
 | .slice e=>if(C.T e).ok=true∧(C.T e).zero.wd=(C.T e).sz∧(flat (C.T e).zero).isSome=true∧(C.T e).sz≠0∧n*(C.T e).sz≤16777216 then
   (match jy (fun k=>some (k*(C.T e).sz,(C.T e).sz)) s (List.replicate n (C.T e).zero) [] ps with
   |some (ds,s1)=>some (.aK (C.T e).sz ds,s1)
   |none=>none)else none
 |_=>none
theorem DY (aQ:C.cY):∀(gs:List Field),(∀g∈gs,(C.T g.type).ok=true)→
  gs.mapM (fun f=>(C.P.info? f.type).map fun i=>(f.offset,i.size))=some (gs.map fun g=>(g.offset,(C.T g.type).sz)):=by
 intro gs
 induction gs with
 |nil=>intro _;simp
 |cons g gs ih=>
  intro aZ
  obtain⟨i,d,z,f1,f2,f3,f4,f5,f6,f7⟩:=aQ.info (aZ g (by simp))
  have:=ih (fun g eV=>aZ g (by simp[eV]))
  simp[List.mapM_cons,f1,f2,this]
theorem DZ (aQ:C.cY) (h:aY w0 F0 X F S s ak w) {T:TypeId} {ps:List (Nat×j)} {vs:List (Nat×Value)} (an:jz w F s ak ps vs) (he:cL C s T ps=some (av,s1)):
  Good C w0 F0 X ak w (Instr.build T vs.toArray) av s1:=by
 unfold cL at he
 split at he
 ·rename_i ag eu ai bj
  split at he
  ·rename_i ae
   obtain⟨lH,D0⟩:=ae
   split at he
   ·rename_i ds s2 fO
    simp only[Option.some.injEq,Prod.mk.injEq]at he
    obtain⟨rfl,rfl⟩:=he
    obtain⟨i,d,z,aE,aL,bb,b2,b9,bl,bf⟩:=aQ.info (dB ai (by simp))
    rw[ai]at bf
    obtain⟨gs,rfl,ym⟩:=qi bf
    obtain⟨c9,iI⟩:=Option.isSome_iff_exists.1 lH
    have lI:=b9 c9 (by rw[bj];exact iI)
    have dN:aH w F eu c9.toArray.toList (fun _=>False):=by
     have:=(al.flat (w:=w) (F:=F) _).1 (.agg eu) c9 (fun _=>False) (Nat.le_refl _) iI
     rw[al]at this
     simpa using this
    have cS:jz w F s ak (ps.map fun p=>(p.1,jx [] p.2)) vs:=by simpa [jx]using an
    obtain⟨h9,bh,ei,ey,fi,fW,j2,kL,e6,lC,gS,uO,kU⟩:=uN ps vs [] s S eu c9.toArray (fun _=>False) h cS dN (fun _ h=>h.elim) (fun _ h=>h.elim) (fun _ _ h=>h.elim) (fun _ h=>h.elim) ds s2 fO
    have eJ:=DY aQ gs.toList (fun g aZ=>D0 (g.type,g.offset) (by rw[←ym];exact List.mem_map_of_mem aZ))
    have D1:(fun(k:Nat)=>(ag[k]?).map fun(f:TypeId×Nat)=>(f.2,(C.T f.1).sz))=fun(k:Nat)=>((gs.toList.map fun g=>(g.offset,(C.T g.type).sz)).toArray)[k]? :=by
     funext k
     rw[←ym]
     simp only[List.getElem?_map,List.getElem?_toArray,Option.map_map]
     rfl
    rw[D1]at ey
    refine⟨.agg h9,w,F,bh,run_build w T vs.toArray h9 ?_,fi,.inr ⟨rfl,⟨_,rfl⟩,ei,by simp only[bd,e9];rw[al];exact fW,j2,kL,e6,lC⟩⟩
    unfold Program.built
    simp only[aE,bl,b2,eJ,lI]
    exact ey
   ·cases he
  ·cases he
 ·cases he
theorem D2 (aQ:C.cY) (h:aY w0 F0 X F S s ak w) {T:TypeId} {n:Nat} {ps:List (Nat×j)} {vs:List (Nat×Value)} (an:jz w F s ak ps vs) (he:c0 C s T n ps=some (av,s1)):
  Good C w0 F0 X ak w (Instr.buildSlice T n vs.toArray) av s1:=by
 unfold c0 at he
 split at he
 ·rename_i e ai
  split at he
  ·rename_i ae
   obtain⟨j6,kP,lH,cp,PH⟩:=ae
   split at he
   ·rename_i ds s2 fO
    simp only[Option.some.injEq,Prod.mk.injEq]at he
    obtain⟨rfl,rfl⟩:=he
    obtain⟨uD,d,uE,aE,aL,bb,b2,b9,bl,bf⟩:=aQ.info (dB ai (by simp))
    rw[ai]at bf
    have:=hh bf;subst this
    obtain⟨i,uF,z,f1,f2,f3,f4,f5,f6,f7⟩:=aQ.info j6
    obtain⟨c9,iI⟩:=Option.isSome_iff_exists.1 lH
    have lI:=f5 c9 iI
    have dN:∀ay,al w F (C.T e).zero c9 ay:=fun ay=>(al.flat _).1 _ c9 ay (Nat.le_refl _) iI
    have j8:c9.length=(C.T e).sz:=by rw[al.length _ _ _ (dN (fun _=>False)),kP]
    generalize fF:((Array.range (n*(C.T e).sz)).map ((if n*(C.T e).sz=0 then #[]else c9.toArray)[·%(if n*(C.T e).sz=0 then(#[]:Array Value)else c9.toArray).size]!))=A
    have uP:A.toList=(List.replicate n c9).flatten:=by
     rw[←fF]
     by_cases bI:n*(C.T e).sz=0
     ·have:n=0:=by
       rcases Nat.mul_eq_zero.1 bI with h|h
       ·exact h
       ·exact(cp h).elim
      subst this
      simp
     ·simp only[bI,if_false]
      have:=sn c9 n
      rw[j8]at this
      simpa [j8]using this
    have cS:jz w F s ak (ps.map fun p=>(p.1,jx [] p.2)) vs:=by simpa [jx]using an
    obtain⟨h9,bh,ei,ey,fi,fW,j2,kL,e6,lC,gS,uO,kU⟩:=uN ps vs [] s S (List.replicate n (C.T e).zero) A (fun _=>False) h cS (by rw[uP];exact aH.replicate dN n _) (fun _ h=>h.elim) (fun _ h=>h.elim) (fun _ _ h=>h.elim) (fun _ h=>h.elim) ds s2 fO
    have hlen:ds.length=n:=by rw[gS];simp
    have yn:=kU (C.T e).sz (by intro d ab;rw[List.eq_of_mem_replicate ab];exact kP)
    have D3:h9.toList.length=n*(C.T e).sz:=by rw[aH.ny fW yn,hlen]
    have D4:h9.size=n*(C.T e).sz:=by rw[←D3];simp
    have PI:n≤16777216:=by
     have:n*1≤n*(C.T e).sz:=Nat.mul_le_mul_left _ (by omega)
     omega
    have g1:=fi.qu (aq:=w.alloc (.cells h9 e)) (sz:=(C.T e).sz) (cap:=n) (xs:=ds) (cur:=h9) (e:=e) (fr:=(0,0)) (Sn:=ei) rfl rfl rfl ⟨rfl,fun _=>Nat.le_refl _⟩
     (fun o _ ⟨_,aa⟩=>absurd aa (Nat.not_lt_zero _)) (by omega) (by unfold maxLen;omega) D4 yn (by rw[hlen,List.take_of_length_le (by omega)];exact fW) j2 kL e6 lC
    rw[hlen]at g1
    refine⟨_,_,F,bh,?_,g1.1,g1.2⟩
    by_cases bI:n*(C.T e).sz=0
    ·simp only[bI,if_true]at fF
     have oA:(Array.map (fun _=>(default:Value)) (Array.range 0))=A:=by
      have:n=0:=by
       rcases Nat.mul_eq_zero.1 bI with h|h
       ·exact h
       ·exact(cp h).elim
      apply Array.ext'
      rw[uP,this]
      simp
     simp[Instr.buildSlice,run_underlying bl,gE f1,f2,bI,newRow]
     rw[oA,ey]
     simp
    ·simp only[bI,if_false]at fF
     have hF:¬(16777216<n*(C.T e).sz):=by omega
     simp[Instr.buildSlice,run_underlying bl,gE f1,f2,bI,hF,nk f1 f4,lI,newRow]
     have oA:(Array.map (fun x=>c9[x%c9.length]?.getD default) (Array.range (n*(C.T e).sz)))=A:=by
      rw[←fF];simp
     rw[oA,ey]
     simp
   ·cases he
  ·cases he
 ·cases he
end
inductive dE where
 |cq (x:au)
 |fk (x:au)
 |pick (c a b:au)
 |eK (T:TypeId)
 |dq (T:TypeId) (x:au)
 |cL (T:TypeId) (ps:List (Nat×au))
 |c0 (T:TypeId) (n:Nat) (ps:List (Nat×au))
 |cM (T:TypeId) (x:au)
 |dW (T:TypeId) (x y:au)
 |ed (x:au)
 |bP (op:BinOp) (T:TypeId) (x y:au)
 |un (op:UnOp) (x:au)
 |dD (A B:TypeId) (x:au)
 |gR (f:FuncId) (cs:List au)
 |fe (T:TypeId) (l c:au)
 |cU (T:TypeId) (x:au) (bw az:Option au)
 |dC (T:TypeId) (x:au) (k:Nat)
 |dK (T:TypeId) (x i:au)
 |idx (T:TypeId) (x i:au)
 |ex (x:au) (k:Nat)
 |h5 (T:TypeId) (x:au) (k:Nat)
 |call (f:au) (args:List au)
 |len (T:TypeId) (x:au)
 |app (T a6:TypeId) (x y:au)
 |shr (a7:dE)
 |jw (T a6:TypeId) (x y:au)
 |cap (T:TypeId) (x:au)
 |kV (e0:Bool) (x y:au)
 |bad
 |iL (f:au) (args:List au) (u x:Nat)
 |iM (f:au) (args:List au) (us:List Nat)
 |hi (T:TypeId) (x:au)
 |my (x:au)
 |lJ (x:au)
 |qH
 |jv (T:TypeId) (x i:au)
 |iK (T:TypeId) (x i v:au)
def dE.base:dE→dE
 | .shr a7=>a7
 | .jw T a6 x y=>.app T a6 x y
 | .iL f args _ _=>.call f args
 | .iM f args _=>.call f args
 | .hi T x=>.dq T x
 | .my x=>.fk x
 | .lJ x=>.cq x
 |a7=>a7
def oB:List Operand→Option (List au)
 |[]=>some []
 |o::os=>match cd o,oB os with
  |some x,some xs=>some (x::xs)
  |_,_=>none
def oC:List (Nat×Operand)→Option (List (Nat×au))
 |[]=>some []
 |(k,o)::os=>match cd o,oC os with
  |some x,some xs=>some ((k,x)::xs)
  |_,_=>none
def qI:Option Operand→Option (Option au)
 |none=>some none
 |some o=>(cd o).map some
def bR:Op→Option dE
 | .move x=>(cd x).map .cq
 | .assign x=>(cd x).map .fk
 | .pick c a b=>match cd c,cd a,cd b with
   |some c,some a,some b=>some (.pick c a b)
   |_,_,_=>none
 | .alloc T=>some (.eK T)
 | .box T x=>(cd x).map (.dq T)
 | .build T ps=>(oC ps.toList).map (.cL T)
 | .buildSlice T n ps=>(oC ps.toList).map (.c0 T n)
 | .load T x=>(cd x).map (.cM T)
 | .store T x y=>match cd x,cd y with
   |some x,some y=>some (.dW T x y)
   |_,_=>none
 | .nilCheck x=>(cd x).map .ed
 | .binOp op T x y _=>match cd x,cd y with
   |some x,some y=>some (.bP op T x y)
   |_,_=>none
 | .unOp op _ x=>(cd x).map (.un op)
 | .convert A B x=>(cd x).map (.dD A B)
 | .makeFunc (.func f) first cs=>if first.isEmpty then(oB cs.toList).map (.gR f)else none
 | .makeSlice T l c=>match cd l,cd c with
   |some l,some c=>some (.fe T l c)
   |_,_=>none
 | .slice T x bw az none=>match cd x,qI bw,qI az with
   |some x,some bw,some az=>some (.cU T x bw az)
   |_,_,_=>none
 | .fieldAddr T x k=>(cd x).map fun x=>.dC T x k
 | .indexAddr T x i=>match cd x,cd i with
   |some x,some i=>some (.dK T x i)
   |_,_=>none
 | .index T x i=>match cd x,cd i with
   |some x,some i=>some (.idx T x i)
   |_,_=>none
 | .extract x k=>(cd x).map fun x=>.ex x k
 | .field T x k=>(cd x).map fun x=>.h5 T x k
 | .makeMap _ none=>some .qH
 | .lookup T x i false=>match cd x,cd i with
   |some x,some i=>some (.jv T x i)
   |_,_=>none
 | .mapUpdate T x i v=>match cd x,cd i,cd v with
   |some x,some i,some v=>some (.iK T x i v)
   |_,_,_=>none
 | .call c=>match c.callee with
   | .value f=>match cd f,oB c.args.toList with
     |some f,some xs=>some (.call f xs)
     |_,_=>none
   | .builtin .len=>match c.args.toList,c.argTypes.toList with
     |[x],[T]=>(cd x).map (.len T)
     |_,_=>none
   | .builtin .cap=>match c.args.toList,c.argTypes.toList with
     |[x],[T]=>(cd x).map (.cap T)
     |_,_=>none
   | .builtin .min=>match c.args.toList with
     |[x,y]=>match cd x,cd y with
      |some x,some y=>some (.kV false x y)
      |_,_=>none
     |_=>none
   | .builtin .max=>match c.args.toList with
     |[x,y]=>match cd x,cd y with
      |some x,some y=>some (.kV true x y)
      |_,_=>none
     |_=>none
   | .builtin .append=>match c.args.toList,c.argTypes.toList with
     |[x,y],[T,a6]=>match cd x,cd y with
      |some x,some y=>some (.app T a6 x y)
      |_,_=>none
     |_,_=>none
   |_=>none
 |_=>none
def kV (e0:Bool):j→j→Option j
 | .str a,.str b=>some (.str (rY e0 a b))
 | .int k a,.int bY b=>if k=bY then some (.int k (tL e0 a b))else none
 |_,_=>none
def kW (s:af):j→Option (j×af)
 | .h y q=>bL s (.h y q)
 |d=>some (d,s)
def aX (C:bq) (s:af):dE→Option (j×af)
 | .cq x=>some (ax s x,s)
 | .fk x=>match ax s x with
   | .h y q=>bL s (.h y q)
   |d=>some (d,s)
 | .pick c a b=>match ax s c with
   | .bool dp=>some (if dp then ax s a else ax s b,s)
   |_=>none
 | .eK T=>(eK C T).map fun d=>(d,s)
 | .dq _ x=>dq s (ax s x)
 | .cL T ps=>cL C s T (ps.map fun p=>(p.1,ax s p.2))
 | .c0 T n ps=>c0 C s T n (ps.map fun p=>(p.1,ax s p.2))
 | .cM T x=>(cM C s T (ax s x)).map fun d=>(d,s)
 | .dW T x y=>(dW C s T (ax s x) (ax s y)).map fun s1=>(.hole,s1)
 | .ed x=>(ed s (ax s x)).map fun d=>(d,s)
 | .bP op T x y=>(bP C s op T (ax s x) (ax s y)).map fun d=>(d,s)
 | .un op x=>(un op (ax s x)).map fun d=>(d,s)
 | .dD A B x=>(dD C s A B (ax s x)).map fun d=>(d,s)
 | .gR f cs=>some (.fn f (cs.map (ax s)),s)
 | .fe T l c=>(fe C T (ax s l) (ax s c)).map fun d=>(d,s)
 | .cU T x bw az=>cU C s T (ax s x) (bw.map (ax s)) (az.map (ax s))
 | .dC T x k=>(dC C s T (ax s x) k).map fun d=>(d,s)
 | .dK T x i=>(dK C s T (ax s x) (ax s i)).map fun d=>(d,s)
 | .idx T x i=>(idx C T (ax s x) (ax s i)).map fun d=>(d,s)
 | .ex x k=>(ex s (ax s x) k).map fun d=>(d,s)
 | .h5 T x k=>(h5 C s T (ax s x) k).bind (kW s)
 | .call _ _=>none
 | .len T x=>(h6 C s T (ax s x)).map fun d=>(d,s)
 | .app T a6 x y=>h7 C s T a6 (ax s x) (ax s y)
 | .shr _=>none
 | .iL _ _ _ _=>none
 | .iM _ _ _=>none
 | .hi _ x=>hi s (ax s x)
 | .my x=>some (ax s x,s)
 | .lJ x=>kW s (ax s x)
 | .qH=>some (.cr (.mp []),s)
 | .jv T x i=>(jv C s T (ax s x) (ax s i)).map fun d=>(d,s)
 | .iK T x i v=>(iK C s T (ax s x) (ax s i) (ax s v)).map fun s1=>(.hole,s1)
 | .jw T a6 x y=>(jw C T a6 (ax s x) (ax s y)).map fun d=>(d,s)
 | .cap T x=>match(C.T T).k,ax s x with
   | .slice _,.bG=>some (.int .i64 0,s)
   |_,_=>none
 | .kV e0 x y=>(kV e0 (ax s x) (ax s y)).map fun d=>(d,s)
 | .bad=>none
section
variable {C:bq} {w0 w:World} {F0 X F:Nat→Prop} {S:Nat→Nat→Prop} {s s1:af} {a:Act} {av:j}
theorem nD:∀{os:List Operand} {xs:List au},oB os=some xs→os.map cd=xs.map some
 |[],xs,h=>by simp[oB]at h;subst h;rfl
 |o::os,xs,h=>by
  simp only[oB]at h
  split at h
  ·rename_i x D5 U aa
   simp at h;subst h
   simp[U,nD aa]
  ·cases h
theorem uQ {ak:Nat→Value} (h:aY w0 F0 X F S s ak w) (cE:∀t,ak t=a.tmps.getD t undef):∀{ps:List (Nat×Operand)} {xs:List (Nat×au)},oC ps=some xs→
  jz w F s ak (xs.map fun p=>(p.1,ax s p.2)) (ps.map fun p=>(p.1,a.eval p.2))
 |[],xs,h=>by simp[oC]at h;subst h;trivial
 |(k,o)::ps,xs,a5=>by
  simp only[oC]at a5
  split at a5
  ·rename_i x D5 U aa
   simp at a5;subst a5
   obtain⟨aD,aO⟩:=da h cE U
   exact⟨rfl,aD,aO,uQ h cE aa⟩
  ·cases a5
def Next (C:bq) (w0:World) (F0 X:Nat→Prop) (ak:Nat→Value) (w:World) (m:Sem Go.Next) (av:j) (s1:af):Prop:=
 ∃r aq v a_ ay,m.run C.P w= .ok r aq∧(r= .value v∨r= .skip∧v=undef)∧aY w0 F0 X a_ ay s1 ak aq∧hg w0 X a_ ay s1 ak aq av v
theorem Good.next {ak:Nat→Value} {m:Sem Value} (h:Good C w0 F0 X ak w m av s1):Next C w0 F0 X ak w (do pure (.value (←m))) av s1:=by
 obtain⟨v,aq,a_,ay,U,aa,aw⟩:=h
 exact⟨.value v,aq,v,a_,ay,by simp[U],.inl rfl,aa,aw⟩
theorem yo {ak:Nat→Value} (h:aY w0 F0 X F S s ak w) {e0:Bool} {x y:j} {e5 fw:Value} {m:Sem Go.Next} (U:ar w F s ak x e5 (fun _=>False)) (aa:ar w F s ak y fw (fun _=>False))
  (he:(kV e0 x y).map (fun d=>(d,s))=some (av,s1)) (hm:m=(do pure (.value (←if e0 then Builtin.max2 e5 fw else Builtin.min2 e5 fw)))):Next C w0 F0 X ak w m av s1:=by
 simp only[Option.map_eq_some_iff,Prod.mk.injEq]at he
 obtain⟨d,ab,rfl,rfl⟩:=he
 unfold kV at ab
 split at ab
 ·rename_i a b
  simp only[Option.some.injEq]at ab;subst ab
  have aE:=iH U
  have aL:=iH aa
  subst aE aL
  subst hm
  refine⟨.value (.string ⟨⟨rY e0 a b⟩⟩),w,_,F,S,?_,.inl rfl,h,.inl ⟨rfl,j4 _⟩⟩
  cases e0
  ·simp only[Builtin.min2,Op.stringOp,qo,rY,Bool.false_eq_true,if_false]
   cases I:(Op.bytesLess a b||a==b)<;>simp[asBool]
  ·simp only[Builtin.max2,Op.stringOp,qo,rY,if_true]
   cases I:Op.bytesLess a b<;>simp[asBool]
 ·rename_i k a bY b
  split at ab
  ·rename_i ai
   subst ai
   simp only[Option.some.injEq]at ab;subst ab
   have aE:=jn U
   have aL:=jn aa
   subst aE aL
   subst hm
   refine⟨.value (.int k (tL e0 a b)),w,_,F,S,?_,.inl rfl,h,.inl ⟨rfl,of_int _ _⟩⟩
   cases e0<;>simp[Builtin.min2,Builtin.max2,tL]
  ·cases ab
 ·cases ab
theorem yp (aQ:C.cY) {ak:Nat→Value} (h:aY w0 F0 X F S s ak w) (cE:∀t,ak t=a.tmps.getD t undef) {o:Oper} {a7:dE} (R:bR o.op=some a7) (he:aX C s a7=some (av,s1)):
  Next C w0 F0 X ak w (execOp a.eval o) av s1:=by
 obtain⟨dst,op,ty,pos,after,guard⟩:=o
 simp only at R
 cases op with
 |move x=>
  simp only[bR,Option.map_eq_some_iff]at R
  obtain⟨b1,ao,rfl⟩:=R
  obtain⟨aD,aO⟩:=da h cE ao
  simp only[aX,Option.some.injEq,Prod.mk.injEq]at he
  obtain⟨rfl,rfl⟩:=he
  exact⟨_,w,_,F,S,rfl,.inl rfl,h,.inl ⟨aD,aO⟩⟩
 |assign x=>
  simp only[bR,Option.map_eq_some_iff]at R
  obtain⟨b1,ao,rfl⟩:=R
  obtain⟨aD,aO⟩:=da h cE ao
  simp only[aX]at he
  split at he
  ·rename_i y q aW
   rw[aW]at aD aO
   obtain⟨bh,k0,bn,bp,Sn,cy,b_,c4,cZ,eM,_⟩:=jZ h aD aO he
   exact⟨_,w,_,F,bh,rfl,.inl rfl,k0,.inr ⟨bn,bp,Sn,cy,b_,c4,cZ,eM⟩⟩
  ·simp only[Option.some.injEq,Prod.mk.injEq]at he
   obtain⟨rfl,rfl⟩:=he
   exact⟨_,w,_,F,S,rfl,.inl rfl,h,.inl ⟨aD,aO⟩⟩
 |pick c x y=>
  simp only[bR]at R
  split at R
  ·rename_i yq b1 gZ ae ao aW
   simp only[Option.some.injEq]at R;subst R
   simp only[aX]at he
   split at he
   ·rename_i b I
    simp only[Option.some.injEq,Prod.mk.injEq]at he
    obtain⟨rfl,rfl⟩:=he
    have nC:=(da h cE ae).2
    rw[I]at nC
    have nC:=mq nC
    obtain⟨aU,a8⟩:=da h cE ao
    obtain⟨uR,uS⟩:=da h cE aW
    refine⟨.value (if b then a.eval x else a.eval y),w,_,F,S,?_,.inl rfl,h,.inl ?_⟩
    ·simp[execOp,nC,asBool]
    ·cases b
     ·exact⟨uR,uS⟩
     ·exact⟨aU,a8⟩
   ·cases he
  ·cases R
 |alloc T=>
  simp only[bR,Option.some.injEq]at R;subst R
  simp only[aX,Option.map_eq_some_iff,Prod.mk.injEq]at he
  obtain⟨d,ab,rfl,rfl⟩:=he
  exact(CZ aQ h ab).next
 |box T x=>
  simp only[bR,Option.map_eq_some_iff]at R
  obtain⟨b1,ao,rfl⟩:=R
  obtain⟨aD,aO⟩:=da h cE ao
  exact(C2 h aD aO he).next
 |build T ps=>
  simp only[bR,Option.map_eq_some_iff]at R
  obtain⟨D6,an,rfl⟩:=R
  obtain⟨ps⟩:=ps
  have:=(DZ aQ h (uQ h cE an) he).next
  simpa [execOp]using this
 |buildSlice T n ps=>
  simp only[bR,Option.map_eq_some_iff]at R
  obtain⟨D6,an,rfl⟩:=R
  obtain⟨ps⟩:=ps
  have:=(D2 aQ h (uQ h cE an) he).next
  simpa [execOp]using this
 |load T x=>
  simp only[bR,Option.map_eq_some_iff]at R
  obtain⟨b1,ao,rfl⟩:=R
  obtain⟨aD,aO⟩:=da h cE ao
  simp only[aX,Option.map_eq_some_iff,Prod.mk.injEq]at he
  obtain⟨d,ab,rfl,rfl⟩:=he
  exact(CU aQ h aO ab).next
 |store T x y=>
  simp only[bR]at R
  split at R
  ·rename_i b1 gZ ao aW
   simp only[Option.some.injEq]at R;subst R
   simp only[aX,Option.map_eq_some_iff,Prod.mk.injEq]at he
   obtain⟨s2,ab,rfl,rfl⟩:=he
   obtain⟨aq,ay,U,aa⟩:=CX aQ h (da h cE ao).2 (da h cE aW).1 (da h cE aW).2 ab
   exact⟨.skip,aq,undef,F,ay,by simp[execOp,U],.inr ⟨rfl,rfl⟩,aa,.inl ⟨rfl,by rw[ar];trivial⟩⟩
  ·cases R
 |nilCheck x=>
  simp only[bR,Option.map_eq_some_iff]at R
  obtain⟨b1,ao,rfl⟩:=R
  obtain⟨aD,aO⟩:=da h cE ao
  simp only[aX,Option.map_eq_some_iff,Prod.mk.injEq]at he
  obtain⟨d,ab,rfl,rfl⟩:=he
  obtain⟨rfl,an,aC⟩:=Df h aO ab
  refine⟨.value (a.eval x),w,_,F,S,?_,.inl rfl,h,.inl ⟨an,aO⟩⟩
  rcases aC with⟨b,I⟩|⟨f,c,I⟩<;>simp[execOp,I]
 |binOp op T x y PJ=>
  simp only[bR]at R
  split at R
  ·rename_i b1 gZ ao aW
   simp only[Option.some.injEq]at R;subst R
   simp only[aX,Option.map_eq_some_iff,Prod.mk.injEq]at he
   obtain⟨d,ab,rfl,rfl⟩:=he
   exact(Dc aQ h x y (da h cE ao).2 (da h cE aW).2 ab).next
  ·cases R
 |unOp op T x=>
  simp only[bR,Option.map_eq_some_iff]at R
  obtain⟨b1,ao,rfl⟩:=R
  simp only[aX,Option.map_eq_some_iff,Prod.mk.injEq]at he
  obtain⟨d,ab,rfl,rfl⟩:=he
  exact(Dd h (da h cE ao).2 ab).next
 |convert A B x=>
  simp only[bR,Option.map_eq_some_iff]at R
  obtain⟨b1,ao,rfl⟩:=R
  simp only[aX,Option.map_eq_some_iff,Prod.mk.injEq]at he
  obtain⟨d,ab,rfl,rfl⟩:=he
  exact(Dp aQ h (da h cE ao).2 ab).next
 |makeFunc fn first cs=>
  cases fn with
  |func f=>
   simp only[bR]at R
   split at R
   ·rename_i D7
    simp only[Option.map_eq_some_iff]at R
    obtain⟨PK,e3,rfl⟩:=R
    simp only[aX,Option.some.injEq,Prod.mk.injEq]at he
    obtain⟨rfl,rfl⟩:=he
    have D8:first= #[]:=by simpa using D7
    subst D8
    refine⟨_,w,_,F,S,rfl,.inl rfl,h,.inl ⟨rfl,?_⟩⟩
    rw[ar]
    refine⟨cs.map a.eval,by simp,?_⟩
    simpa using sq h cE _ _ (nD e3)
   ·cases R
  |_=>simp[bR]at R
 |makeSlice T l c=>
  simp only[bR]at R
  split at R
  ·rename_i b1 gZ ao aW
   simp only[Option.some.injEq]at R;subst R
   simp only[aX,Option.map_eq_some_iff,Prod.mk.injEq]at he
   obtain⟨d,ab,rfl,rfl⟩:=he
   exact(DP aQ h (da h cE ao).2 (da h cE aW).2 ab).next
  ·cases R
 |slice T x bw az e0=>
  cases e0 with
  |some m=>simp[bR]at R
  |none=>
   simp only[bR]at R
   split at R
   ·rename_i b1 PL yr ao hn ho
    simp only[Option.some.injEq]at R;subst R
    obtain⟨aD,aO⟩:=da h cE ao
    have opt:∀{o:Option Operand} {i5:Option au},qI o=some i5→lF w F s ak (i5.map (ax s)) (o.map a.eval):=by
     intro o i5 bs
     cases o with
     |none=>simp[qI]at bs;subst bs;trivial
     |some o=>
      simp only[qI,Option.map_eq_some_iff]at bs
      obtain⟨x,ao,rfl⟩:=bs
      exact(da h cE ao).2
    exact(Ds aQ h aD aO (opt hn) (opt ho) he).next
   ·cases R
 |fieldAddr T x k=>
  simp only[bR,Option.map_eq_some_iff]at R
  obtain⟨b1,ao,rfl⟩:=R
  obtain⟨aD,aO⟩:=da h cE ao
  simp only[aX,Option.map_eq_some_iff,Prod.mk.injEq]at he
  obtain⟨d,ab,rfl,rfl⟩:=he
  exact(CO aQ h aD aO ab).next
 |indexAddr T x i=>
  simp only[bR]at R
  split at R
  ·rename_i b1 gZ ao aW
   simp only[Option.some.injEq]at R;subst R
   simp only[aX,Option.map_eq_some_iff,Prod.mk.injEq]at he
   obtain⟨d,ab,rfl,rfl⟩:=he
   exact(CP aQ h (da h cE ao).2 (da h cE aW).2 ab).next
  ·cases R
 |index T x i=>
  simp only[bR]at R
  split at R
  ·rename_i b1 gZ ao aW
   simp only[Option.some.injEq]at R;subst R
   simp only[aX,Option.map_eq_some_iff,Prod.mk.injEq]at he
   obtain⟨d,ab,rfl,rfl⟩:=he
   exact(Dl aQ h (da h cE ao).2 (da h cE aW).2 ab).next
  ·cases R
 |makeMap t r=>
  cases r with
  |none=>
   simp only[bR,Option.some.injEq]at R;subst R
   simp only[aX,Option.some.injEq,Prod.mk.injEq]at he
   obtain⟨rfl,rfl⟩:=he
   exact(DO h t).next
  |some r=>simp[bR]at R
 |lookup T x i c=>
  cases c with
  |true=>simp[bR]at R
  |false=>
   simp only[bR]at R
   split at R
   ·rename_i b1 lz ao az
    simp only[Option.some.injEq]at R;subst R
    simp only[aX,Option.map_eq_some_iff,Prod.mk.injEq]at he
    obtain⟨d,ab,rfl,rfl⟩:=he
    exact(DL aQ h (da h cE ao).2 (da h cE az).2 ab).next
   ·cases R
 |mapUpdate T x i v=>
  simp only[bR]at R
  split at R
  ·rename_i b1 lz dJ ao az aC
   simp only[Option.some.injEq]at R;subst R
   simp only[aX,Option.map_eq_some_iff,Prod.mk.injEq]at he
   obtain⟨s2,ab,rfl,rfl⟩:=he
   obtain⟨aq,ay,U,aa⟩:=DM aQ h (da h cE ao).2 (da h cE az).2 (da h cE aC).2 ab
   exact⟨.skip,aq,undef,F,ay,by simp[execOp,U],.inr ⟨rfl,rfl⟩,aa,.inl ⟨rfl,by rw[ar];trivial⟩⟩
  ·cases R
 |extract x k=>
  simp only[bR,Option.map_eq_some_iff]at R
  obtain⟨b1,ao,rfl⟩:=R
  simp only[aX,Option.map_eq_some_iff,Prod.mk.injEq]at he
  obtain⟨d,ab,rfl,rfl⟩:=he
  exact(Di h (da h cE ao).2 ab).next
 |field T x k=>
  simp only[bR,Option.map_eq_some_iff]at R
  obtain⟨b1,ao,rfl⟩:=R
  simp only[aX,Option.bind_eq_some_iff]at he
  obtain⟨d,ab,he⟩:=he
  obtain⟨v,aq,a_,ay,aA,h0,jX⟩:=Dj aQ h (da h cE ao).2 ab
  unfold kW at he
  split at he
  ·rename_i y q
   have D9:ar aq a_ s ak (.h y q) v (fun _=>False):=by
    rcases jX with⟨_,aO⟩|⟨aD,_⟩
    ·exact aO
    ·cases aD
   obtain⟨bh,k0,bn,bp,Sn,cy,b_,c4,cZ,eM,_⟩:=jZ h0 rfl D9 he
   exact⟨.value v,aq,v,a_,bh,by simp[execOp,aA],.inl rfl,k0,.inr ⟨bn,bp,Sn,cy,b_,c4,cZ,eM⟩⟩
  ·simp only[Option.some.injEq,Prod.mk.injEq]at he
   obtain⟨rfl,rfl⟩:=he
   exact⟨.value v,aq,v,a_,ay,by simp[execOp,aA],.inl rfl,h0,jX⟩
 |call c=>
  obtain⟨callee,args,argTypes⟩:=c
  simp only[bR]at R
  split at R
  ·split at R
   ·simp only[Option.some.injEq]at R;subst R
    simp[aX]at he
   ·cases R
  ·split at R
   ·rename_i x T iN nE
    simp only[Option.map_eq_some_iff]at R
    obtain⟨b1,ao,rfl⟩:=R
    simp only[aX,Option.map_eq_some_iff,Prod.mk.injEq]at he
    obtain⟨d,ab,rfl,rfl⟩:=he
    have:=(Dm (ty:=ty) aQ h (da h cE ao).2 ab).next
    have aE:args= #[x]:=by apply Array.ext';exact iN
    have aL:argTypes= #[T]:=by apply Array.ext';exact nE
    subst aE aL
    simpa [execOp,resolve,invoke,builtin]using this
   ·cases R
  ·split at R
   ·rename_i x T iN nE
    simp only[Option.map_eq_some_iff]at R
    obtain⟨b1,ao,rfl⟩:=R
    simp only[aX]at he
    split at he
    ·rename_i e ai D_
     simp only[Option.some.injEq,Prod.mk.injEq]at he
     obtain⟨rfl,rfl⟩:=he
     have aC:=(da h cE ao).2
     rw[D_]at aC
     have:=lE aC
     obtain⟨i,d,z,aE,aL,bb,b2,b9,bl,bf⟩:=aQ.info (dB ai (by simp))
     rw[ai]at bf
     have ab:=hh bf;subst ab
     have Ea:args= #[x]:=by apply Array.ext';exact iN
     have Eb:argTypes= #[T]:=by apply Array.ext';exact nE
     subst Ea Eb
     have aA:(Builtin.cap_ #[T] ty #[a.eval x]).run C.P w= .ok (.int .i64 0) w:=by
      rw[this];simp[Builtin.cap_,run_underlying bl,goInt]
     have:=(Good.same (av:=.int .i64 0) h aA rfl (of_int _ _)).next
     simpa [execOp,resolve,invoke,builtin]using this
    ·cases he
   ·cases R
  ·split at R
   ·rename_i x y iN
    split at R
    ·rename_i b1 gZ ao aW
     simp only[Option.some.injEq]at R;subst R
     have aE:args= #[x,y]:=by apply Array.ext';exact iN
     subst aE
     exact yo h (da h cE ao).2 (da h cE aW).2 he (by simp[execOp,resolve,invoke,builtin,Builtin.min_])
    ·cases R
   ·cases R
  ·split at R
   ·rename_i x y iN
    split at R
    ·rename_i b1 gZ ao aW
     simp only[Option.some.injEq]at R;subst R
     have aE:args= #[x,y]:=by apply Array.ext';exact iN
     subst aE
     exact yo h (da h cE ao).2 (da h cE aW).2 he (by simp[execOp,resolve,invoke,builtin,Builtin.max_])
    ·cases R
   ·cases R
  ·split at R
   ·rename_i x y T a6 iN nE
    split at R
    ·rename_i b1 gZ ao aW
     simp only[Option.some.injEq]at R;subst R
     have:=(DC (ty:=ty) aQ h (da h cE ao).2 (da h cE aW).2 he).next
     have aE:args= #[x,y]:=by apply Array.ext';exact iN
     have aL:argTypes= #[T,a6]:=by apply Array.ext';exact nE
     subst aE aL
     simpa [execOp,resolve,invoke,builtin]using this
    ·cases R
   ·cases R
  ·cases R
 |_=>simp[bR]at R
end
mutual
def j.R:j→List Nat
 | .h x _=>[x]
 | .an x _=>[x]
 | .I x _=>[x]
 | .fn _ cap=>j.cI cap
 |_=>[]
def j.cI:List j→List Nat
 |[]=>[]
 |d::ds=>d.R++j.cI ds
end
inductive kX where
 |no
 |bo
 |bK
structure en where
 k:kX
 x:Nat
 d:j
def kX.app (k:kX) (x:Nat) (a:j):j:=match k with
 | .no=>a
 | .bo=>bV.bo x a
 | .bK=>bV.bK x a
def en.at (m:en) (u:Nat) (a:j):j:=if u=m.x then m.d else m.k.app m.x a
def gm:List en→Nat→j→j
 |[],_,a=>a
 |m::ms,u,a=>gm ms u (m.at u a)
def b5 (ms:List en) (s:af):af:=fun u=>gm ms u (s u)
theorem yt:∀(ms g3:List en) (u:Nat) (a:j),gm (ms++g3) u a=gm g3 u (gm ms u a)
 |[],_,_,_=>rfl
 |m::ms,g3,u,a=>by simp only[List.cons_append,gm];exact yt ms g3 u _
theorem hH (ms g3:List en) (s:af):b5 (ms++g3) s=b5 g3 (b5 ms s):=by
 funext u;simp[b5,yt]
theorem Ec {ms:List en} {s aj:af} {u:Nat} (h:aj u=s u):b5 ms aj u=b5 ms s u:=by simp[b5,h]
theorem nF (s:af) (x:Nat) (d:j):bZ (e_ x s) x d=b5 [⟨.bo,x,d⟩] s:=by
 funext u;simp only[b5,gm,en.at,bZ,e_,kX.app]
theorem yu (s:af) (x:Nat) (d:j):bZ (hD x s) x d=b5 [⟨.bK,x,d⟩] s:=by
 funext u;simp only[b5,gm,en.at,bZ,hD,kX.app]
theorem uT (s:af) (x:Nat) (d:j):bZ s x d=b5 [⟨.no,x,d⟩] s:=by
 funext u;simp only[b5,gm,en.at,bZ,kX.app]
mutual
theorem qJ {x:Nat}:∀a:j,x∉a.R→bo x a=a
 | .h y q,h=>by
   simp only[j.R,List.mem_singleton]at h
   simp only[bo];rw[if_neg (fun e=>h e.symm)]
 | .an y q,h=>by
   simp only[j.R,List.mem_singleton]at h
   simp only[bo];rw[if_neg (fun e=>h e.symm)]
 | .I y q,h=>rfl
 | .fn f cap,h=>by simp only[bo];rw[yv cap (by simpa [j.R]using h)]
 | .hole,_=>rfl
 | .bool _,_=>rfl
 | .c1,_=>rfl
 | .int _ _,_=>rfl
 | .str _,_=>rfl
 | .ck,_=>rfl
 | .bG,_=>rfl
 | .slice _,_=>rfl
 | .aK _ _,_=>rfl
 | .ref _,_=>rfl
 | .bc _,_=>rfl
 | .agg _,_=>rfl
 | .tuple _,_=>rfl
 | .cr _,_=>rfl
theorem yv {x:Nat}:∀ds:List j,x∉j.cI ds→fv x ds=ds
 |[],_=>rfl
 |d::ds,h=>by
  simp only[j.cI,List.mem_append,not_or]at h
  simp only[fv];rw[qJ d h.1,yv ds h.2]
end
mutual
theorem uU {x:Nat}:∀a:j,x∉a.R→bK x a=a
 | .h y q,h=>by
   simp only[j.R,List.mem_singleton]at h
   simp only[bK];rw[if_neg (fun e=>h e.symm)]
 | .an y q,h=>by
   simp only[j.R,List.mem_singleton]at h
   simp only[bK];rw[if_neg (fun e=>h e.symm)]
 | .I y q,h=>by
   simp only[j.R,List.mem_singleton]at h
   simp only[bK];rw[if_neg (fun e=>h e.symm)]
 | .fn f cap,h=>by simp only[bK];rw[yw cap (by simpa [j.R]using h)]
 | .hole,_=>rfl
 | .bool _,_=>rfl
 | .c1,_=>rfl
 | .int _ _,_=>rfl
 | .str _,_=>rfl
 | .ck,_=>rfl
 | .bG,_=>rfl
 | .slice _,_=>rfl
 | .aK _ _,_=>rfl
 | .ref _,_=>rfl
 | .bc _,_=>rfl
 | .agg _,_=>rfl
 | .tuple _,_=>rfl
 | .cr _,_=>rfl
theorem yw {x:Nat}:∀ds:List j,x∉j.cI ds→fM x ds=ds
 |[],_=>rfl
 |d::ds,h=>by
  simp only[j.cI,List.mem_append,not_or]at h
  simp only[fM];rw[uU d h.1,yw ds h.2]
end
theorem qK {k:kX} {x:Nat} {a:j} (h:k= .no∨x∉a.R):k.app x a=a:=by
 cases k with
 |no=>rfl
 |bo=>exact qJ a (by simpa using h)
 |bK=>exact uU a (by simpa using h)
mutual
theorem yx (x y:Nat):∀a:j,bo x (bo y a)=bo y (bo x a)
 | .h z q=>by simp only[bo];by_cases U:z=x<;>by_cases aa:z=y<;>by_cases aw:q=[]<;>simp[U,aa,aw,bo]<;>(subst_vars;simp_all [bo])
 | .an z q=>by simp only[bo];by_cases U:z=x<;>by_cases aa:z=y<;>simp[U,aa,bo]<;>(subst_vars;simp_all [bo])
 | .I z q=>rfl
 | .fn f cap=>by simp only[bo];rw[yy x y cap]
 | .hole=>rfl
 | .bool _=>rfl
 | .c1=>rfl
 | .int _ _=>rfl
 | .str _=>rfl
 | .ck=>rfl
 | .bG=>rfl
 | .slice _=>rfl
 | .aK _ _=>rfl
 | .ref _=>rfl
 | .bc _=>rfl
 | .agg _=>rfl
 | .tuple _=>rfl
 | .cr _=>rfl
theorem yy (x y:Nat):∀ds:List j,fv x (fv y ds)=fv y (fv x ds)
 |[]=>rfl
 |d::ds=>by simp only[fv];rw[yx x y d,yy x y ds]
end
mutual
theorem yz (x y:Nat):∀a:j,bK x (bK y a)=bK y (bK x a)
 | .h z q=>by simp only[bK];by_cases U:z=x<;>by_cases aa:z=y<;>simp[U,aa,bK]<;>(subst_vars;simp_all [bK])
 | .an z q=>by simp only[bK];by_cases U:z=x<;>by_cases aa:z=y<;>simp[U,aa,bK]<;>(subst_vars;simp_all [bK])
 | .I z q=>by simp only[bK];by_cases U:z=x<;>by_cases aa:z=y<;>simp[U,aa,bK]<;>(subst_vars;simp_all [bK])
 | .fn f cap=>by simp only[bK];rw[yA x y cap]
 | .hole=>rfl
 | .bool _=>rfl
 | .c1=>rfl
 | .int _ _=>rfl
 | .str _=>rfl
 | .ck=>rfl
 | .bG=>rfl
 | .slice _=>rfl
 | .aK _ _=>rfl
 | .ref _=>rfl
 | .bc _=>rfl
 | .agg _=>rfl
 | .tuple _=>rfl
 | .cr _=>rfl
theorem yA (x y:Nat):∀ds:List j,fM x (fM y ds)=fM y (fM x ds)
 |[]=>rfl
 |d::ds=>by simp only[fM];rw[yz x y d,yA x y ds]
end
mutual
theorem uV (x y:Nat):∀a:j,bo x (bK y a)=bK y (bo x a)
 | .h z q=>by simp only[bK,bo];by_cases U:z=x<;>by_cases aa:z=y<;>by_cases aw:q=[]<;>simp[U,aa,aw,bK,bo]<;>(subst_vars;simp_all [bK,bo])
 | .an z q=>by simp only[bK,bo];by_cases U:z=x<;>by_cases aa:z=y<;>simp[U,aa,bK,bo]<;>(subst_vars;simp_all [bK,bo])
 | .I z q=>by simp only[bK,bo];by_cases aa:z=y<;>simp[aa,bo]
 | .fn f cap=>by simp only[bK,bo];rw[yB x y cap]
 | .hole=>rfl
 | .bool _=>rfl
 | .c1=>rfl
 | .int _ _=>rfl
 | .str _=>rfl
 | .ck=>rfl
 | .bG=>rfl
 | .slice _=>rfl
 | .aK _ _=>rfl
 | .ref _=>rfl
 | .bc _=>rfl
 | .agg _=>rfl
 | .tuple _=>rfl
 | .cr _=>rfl
theorem yB (x y:Nat):∀ds:List j,fv x (fM y ds)=fM y (fv x ds)
 |[]=>rfl
 |d::ds=>by simp only[fM,fv];rw[uV x y d,yB x y ds]
end
theorem Ed (k l:kX) (x y:Nat) (a:j):k.app x (l.app y a)=l.app y (k.app x a):=by
 cases k<;>cases l<;>simp only[kX.app]<;>first|rfl|exact yx .. |exact yz .. |exact uV .. |exact(uV ..).symm
def au.use (s:af):au→List Nat
 | .t n=>n::(s n).R
 | .c av=>av.R
 | .f _=>[]
def au.jA (s:af):List au→List Nat
 |[]=>[]
 |x::xs=>x.use s++au.jA s xs
def uW (s:af):Option au→List Nat
 |none=>[]
 |some x=>x.use s
def use (s:af):dE→List Nat
 | .cq x=>x.use s
 | .fk x=>x.use s
 | .pick c a b=>c.use s++(a.use s++b.use s)
 | .eK _=>[]
 | .dq _ x=>x.use s
 | .cL _ ps=>au.jA s (ps.map (·.2))
 | .c0 _ _ ps=>au.jA s (ps.map (·.2))
 | .cM _ x=>x.use s
 | .dW _ x y=>x.use s++y.use s
 | .ed x=>x.use s
 | .bP _ _ x y=>x.use s++y.use s
 | .un _ x=>x.use s
 | .dD _ _ x=>x.use s
 | .gR _ cs=>au.jA s cs
 | .fe _ l c=>l.use s++c.use s
 | .cU _ x bw az=>x.use s++(uW s bw++uW s az)
 | .dC _ x _=>x.use s
 | .dK _ x i=>x.use s++i.use s
 | .idx _ x i=>x.use s++i.use s
 | .ex x _=>x.use s
 | .h5 _ x _=>x.use s
 | .call f args=>f.use s++au.jA s args
 | .len _ x=>x.use s
 | .app _ _ x y=>x.use s++y.use s
 | .shr a7=>use s a7
 | .iL f args u x=>u::x::(f.use s++au.jA s args)
 | .iM f args us=>us.flatMap (fun u=>u::(s u).R)++(f.use s++au.jA s args)
 | .hi _ x=>x.use s
 | .my x=>x.use s
 | .lJ x=>x.use s
 | .qH=>[]
 | .jv _ x i=>x.use s++i.use s
 | .iK _ x i v=>x.use s++(i.use s++v.use s)
 | .jw _ _ x y=>x.use s++y.use s
 | .cap _ x=>x.use s
 | .kV _ x y=>x.use s++y.use s
 | .bad=>[]
def b3 (s:af):dE→List Nat
 | .fk x=>(ax s x).R
 | .dq _ x=>(ax s x).R
 | .cL _ ps=>j.cI (ps.map fun p=>ax s p.2)
 | .c0 _ _ ps=>j.cI (ps.map fun p=>ax s p.2)
 | .dW _ x y=>(ax s x).R++(ax s y).R
 | .h5 _ x _=>(ax s x).R
 | .lJ x=>(ax s x).R
 | .iK _ x _ _=>(ax s x).R
 | .cU _ x _ _=>(ax s x).R
 | .app _ _ x y=>(ax s x).R++(ax s y).R
 | .shr a7=>b3 s a7
 |_=>[]
def ca (a6:List Nat) (aj s:af):Prop:=∀u∈a6,aj u=s u
theorem ca.left {a6 V:List Nat} {aj s:af} (h:ca (a6++V) aj s):ca a6 aj s:=fun u hu=>h u (List.mem_append_left _ hu)
theorem ca.right {a6 V:List Nat} {aj s:af} (h:ca (a6++V) aj s):ca V aj s:=fun u hu=>h u (List.mem_append_right _ hu)
theorem ca.b5 {a6:List Nat} {aj s:af} (h:ca a6 aj s) (ms:List en):ca a6 (b5 ms aj) (b5 ms s):=fun u hu=>Ec (h u hu)
theorem ca.sub {a6 V:List Nat} {aj s:af} (h:ca a6 aj s) (R:∀u∈V,u∈a6):ca V aj s:=fun u hu=>h u (R u hu)
theorem au.nG {s:af} {x:au}:∀u∈(ax s x).R,u∈x.use s:=by
 intro u hu
 cases x with
 |t n=>
  simp only[ax,fN]at hu
  split at hu
  ·simp[au.use,hu]
  ·simp only[j.R,List.mem_singleton]at hu;simp[au.use,hu]
 |c av=>exact hu
 |f g=>simp[ax,j.R,j.cI]at hu
theorem au.de {s aj:af} {x:au} (h:ca (x.use s) aj s):ax aj x=ax s x:=by
 cases x with
 |t n=>simp only[ax];rw[h n (by simp[au.use])]
 |c av=>rfl
 |f g=>rfl
theorem ca.ax {s aj:af} {x:au} (h:ca (x.use s) aj s):ca (ax s x).R aj s:=h.sub au.nG
theorem yC {s aj:af} {x:Option au} (h:ca (uW s x) aj s):x.map (ax aj)=x.map (ax s):=by
 cases x with
 |none=>rfl
 |some x=>simp only[Option.map_some];rw[au.de h]
theorem au.uX {s aj:af}:∀{xs:List au},ca (au.jA s xs) aj s→xs.map (ax aj)=xs.map (ax s)
 |[],_=>rfl
 |x::xs,h=>by
  simp only[List.map_cons]
  rw[au.de (h.left),au.uX (h.right)]
theorem au.uY {s aj:af}:∀{ps:List (Nat×au)},ca (au.jA s (ps.map (·.2))) aj s→(ps.map fun p=>(p.1,ax aj p.2))=ps.map fun p=>(p.1,ax s p.2)
 |[],_=>rfl
 |x::xs,h=>by
  simp only[List.map_cons]at h⊢
  rw[au.de (h.left),au.uY (h.right)]
theorem au.ss {s:af}:∀{xs:List au},∀u∈j.cI (xs.map (ax s)),u∈au.jA s xs
 |[],u,h=>by simp[j.cI]at h
 |x::xs,u,h=>by
  simp only[List.map_cons,j.cI,List.mem_append]at h
  simp only[au.jA,List.mem_append]
  exact h.imp (au.nG u) (au.ss u)
section
variable {C:bq} {s aj:af} {x y i:j} {T A B:TypeId}
theorem uZ (h:ca x.R aj s):loc aj x=loc s x:=by
 cases x<;>first
  |rfl
  |(simp only[loc];rw[h _ (by simp[j.R])])
theorem u0 {z:Nat} {q:List Nat} (h:loc s x=some (z,q)):z∈x.R:=by
 cases x with
 |h y p=>
  simp only[loc]at h
  split at h
  ·simp only[Option.some.injEq,Prod.mk.injEq]at h;simp[j.R,h.1]
  ·cases h
 |an y p=>
  simp only[loc]at h
  split at h
  ·simp only[Option.some.injEq,Prod.mk.injEq]at h;simp[j.R,h.1]
  ·cases h
 |_=>simp[loc]at h
theorem Ee (h:ca x.R aj s):cM C aj T x=cM C s T x:=by
 have hl:=uZ h
 unfold cM
 split
 ·rfl
 ·rw[h _ (by simp[j.R])]
 ·rw[hl]
  split
  ·rename_i e
   rw[h _ (u0 e)]
  ·rfl
theorem Ef {k:Nat} (h:ca x.R aj s):dC C aj T x k=dC C s T x k:=by
 have hl:=uZ h
 unfold dC
 split
 ·split
  ·split
   ·split
    ·rfl
    ·rw[h _ (by simp[j.R])]
    ·rw[hl]
     split
     ·rename_i e
      rw[h _ (u0 e)]
     ·rfl
   ·rfl
  ·rfl
 ·rfl
theorem Eg (h:ca x.R aj s):dK C aj T x i=dK C s T x i:=by
 cases x<;>first
  |rfl
  |(simp only[dK];rw[h _ (by simp[j.R])])
theorem Eh (h:ca x.R aj s):h6 C aj T x=h6 C s T x:=by
 unfold h6
 cases(C.T T).k<;>cases x<;>first
  |rfl
  |(simp only;rw[h _ (by simp[j.R])])
theorem Ei (h:ca x.R aj s):dD C aj A B x=dD C s A B x:=by
 unfold dD
 cases(C.T B).k<;>cases x<;>first
  |rfl
  |(simp only;rw[h _ (by simp[j.R])])
theorem Ej (h:ca x.R aj s):hj aj x=hj s x:=by
 cases x<;>first
  |rfl
  |(simp only[hj];rw[h _ (by simp[j.R])])
theorem Ek (h:ca x.R aj s):hk aj x=hk s x:=by
 cases x<;>first
  |rfl
  |(simp only[hk];rw[h _ (by simp[j.R])])
theorem El {op:BinOp} (h:ca x.R aj s):bP C aj op T x y=bP C s op T x y:=by
 have U:=Ej h
 have aa:=Ek h
 unfold bP
 split<;>first|rfl|simp only[U,aa]
theorem Em (h:ca x.R aj s):ed aj x=ed s x:=by
 cases x<;>first
  |rfl
  |(simp only[ed];rw[h _ (by simp[j.R])])
theorem En {k y:Nat} {q:List Nat} (h:h5 C s T x k=some (.h y q)):x.R=[y]:=by
 unfold h5 at h
 split at h<;>try (cases h;done)
 split at h<;>try (cases h;done)
 split at h
 ·split at h<;>try (cases h;done)
  split at h
  ·rename_i ae
   simp only[Option.some.injEq]at h
   rw[h]at ae
   exact absurd ae.2.2.2 (by simp[j.tree])
  ·cases h
 ·split at h<;>try (cases h;done)
  split at h<;>try (cases h;done)
  split at h<;>try (cases h;done)
  rename_i d ab ae
  by_cases an:d.plain=true
  ·simp only[an,if_true,Option.some.injEq]at h
   rw[h]at ae
   exact absurd ae.2.2.2 (by simp[j.tree])
  ·simp only[an,Option.some.injEq]at h
   injection h with U aa
   subst U;rfl
 ·cases h
theorem yD {k:Nat} (h:ca x.R aj s):h5 C aj T x k=h5 C s T x k:=by
 unfold h5
 split<;>try rfl
 split<;>try rfl
 cases x<;>first
  |rfl
  |(simp only[];rw[h _ (by simp[j.R])])
theorem Eo {k:Nat} (h:ca x.R aj s):ex aj x k=ex s x k:=by
 cases x<;>first
  |rfl
  |(simp only[ex];rw[h _ (by simp[j.R])])
theorem oD:∀(q:List Nat) (a d e:j),j.sub q a=some d→(d.plain=false∨q≠[])→(q=[]→e.R=[])→(j.put q e a).R=[]:=by
 intro q a d e h an he
 cases q with
 |nil=>rw[j.put];exact he rfl
 |cons k q=>
  cases a<;>first
   |(simp[j.sub]at h;done)
   |skip
  all_goals
   unfold j.put
   repeat' split
   all_goals first|rfl|(simp_all;done)
end
def Loc {α:Type} (a6 oE:List Nat) (f:af→Option (α×af)) (s:af) (av:α) (s1:af):Prop:=
 ∃ms,s1=b5 ms s∧(∀m∈ms,m.x∈oE∧m.d.R=[])∧∀aj,ca a6 aj s→f aj=some (av,b5 ms aj)
theorem Loc.pure {α:Type} {a6 oE:List Nat} {f:af→Option (α×af)} {s:af} {av:α} (h:∀aj,ca a6 aj s→f aj=some (av,aj)):Loc a6 oE f s av s:=
 ⟨[],rfl,by simp,fun aj R=>h aj R⟩
theorem Loc.mono {α:Type} {a6 oE su yE:List Nat} {f:af→Option (α×af)} {s s1:af} {av:α} (h:Loc a6 oE f s av s1) (kQ:∀u∈a6,u∈su) (hE:∀u∈oE,u∈yE):Loc su yE f s av s1:=by
 obtain⟨ms,U,aa,aw⟩:=h
 exact⟨ms,U,fun m hm=>⟨hE _ (aa m hm).1,(aa m hm).2⟩,fun aj R=>aw aj (R.sub kQ)⟩
section
variable {C:bq} {s s1:af} {x y d:j} {T A B:TypeId}
theorem lK (h:bL s x=some (d,s1)):Loc x.R x.R (fun s=>bL s x) s d s1:=by
 cases x with
 |h y q=>
  simp only[bL]at h
  split at h
  ·rename_i e he
   split at h
   ·cases h
   ·rename_i an
    simp only[Option.some.injEq,Prod.mk.injEq]at h
    obtain⟨rfl,rfl⟩:=h
    have an:e.plain=false:=by simpa using an
    refine⟨[⟨.bo,y,j.put q e.bT (s y)⟩],nF _ _ _,?_,?_⟩
    ·intro m hm
     simp only[List.mem_singleton]at hm;subst hm
     refine⟨by simp[j.R],oD q _ _ _ he (.inl an) fun bN=> ?_⟩
     subst bN
     cases e<;>first|(simp[j.plain]at an;done)|rfl
    ·intro aj R
     have aE:aj y=s y:=R y (by simp[j.R])
     simp only[bL,aE,he,an]
     rw[←nF];rfl
  ·cases h
 |an y q=>simp[bL]at h
 |I y q=>simp[bL]at h
 |fn f c=>simp[bL]at h
 |hole=>simp[bL]at h
 |_=>
  simp only[bL,Option.some.injEq,Prod.mk.injEq]at h
  obtain⟨rfl,rfl⟩:=h
  exact .pure fun aj _=>rfl
mutual
theorem yF (x:Nat):∀a:j,∀u∈(bo x a).R,u∈a.R
 | .h y q,u,h=>by
   simp only[bo]at h
   split at h
   ·split at h
    ·exact h
    ·simp[j.R]at h
   ·exact h
 | .an y q,u,h=>by
   simp only[bo]at h
   split at h
   ·simp[j.R]at h
   ·exact h
 | .I y q,u,h=>h
 | .fn f cap,u,h=>by simp only[bo,j.R]at h⊢;exact yG x cap u h
 | .hole,u,h=>h
 | .bool _,u,h=>h
 | .c1,u,h=>h
 | .int _ _,u,h=>h
 | .str _,u,h=>h
 | .ck,u,h=>h
 | .bG,u,h=>h
 | .slice _,u,h=>h
 | .aK _ _,u,h=>h
 | .ref _,u,h=>h
 | .bc _,u,h=>h
 | .agg _,u,h=>h
 | .tuple _,u,h=>h
theorem yG (x:Nat):∀ds:List j,∀u∈j.cI (fv x ds),u∈j.cI ds
 |[],u,h=>h
 |d::ds,u,h=>by
  simp only[fv,j.cI,List.mem_append]at h⊢
  exact h.imp (yF x d u) (yG x ds u)
end
theorem u1 (o:Option Nat) (a:j):∀u∈(g0 o a).R,u∈a.R:=by
 intro u h
 cases o with
 |none=>exact h
 |some x=>exact yF x a u h
theorem yH:∀(os:List (Option Nat)) (a:j),∀u∈(jx os a).R,u∈a.R:=by
 intro os
 induction os with
 |nil=>intro a u h;exact h
 |cons o os ih=>intro a u h;exact u1 o a u (ih (g0 o a) u h)
theorem yI {place:Nat→Option (Nat×Nat)}:∀{ps:List (Nat×j)} {s s1:af} {eu ds:List j} {os:List (Option Nat)},jy place s eu os ps=some (ds,s1)→
  Loc (j.cI (ps.map (·.2))) (j.cI (ps.map (·.2))) (fun s=>jy place s eu os ps) s ds s1:=by
 intro ps
 induction ps with
 |nil=>
  intro s s1 eu ds os h
  simp only[jy,Option.some.injEq,Prod.mk.injEq]at h
  obtain⟨rfl,rfl⟩:=h
  exact .pure fun aj _=>rfl
 |cons p ps ih=>
  intro s s1 eu ds os h
  obtain⟨k,a⟩:=p
  simp only[jy]at h
  split at h
  ·rename_i d s2 off n z aG eJ bj
   split at h
   ·cases h
   ·rename_i aT iO
    split at h
    ·rename_i ae
     obtain⟨j_,rfl,aa,aw⟩:=lK aG
     obtain⟨mx,rfl,a2,bJ⟩:=ih h
     refine⟨j_++mx,(hH _ _ _).symm,?_,?_⟩
     ·intro m hm
      simp only[List.map_cons,j.cI,List.mem_append]at hm⊢
      rcases hm with hm|hm
      ·exact⟨.inl (yH _ _ _ (aa m hm).1),(aa m hm).2⟩
      ·exact⟨.inr (a2 m hm).1,(a2 m hm).2⟩
     ·intro aj R
      simp only[List.map_cons,j.cI]at R
      have aE:=aw aj (R.left.sub (yH _ _))
      have aL:=bJ (b5 j_ aj) (R.right.b5 j_)
      simp only at aE aL
      simp only[jy,aE,eJ,bj,hH]
      rw[if_pos ae];exact aL
    ·cases h
  ·cases h
theorem Ep {ps:List (Nat×j)} {av:j} (h:cL C s T ps=some (av,s1)):Loc (j.cI (ps.map (·.2))) (j.cI (ps.map (·.2))) (fun s=>cL C s T ps) s av s1:=by
 unfold cL at h
 split at h
 ·rename_i ag eu ai bj
  split at h
  ·rename_i ae
   split at h
   ·rename_i ds s2 bk
    simp only[Option.some.injEq,Prod.mk.injEq]at h
    obtain⟨rfl,rfl⟩:=h
    obtain⟨ms,U,aa,aw⟩:=yI bk
    refine⟨ms,U,aa,fun aj R=> ?_⟩
    have:=aw aj R
    simp only at this
    simp only[cL,ai,bj,if_pos ae,this]
   ·cases h
  ·cases h
 ·cases h
theorem Er {n:Nat} {ps:List (Nat×j)} {av:j} (h:c0 C s T n ps=some (av,s1)):Loc (j.cI (ps.map (·.2))) (j.cI (ps.map (·.2))) (fun s=>c0 C s T n ps) s av s1:=by
 unfold c0 at h
 split at h
 ·rename_i e ai
  split at h
  ·rename_i ae
   split at h
   ·rename_i ds s2 bk
    simp only[Option.some.injEq,Prod.mk.injEq]at h
    obtain⟨rfl,rfl⟩:=h
    obtain⟨ms,U,aa,aw⟩:=yI bk
    refine⟨ms,U,aa,fun aj R=> ?_⟩
    have:=aw aj R
    simp only at this
    simp only[c0,ai,if_pos ae,this]
   ·cases h
  ·cases h
 ·cases h
theorem Es {av:j} (h:dq s x=some (av,s1)):Loc x.R x.R (fun s=>dq s x) s av s1:=by
 unfold dq at h
 split at h
 ·cases h
 ·rename_i d s2 iO aG
  simp only[Option.some.injEq,Prod.mk.injEq]at h
  obtain⟨rfl,rfl⟩:=h
  obtain⟨ms,U,aa,aw⟩:=lK aG
  refine⟨ms,U,aa,fun aj R=> ?_⟩
  have:=aw aj R
  simp only at this
  simp only[dq,this]
 ·cases h
theorem Et {av:j} (h:hi s x=some (av,s1)):Loc x.R [] (fun s=>hi s x) s av s1:=by
 unfold hi at h
 split at h
 ·rename_i y q
  split at h
  ·rename_i ds i0
   split at h
   ·cases h
   ·rename_i ql
    simp only[Option.some.injEq,Prod.mk.injEq]at h
    obtain⟨rfl,rfl⟩:=h
    refine .pure fun aj R=> ?_
    have e:aj y=s y:=R y (by simp[j.R])
    simp only[hi,e,i0,if_neg ql]
  ·cases h
 ·split at h
  ·rename_i ae
   simp only[Option.some.injEq,Prod.mk.injEq]at h
   obtain⟨rfl,rfl⟩:=h
   exact .pure fun aj R=>by simp only[hi,ae,if_true]
  ·cases h
 ·cases h
theorem Eu {s2:af} (h:dW C s T x y=some s2):Loc (x.R++y.R) (x.R++y.R) (fun s=>(dW C s T x y).map fun s1=>(j.hole,s1)) s .hole s2:=by
 unfold dW at h
 split at h
 ·rename_i d s1 z q aG hl
  obtain⟨ms,U,aa,aw⟩:=lK aG
  have bj:=u0 hl
  have bN:q≠[]:=by
   cases x with
   |h y p=>
    simp only[loc]at hl
    split at hl
    ·simp only[Option.some.injEq,Prod.mk.injEq]at hl;simp[←hl.2]
    ·cases hl
   |an y p=>
    simp only[loc]at hl
    split at hl
    ·rename_i j1
     simp only[Option.some.injEq,Prod.mk.injEq]at hl
     obtain⟨rfl,rfl⟩:=hl
     intro e;subst e;simp[j.di]at j1
    ·cases hl
   |_=>simp[loc]at hl
  split at h
  ·cases h
  ·rename_i aT iO
   split at h
   ·rename_i d0 iG
    split at h
    ·rename_i ae
     simp only[Option.some.injEq]at h;subst h
     refine⟨ms++[⟨.bo,z,j.put q d (s z)⟩],?_,?_,?_⟩
     ·rw[hH,←U,nF]
     ·intro m hm
      simp only[List.mem_append,List.mem_singleton]at hm⊢
      rcases hm with hm|rfl
      ·exact⟨.inr (aa m hm).1,(aa m hm).2⟩
      ·exact⟨.inl bj,oD q _ _ _ iG (.inr bN) fun e=>(bN e).elim⟩
     ·intro aj R
      have aE:=aw aj R.right
      simp only at aE
      simp only[dW,aE,uZ R.left,hl,R.left z bj,iG]
      cases d<;>first|(simp only[if_pos ae,Option.map_some,hH,nF];done)|exact(iO _ rfl).elim
    ·cases h
   ·cases h
 ·cases h
theorem Ev {bw az:Option j} {av:j} (h:cU C s T x bw az=some (av,s1)):Loc x.R x.R (fun s=>cU C s T x bw az) s av s1:=by
 cases x with
 |h y q=>
  unfold cU at h
  split at h<;>first|(cases h;done)|skip
  all_goals (rename_i ao;try cases ao)
  rename_i e ai
  split at h
  ·rename_i sz xs c3
   split at h
   ·rename_i b hn ho
    split at h
    ·rename_i ae
     split at h
     ·rename_i d s2 aG
      simp only[Option.some.injEq,Prod.mk.injEq]at h
      obtain⟨rfl,rfl⟩:=h
      obtain⟨ms,U,aa,aw⟩:=lK aG
      refine⟨ms,U,aa,fun aj R=> ?_⟩
      have:=aw aj R
      simp only at this
      have aE:aj y=s y:=R y (by simp[j.R])
      simp only[cU,ai,aE,c3,hn,ho,if_pos ae,this]
     ·cases h
    ·cases h
   ·cases h
  ·cases h
 |_=>
  have nH:s1=s:=by
   unfold cU at h
   repeat' split at h
   all_goals first|(cases h;done)|(simp only[Option.some.injEq,Prod.mk.injEq]at h;exact h.2.symm)|simp_all
  subst nH
  refine .pure fun aj _=> ?_
  unfold cU at h⊢
  repeat' split at h
  all_goals first
   |(cases h;done)
   |(simp only[Option.some.injEq,Prod.mk.injEq]at h
     obtain⟨rfl,_⟩:=h
     simp_all)
def kY (C:bq) (e:TypeId) (s:af):j→Option (j×af)
 | .bG=>some (j.aK (C.T e).sz [],s)
 | .h a q=>bL s (.h a q)
 |_=>none
def hq (s1:af):j→Option (List j×af)
 | .bG=>some ([],s1)
 | .slice ys=>some (ys,s1)
 | .str l=>some (l.map gP,s1)
 | .h a q=>match bL s1 (.h a q)with
   |some (.aK _ ys,s2)=>some (ys,s2)
   |_=>none
 |_=>none
theorem u2 (C:bq) (s:af) (T a6:TypeId) (x y:j):h7 C s T a6 x y=(match(C.T T).k with
 | .slice e=>if(C.T e).ok=true∧(C.T e).zero.wd=(C.T e).sz∧(flat (C.T e).zero).isSome=true∧sg C e a6=true then
   match kY C e s x with
   |some (.aK sz xs,s1)=>if sz=(C.T e).sz then
     match hq s1 (g0 x.owner y)with
     |some (ys,s2)=>if(∀d∈ys,d.wd=(C.T e).sz)∧(xs.length+ys.length)*(C.T e).bytes≤140737488355328∧xs.length+ys.length≤9223372036854775807 then some (.aK sz (xs++ys),s2)else none
     |none=>none
    else none
   |_=>none
   else none
 |_=>none):=by
 unfold h7
 generalize g0 x.owner y=gZ
 cases(C.T T).k<;>first
  |rfl
  |(cases x<;>cases gZ<;>rfl)
theorem Ew {e:TypeId} {d:j} (U:kY C e s x=some (d,s1)):Loc x.R x.R (fun s=>kY C e s x) s d s1:=by
 cases x with
 |bG=>
  simp only[kY,Option.some.injEq,Prod.mk.injEq]at U
  obtain⟨U,rfl⟩:=U
  exact .pure fun aj _=>by simp only[kY,U]
 |h a q=>exact lK U
 |_=>simp[kY]at U
theorem Ex {ys:List j} (aa:hq s y=some (ys,s1)):Loc y.R y.R (fun s=>hq s y) s ys s1:=by
 cases y with
 |bG=>
  simp only[hq,Option.some.injEq,Prod.mk.injEq]at aa
  obtain⟨rfl,rfl⟩:=aa
  exact .pure fun aj _=>rfl
 |slice ys=>
  simp only[hq,Option.some.injEq,Prod.mk.injEq]at aa
  obtain⟨rfl,rfl⟩:=aa
  exact .pure fun aj _=>rfl
 |str l=>
  simp only[hq,Option.some.injEq,Prod.mk.injEq]at aa
  obtain⟨rfl,rfl⟩:=aa
  exact .pure fun aj _=>rfl
 |h a q=>
  simp only[hq]at aa
  split at aa
  ·rename_i DD PM PN aG
   simp only[Option.some.injEq,Prod.mk.injEq]at aa
   obtain⟨rfl,rfl⟩:=aa
   obtain⟨ms,aD,aO,bg⟩:=lK aG
   refine⟨ms,aD,aO,fun aj R=> ?_⟩
   have:=bg aj R
   simp only at this
   simp only[hq,this]
  ·cases aa
 |_=>simp[hq]at aa
theorem Ey {av:j} (h:h7 C s T A x y=some (av,s1)):Loc (x.R++y.R) (x.R++y.R) (fun s=>h7 C s T A x y) s av s1:=by
 rw[u2]at h
 split at h
 ·rename_i e ai
  split at h
  ·rename_i ae
   split at h
   ·rename_i sz xs s2 U
    split at h
    ·rename_i cp
     split at h
     ·rename_i ys ee aa
      split at h
      ·rename_i nm
       simp only[Option.some.injEq,Prod.mk.injEq]at h
       obtain⟨rfl,rfl⟩:=h
       obtain⟨j_,rfl,cj,a3⟩:=Ew U
       obtain⟨mx,rfl,fP,kR⟩:=(Ex aa).mono (u1 _ _) (u1 _ _)
       refine⟨j_++mx,(hH _ _ _).symm,?_,?_⟩
       ·intro m hm
        simp only[List.mem_append]at hm⊢
        rcases hm with hm|hm
        ·exact⟨.inl (cj m hm).1,(cj m hm).2⟩
        ·exact⟨.inr (fP m hm).1,(fP m hm).2⟩
       ·intro aj R
        have aE:=a3 aj R.left
        have aL:=kR (b5 j_ aj) (R.right.b5 j_)
        simp only at aE aL
        simp only[u2,ai,if_pos ae,aE,if_pos cp,aL,if_pos nm,hH]
      ·cases h
     ·cases h
    ·cases h
   ·cases h
  ·cases h
 ·cases h
theorem Ez {aj:af} {i:j} (h:ca x.R aj s):jv C aj T x i=jv C s T x i:=by
 cases x with
 |h y q=>cases i<;>simp only[jv,h y (by simp[j.R])]
 |_=>rfl
theorem EA {i v:j} {s2:af} (h:iK C s T x i v=some s2):Loc x.R x.R (fun s=>(iK C s T x i v).map fun s1=>(j.hole,s1)) s .hole s2:=by
 unfold iK at h
 split at h
 ·rename_i y q k b
  split at h
  ·rename_i m ab
   split at h
   ·rename_i hE
    simp only[Option.some.injEq]at h;subst h
    refine⟨[⟨.bo,y,j.put q (.cr (.mp (kE k b m))) (s y)⟩],nF _ _ _,?_,fun aj R=> ?_⟩
    ·intro n aV
     simp only[List.mem_singleton]at aV;subst aV
     exact⟨by simp[j.R],oD q _ _ _ ab (.inl rfl) fun _=>rfl⟩
    ·have aE:aj y=s y:=R y (by simp[j.R])
     simp only[iK,aE,ab,hE,if_true,Option.map_some]
     rw[←nF]
   ·cases h
  ·cases h
 ·cases h
theorem yJ {a7:dE} {av:j} (h:aX C s a7=some (av,s1)):Loc (use s a7) (b3 s a7) (fun s=>aX C s a7) s av s1:=by
 cases a7 with
 |shr a7=>simp[aX]at h
 |iL f args u x=>simp[aX]at h
 |iM f args L=>simp[aX]at h
 |lJ x=>
  simp only[aX]at h
  unfold kW at h
  split at h
  ·rename_i y q ao
   obtain⟨ms,U,aa,aw⟩:=lK h
   refine⟨ms,U,by simpa only[b3,ao]using aa,fun aj R=> ?_⟩
   have e:=au.de (x:=x) R
   have aL:=aw aj (by rw[←ao];exact ca.ax R)
   simp only[aX,e,ao,kW]
   exact aL
  ·rename_i yK
   simp only[Option.some.injEq,Prod.mk.injEq]at h
   obtain⟨rfl,rfl⟩:=h
   refine .pure fun aj R=> ?_
   have e:=au.de (x:=x) R
   simp only[aX,e,kW]
 |my x=>
  simp only[aX,Option.some.injEq,Prod.mk.injEq]at h
  obtain⟨rfl,rfl⟩:=h
  exact .pure fun aj R=>by simp only[aX,au.de (x:=x) R]
 |hi T x=>
  obtain⟨ms,U,aa,aw⟩:=Et h
  refine⟨ms,U,aa,fun aj R=> ?_⟩
  simp only[aX,au.de (x:=x) R]
  exact aw aj (ca.ax R)
 |jw T a6 x y=>
  simp only[aX,Option.map_eq_some_iff,Prod.mk.injEq]at h
  obtain⟨d,ab,rfl,rfl⟩:=h
  exact .pure fun aj R=>by
   simp only[use]at R
   simp only[aX,au.de (x:=x) R.left,au.de (x:=y) R.right,ab,Option.map_some]
 |bad=>simp[aX]at h
 |kV e0 x y=>
  simp only[aX,Option.map_eq_some_iff,Prod.mk.injEq]at h
  obtain⟨d,ab,rfl,rfl⟩:=h
  exact .pure fun aj R=>by
   simp only[use]at R
   simp only[aX,au.de (x:=x) R.left,au.de (x:=y) R.right,ab,Option.map_some]
 |cap T x=>
  simp only[aX]at h
  split at h
  ·rename_i e ai ao
   simp only[Option.some.injEq,Prod.mk.injEq]at h
   obtain⟨rfl,rfl⟩:=h
   exact .pure fun aj R=>by simp only[aX,au.de (x:=x) R,ai,ao]
  ·cases h
 |cq x=>
  simp only[aX,Option.some.injEq,Prod.mk.injEq]at h
  obtain⟨rfl,rfl⟩:=h
  exact .pure fun aj R=>by simp only[aX,au.de (x:=x) R]
 |fk x=>
  simp only[aX]at h
  split at h
  ·rename_i y q ao
   obtain⟨ms,U,aa,aw⟩:=lK h
   refine⟨ms,U,by simpa only[b3,ao]using aa,fun aj R=> ?_⟩
   have e:=au.de (x:=x) R
   have aL:=aw aj (by rw[←ao];exact ca.ax R)
   simp only[aX,e,ao]
   exact aL
  ·rename_i yK
   simp only[Option.some.injEq,Prod.mk.injEq]at h
   obtain⟨rfl,rfl⟩:=h
   refine .pure fun aj R=> ?_
   have e:=au.de (x:=x) R
   simp only[aX,e]
 |pick c a b=>
  simp only[aX]at h
  split at h
  ·rename_i dp I
   simp only[Option.some.injEq,Prod.mk.injEq]at h
   obtain⟨rfl,rfl⟩:=h
   refine .pure fun aj R=> ?_
   simp only[use]at R
   simp only[aX,au.de (x:=c) R.left,au.de (x:=a) R.right.left,au.de (x:=b) R.right.right,I]
  ·cases h
 |eK T=>
  simp only[aX,Option.map_eq_some_iff,Prod.mk.injEq]at h
  obtain⟨d,ab,rfl,rfl⟩:=h
  exact .pure fun aj R=>by simp only[aX,ab,Option.map_some]
 |dq T x=>
  obtain⟨ms,U,aa,aw⟩:=Es h
  refine⟨ms,U,aa,fun aj R=> ?_⟩
  simp only[aX,au.de (x:=x) R]
  exact aw aj (ca.ax R)
 |cL T ps=>
  obtain⟨ms,U,aa,aw⟩:=Ep h
  simp only[List.map_map,Function.comp_def]at aa aw
  refine⟨ms,U,aa,fun aj R=> ?_⟩
  simp only[aX,au.uY (ps:=ps) R]
  refine aw aj (R.sub fun u hu=> ?_)
  simp only[use]
  exact au.ss u (by simpa [List.map_map,Function.comp_def]using hu)
 |c0 T n ps=>
  obtain⟨ms,U,aa,aw⟩:=Er h
  simp only[List.map_map,Function.comp_def]at aa aw
  refine⟨ms,U,aa,fun aj R=> ?_⟩
  simp only[aX,au.uY (ps:=ps) R]
  refine aw aj (R.sub fun u hu=> ?_)
  simp only[use]
  exact au.ss u (by simpa [List.map_map,Function.comp_def]using hu)
 |cM T x=>
  simp only[aX,Option.map_eq_some_iff,Prod.mk.injEq]at h
  obtain⟨d,ab,rfl,rfl⟩:=h
  exact .pure fun aj R=>by simp only[aX,au.de (x:=x) R,Ee (ca.ax R),ab,Option.map_some]
 |dW T x y=>
  simp only[aX,Option.map_eq_some_iff,Prod.mk.injEq]at h
  obtain⟨s2,ab,rfl,rfl⟩:=h
  obtain⟨ms,U,aa,aw⟩:=Eu ab
  refine⟨ms,U,aa,fun aj R=> ?_⟩
  simp only[use]at R
  simp only[aX,au.de (x:=x) R.left,au.de (x:=y) R.right]
  exact aw aj (R.sub fun u hu=>by simp only[List.mem_append]at hu⊢;exact hu.imp (au.nG u) (au.nG u))
 |ed x=>
  simp only[aX,Option.map_eq_some_iff,Prod.mk.injEq]at h
  obtain⟨d,ab,rfl,rfl⟩:=h
  exact .pure fun aj R=>by simp only[aX,au.de (x:=x) R,Em (ca.ax R),ab,Option.map_some]
 |bP op T x y=>
  simp only[aX,Option.map_eq_some_iff,Prod.mk.injEq]at h
  obtain⟨d,ab,rfl,rfl⟩:=h
  refine .pure fun aj R=> ?_
  simp only[use]at R
  simp only[aX,au.de (x:=x) R.left,au.de (x:=y) R.right,El (ca.ax R.left),ab,Option.map_some]
 |un op x=>
  simp only[aX,Option.map_eq_some_iff,Prod.mk.injEq]at h
  obtain⟨d,ab,rfl,rfl⟩:=h
  exact .pure fun aj R=>by simp only[aX,au.de (x:=x) R,ab,Option.map_some]
 |dD A B x=>
  simp only[aX,Option.map_eq_some_iff,Prod.mk.injEq]at h
  obtain⟨d,ab,rfl,rfl⟩:=h
  exact .pure fun aj R=>by simp only[aX,au.de (x:=x) R,Ei (ca.ax R),ab,Option.map_some]
 |gR f cs=>
  simp only[aX,Option.some.injEq,Prod.mk.injEq]at h
  obtain⟨rfl,rfl⟩:=h
  exact .pure fun aj R=>by simp only[aX,au.uX (xs:=cs) R]
 |fe T l c=>
  simp only[aX,Option.map_eq_some_iff,Prod.mk.injEq]at h
  obtain⟨d,ab,rfl,rfl⟩:=h
  refine .pure fun aj R=> ?_
  simp only[use]at R
  simp only[aX,au.de (x:=l) R.left,au.de (x:=c) R.right,ab,Option.map_some]
 |cU T x bw az=>
  simp only[aX]at h
  obtain⟨ms,U,aa,aw⟩:=Ev h
  refine⟨ms,U,aa,fun aj R=> ?_⟩
  simp only[use]at R
  simp only[aX,au.de (x:=x) R.left,yC R.right.left,yC R.right.right]
  exact aw aj (ca.ax R.left)
 |dC T x k=>
  simp only[aX,Option.map_eq_some_iff,Prod.mk.injEq]at h
  obtain⟨d,ab,rfl,rfl⟩:=h
  exact .pure fun aj R=>by simp only[aX,au.de (x:=x) R,Ef (ca.ax R),ab,Option.map_some]
 |dK T x i=>
  simp only[aX,Option.map_eq_some_iff,Prod.mk.injEq]at h
  obtain⟨d,ab,rfl,rfl⟩:=h
  refine .pure fun aj R=> ?_
  simp only[use]at R
  simp only[aX,au.de (x:=x) R.left,au.de (x:=i) R.right,Eg (ca.ax R.left),ab,Option.map_some]
 |idx T x i=>
  simp only[aX,Option.map_eq_some_iff,Prod.mk.injEq]at h
  obtain⟨d,ab,rfl,rfl⟩:=h
  refine .pure fun aj R=> ?_
  simp only[use]at R
  simp only[aX,au.de (x:=x) R.left,au.de (x:=i) R.right,ab,Option.map_some]
 |ex x k=>
  simp only[aX,Option.map_eq_some_iff,Prod.mk.injEq]at h
  obtain⟨d,ab,rfl,rfl⟩:=h
  exact .pure fun aj R=>by simp only[aX,au.de (x:=x) R,Eo (ca.ax R),ab,Option.map_some]
 |qH=>
  simp only[aX,Option.some.injEq,Prod.mk.injEq]at h
  obtain⟨rfl,rfl⟩:=h
  exact .pure fun aj R=>rfl
 |jv T x i=>
  simp only[aX,Option.map_eq_some_iff,Prod.mk.injEq]at h
  obtain⟨d,ab,rfl,rfl⟩:=h
  refine .pure fun aj R=> ?_
  simp only[use]at R
  simp only[aX,au.de (x:=x) R.left,au.de (x:=i) R.right,Ez (ca.ax R.left),ab,Option.map_some]
 |iK T x i v=>
  simp only[aX,Option.map_eq_some_iff,Prod.mk.injEq]at h
  obtain⟨s2,ab,rfl,rfl⟩:=h
  obtain⟨ms,U,aa,aw⟩:=EA ab
  refine⟨ms,U,aa,fun aj R=> ?_⟩
  simp only[use]at R
  simp only[aX,au.de (x:=x) R.left,au.de (x:=i) R.right.left,au.de (x:=v) R.right.right]
  exact aw aj (ca.ax R.left)
 |h5 T x k=>
  simp only[aX,Option.bind_eq_some_iff]at h
  obtain⟨d,ab,h⟩:=h
  unfold kW at h
  split at h
  ·rename_i y q
   have ao:=En ab
   obtain⟨ms,U,aa,aw⟩:=lK h
   refine⟨ms,U,by simpa only[b3,ao,j.R]using aa,fun aj R=> ?_⟩
   have aL:=aw aj (by rw[show(j.h y q).R=(ax s x).R from ao.symm];exact ca.ax R)
   simp only[aX,au.de (x:=x) R,yD (ca.ax R),ab,Option.bind_some,kW]
   exact aL
  ·rename_i yK
   simp only[Option.some.injEq,Prod.mk.injEq]at h
   obtain⟨rfl,rfl⟩:=h
   refine .pure fun aj R=> ?_
   simp only[aX,au.de (x:=x) R,yD (ca.ax R),ab,Option.bind_some,kW]
 |call f args=>simp[aX]at h
 |len T x=>
  simp only[aX,Option.map_eq_some_iff,Prod.mk.injEq]at h
  obtain⟨d,ab,rfl,rfl⟩:=h
  exact .pure fun aj R=>by simp only[aX,au.de (x:=x) R,Eh (ca.ax R),ab,Option.map_some]
 |app T a6 x y=>
  obtain⟨ms,U,aa,aw⟩:=Ey h
  refine⟨ms,U,aa,fun aj R=> ?_⟩
  simp only[use]at R
  simp only[aX,au.de (x:=x) R.left,au.de (x:=y) R.right]
  exact aw aj (R.sub fun u hu=>by simp only[List.mem_append]at hu⊢;exact hu.imp (au.nG u) (au.nG u))
end
def j.one:j→Bool
 | .agg _=>false
 | .tuple _=>false
 |_=>true
mutual
def view (s:af):j→Option j
 | .h x q=>match j.sub q (s x)with
   |some d=>(match d with| .tuple _=>none| .cr _=>none|d=>if d.plain then none else some d.share)
   |none=>none
 | .an x q=>if j.di q (s x)then(match j.sub q (s x)with
   |some d=>(match d with| .tuple _=>none|d=>some (.ref d.share))
   |none=>none)else none
 | .I _ _=>none
 | .fn f cap=>(views s cap).map (.fn f)
 | .hole=>none
 |d=>some d
def views (s:af):List j→Option (List j)
 |[]=>some []
 |d::ds=>match view s d,views s ds with
  |some a,some b=>some (a::b)
  |_,_=>none
end
mutual
theorem u3:∀d:j,d.share.plain=true
 | .hole=>rfl
 | .bool _=>rfl
 | .c1=>rfl
 | .int _ _=>rfl
 | .str _=>rfl
 | .ck=>rfl
 | .bG=>rfl
 | .slice _=>rfl
 | .aK _ _=>rfl
 | .ref _=>rfl
 | .bc _=>rfl
 | .agg ag=>by simp only[j.share,j.plain];exact u4 ag
 | .tuple ag=>by simp only[j.share,j.plain];exact u4 ag
 | .fn _ _=>rfl
 | .h _ _=>rfl
 | .an _ _=>rfl
 | .I _ _=>rfl
 | .cr _=>rfl
theorem u4:∀ds:List j,j.dA (j.shares ds)=true
 |[]=>rfl
 |d::ds=>by simp only[j.shares,j.dA];rw[u3 d,u4 ds];rfl
end
theorem EB {s:af} {a d:j} (h:a.plain=true) (he:view s a=some d):d.plain=true:=by
 cases a with
 |h x q=>
  simp only[view]at he
  split at he
  ·rename_i e c3
   cases e<;>simp only at he<;>first
    |(cases he;done)
    |(split at he
      ·cases he
      ·simp only[Option.some.injEq]at he
       subst he;exact u3 _)
  ·cases he
 |an x q=>
  simp only[view]at he
  split at he
  ·split at he
   ·rename_i e c3
    cases e<;>simp only at he<;>first
     |(cases he;done)
     |(simp only[Option.some.injEq]at he;subst he;rfl)
   ·cases he
  ·cases he
 |fn f cap=>
  simp only[view,Option.map_eq_some_iff]at he
  obtain⟨ds,_,rfl⟩:=he
  rfl
 |hole=>simp[view]at he
 |I y q=>simp[view]at he
 |_=>simp only[view,Option.some.injEq]at he;subst he;exact h
theorem u5 {d:j} {v:Value} (U:∀vs,d≠.tuple vs) (h:cl d v):cl d.share v:=by
 cases d<;>first|exact h|exact(U _ rfl).elim
theorem EC (w:World):∀(q:List Nat) (av d aT:j) (cs bE:List Value) (a bM:Option (Nat×Nat)),j.sub q av=some d→aT.wd=d.wd→bX w q av cs a=some (d,bE,bM)→
  bX w q (j.put q aT av) cs a=some (aT,bE,bM):=by
 intro q
 induction q with
 |nil=>
  intro av d aT cs bE a bM ab hw h
  simp only[bX,Option.some.injEq,Prod.mk.injEq]at h
  obtain⟨rfl,rfl,rfl⟩:=h
  simp only[j.put,bX]
 |cons k q ih=>
  intro av d aT cs bE a bM ab hw h
  cases av with
  |agg ag=>
   simp only[j.sub]at ab
   split at ab
   ·rename_i x ao
    have ai:k<ag.length:=(List.getElem?_eq_some_iff.1 ao).1
    simp only[bX,ao]at h
    simp only[j.put,ao,bX]
    rw[List.getElem?_set_self ai]
    simp only[List.take_set_of_le (Nat.le_refl k),j.oi q x d aT ab hw]
    exact ih _ _ _ _ _ _ _ ab hw h
   ·cases ab
  |tuple ag=>
   simp only[j.sub]at ab
   split at ab
   ·rename_i x ao
    have ai:k<ag.length:=(List.getElem?_eq_some_iff.1 ao).1
    simp only[bX,ao]at h
    simp only[j.put,ao,bX]
    rw[List.getElem?_set_self ai]
    simp only[List.take_set_of_le (Nat.le_refl k),j.oi q x d aT ab hw]
    exact ih _ _ _ _ _ _ _ ab hw h
   ·cases ab
  |aK sz ag=>
   simp only[j.sub]at ab
   split at ab
   ·rename_i x ao
    have ai:k<ag.length:=(List.getElem?_eq_some_iff.1 ao).1
    have hG:(ag.set k (j.put q aT x))[k]? =some (j.put q aT x):=List.getElem?_set_self ai
    simp only[j.put,ao]
    rw[bX.eq_def]at h⊢
    simp only[ao]at h
    simp only
    rw[hG]
    split at h
    ·rename_i aE
     simp only[Option.some.injEq]at aE;subst aE
     exact ih _ _ _ _ _ _ _ ab hw h
    ·cases h
   ·cases ab
  |bc x=>
   cases k with
   |zero=>
    simp only[j.sub]at ab
    rw[bX.eq_def]at h⊢
    simp only at h
    simp only[j.put]
    split at h
    ·rw[j.oi q x d aT ab hw]
     exact ih _ _ _ _ _ _ _ ab hw h
    ·cases h
   |succ k=>simp[j.sub]at ab
  |_=>simp[j.sub]at ab
section
variable {w0 w aq:World} {F0 X F Fc:Nat→Prop} {S:Nat→Nat→Prop} {s aj:af} {ak gC:Nat→Value}
theorem ED (h:aY w0 F0 X F S s ak w) (aR:∀b,F b→Fc b):∀n,
  (∀(a:j) (v:Value) (d:j),SizeOf.sizeOf a≤n→(∀t∈a.R,∀b,S t b→Fc b)→view s a=some d→ar w F s ak a v (fun _=>False)→ar w Fc aj gC d v (fun _=>False))∧
  (∀(as:List j) (vs:List Value) (ds:List j),SizeOf.sizeOf as≤n→(∀t∈j.cI as,∀b,S t b→Fc b)→views s as=some ds→cx w F s ak as vs→cx w Fc aj gC ds vs):=by
 intro n
 induction n with
 |zero=>exact⟨fun a _ _ bj=>by cases a<;>simp at bj<;>omega,fun as _ _ bj=>by cases as<;>simp at bj<;>omega⟩
 |succ n ih=>
  refine⟨fun a v d bj ba he aC=> ?_,fun as vs ds bj ba he aC=> ?_⟩
  ·cases a with
   |h x q=>
    simp only[view]at he
    split at he
    ·rename_i e c3
     have key:(∀ag,e≠.tuple ag)∧e.plain=false∧d=e.share∧∀o,e≠.cr o:=by
      cases e<;>simp only at he<;>first
       |(cases he;done)
       |(split at he
         ·cases he
         ·rename_i eJ
          simp only[Option.some.injEq]at he
          exact⟨(fun _ h=>by cases h),by simpa using eJ,he.symm,fun _ h=>by cases h⟩)
     obtain⟨iO,eJ,rfl,hF⟩:=key
     rw[ar]at aC
     obtain⟨bE,bM,aD,aO,bg⟩:=aC e c3 eJ
     have aG:=e2 c3 (.inl eJ)
     have ao:=(ar.bx aG).1 (h.b0 x)
     obtain⟨dz,cj,cD,dd,k0,bn,bp,cy,b_,c4⟩:=ctx q (s x) (bd (ak x)) (S x) none e ao.2 c3
     rw[aD]at k0
     simp only[Option.some.injEq,Prod.mk.injEq,true_and]at k0
     obtain⟨rfl,rfl⟩:=k0
     have ud:e.share.tree=true:=by cases e<;>first|rfl|(simp[j.plain]at eJ;done)|exact(hF _ rfl).elim
     have aA:=al.shared aR e bE dd (fun b I=>ba x (by simp[j.R]) b (bp b I)) b_
     exact(ar.bx ud).2 ⟨u5 iO bg,by rw[aO];exact aA⟩
    ·cases he
   |an x q=>
    simp only[view]at he
    split at he
    ·rename_i j1
     split at he
     ·rename_i e c3
      have key:(∀ag,e≠.tuple ag)∧d= .ref e.share:=by
       cases e<;>simp only at he<;>first
        |(cases he;done)
        |(simp only[Option.some.injEq]at he;exact⟨(fun _ h=>by cases h),he.symm⟩)
      obtain⟨iO,rfl⟩:=key
      rw[ar]at aC
      obtain⟨bE,b,o,aD,rfl⟩:=aC e c3 j1
      have aG:=e2 c3 (.inr j1)
      have ao:=(ar.bx aG).1 (h.b0 x)
      obtain⟨dz,cj,cD,dd,k0,bn,bp,cy,b_,c4⟩:=ctx q (s x) (bd (ak x)) (S x) none e ao.2 c3
      rw[aD]at k0
      simp only[Option.some.injEq,Prod.mk.injEq,true_and]at k0
      obtain⟨rfl,rfl⟩:=k0
      have aA:=al.shared aR e bE dd (fun b I=>ba x (by simp[j.R]) b (bp b I)) b_
      rcases c4 with⟨l,r,_,aL,_⟩|⟨dp,cur,ty,fr,l,r,aE,aL,bb,b2,b9,_⟩
      ·simp at aL
      ·simp only[Option.some.injEq,Prod.mk.injEq]at aE
       obtain⟨rfl,rfl⟩:=aE
       refine(ar.bx rfl).2 ⟨rfl,?_⟩
       rw[al]
       refine⟨b,l.length,bE,rfl,ba x (by simp[j.R]) b (bn b aL),?_,aA⟩
       intro ad c aS
       simp only[World.cell?,bb]
       have ae:cur[l.length+ad]? =some c:=by
        rw[←Array.getElem?_toList,b9,List.getElem?_append_right (by omega),List.getElem?_append_left (by
         have:=(List.getElem?_eq_some_iff.1 aS).1;omega)]
        rw[←aS];congr 1;omega
       simpa using ae
     ·cases he
    ·cases he
   |fn f cap=>
    simp only[view,Option.map_eq_some_iff]at he
    obtain⟨ds,fX,rfl⟩:=he
    rw[ar]at aC
    obtain⟨arr,rfl,ae⟩:=aC
    rw[ar]
    exact⟨arr,rfl,ih.2 cap _ _ (by simp at bj;omega) (by simpa [j.R]using ba) fX ae⟩
   |hole=>simp[view]at he
   |I y q=>simp[view]at he
   |_=>
    simp only[view,Option.some.injEq]at he;subst he
    have h1:=(ar.bx rfl).1 aC
    exact(ar.bx rfl).2 ⟨h1.1,al.mono aR _ _ _ _ (fun _ h=>h) h1.2⟩
  ·cases as with
   |nil=>
    simp only[views,Option.some.injEq]at he;subst he
    rw[cx]at aC⊢;exact aC
   |cons a as=>
    simp only[views]at he
    split at he
    ·rename_i d ds U aa
     simp only[Option.some.injEq]at he;subst he
     rw[cx]at aC⊢
     obtain⟨v,fZ,rfl,aD,aO⟩:=aC
     simp at bj
     simp only[j.cI,List.mem_append]at ba
     exact⟨v,fZ,rfl,ih.1 a v d (by omega) (fun t aG=>ba t (.inl aG)) U aD,ih.2 as fZ ds (by omega) (fun t aG=>ba t (.inr aG)) aa aO⟩
    ·cases he
theorem aY.fA (h:aY w0 F0 X F S s ak w) {x:Nat} {q:List Nat} {d0 aT:j} {bE:List Value} {a:Option (Nat×Nat)} {Sn:Nat→Prop}
  (ab:j.sub q (s x)=some d0) (bk:bX w q (s x) (bd (ak x)) none=some (d0,bE,a)) (aa:∀vs,aT≠.tuple vs) (aG:q=[]→aT.tree=true∧cl aT (ak x))
  (aw:∀k p,q=k::p→(s x).tree=true∧(∀v,fh d0 v→fh aT v)) (hw:aT.wd=d0.wd)
  (aC:al w F aT bE Sn) (cv:∀b,Sn b→b<w.heap.size) (aR:∀b,Sn b→¬F b) (ba:∀u b,Sn b→¬S u b) (bI:∀b,Sn b→X b∨w0.heap.size≤b):
  aY w0 F0 X F (dV S x (fun b=>S x b∨Sn b)) (bZ (hD x s) x (j.put q aT (s x))) ak w:=by
 have cE:bZ ak x (ak x)=ak:=by funext u;simp only[bZ];split<;>simp_all
 have main:(j.put q aT (s x)).tree=true∧cl (j.put q aT (s x)) (ak x)∧al w F (j.put q aT (s x)) (bd (ak x)) (fun b=>S x b∨Sn b):=by
  cases q with
  |nil=>
   simp only[bX,Option.some.injEq,Prod.mk.injEq]at bk
   obtain⟨aE,aL,bb⟩:=bk
   obtain⟨aD,aO⟩:=aG rfl
   simp only[j.put]
   refine⟨aD,?_,?_⟩
   ·exact aO
   ·rw[aL];exact al.mono (fun _ h=>h) _ _ _ _ (fun b I=>.inr I) aC
  |cons k p=>
   obtain⟨aD,aO⟩:=aw k p rfl
   have ao:=(ar.bx aD).1 (h.b0 x)
   obtain⟨dz,cj,cD,dd,k0,bn,bp,cy,b_,c4⟩:=ctx (k::p) (s x) (bd (ak x)) (S x) none d0 ao.2 ab
   rw[bk]at k0
   simp only[Option.some.injEq,Prod.mk.injEq,true_and]at k0
   obtain⟨rfl,rfl⟩:=k0
   refine⟨?_,?_,?_⟩
   ·rcases mj k p aT (s x)with⟨ag,gs,aE,e⟩|⟨ag,gs,aE,e⟩|⟨sz,xs,ys,aE,e⟩|⟨y,z,aE,e⟩|e<;>rw[e]<;>first|rfl|exact aD
   ·refine qb ao.1 ab aO (fun _ vs e=>(aa vs e).elim) hw
   ·have mono:∀b,(cD b∨Sn b)→(S x b∨Sn b):=fun b I=>I.imp (bn b) id
    rcases c4 with⟨l,r,aE,aL,bb⟩|⟨b,cur,ty,fr,l,r,aE,aL,bb,b2,b9,bl⟩
    ·rw[aE]
     exact al.mono (fun _ h=>h) _ _ _ _ mono (bb w aT bE Sn (fun _ _=>rfl) (fun _ _=>rfl) hw aC (fun b I ae=>ba x b I (bn b ae)))
    ·refine al.mono (fun _ h=>h) _ _ _ _ mono (bl w aT bE Sn (fun _ _=>rfl) (fun _ _ _=>rfl) ?_ hw aC (fun b I ae=>ba x b I (bn b ae)))
     rw[bb,←b9]
 have:=h.xq (t:=x) main.1 main.2.1 main.2.2 (by rintro b (I|I);exact h.cP x b I;exact cv b I) (by rintro b (I|I);exact h.dj x b I;exact aR b I)
  (by rintro u b cg (I|I);exact fun hu=>h.c8 u x b cg hu I;exact ba u b I) (by rintro b (I|I);exact h.cf x b I;exact bI b I)
 rwa [cE]at this
end
mutual
def j.c5:j→Bool
 | .slice _=>false
 | .ref _=>false
 | .fn _ _=>false
 | .h _ _=>false
 | .an _ _=>false
 | .I _ _=>false
 | .aK _ xs=>j.kZ xs
 | .bc d=>d.c5
 | .agg ag=>j.kZ ag
 | .tuple ag=>j.kZ ag
 |_=>true
def j.kZ:List j→Bool
 |[]=>true
 |d::ds=>d.c5&&j.kZ ds
end
mutual
theorem al.c5 {w:World} {F a_:Nat→Prop}:∀(d:j) (cs:List Value) (S:Nat→Prop),d.c5=true→al w F d cs S→al w a_ d cs S
 | .hole,_,_,_,h=>h
 | .bool _,_,_,_,h=>h
 | .c1,_,_,_,h=>h
 | .int _ _,_,_,_,h=>h
 | .str _,_,_,_,h=>h
 | .ck,_,_,_,h=>h
 | .bG,_,_,_,h=>h
 | .slice xs,cs,S,aV,h=>by simp[j.c5]at aV
 | .ref d,cs,S,aV,h=>by simp[j.c5]at aV
 | .aK sz xs,cs,S,aV,h=>by
   rw[al]at h⊢
   rcases h with h|⟨b,cap,cur,e,fr,ay,U,aa,aw,aN,a2,bJ,bO,dg,eR,eI,gY⟩
   ·exact .inl h
   ·exact .inr ⟨b,cap,cur,e,fr,ay,U,aa,aw,aN,a2,bJ,bO,dg,aH.c5 xs _ _ aV eR,eI,gY⟩
 | .bc d,cs,S,aV,h=>by
   rw[al]at h⊢
   obtain⟨b,cur,e,fr,ay,U,aa,aw,aN,a2,bJ,bO⟩:=h
   exact⟨b,cur,e,fr,ay,U,aa,aw,aN,al.c5 d _ _ aV a2,bJ,bO⟩
 | .agg ag,cs,S,aV,h=>by rw[al]at h⊢;exact aH.c5 ag _ _ aV h
 | .tuple ag,cs,S,aV,h=>by rw[al]at h⊢;exact aH.c5 ag _ _ aV h
 | .fn _ _,_,_,aV,h=>by simp[j.c5]at aV
 | .h _ _,_,_,_,h=>h
 | .an _ _,_,_,_,h=>h
 | .I _ _,_,_,_,h=>h
 | .cr _,_,_,_,h=>h
theorem aH.c5 {w:World} {F a_:Nat→Prop}:∀(ds:List j) (cs:List Value) (S:Nat→Prop),j.kZ ds=true→aH w F ds cs S→aH w a_ ds cs S
 |[],_,_,_,h=>h
 |d::ds,cs,S,aV,h=>by
  simp only[j.kZ,Bool.and_eq_true]at aV
  rw[aH]at h⊢
  obtain⟨bz,bA,bh,cc,U,aa,aw,aN,a2,bJ⟩:=h
  exact⟨bz,bA,bh,cc,U,al.c5 d _ _ aV.1 aa,aH.c5 ds _ _ aV.2 aw,aN,a2,bJ⟩
end
theorem yL:∀(q:List Nat) (av d e:j),j.sub q av=some d→j.sub q (j.put q e av)=some e:=by
 intro q
 induction q with
 |nil=>intro av d e _;simp[j.put,j.sub]
 |cons k q ih=>
  intro av d e h
  cases av with
  |agg ag=>
   simp only[j.sub]at h
   split at h
   ·rename_i x ao
    have ai:k<ag.length:=(List.getElem?_eq_some_iff.1 ao).1
    simp only[j.put,ao,j.sub,List.getElem?_set_self ai]
    exact ih _ _ _ h
   ·cases h
  |tuple ag=>
   simp only[j.sub]at h
   split at h
   ·rename_i x ao
    have ai:k<ag.length:=(List.getElem?_eq_some_iff.1 ao).1
    simp only[j.put,ao,j.sub,List.getElem?_set_self ai]
    exact ih _ _ _ h
   ·cases h
  |aK sz ag=>
   simp only[j.sub]at h
   split at h
   ·rename_i x ao
    have ai:k<ag.length:=(List.getElem?_eq_some_iff.1 ao).1
    simp only[j.put,ao,j.sub,List.getElem?_set_self ai]
    exact ih _ _ _ h
   ·cases h
  |bc x=>
   cases k with
   |zero=>simp only[j.sub]at h;simp only[j.put,j.sub];exact ih _ _ _ h
   |succ k=>simp[j.sub]at h
  |_=>simp[j.sub]at h
structure bH where
 a:j
 g:Bool
 d:j
 o:j
def j.own:j→Bool
 | .aK _ _=>true
 | .bc _=>true
 |_=>false
def j.dS:j→Bool
 | .aK _ _=>true
 | .bc _=>true
 | .cr _=>true
 | .agg ag=> !j.dA ag
 |_=>false
def mz (d o:j):Bool:=match d,o with
 | .agg a,.agg b=>j.cz a==j.cz b
 | .agg _,_=>false
 |_,.agg _=>false
 |_,_=>true
theorem mA {d:j} (h:d.dS=true):d.plain=false∧d.tree=true∧∀vs,d≠.tuple vs:=by
 cases d<;>simp[j.dS]at h<;>first|exact⟨rfl,rfl,fun vs e=>by cases e⟩|exact⟨by simp only[j.plain];exact h,rfl,fun vs e=>by cases e⟩
theorem EE {d o:j} (h:d.dS=true) (bs:o.dS=true) (hl:mz d o=true):o.wd=d.wd∧(∀v,cl d v→cl o v)∧∀v,fh d.bT v→fh o v:=by
 cases d<;>simp[j.dS]at h<;>cases o<;>simp[j.dS]at bs<;>simp[mz]at hl<;>first
  |exact⟨rfl,fun _ h=>h,fun _ h=>h⟩
  |exact⟨by simp only[j.wd];exact hl.symm,fun _ h=>h,fun _ h=>h⟩
def bH.ok (s:af) (p:bH):Prop:=
 if p.g then(match p.a with| .h x q=>j.sub q (s x)=some p.d∧p.d.dS=true∧(p.o= .hole∨(p.o.dS=true∧mz p.d p.o=true))|_=>False)
 else view s p.a=some p.d
def fG:List bH→Bool
 |[]=>true
 |p::r=>(r.all fun bD=> !(p.g||bD.g)||(p.a.R.all fun u=> !bD.a.R.contains u))&&fG r
def bH.take (s:af) (p:bH):af:=
 if p.g then(match p.a with| .h x q=>bZ (e_ x s) x (j.put q p.d.bT (s x))|_=>s)else s
def bH.fA (s:af) (p:bH):af:=
 if p.g then(match p.a,p.o with|_,.hole=>s| .h x q,o=>bZ (hD x s) x (j.put q o (s x))|_,_=>s)else s
def dk (s:af) (ps:List bH):af:=ps.foldl bH.take s
def fB (s:af) (ps:List bH):af:=ps.foldl bH.fA s
section
variable {w0 w aq:World} {F0 X F Fc:Nat→Prop} {S:Nat→Nat→Prop} {s aj:af} {ak gC:Nat→Value}
def EF (w:World) (F:Nat→Prop) (s1:af) (ak:Nat→Value) (p:bH) (v:Value) (Sn:Nat→Prop):Prop:=
 ∃x q a0,p.a= .h x q∧j.sub q (s1 x)=some p.d.bT∧bX w q (s1 x) (bd (ak x)) none=some (p.d.bT,bd v,a0)∧(s1 x).R=[]∧(q=[]→cl p.d (ak x))∧(q≠[]→(s1 x).tree=true)∧
  cl p.d v∧al w F p.d (bd v) Sn
theorem EG {p:bH} {x:Nat} (h:(s x).R=[]) (an:p.g=true→x∉p.a.R):bH.take s p x=s x:=by
 unfold bH.take
 split
 ·rename_i aZ
  cases bU:p.a with
  |h y q=>
   have:x≠y:=by
    have:=an aZ
    rw[bU]at this
    simpa [j.R]using this
   simp only
   rw[f_ _ _ this]
   exact qJ _ (by rw[h];simp)
  |_=>rfl
 ·rfl
theorem u6:∀{ps:List bH} {s:af} {x:Nat},(s x).R=[]→(∀p∈ps,p.g=true→x∉p.a.R)→dk s ps x=s x:=by
 intro ps
 induction ps with
 |nil=>intros;rfl
 |cons p ps ih=>
  intro s x h an
  have e:=EG (s:=s) (p:=p) h (an p (by simp))
  show dk (bH.take s p) ps x=s x
  rw[ih (by rw[e];exact h) (fun bD cS=>an bD (by simp[cS])),e]
theorem lL {d:j} (h:d.own=true):d.plain=false∧d.tree=true∧d.bT= .hole∧d.one=true∧d.wd=1∧(∀v,cl d v↔Value.ea v=true):=by
 cases d<;>simp[j.own]at h<;>exact⟨rfl,rfl,rfl,rfl,rfl,fun v=>Iff.rfl⟩
theorem EH:∀(ps:List bH) (vs:List Value) (s:af) (S:Nat→Nat→Prop),aY w0 F0 X F S s ak w→ps.length=vs.length→
  (∀(i:Nat) (p:bH) (v:Value),ps[i]? =some p→vs[i]? =some v→p.a.plain=true∧ar w F s ak p.a v (fun _=>False)∧(p.g=true→p.ok s))→fG ps=true→
  ∃(Sn bh:Nat→Nat→Prop),aY w0 F0 X F bh (dk s ps) ak w∧(∀u b,bh u b→S u b)∧
   (∀(i:Nat) (p:bH) (v:Value),ps[i]? =some p→vs[i]? =some v→p.g=true→EF w F (dk s ps) ak p v (Sn i))∧
   (∀i b,Sn i b→∃p,ps[i]? =some p∧p.g=true)∧
   (∀i b,Sn i b→∃u,S u b)∧(∀i u b,Sn i b→¬bh u b)∧(∀i ad b,i≠ad→Sn i b→¬Sn ad b)∧
   (∀(aT:j) (dJ:Value) (ay:Nat→Prop),(∀p∈ps,p.g=true→∀u∈p.a.R,u∉aT.R)→ar w F s ak aT dJ ay→ar w F (dk s ps) ak aT dJ ay):=by
 intro ps
 induction ps with
 |nil=>
  intro vs s S h hl _ _
  exact⟨fun _ _=>False,S,h,fun _ _ h=>h,fun i p v an=>by simp at an,fun _ _ h=>h.elim,fun _ _ h=>h.elim,fun _ _ _ h=>h.elim,fun _ _ _ _ h=>h.elim,fun _ _ _ _ h=>h⟩
 |cons p ps ih=>
  intro vs s S h hl qD g2
  cases vs with
  |nil=>simp at hl
  |cons v vs=>
   simp only[List.length_cons,Nat.add_right_cancel_iff]at hl
   simp only[fG,Bool.and_eq_true,List.all_eq_true,Bool.or_eq_true,Bool.not_eq_true']at g2
   obtain⟨ka,jB⟩:=g2
   have oF:∀bD∈ps,(p.g=true∨bD.g=true)→∀u∈p.a.R,u∉bD.a.R:=by
    intro bD cS aZ u hu
    rcases ka bD cS with e|e
    ·rcases aZ with aZ|aZ<;>simp[aZ]at e
    ·simpa using e u hu
   obtain⟨f1,f2,f3⟩:=qD 0 p v rfl rfl
   cases aZ:p.g with
   |false=>
    have eD:bH.take s p=s:=by simp[bH.take,aZ]
    obtain⟨Sn,bh,aD,aO,bg,b6,cJ,ec,ew,fE⟩:=ih vs s S h hl (fun i bD dJ an aC=>qD (i+1) bD dJ (by simpa using an) (by simpa using aC)) jB
    have aE:dk s (p::ps)=dk s ps:=by show dk (bH.take s p) ps=_;rw[eD]
    rw[aE]
    refine⟨fun i=>match i with|0=>fun _=>False|i+1=>Sn i,bh,aD,aO,?_,?_,?_,?_,?_,fun aT dJ ay ab=>fE aT dJ ay fun bD cS=>ab bD (by simp[cS])⟩
    ·intro i bD dJ an aC eV
     cases i with
     |zero=>simp at an;subst an;rw[aZ]at eV;cases eV
     |succ i=>exact bg i bD dJ (by simpa using an) (by simpa using aC) eV
    ·intro i b I
     cases i with
     |zero=>exact I.elim
     |succ i=>simpa using b6 i b I
    ·intro i b I
     cases i with
     |zero=>exact I.elim
     |succ i=>exact cJ i b I
    ·intro i u b I
     cases i with
     |zero=>exact I.elim
     |succ i=>exact ec i u b I
    ·intro i ad b cg az aS
     cases i with
     |zero=>exact az.elim
     |succ i=>
      cases ad with
      |zero=>exact aS.elim
      |succ ad=>exact ew i ad b (by omega) az aS
   |true=>
    have eo:=f3 aZ
    simp only[bH.ok,aZ,if_true]at eo
    split at eo
    ·rename_i x q bU
     obtain⟨c3,u7,ng⟩:=eo
     obtain⟨i6,kb,sv⟩:=mA u7
     have EI:bL s p.a=some (p.d,bZ (e_ x s) x (j.put q p.d.bT (s x))):=by
      rw[bU];simp only[bL,c3,i6];rfl
     obtain⟨bh,t1,t2,t3,EJ,t4,t5,t6,t7,t8,t9,t10,t11⟩:=jZ h f1 f2 EI
     have eD:bH.take s p=bZ (e_ x s) x (j.put q p.d.bT (s x)):=by simp[bH.take,aZ,bU]
     have k1:∀bD∈ps,x∉bD.a.R:=fun bD cS=>oF bD cS (.inl aZ) x (by rw[bU];simp[j.R])
     have u9:bH.take s p x=j.put q p.d.bT (s x):=by rw[eD,iA]
     have yM:(bH.take s p x).R=[]:=by
      rw[u9];exact oD q _ _ _ c3 (.inl i6) (fun _=>by cases ab:p.d<;>first|rfl|(rw[ab]at u7;simp[j.dS]at u7))
     obtain⟨Sn,cc,aD,aO,bg,b6,cJ,ec,ew,fE⟩:=ih vs (bH.take s p) bh (by rw[eD];exact t1) hl (by
      intro i bD dJ an aC
      obtain⟨bn,bp,cy⟩:=qD (i+1) bD dJ (by simpa using an) (by simpa using aC)
      have hm:bD∈ps:=List.mem_of_getElem? an
      refine⟨bn,?_,?_⟩
      ·have:=t11 _ _ _ bp
       rw[bU]at this
       rw[eD]
       simp only[j.owner,g0]at this
       rwa [qJ _ (k1 bD hm)]at this
      ·intro eV
       have:=cy eV
       simp only[bH.ok,eV,if_true]at this⊢
       split at this
       ·rename_i y fV nI
        have cg:y≠x:=fun e=>k1 bD hm (by rw[nI,e];simp[j.R])
        rw[eD,f_ _ _ cg]
        have aG:=e2 this.1 (.inl (mA this.2.1).1)
        simp only[e_,tY aG]
        exact this
       ·exact this.elim) jB
     have aE:dk s (p::ps)=dk (bH.take s p) ps:=rfl
     have mB:dk (bH.take s p) ps x=j.put q p.d.bT (s x):=by
      rw[u6 yM (fun bD cS _=>k1 bD cS),u9]
     rw[aE]
     refine⟨fun i=>match i with|0=>EJ|i+1=>Sn i,cc,aD,fun u b I=>t9 u b (aO u b I),?_,?_,?_,?_,?_,?_⟩
     rotate_left 5
     ·intro aT dJ ay ab fR
      refine fE aT dJ ay (fun bD cS=>ab bD (by simp[cS])) ?_
      have:=t11 _ _ _ fR
      rw[bU]at this
      rw[eD]
      simp only[j.owner,g0]at this
      rwa [qJ _ (ab p (by simp) aZ x (by rw[bU];simp[j.R]))]at this
     ·intro i bD dJ an aC eV
      cases i with
      |zero=>
       simp at an aC;subst an aC
       have sw:=f2
       rw[bU,ar]at sw
       obtain⟨bE,a0,bz,bA,mC⟩:=sw _ c3 i6
       refine⟨x,q,a0,bU,?_,?_,?_,?_,?_,t3,t4⟩
       ·rw[mB];exact yL q _ _ _ c3
       ·rw[mB,bA];exact EC w q _ _ _ _ _ _ _ c3 (j.mi _) bz
       ·rw[mB,←u9];exact yM
       ·intro bN;subst bN
        simp only[j.sub,Option.some.injEq]at c3
        have:=(ar.bx (by rw[c3];exact kb)).1 (h.b0 x)
        rw[c3]at this
        exact this.1
       ·intro bN
        have aG:=e2 c3 (.inl i6)
        rw[mB]
        cases q with
        |nil=>exact(bN rfl).elim
        |cons k q=>rcases mj k q p.d.bT (s x)with⟨ag,gs,aE,e⟩|⟨ag,gs,aE,e⟩|⟨sz,xs,ys,aE,e⟩|⟨y,z,aE,e⟩|e<;>rw[e]<;>first|rfl|exact aG
      |succ i=>exact bg i bD dJ (by simpa using an) (by simpa using aC) eV
     ·intro i b I
      cases i with
      |zero=>exact⟨p,rfl,aZ⟩
      |succ i=>simpa using b6 i b I
     ·intro i b I
      cases i with
      |zero=>exact t10 b I
      |succ i=>obtain⟨u,hu⟩:=cJ i b I;exact⟨u,t9 u b hu⟩
     ·intro i u b I
      cases i with
      |zero=>exact fun hu=>t7 u b I (aO u b hu)
      |succ i=>exact ec i u b I
     ·intro i ad b cg az aS
      cases i with
      |zero=>
       cases ad with
       |zero=>exact cg rfl
       |succ ad=>obtain⟨u,hu⟩:=cJ ad b aS;exact t7 u b az hu
      |succ i=>
       cases ad with
       |zero=>obtain⟨u,hu⟩:=cJ i b az;exact t7 u b aS hu
       |succ ad=>exact ew i ad b (by omega) az aS
    ·exact eo.elim
end
def df (l:List j):af:=fun i=>l.getD i .hole
def dX (l:List Value):Nat→Value:=fun i=>l.getD i undef
def kc (P:Program) (f:FuncId) (args:Array Value) (w:World) (iP:Value→World→Prop):Prop:=
 ((callFunc f args).run P w= .ok (.enter f args) w∧Calls P f args w (fun e aq=>∃v,e= .returned v∧iP v aq))∨
 ∃v aq,(callFunc f args).run P w= .ok (.value v) aq∧iP v aq
theorem kc.mono {P:Program} {f:FuncId} {args:Array Value} {w:World} {iP yN:Value→World→Prop} (h:kc P f args w iP) (aA:∀v aq,iP v aq→yN v aq):kc P f args w yN:=by
 rcases h with⟨U,aa⟩|⟨v,aq,U,aa⟩
 ·exact .inl ⟨U,Calls.mono aa fun e aq ⟨v,e,h⟩=>⟨v,e,aA v aq h⟩⟩
 ·exact .inr ⟨v,aq,U,aA v aq aa⟩
def cb (C:bq) (f:FuncId) (as:List j) (r:j) (outs:List j):Prop:=
 ∀(w:World) (F X:Nat→Prop) (S:Nat→Nat→Prop) (vs:List Value),vs.length=as.length→aY w F X F S (df as) (dX vs) w→
  kc C.P f vs.toArray w fun v aq=>∃a_ ay,aY w F X a_ ay (df (r::outs)) (dX (v::vs)) aq
def j.res:j→Bool
 | .h _ _=>false
 | .an _ _=>false
 | .I _ _=>false
 | .fn _ _=>false
 |_=>true
theorem yO {d:j} (h:d.tree=true):d.R=[]:=by cases d<;>first|rfl|(simp[j.tree]at h)
mutual
theorem u_ {s aj:af}:∀(a:j) (d:j),(∀u∈a.R,(s u).tree=true→aj u=s u)→view s a=some d→view aj a=some d
 | .h x q,d,hu,h=>by
   have aG:(s x).tree=true:=by
    simp only[view]at h
    split at h
    ·rename_i e c3
     cases e<;>simp only at h<;>first
      |(cases h;done)
      |(split at h
        ·cases h
        ·rename_i an
         exact e2 c3 (.inl (by simpa using an)))
    ·cases h
   simp only[view]at h⊢
   rw[hu x (by simp[j.R]) aG];exact h
 | .an x q,d,hu,h=>by
   have aG:(s x).tree=true:=by
    simp only[view]at h
    split at h
    ·rename_i ae
     split at h
     ·rename_i e c3;exact e2 c3 (.inr ae)
     ·cases h
    ·cases h
   simp only[view]at h⊢
   rw[hu x (by simp[j.R]) aG];exact h
 | .I x q,d,hu,h=>by simp[view]at h
 | .fn f cap,d,hu,h=>by
   simp only[view,Option.map_eq_some_iff]at h⊢
   obtain⟨ds,U,aa⟩:=h
   exact⟨ds,yP cap ds (by simpa [j.R]using hu) U,aa⟩
 | .hole,d,hu,h=>h
 | .bool _,d,hu,h=>h
 | .c1,d,hu,h=>h
 | .int _ _,d,hu,h=>h
 | .str _,d,hu,h=>h
 | .ck,d,hu,h=>h
 | .bG,d,hu,h=>h
 | .slice _,d,hu,h=>h
 | .aK _ _,d,hu,h=>h
 | .ref _,d,hu,h=>h
 | .bc _,d,hu,h=>h
 | .agg _,d,hu,h=>h
 | .tuple _,d,hu,h=>h
 | .cr _,d,hu,h=>h
theorem yP {s aj:af}:∀(as:List j) (ds:List j),(∀u∈j.cI as,(s u).tree=true→aj u=s u)→views s as=some ds→views aj as=some ds
 |[],ds,hu,h=>h
 |a::as,ds,hu,h=>by
  simp only[j.cI,List.mem_append]at hu
  simp only[views]at h⊢
  split at h
  ·rename_i x y U aa
   rw[u_ a x (fun u hm=>hu u (.inl hm)) U,yP as y (fun u hm=>hu u (.inr hm)) aa];exact h
  ·cases h
end
section
variable {C:bq} {w0 w aq:World} {F0 X F Fc:Nat→Prop} {S:Nat→Nat→Prop} {s aj:af} {ak gC:Nat→Value}
def EK (w:World) (F:Nat→Prop) (s:af) (ak:Nat→Value) (p:bH) (v:Value) (jC:Nat→Prop):Prop:=
 p.g=true→p.o= .hole∨∃x q a0 d0,p.a= .h x q∧j.sub q (s x)=some d0∧bX w q (s x) (bd (ak x)) none=some (d0,bd v,a0)∧(s x).R=[]∧
  (q=[]→cl p.o (ak x))∧(q≠[]→(s x).tree=true)∧p.o.dS=true∧al w F p.o (bd v) jC∧p.o.wd=d0.wd∧∀v,fh d0 v→fh p.o v
theorem EL:∀(ps:List bH) (vs:List Value) (s:af) (S jC:Nat→Nat→Prop),aY w0 F0 X F S s ak w→ps.length=vs.length→
  (∀(i:Nat) (p:bH) (v:Value),ps[i]? =some p→vs[i]? =some v→EK w F s ak p v (jC i))→
  (∀i b,jC i b→b<w.heap.size∧¬F b∧(X b∨w0.heap.size≤b)∧∀u,¬S u b)→(∀i ad b,i≠ad→jC i b→¬jC ad b)→fG ps=true→
  ∃cc,aY w0 F0 X F cc (fB s ps) ak w∧∀u b,cc u b→S u b∨∃i,jC i b:=by
 intro ps
 induction ps with
 |nil=>intro vs s S jC h _ _ _ _ _;exact⟨S,h,fun u b I=>.inl I⟩
 |cons p ps ih=>
  intro vs s S jC h hl va I ab g2
  cases vs with
  |nil=>simp at hl
  |cons v vs=>
   simp only[List.length_cons,Nat.add_right_cancel_iff]at hl
   simp only[fG,Bool.and_eq_true,List.all_eq_true,Bool.or_eq_true,Bool.not_eq_true']at g2
   obtain⟨ka,jB⟩:=g2
   have oF:∀bD∈ps,(p.g=true∨bD.g=true)→∀u∈p.a.R,u∉bD.a.R:=by
    intro bD cS aZ u hu
    rcases ka bD cS with e|e
    ·rcases aZ with aZ|aZ<;>simp[aZ]at e
    ·simpa using e u hu
   have skip:bH.fA s p=s→∃cc,aY w0 F0 X F cc (fB s (p::ps)) ak w∧∀u b,cc u b→S u b∨∃i,jC i b:=by
    intro eD
    obtain⟨cc,aD,aO⟩:=ih vs s S (fun i=>jC (i+1)) h hl (fun i bD dJ an aC=>va (i+1) bD dJ (by simpa using an) (by simpa using aC)) (fun i b h=>I (i+1) b h)
     (fun i ad b cg=>ab (i+1) (ad+1) b (by omega)) jB
    refine⟨cc,?_,fun u b hu=>(aO u b hu).imp id fun⟨i,az⟩=>⟨i+1,az⟩⟩
    show aY _ _ _ _ _ (fB (bH.fA s p) ps) _ _
    rw[eD];exact aD
   cases aZ:p.g with
   |false=>exact skip (by simp[bH.fA,aZ])
   |true=>
    rcases va 0 p v rfl rfl aZ with bs|⟨x,q,a0,d0,bU,bz,bA,mC,r_,EM,vb,vc,vd,ve⟩
    ·exact skip (by simp only[bH.fA,aZ,bs,if_true])
    ·obtain⟨i6,kb,EN⟩:=mA vb
     have eD:bH.fA s p=bZ (hD x s) x (j.put q p.o (s x)):=by
      simp only[bH.fA,aZ,if_true,bU]
      cases EO:p.o<;>first|rfl|(rw[EO]at vb;simp[j.dS]at vb)
     have step:=h.fA (x:=x) (q:=q) (aT:=p.o) bz bA EN (fun bN=>⟨kb,r_ bN⟩) (fun k r bN=>⟨EM (by rw[bN];simp),ve⟩) vd vc
      (fun b h=>(I 0 b h).1) (fun b h=>(I 0 b h).2.1) (fun u b h=>(I 0 b h).2.2.2 u) (fun b h=>(I 0 b h).2.2.1)
     rw[←eD]at step
     obtain⟨cc,aD,aO⟩:=ih vs (bH.fA s p) _ (fun i=>jC (i+1)) step hl (by
      intro i bD dJ an aC eV
      have hm:bD∈ps:=List.mem_of_getElem? an
      rcases va (i+1) bD dJ (by simpa using an) (by simpa using aC) eV with bs|⟨y,fV,aF,d1,bn,bp,cy,b_,c4,cZ,eM,dr,gl⟩
      ·exact .inl bs
      ·have cg:y≠x:=fun e=>oF bD hm (.inl aZ) x (by rw[bU];simp[j.R]) (by rw[bn,e];simp[j.R])
       have i0:bH.fA s p y=s y:=by
        rw[eD,f_ _ _ cg]
        exact uU _ (by rw[b_];simp)
       exact .inr ⟨y,fV,aF,d1,bn,by rw[i0];exact bp,by rw[i0];exact cy,by rw[i0];exact b_,c4,by rw[i0];exact cZ,eM,dr,gl⟩)
      (by
       intro i b az
       obtain⟨h4,fP,kR,dL⟩:=I (i+1) b az
       refine⟨h4,fP,kR,fun u hu=> ?_⟩
       simp only[dV]at hu
       split at hu
       ·rcases hu with hu|hu
        ·exact dL _ hu
        ·exact ab 0 (i+1) b (by omega) hu az
       ·exact dL _ hu)
      (fun i ad b cg=>ab (i+1) (ad+1) b (by omega)) jB
     refine⟨cc,aD,fun u b hu=> ?_⟩
     rcases aO u b hu with hu|⟨i,az⟩
     ·simp only[dV]at hu
      split at hu
      ·rename_i e;subst e
       exact hu.imp id fun h=>⟨0,h⟩
      ·exact .inl hu
     ·exact .inr ⟨i+1,az⟩
def g4 (ps:List bH):Bool:=ps.any fun p=> !p.g&& !p.a.R.isEmpty
theorem yQ (h:aY w0 F0 X F S s ak w) {ps:List bH} {vs:List Value} {f:FuncId} {r:j} (hl:ps.length=vs.length)
  (fR:∀(i:Nat) (p:bH) (v:Value),ps[i]? =some p→vs[i]? =some v→p.a.plain=true∧ar w F s ak p.a v (fun _=>False))
  (eo:∀p∈ps,p.ok s) (g2:fG ps=true) (bk:∀(Fc h_:Nat→Prop) (cD:Nat→Nat→Prop),(∀b,F b→Fc b)→(∀b,h_ b→∃u,S u b)→aY w Fc h_ Fc cD (df (ps.map (·.d))) (dX vs) w→
   kc C.P f vs.toArray w fun v aq=>∃a_ ay,aY w Fc h_ a_ ay (df (r::ps.map (·.o))) (dX (v::vs)) aq) (aA:r.res=true)
  (aV:g4 ps=true→r.c5=true∧∀p∈ps,p.o.c5=true):
  kc C.P f vs.toArray w fun v aq=>∃a_ ay,aY w0 F0 X a_ ay (fB (dk s ps) ps) ak aq∧hg w0 X a_ ay (fB (dk s ps) ps) ak aq r v∧∀b,F b→a_ b∧aq.heap[b]? =w.heap[b]? :=by
 obtain⟨Sn,bh,aD,aO,bg,b6,cJ,ec,ew,fE⟩:=EH ps vs s S h hl (fun i p v an aC=>⟨(fR i p v an aC).1,(fR i p v an aC).2,fun _=>eo p (List.mem_of_getElem? an)⟩) g2
 have apart:∀(i ad:Nat) (p bD:bH),ps[i]? =some p→ps[ad]? =some bD→i≠ad→(p.g=true∨bD.g=true)→∀u∈p.a.R,u∉bD.a.R:=by
  clear fR eo bk aV aD bg b6 fE hl
  induction ps with
  |nil=>intro i ad p bD an;simp at an
  |cons eT ps ih=>
   simp only[fG,Bool.and_eq_true,List.all_eq_true,Bool.or_eq_true,Bool.not_eq_true']at g2
   obtain⟨ka,jB⟩:=g2
   have oF:∀bD∈ps,(eT.g=true∨bD.g=true)→∀u∈eT.a.R,u∉bD.a.R:=by
    intro bD cS aZ u hu
    rcases ka bD cS with e|e
    ·rcases aZ with aZ|aZ<;>simp[aZ]at e
    ·simpa using e u hu
   intro i ad p bD an cS cg aZ u hu
   cases i with
   |zero=>
    simp at an;subst an
    cases ad with
    |zero=>exact(cg rfl).elim
    |succ ad=>exact oF bD (List.mem_of_getElem? (by simpa using cS)) aZ u hu
   |succ i=>
    cases ad with
    |zero=>
     simp at cS;subst cS
     exact fun qL=>oF p (List.mem_of_getElem? (by simpa using an)) aZ.symm u qL hu
    |succ ad=>exact ih jB i ad p bD (by simpa using an) (by simpa using cS) (by omega) aZ u hu
 let Fc:Nat→Prop:=fun b=>F b∨(g4 ps=true∧∃u,bh u b)
 let h_:Nat→Prop:=fun b=>∃i,Sn i b
 have vf:∀b,F b→¬h_ b:=fun b aR ⟨i,az⟩=>by obtain⟨u,hu⟩:=cJ i b az;exact h.dj u b hu aR
 have qM:∀u b,bh u b→¬h_ b:=fun u b hu ⟨i,az⟩=>ec i u b az hu
 have qN:∀b,h_ b→(X b∨w0.heap.size≤b)∧b<w.heap.size:=fun b ⟨i,az⟩=>by obtain⟨u,hu⟩:=cJ i b az;exact⟨h.cf u b hu,h.cP u b hu⟩
 have pre:aY w Fc h_ Fc Sn (df (ps.map (·.d))) (dX vs) w:=by
  refine⟨fun _ h=>h,fun _ h=>.inl h,?_,fun i b az=>(qN b ⟨i,az⟩).2,?_,fun i ad b cg=>ew i ad b cg,fun i b az=>.inl ⟨i,az⟩,?_,fun _ _ _=>rfl,Nat.le_refl _,rfl,rfl,Out.refl _,h.er.next h.size h.old fun b I=>(qN b I).1⟩
  ·rintro b (I|⟨_,u,hu⟩)
   ·exact h.c_ b I
   ·exact aD.cP u b hu
  ·rintro i b az (I|⟨_,u,hu⟩)
   ·exact vf b I ⟨i,az⟩
   ·exact ec i u b az hu
  ·intro t
   cases an:ps[t]? with
   |none=>
    have:df (ps.map (·.d)) t= .hole:=by simp[df,List.getD,an]
    rw[this,ar];trivial
   |some p=>
    have cv:t<vs.length:=by rw[←hl];exact(List.getElem?_eq_some_iff.1 an).1
    have aC:vs[t]? =some vs[t]:=List.getElem?_eq_getElem cv
    have aE:df (ps.map (·.d)) t=p.d:=by simp[df,List.getD,an]
    have aL:dX vs t=vs[t]:=by simp[dX,List.getD,aC]
    rw[aE,aL]
    have hm:p∈ps:=List.mem_of_getElem? an
    have ai:=eo p hm
    cases aZ:p.g with
    |true=>
     obtain⟨x,q,a0,bn,bp,cy,b_,c4,cZ,eM,dr⟩:=bg t p _ an aC aZ
     simp only[bH.ok,aZ,if_true,bn]at ai
     exact(ar.bx (mA ai.2.1).2.1).2 ⟨eM,al.mono (fun b I=>.inl I) _ _ _ _ (fun _ h=>h) dr⟩
    |false=>
     simp only[bH.ok,aZ]at ai
     obtain⟨f1,f2⟩:=fR t p _ an aC
     have yR:∀bD∈ps,bD.g=true→∀u∈bD.a.R,u∉p.a.R:=by
      intro bD cS eV u hu
      obtain⟨ad,aS⟩:=List.getElem?_of_mem cS
      refine apart ad t bD p aS an (fun e=> ?_) (.inl eV) u hu
      subst e;rw[an]at aS;simp only[Option.some.injEq]at aS;rw[aS,eV]at aZ;cases aZ
     have sw:=fE _ _ _ yR f2
     have hG:view (dk s ps) p.a=some p.d:=u_ _ _ (fun u hu aG=>u6 (yO aG) (fun bD cS eV qL=>yR bD cS eV u qL hu)) (by simpa using ai)
     refine ar.nothing (EB f1 hG) ((ED aD (Fc:=Fc) (fun b I=>.inl I) (SizeOf.sizeOf p.a)).1 p.a _ p.d (Nat.le_refl _) ?_ hG sw)
     intro u hu b I
     refine .inr ⟨?_,u,I⟩
     simp only[g4,List.any_eq_true]
     refine⟨p,hm,?_⟩
     cases iB:p.a.R with
     |nil=>rw[iB]at hu;cases hu
     |cons _ _=>simp[aZ]
 refine kc.mono (bk Fc h_ Sn (fun b I=>.inl I) (fun b ⟨i,az⟩=>cJ i b az) pre) ?_
 rintro v aq ⟨a_,ay,ae⟩
 have keep:∀b,b<w.heap.size→¬h_ b→aq.heap[b]? =w.heap[b]? :=ae.old
 let kd:Nat→Prop:=fun b=>if g4 ps=true then F b else a_ b
 have yS:∀b,F b→a_ b:=fun b I=>ae.ep b (.inl I)
 have oG:∀b,F b→kd b:=fun b I=>by
  simp only[kd];split
  ·exact I
  ·exact yS b I
 have qO:∀b,kd b→a_ b:=fun b I=>by
  simp only[kd]at I;split at I
  ·exact yS b I
  ·exact I
 have yT:∀b,kd b→F b∨h_ b∨w.heap.size≤b:=fun b I=>by
  simp only[kd]at I;split at I
  ·exact .inl I
  ·rename_i kT
   rcases ae.eC b I with(I|⟨U,_⟩)|I|I
   ·exact .inl I
   ·exact(kT U).elim
   ·exact .inr (.inl I)
   ·exact .inr (.inr I)
 have mid:aY w0 F0 X kd bh (dk s ps) ak aq:=by
  refine⟨fun b I=>oG b (aD.ep b I),?_,fun b I=>ae.c_ b (qO b I),fun t b I=>Nat.lt_of_lt_of_le (aD.cP t b I) ae.size,?_,aD.c8,aD.cf,?_,?_,Nat.le_trans aD.size ae.size,ae.os.trans aD.os,ae.tape.trans aD.tape,ae.output.trans aD.output,aD.er⟩
  ·intro b I
   rcases yT b I with I|I|I
   ·exact aD.eC b I
   ·rcases(qN b I).1 with h|h
    ·exact .inr (.inl h)
    ·exact .inr (.inr h)
   ·exact .inr (.inr (Nat.le_trans aD.size I))
  ·intro t b aG I
   rcases yT b I with I|I|I
   ·exact aD.dj t b aG I
   ·exact qM t b aG I
   ·exact absurd (aD.cP t b aG) (by omega)
  ·intro t
   exact ar.frame (Sx:=bh) (fun b I=>keep b (h.c_ b I) (vf b I)) oG (fun x b I=>keep b (aD.cP x b I) (qM x b I)) aD.b0 _ _ _ (fun b I=>keep b (aD.cP t b I) (qM t b I)) (aD.b0 t)
  ·intro b I ga
   refine(keep b (Nat.lt_of_lt_of_le I aD.size) fun ao=> ?_).trans (aD.old b I ga)
   rcases(qN b ao).1 with h|h
   ·exact ga h
   ·omega
 have yU:∀(d:j) (cs:List Value) (cf:Nat→Prop),(g4 ps=true→d.c5=true)→al aq a_ d cs cf→al aq kd d cs cf:=by
  intro d cs cf uM dN
  by_cases hle:g4 ps=true
  ·exact al.c5 d cs cf (uM hle) dN
  ·exact al.mono (fun b I=>by simp only[kd];rw[if_neg hle];exact I) _ _ _ _ (fun _ h=>h) dN
 have bound:∀i b,ay i b→b<aq.heap.size∧¬kd b∧(X b∨w0.heap.size≤b)∧∀u,¬bh u b:=by
  intro i b I
  refine⟨ae.cP i b I,fun aR=>ae.dj i b I (qO b aR),?_,fun u hu=> ?_⟩
  ·rcases ae.cf i b I with ao|ao
   ·exact(qN b ao).1
   ·exact .inr (Nat.le_trans aD.size ao)
  ·rcases ae.cf i b I with ao|ao
   ·exact qM u b hu ao
   ·exact absurd (aD.cP u b hu) (by omega)
 obtain⟨cc,bn,bp⟩:=EL ps vs (dk s ps) bh (fun i=>ay (i+1)) mid hl (by
  intro i p dJ an aC aZ
  have hm:p∈ps:=List.mem_of_getElem? an
  have ai:=eo p hm
  obtain⟨x,q,a0,aE,aL,bb,b2,b9,bl,bf,iE⟩:=bg i p dJ an aC aZ
  simp only[bH.ok,aZ,if_true,aE]at ai
  rcases ai.2.2 with bs|bs
  ·exact .inl bs
  ·obtain⟨et,l2,oH⟩:=EE ai.2.1 bs.1 bs.2
   refine .inr ⟨x,q,a0,p.d.bT,aE,aL,?_,b2,fun bN=>l2 _ (b9 bN),bl,bs.1,?_,et.trans (j.mi _).symm,oH⟩
   ·cases q with
    |nil=>simpa only[bX]using bb
    |cons k q=>
     have aG:=bl (by simp)
     rw[r1 (k::q) _ _ (bh x) none _ ((ar.bx aG).1 (aD.b0 x)).2 aL (fun b I=>keep b (aD.cP x b I) (qM x b I))]
     exact bb
   ·have:=ae.b0 (i+1)
    have h3:df (r::ps.map (·.o)) (i+1)=p.o:=by simp[df,List.getD,an]
    have j5:dX (v::vs) (i+1)=dJ:=by simp[dX,List.getD,aC]
    rw[h3,j5]at this
    exact yU _ _ _ (fun hle=>(aV hle).2 p hm) ((ar.bx (mA bs.1).2.1).1 this).2)
  (fun i b I=>bound (i+1) b I) (fun i ad b cg=>ae.c8 (i+1) (ad+1) b (by omega)) g2
 refine⟨kd,cc,bn,?_,fun b I=>⟨oG b I,keep b (h.c_ b I) (vf b I)⟩⟩
 have bI:=ae.b0 0
 have h3:df (r::ps.map (·.o)) 0=r:=rfl
 have j5:dX (v::vs) 0=v:=rfl
 rw[h3,j5]at bI
 cases aG:r.tree with
 |false=>
  cases r<;>first
   |(simp[j.tree]at aG;done)
   |(simp[j.res]at aA;done)
   |exact .inl ⟨rfl,by rw[ar];trivial⟩
 |true=>
  obtain⟨s1,s2⟩:=(ar.bx aG).1 bI
  have ee:=yU _ _ _ (fun hle=>(aV hle).1) s2
  refine .inr ⟨aG,s1,ay 0,ee,fun b I=>(bound 0 b I).1,fun b I=>(bound 0 b I).2.1,fun u b I hu=> ?_,fun b I=>(bound 0 b I).2.2.1⟩
  rcases bp u b hu with hu|⟨i,az⟩
  ·exact(bound 0 b I).2.2.2 u hu
  ·exact ae.c8 0 (i+1) b (by omega) I az
theorem EP (h:aY w0 F0 X F S s ak w) {ps:List bH} {vs:List Value} {f:FuncId} {r:j} (hl:ps.length=vs.length)
  (fR:∀(i:Nat) (p:bH) (v:Value),ps[i]? =some p→vs[i]? =some v→p.a.plain=true∧ar w F s ak p.a v (fun _=>False))
  (eo:∀p∈ps,p.ok s) (g2:fG ps=true) (bk:cb C f (ps.map (·.d)) r (ps.map (·.o))) (aA:r.res=true)
  (aV:g4 ps=true→r.c5=true∧∀p∈ps,p.o.c5=true):
  kc C.P f vs.toArray w fun v aq=>∃a_ ay,aY w0 F0 X a_ ay (fB (dk s ps) ps) ak aq∧hg w0 X a_ ay (fB (dk s ps) ps) ak aq r v∧∀b,F b→a_ b∧aq.heap[b]? =w.heap[b]? :=
 yQ h hl fR eo g2 (fun Fc h_ cD _ _ an=>bk w Fc h_ cD vs (by simp[hl]) an) aA aV
end
structure bm where
 dst:Option Nat
 a7:dE
 guard:Option (Nat×Bool)
def qP (ops:Array Oper):Option (Nat×Bool)→Option (Option (Nat×Bool))
 |none=>some none
 |some (ad,b)=>match(ops[ad]?).bind (·.dst)with
  |some t=>some (some (t,b))
  |none=>none
structure Fr where
 n:Nat
 fx:List Nat
def ia (n:Fr):Option Nat→Bool
 |none=>true
 |some t=>decide (t<n.n)&& !n.fx.contains t
def mD (op:Op):dE:=match bR op with
 |some a7=>a7
 |none=>.bad
def k2 (n:Fr) (ops:Array Oper) (o:Oper):Option bm:=
 if ia n o.dst=true then match qP ops o.guard with
  |some g=>some ⟨o.dst,mD o.op,g⟩
  |none=>none
 else none
def k3 (n:Fr) (ops:Array Oper):List Oper→Option (List bm)
 |[]=>some []
 |o::os=>match k2 n ops o,k3 n ops os with
  |some r,some rs=>some (r::rs)
  |_,_=>none
def sx (C:bq) (s:af) (f:au) (args:List au) (K:j→af→Prop):Prop:=
 ∃(g:FuncId) (caps:List j) (ps:List bH) (r:j),ax s f= .fn g caps∧j.dA caps=true∧ps.map (·.a)=args.map (ax s)++caps∧(∀p∈ps,p.ok s)∧fG ps=true∧
   cb C g (ps.map (·.d)) r (ps.map (·.o))∧r.res=true∧(g4 ps=true→r.c5=true∧∀p∈ps,p.o.c5=true)∧K r (fB (dk s ps) ps)
mutual
def j.eO (s:af):j→Bool
 | .h x q=>q.isEmpty&&(s x).own
 | .I x _=> !(s x).plain
 | .an _ _=>false
 | .hole=>true
 | .fn _ cap=>j.mE s cap
 |d=>d.plain
def j.mE (s:af):List j→Bool
 |[]=>true
 |d::ds=>d.eO s&&j.mE s ds
end
def lM (s:af):List (Nat×j)→af
 |[]=>s
 |p::L=>lM (bZ s p.1 p.2) L
def k4 (s:af):List (Nat×j)→Bool
 |[]=>true
 |p::L=>p.2.eO s&&k4 s L
def ib (s:af) (us:List Nat):List (Nat×j):=us.map fun u=>(u,s u)
def jD (C:bq) (s:af) (a7:dE) (K:j→af→Prop):Prop:=
 match a7 with
 | .call f args=>∃(g:FuncId) (caps:List j) (ps:List bH) (r:j),ax s f= .fn g caps∧j.dA caps=true∧ps.map (·.a)=args.map (ax s)++caps∧(∀p∈ps,p.ok s)∧fG ps=true∧
   cb C g (ps.map (·.d)) r (ps.map (·.o))∧r.res=true∧(g4 ps=true→r.c5=true∧∀p∈ps,p.o.c5=true)∧K r (fB (dk s ps) ps)
 | .shr a7=>∃av s1,aX C s a7=some (av,s1)∧av.tree=true∧(∀vs,av≠.tuple vs)∧K av.share s1
 | .iL f args u x=>s u= .h x []∧(s x).own=true∧sx C s f args fun av s1=>s1 u= .hole∧(s1 x).own=true∧K av (bZ s1 u (.h x []))
 | .iM f args us=>k4 s (ib s us)=true∧sx C s f args fun av s1=>k4 s1 (ib s us)=true∧K av (lM s1 (ib s us))
 |a7=>∃av s1,aX C s a7=some (av,s1)∧K av s1
theorem sy {C:bq} {s:af} {a7:dE} {K b4:j→af→Prop} (h:jD C s a7 K) (ai:∀av s,K av s→b4 av s):jD C s a7 b4:=by
 cases a7 with
 |call f args=>
  obtain⟨g,caps,ps,r,U,ef,aa,aw,aN,a2,bJ,bO,dg⟩:=h
  exact⟨g,caps,ps,r,U,ef,aa,aw,aN,a2,bJ,bO,ai _ _ dg⟩
 |shr a7=>
  obtain⟨av,s1,U,aa,aw,aN⟩:=h
  exact⟨av,s1,U,aa,aw,ai _ _ aN⟩
 |iL f args u x=>
  obtain⟨bn,bp,g,caps,ps,r,U,ef,aa,aw,aN,a2,bJ,bO,dg,eR,eI⟩:=h
  exact⟨bn,bp,g,caps,ps,r,U,ef,aa,aw,aN,a2,bJ,bO,dg,eR,ai _ _ eI⟩
 |iM f args us=>
  obtain⟨bp,g,caps,ps,r,U,ef,aa,aw,aN,a2,bJ,bO,dg,eR⟩:=h
  exact⟨bp,g,caps,ps,r,U,ef,aa,aw,aN,a2,bJ,bO,dg,ai _ _ eR⟩
 |_=>
  obtain⟨av,s1,U,aa⟩:=h
  exact⟨av,s1,U,ai _ _ aa⟩
def hI (C:bq) (s:af) (o:bm) (K:af→Prop):Prop:=
 match o.guard with
 |none=>jD C s o.a7 fun av s1=>K (fin s1 o.dst av)
 |some (t,b)=>match s t with
  | .bool dp=>if dp=b then jD C s o.a7 (fun av s1=>K (fin s1 o.dst av))else K (fin s o.dst (.tuple []))
  | .tuple []=>K (fin s o.dst (.tuple []))
  |_=>False
def hr (C:bq) (s:af):List bm→(af→Prop)→Prop
 |[],K=>K s
 |o::os,K=>hI C s o fun s1=>hr C s1 os K
def gn (C:bq) (ros:List bm) (s:af):List Nat→(af→Prop)→Prop
 |[],K=>K s
 |i::l,K=>match ros[i]? with
  |none=>gn C ros s l K
  |some o=>hI C s o fun s1=>gn C ros s1 l K
theorem ER (C:bq) (K:af→Prop):∀(rs pre:List bm) (s:af),hr C s rs K→gn C (pre++rs) s ((List.range rs.length).map (·+pre.length)) K:=by
 intro rs
 induction rs with
 |nil=>intro pre s h;exact h
 |cons r rs ih=>
  intro pre s h
  rw[List.length_cons,List.range_succ_eq_map,List.map_cons,List.map_map]
  simp only[gn,Nat.zero_add]
  rw[List.getElem?_append_right (Nat.le_refl _)]
  simp only[Nat.sub_self,List.getElem?_cons_zero]
  have key:∀s1,hr C s1 rs K→gn C (pre++r::rs) s1 ((List.range rs.length).map ((fun x=>x+pre.length)∘Nat.succ)) K:=by
   intro s1 U
   have:=ih (pre++[r]) s1 U
   simp only[List.append_assoc,List.singleton_append,List.length_append,List.length_singleton]at this
   have e:((fun x=>x+pre.length)∘Nat.succ)=fun x=>x+(pre.length+1):=by funext x;simp;omega
   rw[e];exact this
  simp only[hr]at h
  unfold hI at h⊢
  split
  ·rename_i aZ;rw[aZ]at h;exact sy h fun av s1=>key _
  ·rename_i t b aZ
   rw[aZ]at h
   simp only at h
   split
   ·rename_i dp R
    rw[R]at h
    simp only at h
    split
    ·rename_i I;rw[if_pos I]at h;exact sy h fun av s1=>key _
    ·rename_i I;rw[if_neg I]at h;exact key _ h
   ·rename_i R;rw[R]at h;exact key _ h
   ·rename_i U aa
    split at h
    ·exact U _ (by assumption)
    ·exact aa (by assumption)
    ·exact h
structure Rel (w0:World) (F0 X:Nat→Prop) (n:Fr) (ρ:Nat→Value) (s:af) (a:Act) (w:World):Prop where
 defers:a.defers=[]
 size:a.tmps.size=n.n
 fixed:∀i∈n.fx,a.tmps.getD i undef=ρ i
 rel:∃F S,aY w0 F0 X F S s (fun t=>a.tmps.getD t undef) w
section
variable {C:bq} {w0 w:World} {F0 X:Nat→Prop} {n:Fr} {ρ:Nat→Value} {s s1:af} {a:Act} {av:j} {Q:Exit→Act→World→Prop}
theorem vg {dst:Option Nat} (v:Value) (R:a.tmps.size=n.n) (ab:ia n dst=true):
  (fun t=>(a.put dst v).tmps.getD t undef)=ly (fun t=>a.tmps.getD t undef) dst v∧(a.put dst v).tmps.size=n.n∧(a.put dst v).defers=a.defers:=by
 cases dst with
 |none=>exact⟨rfl,R,rfl⟩
 |some d=>
  simp only[ia,Bool.and_eq_true,decide_eq_true_eq]at ab
  refine⟨?_,by simp[Act.put,R],rfl⟩
  funext t
  simp only[Act.put,ly,bZ,Array.getD_eq_getD_getElem?]
  by_cases h:t=d
  ·subst h
   rw[if_pos rfl,Array.getElem?_setIfInBounds_self_of_lt (by omega)];rfl
  ·rw[if_neg h,Array.getElem?_setIfInBounds_ne (fun e=>h e.symm)]
theorem Rel.put {F S} (ab:a.defers=[]) (R:a.tmps.size=n.n) (bk:∀i∈n.fx,a.tmps.getD i undef=ρ i) {aq:World} (aA:aY w0 F0 X F S s (fun t=>a.tmps.getD t undef) aq) {v:Value} (aC:hg w0 X F S s (fun t=>a.tmps.getD t undef) aq av v)
  {dst:Option Nat} (eo:ia n dst=true):Rel w0 F0 X n ρ (fin s dst av) (a.put dst v) aq:=by
 obtain⟨aE,aL,bb⟩:=vg (n:=n) (dst:=dst) v R eo
 obtain⟨ay,a5⟩:=aA.fin aC dst
 refine⟨bb.trans ab,aL,fun i az=> ?_,F,ay,by rw[aE];exact a5⟩
 rw[congrFun aE i]
 cases dst with
 |none=>exact bk i az
 |some d=>
  simp only[ia,Bool.and_eq_true,Bool.not_eq_true',List.contains_eq_mem,decide_eq_false_iff_not]at eo
  have cg:i≠d:=fun e=>eo.2 (by rw[←e];exact az)
  simp only[ly]
  rw[f_ _ _ cg]
  exact bk i az
theorem Rel.skip (h:Rel w0 F0 X n ρ s a w) {dst:Option Nat} (eo:ia n dst=true):Rel w0 F0 X n ρ (fin s dst (.tuple [])) (a.put dst undef) w:=by
 obtain⟨ab,R,bk,F,S,aA⟩:=h
 refine Rel.put (av:=.tuple []) ab R bk aA (.inl ⟨rfl,(ar.bx (d:=.tuple []) rfl).2 ⟨?_,?_⟩⟩) eo
 ·exact⟨#[],rfl,rfl,fun k d x ai=>by simp at ai⟩
 ·rw[al,aH];rfl
theorem yV {F:Nat→Prop} {ak:Nat→Value} {w:World}:∀{ds es:List j} {vs us:List Value},cx w F s ak ds vs→cx w F s ak es us→cx w F s ak (ds++es) (vs++us):=by
 intro ds
 induction ds with
 |nil=>intro es vs us U aa;rw[cx]at U;subst U;exact aa
 |cons d ds ih=>
  intro es vs us U aa
  rw[cx]at U
  obtain⟨v,fZ,rfl,aD,aO⟩:=U
  rw[List.cons_append,List.cons_append,cx]
  exact⟨v,_,rfl,aD,ih aO aa⟩
theorem yW {F:Nat→Prop} {ak:Nat→Value} {w:World}:∀{ds:List j} {vs:List Value},cx w F s ak ds vs→ds.length=vs.length∧∀(i:Nat) (d:j) (v:Value),ds[i]? =some d→vs[i]? =some v→ar w F s ak d v (fun _=>False):=by
 intro ds
 induction ds with
 |nil=>intro vs h;rw[cx]at h;subst h;exact⟨rfl,fun i d v h=>by simp at h⟩
 |cons d ds ih=>
  intro vs h
  rw[cx]at h
  obtain⟨v,fZ,rfl,aD,aO⟩:=h
  obtain⟨bn,bp⟩:=ih aO
  refine⟨by simp[bn],fun i aT dJ ab aC=> ?_⟩
  cases i with
  |zero=>simp at ab aC;subst ab aC;exact aD
  |succ i=>exact bp i aT dJ (by simpa using ab) (by simpa using aC)
theorem k5 {op:Op} {a7:dE} (h:mD op=a7):a7= .bad∨bR op=some a7:=by
 unfold mD at h
 split at h
 ·subst h;right;assumption
 ·exact .inl h.symm
theorem ES {op:Op} {a7:dE}:bR op≠some (.shr a7):=by
 intro h
 unfold bR at h
 split at h<;>(try split at h)<;>(try split at h)<;>(try split at h)<;>(try simp[Option.map_eq_some_iff]at h)
theorem ET {op:Op} {f:au} {args:List au} {u x:Nat}:bR op≠some (.iL f args u x):=by
 intro h
 unfold bR at h
 split at h<;>(try split at h)<;>(try split at h)<;>(try split at h)<;>(try simp[Option.map_eq_some_iff]at h)
theorem EU {op:Op} {f:au} {args:List au} {us:List Nat}:bR op≠some (.iM f args us):=by
 intro h
 unfold bR at h
 split at h<;>(try split at h)<;>(try split at h)<;>(try split at h)<;>(try simp[Option.map_eq_some_iff]at h)
theorem EV {op:Op} {T:TypeId} {x:au}:bR op≠some (.hi T x):=by
 intro h
 unfold bR at h
 split at h<;>(try split at h)<;>(try split at h)<;>(try split at h)<;>(try simp[Option.map_eq_some_iff]at h)
theorem EW {op:Op} {x:au}:bR op≠some (.my x):=by
 intro h
 unfold bR at h
 split at h<;>(try split at h)<;>(try split at h)<;>(try split at h)<;>(try simp[Option.map_eq_some_iff]at h)
theorem EX {op:Op} {x:au}:bR op≠some (.lJ x):=by
 intro h
 unfold bR at h
 split at h<;>(try split at h)<;>(try split at h)<;>(try split at h)<;>(try simp[Option.map_eq_some_iff]at h)
theorem EY {op:Op} {x:au} (h:bR op=some (.cq x)):∃b1,op= .move b1∧cd b1=some x:=by
 unfold bR at h
 split at h<;>(try split at h)<;>(try split at h)<;>(try split at h)<;>(try simp[Option.map_eq_some_iff]at h)
 exact⟨_,rfl,h⟩
theorem EZ {op:Op} {x:au} (h:bR op=some (.fk x)):∃b1,op= .assign b1∧cd b1=some x:=by
 unfold bR at h
 split at h<;>(try split at h)<;>(try split at h)<;>(try split at h)<;>(try simp[Option.map_eq_some_iff]at h)
 exact⟨_,rfl,h⟩
theorem E0 {op:Op} {T a6:TypeId} {x y:au}:bR op≠some (.jw T a6 x y):=by
 intro h
 unfold bR at h
 split at h<;>(try split at h)<;>(try split at h)<;>(try split at h)<;>(try simp[Option.map_eq_some_iff]at h)
theorem E1 {op:Op} {T a6:TypeId} {x y:au} (h:bR op=some (.app T a6 x y)):∃a b,op= .call ⟨.builtin .append,#[a,b],#[T,a6]⟩∧cd a=some x∧cd b=some y:=by
 cases op with
 |call c=>
  obtain⟨callee,args,argTypes⟩:=c
  simp only[bR]at h
  split at h
  ·split at h<;>simp at h
  ·split at h<;>simp at h
  ·split at h<;>simp at h
  ·(split at h<;>try split at h)<;>simp at h
  ·(split at h<;>try split at h)<;>simp at h
  ·split at h
   ·rename_i a b vh su iN nE
    split at h
    ·rename_i b1 gZ ao aW
     simp only[Option.some.injEq,dE.app.injEq]at h
     obtain⟨rfl,rfl,rfl,rfl⟩:=h
     refine⟨a,b,?_,ao,aW⟩
     have aE:args= #[a,b]:=by apply Array.ext';exact iN
     have aL:argTypes= #[vh,su]:=by apply Array.ext';exact nE
     subst aE aL
     rfl
    ·cases h
   ·cases h
  ·cases h
 |makeFunc fn first cs=>
  cases fn<;>simp only[bR]at h<;>first|(cases h;done)|(split at h<;>simp at h)
 |slice T x bw az e0=>
  cases e0<;>simp only[bR]at h<;>first|(cases h;done)|(split at h<;>simp at h)
 |makeMap T r=>cases r<;>simp only[bR]at h<;>simp at h
 |lookup T x i c=>cases c<;>simp only[bR]at h<;>first|(cases h;done)|(split at h<;>simp at h)
 |_=>simp only[bR]at h<;>first|(cases h;done)|(simp at h;done)|(split at h<;>simp at h)
theorem aY.alias {F:Nat→Prop} {S:Nat→Nat→Prop} {ak:Nat→Value} {u x:Nat} (h:aY w0 F0 X F S s ak w) (hu:s u= .hole) (ao:(s x).own=true) (aC:bd (ak u)=bd (ak x)) (U:Value.ea (ak u)=true):
  aY w0 F0 X F (dV S u (fun _=>False)) (bZ s u (.h x [])) ak w:=by
 have cE:bZ ak u (ak u)=ak:=by funext y;simp only[bZ];split<;>simp_all
 have:=h.qa (t:=u) (d:=.h x []) (v:=ak u) rfl (by
  rw[ar]
  intro d ab an
  simp only[j.sub,Option.some.injEq]at ab
  subst ab
  exact⟨bd (ak x),none,rfl,aC,((lL ao).2.2.2.2.2 _).2 U⟩)
 rwa [cE]at this
theorem hg.less {F:Nat→Prop} {S ay:Nat→Nat→Prop} {ak:Nat→Value} {s1:af} {v:Value} (ba:∀u b,ay u b→S u b) (aA:av.res=true) (h:hg w0 X F S s ak w av v):hg w0 X F ay s1 ak w av v:=by
 rcases h with⟨U,aa⟩|⟨U,aa,Sn,aw,aN,a2,bJ,bO⟩
 ·refine .inl ⟨U,?_⟩
  cases av<;>first
   |(simp[j.res]at aA;done)
   |(rw[ar];trivial)
   |(rw[ar]at aa⊢;exact aa)
 ·exact .inr ⟨U,aa,Sn,aw,aN,a2,fun u b I hu=>bJ u b I (ba u b hu),bO⟩
theorem vi (aQ:C.cY) (h:Rel w0 F0 X n ρ s a w) {o:Oper} {f:au} {args:List au} (br:bR o.op=some (.call f args)) (ab:ia n o.dst=true) {K:j→af→Prop} {L:af→Prop} {next:Act→World→Prop}
  (hw:sx C s f args K) (gp:∀F S a_ ay w aq av s1 v,aY w0 F0 X F S s (fun t=>a.tmps.getD t undef) w→K av s1→av.res=true→aY w0 F0 X a_ ay s1 (fun t=>a.tmps.getD t undef) aq→hg w0 X a_ ay s1 (fun t=>a.tmps.getD t undef) aq av v→(∀b,F b→a_ b∧aq.heap[b]? =w.heap[b]?)→
   ∃s2 cc,L (fin s2 o.dst av)∧aY w0 F0 X a_ cc s2 (fun t=>a.tmps.getD t undef) aq∧hg w0 X a_ cc s2 (fun t=>a.tmps.getD t undef) aq av v)
  (aV:∀aj bM aq,L aj→Rel w0 F0 X n ρ aj bM aq→next bM aq):o.wp C.P a w next Q:=by
 have lN:=h
 obtain⟨fH,cp,eW,F,S,aA⟩:=h
 obtain⟨g,caps,ps,r,U,ef,aa,aw,aN,a2,bJ,bO,dg⟩:=hw
 obtain⟨dst,op,ty,pos,after,guard⟩:=o
 simp only at br ab gp
 cases op with
 |call c=>
  obtain⟨callee,ke,argTypes⟩:=c
  simp only[bR]at br
  split at br
  ·split at br
   ·rename_i qQ _ _ E2 xs bk k1
    simp only[Option.some.injEq,dE.call.injEq]at br
    obtain⟨rfl,rfl⟩:=br
    obtain⟨f1,f2⟩:=da aA (fun _=>rfl) bk
    rw[U,ar]at f2
    obtain⟨arr,f3,f4⟩:=f2
    have nJ:execOp a.eval {dst,op:=.call {callee:=.value qQ,args:=ke,argTypes},type:=ty,pos,after,guard}=callFunc g ((ke.toList.map a.eval++arr.toList).toArray):=by
     have:a.eval qQ= .func (.func g) #[] arr:=f3
     simp only[execOp,resolve,this,Deferred.ofValue,pure_bind,invoke]
     congr 1
     apply Array.ext';simp
    unfold Oper.wp
    rw[nJ]
    have qR:cx w F s (fun t=>a.tmps.getD t undef) (xs.map (ax s)++caps) (ke.toList.map a.eval++arr.toList):=yV (sq aA (fun _=>rfl) _ _ (nD k1)) f4
    rw[←aa]at qR
    obtain⟨et,l2⟩:=yW qR
    have eJ:∀d∈xs.map (ax s)++caps,d.plain=true:=by
     intro d ab
     rcases List.mem_append.1 ab with ab|ab
     ·obtain⟨x,ao,rfl⟩:=List.mem_map.1 ab
      exact xx s x fun av e=>by
       subst e
       have hm:=nD k1
       have:some (au.c av)∈xs.map some:=List.mem_map.2 ⟨_,ao,rfl⟩
       rw[←hm]at this
       obtain⟨o,_,bs⟩:=List.mem_map.1 this
       cases o with
       |const v=>simp only[cd,Option.map_eq_some_iff]at bs;obtain⟨c,ae,e⟩:=bs;cases e;exact uc ae
       |tmp n=>simp[cd]at bs
       |func g=>simp[cd]at bs
       |global g=>simp[cd]at bs
     ·obtain⟨k,ai⟩:=List.getElem?_of_mem ab
      exact r0 ef ai
    have vj:=EP (C:=C) aA (ps:=ps) (vs:=ke.toList.map a.eval++arr.toList) (f:=g) (r:=r) (by simpa using et)
     (fun i p v an aC=>⟨eJ p.a (by rw[←aa];exact List.mem_map.2 ⟨p,List.mem_of_getElem? an,rfl⟩),l2 i p.a v (by simp[an]) aC⟩) aw aN a2 bJ bO
    rcases vj with⟨eb,cw⟩|⟨v,aq,eb,a_,ay,cw,gD,fq⟩
    ·rw[eb,Oper.upon_enter]
     refine Calls.mono cw ?_
     rintro e aq ⟨v,rfl,a_,ay,bn,bp,cy⟩
     obtain⟨s2,cc,ey,fi,fW⟩:=gp _ _ _ _ _ _ _ _ _ aA dg bJ bn bp cy
     exact aV _ _ _ ey (Rel.put fH cp eW fi fW ab)
    ·rw[eb,Oper.upon_value]
     obtain⟨s2,cc,ey,fi,fW⟩:=gp _ _ _ _ _ _ _ _ _ aA dg bJ cw gD fq
     exact aV _ _ _ ey (Rel.put fH cp eW fi fW ab)
   ·cases br
  ·split at br
   ·simp only[Option.map_eq_some_iff]at br;obtain⟨_,_,br⟩:=br;cases br
   ·cases br
  ·split at br
   ·simp only[Option.map_eq_some_iff]at br;obtain⟨_,_,br⟩:=br;cases br
   ·cases br
  iterate 3
   ·split at br
    ·split at br<;>cases br
    ·cases br
  ·cases br
 |makeFunc fn first cs=>
  cases fn<;>simp only[bR]at br<;>first|(cases br;done)|(split at br<;>simp at br)
 |slice T x bw az e0=>
  cases e0<;>simp only[bR]at br<;>first|(cases br;done)|(split at br<;>simp at br)
 |makeMap T r=>cases r<;>simp only[bR]at br<;>simp at br
 |lookup T x i c=>cases c<;>simp only[bR]at br<;>first|(cases br;done)|(split at br<;>simp at br)
 |_=>simp only[bR]at br<;>first|(cases br;done)|(simp at br;done)|(split at br<;>simp at br)
theorem E3 (aQ:C.cY) (h:Rel w0 F0 X n ρ s a w) {o:Oper} {a7:dE} (br:bR o.op=some a7) (ab:ia n o.dst=true) {K:af→Prop} {next:Act→World→Prop}
  (hw:jD C s a7 fun av s1=>K (fin s1 o.dst av)) (aV:∀aj bM aq,K aj→Rel w0 F0 X n ρ aj bM aq→next bM aq):o.wp C.P a w next Q:=by
 have lN:=h
 obtain⟨fH,cp,eW,F,S,aA⟩:=h
 have plain:∀av s1,aX C s a7=some (av,s1)→K (fin s1 o.dst av)→o.wp C.P a w next Q:=by
  intro av s1 he ai
  obtain⟨r,aq,v,a_,ay,U,aa,aw,aN⟩:=yp (a:=a) aQ aA (fun _=>rfl) br he
  unfold Oper.wp
  rw[U]
  rcases aa with rfl|⟨rfl,rfl⟩
  ·exact aV _ _ _ ai (Rel.put fH cp eW aw aN ab)
  ·exact aV _ _ _ ai (Rel.put fH cp eW aw aN ab)
 cases a7 with
 |shr a7=>exact(ES br).elim
 |jw T a6 x y=>exact(E0 br).elim
 |call f args=>exact vi aQ ⟨fH,cp,eW,F,S,aA⟩ br ab (K:=fun av s1=>K (fin s1 o.dst av)) hw (fun _ _ _ ay _ _ _ s1 _ _ aa _ aw aN _=>⟨s1,ay,aa,aw,aN⟩) aV
 |iL f args u x=>exact(ET br).elim
 |iM f args L=>exact(EU br).elim
 |hi T x=>exact(EV br).elim
 |my x=>exact(EW br).elim
 |lJ x=>exact(EX br).elim
 |_=>
  obtain⟨av,s1,he,ai⟩:=hw
  exact plain av s1 he ai
theorem hg.share {F:Nat→Prop} {S:Nat→Nat→Prop} {ak:Nat→Value} {v:Value} (h:aY w0 F0 X F S s ak w) (aC:hg w0 X F S s ak w av v) (aG:av.tree=true) (aV:∀vs,av≠.tuple vs):
  ∃a_,aY w0 F0 X a_ S s ak w∧hg w0 X a_ S s ak w av.share v:=by
 obtain⟨Sn,fj,ek,gd,fQ,mr,nK⟩:∃Sn:Nat→Prop,cl av v∧al w F av (bd v) Sn∧(∀b,Sn b→b<w.heap.size)∧(∀b,Sn b→¬F b)∧(∀u b,Sn b→¬S u b)∧(∀b,Sn b→X b∨w0.heap.size≤b):=by
  rcases aC with⟨U,aa⟩|⟨_,aa,Sn,aw,aN,a2,bJ,bO⟩
  ·rw[ar.bx aG]at aa
   exact⟨fun _=>False,aa.1,aa.2,fun _ h=>h.elim,fun _ h=>h.elim,fun _ _ h=>h.elim,fun _ h=>h.elim⟩
  ·exact⟨Sn,aa,aw,aN,a2,bJ,bO⟩
 refine⟨fun b=>F b∨Sn b,?_,.inl ⟨u3 av,?_⟩⟩
 ·exact {
   ep:=fun b I=>.inl (h.ep b I)
   eC:=fun b I=>by
    rcases I with I|I
    ·exact h.eC b I
    ·exact .inr (nK b I)
   c_:=fun b I=>I.elim (h.c_ b) (gd b)
   cP:=h.cP
   dj:=fun t b I bk=>bk.elim (h.dj t b I) (fun R=>mr t b R I)
   c8:=h.c8
   cf:=h.cf
   b0:=fun t=>ar.frame (fun _ _=>rfl) (fun b I=>.inl I) (fun _ _ _=>rfl) h.b0 _ _ _ (fun _ _=>rfl) (h.b0 t)
   old:=h.old
   size:=h.size
   os:=h.os
   tape:=h.tape
   output:=h.output
   er:=h.er}
 ·by_cases bs:∃o,av= .cr o
  ·obtain⟨o,rfl⟩:=bs
   rw[j.share,ar];trivial
  have sA:av.share.tree=true:=by cases av<;>first|exact aG|rfl|exact(bs ⟨_,rfl⟩).elim
  rw[ar.bx sA]
  exact⟨u5 aV fj,al.shared (fun b I=>.inl I) av _ Sn (fun b I=>.inr I) ek⟩
theorem E4 {op:Op} {T:TypeId} {x:au} (h:bR op=some (.dq T x)):∃a,op= .box T a∧cd a=some x:=by
 cases op with
 |box vh a=>
  simp only[bR,Option.map_eq_some_iff,dE.dq.injEq]at h
  obtain⟨y,aW,rfl,rfl⟩:=h
  exact⟨a,rfl,aW⟩
 |_=>
  exfalso
  unfold bR at h
  split at h<;>(try split at h)<;>(try split at h)<;>(try split at h)<;>(try simp[Option.map_eq_some_iff]at h)<;>contradiction
theorem E5 {aq:World} {F a_:Nat→Prop} {s s1:af} {ak:Nat→Value} (aR:∀b,F b→a_ b∧aq.heap[b]? =w.heap[b]?):∀(n:Nat),
  (∀(d:j) (v:Value) (S:Nat→Prop),SizeOf.sizeOf d≤n→d.eO s=true→d.eO s1=true→ar w F s ak d v S→ar aq a_ s1 ak d v (fun _=>False))∧
  (∀(ds:List j) (vs:List Value),SizeOf.sizeOf ds≤n→j.mE s ds=true→j.mE s1 ds=true→cx w F s ak ds vs→cx aq a_ s1 ak ds vs):=by
 intro n
 induction n with
 |zero=>
  refine⟨fun d v S bj=> ?_,fun ds vs bj=> ?_⟩
  ·cases d<;>simp at bj<;>omega
  ·cases ds<;>simp at bj<;>omega
 |succ n ih=>
  refine⟨fun d v S bj bn bp h=> ?_,fun ds vs bj bn bp h=> ?_⟩
  ·cases d with
   |hole=>rw[ar];trivial
   |h x q=>
    simp only[j.eO,Bool.and_eq_true,List.isEmpty_iff]at bn bp
    obtain⟨rfl,bn⟩:=bn
    rw[ar]at h⊢
    obtain⟨bE,a,dw,dU,eB⟩:=h (s x) (by simp only[j.sub]) (lL bn).1
    simp only[bX,Option.some.injEq,Prod.mk.injEq,true_and]at dw
    intro d ab _
    simp only[j.sub,Option.some.injEq]at ab
    subst ab
    exact⟨bd (ak x),none,by simp only[bX],by rw[dU,←dw.1],((lL bp.2).2.2.2.2.2 _).2 (((lL bn).2.2.2.2.2 _).1 eB)⟩
   |an x q=>simp[j.eO]at bn
   |I x k=>
    simp only[j.eO,Bool.not_eq_true']at bn
    rw[ar]at h⊢
    obtain⟨b,cur,e,fr,U,aa,aw,aN⟩:=h bn
    exact fun _=>⟨b,cur,e,fr,U,(aR b aa).1,(aR b aa).2.trans aw,aN⟩
   |fn f cap=>
    simp only[j.eO]at bn bp
    rw[ar]at h⊢
    obtain⟨arr,rfl,ae⟩:=h
    exact⟨arr,rfl,ih.2 _ _ (by simp at bj;omega) bn bp ae⟩
   |_=>
    simp only[j.eO]at bn
    have a5:=(ar.bx rfl).1 h
    exact(ar.bx rfl).2 ⟨a5.1,al.mono (fun b I=>(aR b I).1) _ _ _ _ (fun _ h=>h) (al.frame (fun b I=>(aR b I).2) _ _ _ (fun _ h=>h.elim) (al.plain _ _ _ _ bn a5.2))⟩
  ·cases ds with
   |nil=>rw[cx]at h⊢;exact h
   |cons d ds=>
    simp only[j.mE,Bool.and_eq_true]at bn bp
    rw[cx]at h⊢
    obtain⟨v,fZ,rfl,U,aa⟩:=h
    simp at bj
    exact⟨v,fZ,rfl,ih.1 _ _ _ (by omega) bn.1 bp.1 U,ih.2 _ _ (by omega) bn.2 bp.2 aa⟩
theorem E6 {s:af} {d:j} (h:d.eO s=true):d.plain=true:=by
 cases d<;>first|rfl|(simpa [j.eO]using h)
theorem aY.lM {F:Nat→Prop} {ak:Nat→Value}:∀(L:List (Nat×j)) (s:af) (S:Nat→Nat→Prop),aY w0 F0 X F S s ak w→(∀p∈L,p.2.plain=true∧ar w F s ak p.2 (ak p.1) (fun _=>False))→
  ∃ay,aY w0 F0 X F ay (bV.lM s L) ak w∧∀u b,ay u b→S u b:=by
 intro L
 induction L with
 |nil=>intro s S h _;exact⟨S,h,fun _ _ h=>h⟩
 |cons p L ih=>
  intro s S h gp
  obtain⟨U,aa⟩:=gp p (by simp)
  have cE:bZ ak p.1 (ak p.1)=ak:=by funext u;simp only[bZ];split<;>simp_all
  have aw:=h.qa (t:=p.1) U aa
  rw[cE]at aw
  have ev:∀x,x≠p.1→(bZ s p.1 p.2 x).tree=true→bZ s p.1 p.2 x=s x∧ak x=ak x:=fun x ao _=>⟨f_ _ _ ao,rfl⟩
  obtain⟨ay,aD,aO⟩:=ih _ _ aw (fun q bN=>⟨(gp q (by simp[bN])).1,(ar.void (t:=p.1) ev (by rw[iA];exact U) _).1 _ _ _ (Nat.le_refl _) (gp q (by simp[bN])).2⟩)
  refine⟨ay,aD,fun u b I=> ?_⟩
  have:=aO u b I
  simp only[dV]at this
  split at this
  ·exact this.elim
  ·exact this
theorem vk {s:af}:∀{L:List (Nat×j)},k4 s L=true→∀p∈L,p.2.eO s=true
 |q::L,U,p,an=>by
  simp only[k4,Bool.and_eq_true]at U
  rcases List.mem_cons.1 an with rfl|an
  ·exact U.1
  ·exact vk U.2 p an
theorem E7 {s:af} {us:List Nat} {p:Nat×j} (h:p∈ib s us):p.1∈us∧s p.1=p.2:=by
 obtain⟨u,hu,rfl⟩:=List.mem_map.1 h
 exact⟨hu,rfl⟩
theorem E8 (aQ:C.cY) (h:Rel w0 F0 X n ρ s a w) {o:Oper} {a7:dE} (br:mD o.op=a7.base) (ab:ia n o.dst=true) {K:af→Prop} {next:Act→World→Prop}
  (hw:jD C s a7 fun av s1=>K (fin s1 o.dst av)) (aV:∀aj bM aq,K aj→Rel w0 F0 X n ρ aj bM aq→next bM aq):o.wp C.P a w next Q:=by
 cases a7 with
 |shr a7=>
  obtain⟨av,s1,he,aG,iO,ai⟩:=hw
  rcases k5 br with br|br
  ·change a7= .bad at br
   subst br;cases he
  obtain⟨fH,cp,eW,F,S,aA⟩:=h
  obtain⟨r,aq,v,a_,ay,U,aa,aw,aN⟩:=yp (a:=a) aQ aA (fun _=>rfl) br he
  obtain⟨qO,bg,b6⟩:=hg.share aw aN aG iO
  unfold Oper.wp
  rw[U]
  rcases aa with rfl|⟨rfl,rfl⟩
  ·exact aV _ _ _ ai (Rel.put fH cp eW bg b6 ab)
  ·exact aV _ _ _ ai (Rel.put fH cp eW bg b6 ab)
 |bad=>obtain⟨av,s1,he,_⟩:=hw;cases he
 |iL f args u x=>
  obtain⟨aE,aL,hw⟩:=hw
  rcases k5 br with I|I
  ·cases I
  ·refine vi aQ h I ab hw ?_ aV
   rintro F S a_ ay w aq av s1 v fj ⟨ek,gd,fQ⟩ mr nK qS _
   have r5:=fj.b0 u
   rw[aE,ar]at r5
   obtain⟨bE,a0,dw,dU,eB⟩:=r5 (s x) (by simp only[j.sub]) (lL aL).1
   simp only[bX,Option.some.injEq,Prod.mk.injEq,true_and]at dw
   have vl:∀y b,dV ay u (fun _=>False) y b→ay y b:=by
    intro y b I
    simp only[dV]at I
    split at I
    ·exact I.elim
    ·exact I
   exact⟨_,_,fQ,nK.alias ek gd (by rw[dU,←dw.1]) (((lL aL).2.2.2.2.2 _).1 eB),qS.less vl mr⟩
 |iM f args L=>
  obtain⟨aL,hw⟩:=hw
  rcases k5 br with I|I
  ·cases I
  ·refine vi aQ h I ab hw ?_ aV
   rintro F S a_ ay w aq av s1 v fj ⟨ek,fQ⟩ mr nK qS E9
   obtain⟨cc,aD,aO⟩:=nK.lM (ib s L) s1 ay (fun p an=>by
    have eb:=(E7 an).2
    have cw:=vk aL p an
    have gD:=vk ek p an
    refine⟨E6 cw,(E5 E9 _).1 _ _ (S p.1) (Nat.le_refl _) cw gD ?_⟩
    have:=fj.b0 p.1
    rw[eb]at this
    exact this)
   exact⟨_,cc,fQ,aD,qS.less aO mr⟩
 |hi T x=>
  obtain⟨av,s1,he,ai⟩:=hw
  rcases k5 br with I|I
  ·cases I
  ·obtain⟨b1,kf,ao⟩:=E4 I
   obtain⟨fH,cp,eW,F,S,aA⟩:=h
   obtain⟨dst,op,ty,pos,after,guard⟩:=o
   simp only at kf ab ai
   subst kf
   obtain⟨r,aq,v,a_,ay,U,aa,aw,aN⟩:Next C w0 F0 X (fun t=>a.tmps.getD t undef) w (execOp a.eval ⟨dst,.box T b1,ty,pos,after,guard⟩) av s1:=(C1 (T:=T) aA (da aA (fun _=>rfl) ao).2 he).next
   unfold Oper.wp
   rw[U]
   rcases aa with rfl|⟨rfl,rfl⟩
   ·exact aV _ _ _ ai (Rel.put fH cp eW aw aN ab)
   ·exact aV _ _ _ ai (Rel.put fH cp eW aw aN ab)
 |lJ x=>
  obtain⟨av,s1,he,ai⟩:=hw
  rcases k5 br with I|I
  ·cases I
  ·obtain⟨b1,kf,ao⟩:=EY I
   obtain⟨fH,cp,eW,F,S,aA⟩:=h
   obtain⟨dst,op,ty,pos,after,guard⟩:=o
   simp only at kf ab ai
   subst kf
   simp only[aX]at he
   obtain⟨aD,aO⟩:=da aA (fun _=>rfl) ao
   obtain⟨r,aq,v,a_,ay,U,aa,aw,aN⟩:Next C w0 F0 X (fun t=>a.tmps.getD t undef) w (execOp a.eval ⟨dst,.move b1,ty,pos,after,guard⟩) av s1:=by
    unfold kW at he
    split at he
    ·rename_i y q aW
     rw[aW]at aD aO
     obtain⟨bh,k0,bn,bp,Sn,cy,b_,c4,cZ,eM,_⟩:=jZ aA aD aO he
     exact⟨_,w,_,F,bh,rfl,.inl rfl,k0,.inr ⟨bn,bp,Sn,cy,b_,c4,cZ,eM⟩⟩
    ·simp only[Option.some.injEq,Prod.mk.injEq]at he
     obtain⟨rfl,rfl⟩:=he
     exact⟨_,w,_,F,S,rfl,.inl rfl,aA,.inl ⟨aD,aO⟩⟩
   unfold Oper.wp
   rw[U]
   rcases aa with rfl|⟨rfl,rfl⟩
   ·exact aV _ _ _ ai (Rel.put fH cp eW aw aN ab)
   ·exact aV _ _ _ ai (Rel.put fH cp eW aw aN ab)
 |my x=>
  obtain⟨av,s1,he,ai⟩:=hw
  rcases k5 br with I|I
  ·cases I
  ·obtain⟨b1,kf,ao⟩:=EZ I
   obtain⟨fH,cp,eW,F,S,aA⟩:=h
   obtain⟨dst,op,ty,pos,after,guard⟩:=o
   simp only at kf ab ai
   subst kf
   simp only[aX,Option.some.injEq,Prod.mk.injEq]at he
   obtain⟨rfl,rfl⟩:=he
   obtain⟨aD,aO⟩:=da aA (fun _=>rfl) ao
   obtain⟨r,aq,v,a_,ay,U,aa,aw,aN⟩:Next C w0 F0 X (fun t=>a.tmps.getD t undef) w (execOp a.eval ⟨dst,.assign b1,ty,pos,after,guard⟩) (ax s x) s:=⟨_,w,_,F,S,rfl,.inl rfl,aA,.inl ⟨aD,aO⟩⟩
   unfold Oper.wp
   rw[U]
   rcases aa with rfl|⟨rfl,rfl⟩
   ·exact aV _ _ _ ai (Rel.put fH cp eW aw aN ab)
   ·exact aV _ _ _ ai (Rel.put fH cp eW aw aN ab)
 |jw T a6 x y=>
  obtain⟨av,s1,he,ai⟩:=hw
  rcases k5 br with I|I
  ·cases I
  ·obtain⟨b1,gZ,kf,ao,aW⟩:=E1 I
   obtain⟨fH,cp,eW,F,S,aA⟩:=h
   simp only[aX,Option.map_eq_some_iff,Prod.mk.injEq]at he
   obtain⟨d,eA,rfl,rfl⟩:=he
   obtain⟨v,aq,a_,ay,U,aa,aw⟩:=DR (ty:=o.type) aQ aA (da aA (fun _=>rfl) ao).2 (da aA (fun _=>rfl) aW).2 eA
   have nJ:execOp a.eval o=(do pure (.value (←Builtin.append_ #[T,a6] o.type #[a.eval b1,a.eval gZ]))):=by
    obtain⟨dst,op,ty,pos,after,guard⟩:=o
    simp only at kf
    subst kf
    simp[execOp,resolve,invoke,builtin]
   unfold Oper.wp
   rw[nJ]
   simp only[Sem.run_bind,U,Result.andThen]
   exact aV _ _ _ ai (Rel.put fH cp eW aa aw ab)
 |_=>
  rcases k5 br with I|I
  ·cases I
  ·exact E3 aQ h I ab hw aV
end
end Go.bV
