/- Part of a proof that a law returns true for every input. No condition. -/
import Derived.Test.YtpdplcdnpaoceaaFwD
import Derived.Laws.Tables
namespace Go.cM
open List Go.IntKind Nat Or
section
variable {C:bA} {w0 w:World} {F0 X F:Nat->Prop} {S:Nat->Nat->Prop} {s s1:ah} {aq:Nat->Value} {av:I}
theorem v8 (z:Xw):∀n,(range (n*z.length)).map (λi=>z[i%z.length]!)=(replicate n z).flatten
 |0=>by simp
 |n+1=>by
  rw[Nat.add_mul,Nat.one_mul,range_add,map_append,v8 z n,replicate_succ',flatten_append];congr 1;simp only[List.map_map,flatten_cons,flatten_nil,append_nil];apply ext_getElem
  .simp
  .intro i ab ad;have aE:i<z.length:=ad;simp[mod_eq_of_lt aE,aE]
theorem aQ.replicate {d:I} {cs:Xw} (h:∀aF,al w F d cs aF):∀n aF,aQ w F (replicate n d) (replicate n cs).flatten aF
 |0,aF=>by simp only[replicate_zero,flatten_nil];rw[aQ]
 |n+1,aF=>by
  rw[replicate_succ,replicate_succ,flatten_cons,aQ];exact⟨cs,_,λ_=>False,λ_=>False,rfl,h _,aQ.replicate h n _,λ_ h=>h.elim,λ_ h=>h.elim,λ_ h=>h.elim⟩
def dB (C:bA) (T:TypeId) (l c:I):Option I:=
 match(C.T T).k,l,c with
 | .slice e,.int .i64 n,.int .i64 m=>if n=m/\0<=n/\(C.T e).ok=true/\(C.T e).zero.wd=(C.T e).sz/\(flat (C.T e).zero).isSome=true/\(C.T e).sz≠0/\(C.T e).bytes*n<=140737488355328/\n<=9223372036854775807 then
   some (.aw (C.T e).sz (replicate n.toNat (C.T e).zero))else none
 |_,_,_=>none
theorem KO (a0:C.dm) (h:bg w0 F0 X F S s aq w) {T:TypeId} {l c:I} {D7 D8:Value} (hl:aA w F s aq l D7 (λ_=>False)) (aj:aA w F s aq c D8 (λ_=>False)) (he:dB C T l c=some av):
  Good C w0 F0 X aq w (Instr.makeSlice T D7 D8) av s:=by
 unfold dB at he;split at he
 .rename_i e n m ai;have:=lP hl;subst this;have:=lP aj;subst this;obtain⟨zl,d,zm,aM,aS,aV,bK,cn,bB,bt⟩:=a0.info (ev ai (by simp));rw[ai]at bt;have:=je bt;subst this;split at he
  .rename_i qb;obtain⟨rfl,aU,jx,np,oi,cK,D9,zo⟩:=qb;simp only[Option.some.injEq]at he;subst he;obtain⟨i,zn,z,f1,f2,f3,f4,f5,f6,f7⟩:=a0.info jx;obtain⟨dO,jh⟩:=Option.isSome_iff_exists.1 oi;have oj:=f5 dO jh;have e7:∀aF,al w F (C.T e).zero dO aF:=λaF=>(al.flat _).1 _ dO aF (Nat.le_refl _) jh;have mE:dO.length=(C.T e).sz:=by rw[al.length _ _ _ (e7 (λ_=>False)),np]
   obtain⟨n,rfl⟩:=Int.eq_ofNat_of_zero_le aU;simp only[Int.toNat_natCast];have rN:i64.wrap (n:Int)=n:=by
    rw[wrap_i64];omega
   have rL:∀k (w:World),(askRoom k).run C.P w= .ok () w:=by
    intro k w;unfold askRoom;split<;>rfl
   have my:((Array.range (n*(C.T e).sz)).map (dO.toArray[·%dO.toArray.size]!)).toList=(replicate n dO).flatten:=by
    have:=v8 dO n;rw[mE]at this;simpa [mE]using this
   have c8:¬(281474976710656<(i.bytes:Int)*n):=by
    rw[f3];omega
   have v9:¬((n:Int)<0):=by omega
   have run:(Instr.makeSlice T (.int .i64 n) (.int .i64 n)).run C.P w= .ok (.slice (some ⟨w.heap.size,0,none⟩) n n)
     (w.alloc (.cells (if n*(C.T e).sz=0 then(Array.range (n*(C.T e).sz)).map (λ_=>default)else(Array.range (n*(C.T e).sz)).map (dO.toArray[·%dO.toArray.size]!)) e)):=by
    by_cases ba:n*(C.T e).sz=0
    .simp[Instr.makeSlice,run_underlying bB,asInt,asIntOf,p9 f1,rN,c8,v9,rL,hY f1,f2,ba,newRow]
    .simp only[ba,if_false];simp[Instr.makeSlice,run_underlying bB,asInt,asIntOf,p9 f1,rN,c8,v9,rL,hY f1,f2,ba,newRow,o8 f1 f4,oj]
   have iz:(if n*(C.T e).sz=0 then(Array.range (n*(C.T e).sz)).map (λ_=>(default:Value))else(Array.range (n*(C.T e).sz)).map (dO.toArray[·%dO.toArray.size]!)).toList=(replicate n dO).flatten:=by
    split
    .rename_i ba;have:n=0:=by
      rcases mul_eq_zero.1 ba with h|h
      .exact h
      .exact(cK h).elim
     subst this;simp
    .exact my
   generalize ql:(if n*(C.T e).sz=0 then(Array.range (n*(C.T e).sz)).map (λ_=>(default:Value))else(Array.range (n*(C.T e).sz)).map (dO.toArray[·%dO.toArray.size]!))=cur at run iz;have gP:(replicate n dO).flatten.length=n*(C.T e).sz:=by simp[mE]
   have hB:cur.size=n*(C.T e).sz:=by
    have:cur.size=cur.toList.length:=by simp
    rw[this,iz,gP]
   have jg:=h.tC (az:=w.alloc (.cells cur e)) (sz:=(C.T e).sz) (cap:=n) (xs:=replicate n (C.T e).zero) (cur:=cur) (e:=e) (fr:=(0,0)) (Sn:=λ_=>False) rfl rfl rfl ⟨rfl,λ_=>Nat.le_refl _⟩
    (λo _ ⟨_,ad⟩=>absurd ad (not_lt_zero _)) (by simp) (by unfold maxLen;omega) hB (by intro d af;rw[eq_of_mem_replicate af];exact np)
    (by rw[iz,length_replicate,take_of_length_le (by rw[gP];exact Nat.le_refl _)];exact aQ.replicate e7 n _) (λ_ h=>h.elim) (λ_ h=>h.elim) (λ_ _ h=>h.elim) (λ_ h=>h.elim)
   rw[length_replicate]at jg;exact⟨_,_,F,S,run,jg.1,jg.2⟩
  .cases he
 .cases he
def hJ (C:bA) (T bC:TypeId) (x y:I):Option I:=
 match(C.T T).k,(C.T bC).k,x,y with
 | .slice e,.int _,.a5,.int .i64 n=>if 0<=n/\(C.T e).ok=true/\(C.T e).zero.wd=(C.T e).sz/\(flat (C.T e).zero).isSome=true/\(C.T e).sz≠0/\(C.T e).bytes*n<=140737488355328/\n<=9223372036854775807 then
   some (.aw (C.T e).sz (replicate n.toNat (C.T e).zero))else none
 |_,_,_,_=>none
theorem KP {P:Program} {T bC ty e:TypeId} {k:IntKind} {i:TypeInfo} {z:Value} (aN:P.underlying T=some (.slice e)) (hu:P.underlying bC=some (.int k)) (aE:P.info? e=some i) (bz:i.zero=some z)
  (n:Nat) (ba:n≠0) (aa:i.size≠0) (aU:n<=9223372036854775807) (U:n*i.bytes<=140737488355328):
  (Builtin.append_ #[T,bC] ty #[.slice none 0 0,.int .i64 n]).run P w= .ok (.slice (some ⟨w.heap.size,0,none⟩) n (grownCap w n 0 e))
   (w.drew.alloc (.cells (Builtin.zeroCells z.cells n++Builtin.zeroCells z.cells (grownCap w n 0 e-n)) e)):=by
 have rN:i64.wrap (n:Int)=n:=by rw[wrap_i64];omega
 have v9:¬((n:Int)<0):=by omega
 have hmul:(n:Int)*(i.bytes:Int)=((n*i.bytes:Nat):Int):=by simp
 have c8:¬(281474976710656<(n:Int)*(i.bytes:Int)):=by rw[hmul];omega
 have gz:¬(281474976710656<Builtin.nextslicecap n 0*i.bytes):=by
  have:Builtin.nextslicecap n 0=n:=by unfold Builtin.nextslicecap;rw[if_pos (by omega)]
  rw[this];omega
 have rL:∀k (w:World),(askRoom k).run P w= .ok () w:=by
  intro k w;unfold askRoom;split<;>rfl
 have zi:¬(9223372036854775807<(n:Int)):=by omega
 have zt:n*i.size≠0:=Nat.mul_ne_zero ba aa;simp[Builtin.append_,run_underlying aN,run_underlying hu,hY aE,p9 aE,asInt,asIntOf,rN,v9,c8,gz,ba,Question.forced,rL,zi,o8 aE bz,newRow,grownCap,Builtin.firstCells];intro kH;exact(zt kH).elim
theorem KQ (a0:C.dm) (h:bg w0 F0 X F S s aq w) {T bC ty:TypeId} {x y:I} {fi g5:Value} (an:aA w F s aq x fi (λ_=>False)) (a2:aA w F s aq y g5 (λ_=>False)) (he:hJ C T bC x y=some av):
  Good C w0 F0 X aq w (Builtin.append_ #[T,bC] ty #[fi,g5]) av s:=by
 unfold hJ at he;split at he
 .rename_i e V5 n ai D_;have:=ob an;subst this;have:=lP a2;subst this;obtain⟨zl,d,zm,aM,aS,aV,bK,cn,bB,bt⟩:=a0.info (ev ai (by simp));rw[ai]at bt;have:=je bt;subst this;obtain⟨V6,V7,V8,Ea,Eb,KR,V9,V_,Ec,Ed⟩:=a0.info (ev D_ (by simp));rw[D_]at Ed;have:=ts Ed;subst this;split at he
  .rename_i qb;obtain⟨aU,jx,np,oi,cK,D9,zo⟩:=qb;simp only[Option.some.injEq]at he;subst he;obtain⟨i,zn,z,f1,f2,f3,f4,f5,f6,f7⟩:=a0.info jx;obtain⟨dO,jh⟩:=Option.isSome_iff_exists.1 oi;have oj:=f5 dO jh;have e7:∀aF,al w F (C.T e).zero dO aF:=λaF=>(al.flat _).1 _ dO aF (Nat.le_refl _) jh;have mE:dO.length=(C.T e).sz:=by rw[al.length _ _ _ (e7 (λ_=>False)),np]
   obtain⟨n,rfl⟩:=Int.eq_ofNat_of_zero_le aU;simp only[Int.toNat_natCast];by_cases ba:n=0
   .subst ba;have run:(Builtin.append_ #[T,bC] ty #[.slice none 0 0,.int .i64 ((0:Nat):Int)]).run C.P w= .ok (.slice none 0 0) w:=by
     have rN:i64.wrap 0=0:=by decide
     simp[Builtin.append_,run_underlying bB,run_underlying Ec,hY f1,p9 f1,asInt,asIntOf,rN]
    exact⟨_,w,F,S,run,h,.inr ⟨rfl,rfl,λ_=>False,by simp only[bL,gk];rw[al];exact .inl ⟨rfl,_,rfl⟩,λ_ h=>h.elim,λ_ h=>h.elim,λ_ _ h=>h.elim,λ_ h=>h.elim⟩⟩
   .have run:=KP (w:=w) (ty:=ty) bB Ec f1 f4 n ba (by rw[f2];exact cK) (by omega) (by
     rw[f3];have:((C.T e).bytes:Int)*(n:Int)=(((C.T e).bytes*n:Nat):Int):=by simp
     rw[this]at D9;rw[Nat.mul_comm];omega)
    rw[oj]at run;have rI:=grownCap_ge w n 0 e;have tF:=grownCap_le_maxLen w n 0 e (by unfold maxLen;omega);have Ee:∀m,(Builtin.zeroCells dO.toArray m).toList=(replicate m dO).flatten:=by
     intro m;have:=v8 dO m;unfold Builtin.zeroCells;simpa [mE]using this
    have gP:∀m,(replicate m dO).flatten.length=m*(C.T e).sz:=by intro m;simp[mE]
    generalize ql:Builtin.zeroCells dO.toArray n++Builtin.zeroCells dO.toArray (grownCap w n 0 e-n)=cur at run;have iz:cur.toList=(replicate n dO).flatten++(replicate (grownCap w n 0 e-n) dO).flatten:=by rw[<-ql,Array.toList_append,Ee,Ee]
    have hB:cur.size=grownCap w n 0 e*(C.T e).sz:=by
     have:cur.size=cur.toList.length:=by simp
     rw[this,iz,length_append,gP,gP,<-Nat.add_mul];congr 1;omega
    have jg:=h.tC (az:=w.drew.alloc (.cells cur e)) (sz:=(C.T e).sz) (cap:=grownCap w n 0 e) (xs:=replicate n (C.T e).zero) (cur:=cur) (e:=e) (fr:=(0,0)) (Sn:=λ_=>False) rfl rfl rfl ⟨rfl,λ_=>le_succ _⟩
     (λo _ ⟨_,ad⟩=>absurd ad (not_lt_zero _)) (by simpa using rI) tF hB (by intro d af;rw[eq_of_mem_replicate af];exact np)
     (by rw[iz,length_replicate,take_left' (gP n)];exact aQ.replicate e7 n _) (λ_ h=>h.elim) (λ_ h=>h.elim) (λ_ _ h=>h.elim) (λ_ h=>h.elim)
    rw[length_replicate]at jg;exact⟨_,_,F,S,run,jg.1,jg.2⟩
  .cases he
 .cases he
def om (s:ah) (f:FuncId) (cs:List aX):Option I:=some (.fn f (cs.map (a6 s)))
theorem v_ {a:Act} (h:bg w0 F0 X F S s aq w) (cX:∀t,aq t=a.tmps.getD t undef):∀(os:List Operand) (xs:List aX),os.map cD=xs.map some->c5 w F s aq (xs.map (a6 s)) (os.map a.eval)
 |[],[],_=>by simp only[map_nil];rw[c5]
 |[],x::xs,h=>by simp at h
 |o::os,[],h=>by simp at h
 |o::os,x::xs,bj=>by
  simp only[map_cons,cons.injEq]at bj⊢;rw[c5];exact⟨_,_,rfl,(dU h cX bj.1).2,v_ h cX os xs bj.2⟩
theorem Ef:∀(vs:Xw) (k off:Nat) (A:Array Value) (l m r:Xw),A.toList=l++(m++r)->l.length=off+k->m.length=vs.length->
  ((vs.zipIdx k).foldl (λcs (x:Value×Nat)=>cs.setIfInBounds (off+x.2) x.1) A).toList=l++(vs++r)
 |[],k,off,A,l,m,r,hj,hl,hm=>by
  have:m=[]:=by simpa using hm
  subst this;simpa using hj
 |v::vs,k,off,A,l,m,r,hj,hl,hm=>by
  obtain⟨x,m,rfl⟩:∃x ib,m=x::ib:=by
   cases m with
   |nil=>simp at hm
   |cons x m=>exact⟨x,m,rfl⟩
  rw[zipIdx_cons,foldl_cons];have:=Ef vs (k+1) off (A.setIfInBounds (off+k) v) (l++[v]) m r (by
   rw[Array.toList_setIfInBounds,hj,<-hl,set_append_right _ _ (Nat.le_refl _)];simp) (by simp;omega) (by simpa using hm)
  simpa using this
def ji (os:List (Option Nat)) (a:I):I:=os.foldl (λa o=>iP o a) a
def jj (place:Nat->Option (Nat×Nat)):ah->Xy->List (Option Nat)->Xx->Option (Xy×ah)
 |s,dG,_,[]=>some (dG,s)
 |s,dG,os,(k,a)::r=>match b9 s (ji os a),place k,dG[k]? with
  |some (d,s1),some (off,n),some z=>match d with
   | .tuple _=>none
   |d=>if d.wd=n/\z.wd=n/\I.c3 (dG.take k)=off then jj place s1 (dG.set k d) (os++[(ji os a).owner]) r else none
  |_,_,_=>none
def lW (w:World) (F:Nat->Prop) (s:ah) (aq:Nat->Value):Xx->List (Nat×Value)->Prop
 |[],[]=>True
 |(k,a)::r,(cH,v)::e0=>k=cH/\a.plain=true/\aA w F s aq a v (λ_=>False)/\lW w F s aq r e0
 |_,_=>False
theorem KS (x:Nat):∀d:I,d.plain=true->(bH x d).plain=true
 | .h y q,_=>by simp only[bH];split<;>(try split)<;>rfl
 | .ao y q,_=>by simp only[bH];split<;>rfl
 | .U y q,_=>rfl
 | .fn f c,_=>by simp only[bH];rfl
 | .hole,h=>h
 | .bool _,h=>h
 | .dR,h=>h
 | .int _ _,h=>h
 | .str _,h=>h
 | .cJ,h=>h
 | .a5,h=>h
 | .slice _,h=>h
 | .aw _ _,h=>h
 | .ref _,h=>h
 | .bh _,h=>h
 | .agg _,h=>h
 | .tuple _,h=>h
theorem KT (o:Option Nat) (d:I) (h:d.plain=true):(iP o d).plain=true:=by
 cases o with
 |none=>exact h
 |some x=>exact KS x d h
theorem lW.bH {w:World} {F:Nat->Prop} {s s1:ah} {aq:Nat->Value} {o:Option Nat} (ao:∀(a7:I) (eI:Value) (aF:Nat->Prop),aA w F s aq a7 eI aF->aA w F s1 aq (iP o a7) eI aF):
  ∀(r:Xx) (e0:List (Nat×Value)),lW w F s aq r e0->lW w F s1 aq (r.map λp=>(p.1,iP o p.2)) e0
 |[],[],_=>trivial
 |(k,a)::r,(cH,v)::e0,h=>by
  obtain⟨ab,ad,aB,aY⟩:=h;exact⟨ab,KT _ _ ad,ao _ _ _ aB,lW.bH ao r e0 aY⟩
 |[],_::_,h=>h.elim
 |_::_,[],h=>h.elim
theorem zu {place:Nat->Option (Nat×Nat)}:∀(ps:Xx) (vs:List (Nat×Value)) (os:List (Option Nat)) (s:ah) (S:Nat->Nat->Prop) (dG:Xy) (A:Array Value) (fM:Nat->Prop),
  bg w0 F0 X F S s aq w->lW w F s aq (ps.map λp=>(p.1,ji os p.2)) vs->aQ w F dG A.toList fM->(∀b,fM b->b<w.heap.size)->(∀b,fM b->¬F b)->(∀u b,fM b->¬S u b)->(∀b,fM b->X b\/w0.heap.size<=b)->
  ∀ds s1,jj place s dG os ps=some (ds,s1)->∃kn S1 e3,Instr.fill place A vs=some kn/\bg w0 F0 X F S1 s1 aq w/\aQ w F ds kn.toList e3/\(∀b,e3 b->b<w.heap.size)/\(∀b,e3 b->¬F b)/\(∀u b,e3 b->¬S1 u b)/\
   (∀b,e3 b->X b\/w0.heap.size<=b)/\ds.length=dG.length/\I.c3 ds=I.c3 dG/\(∀n,(∀d∈dG,d.wd=n)->∀d∈ds,d.wd=n)
 |[],[],os,s,S,dG,A,fM,h,_,ab,ad,aB,aY,bn,ds,s1,he=>by
  simp only[jj,Option.some.injEq,Prod.mk.injEq]at he;obtain⟨rfl,rfl⟩:=he;exact⟨A,S,fM,rfl,h,ab,ad,aB,aY,bn,rfl,rfl,λ_ h=>h⟩
 |(k,a)::ps,(cH,v)::vs,os,s,S,dG,A,fM,h,ao,ab,ad,aB,aY,bn,ds,s1,he=>by
  obtain⟨rfl,iE,mv,tL⟩:=ao;simp only[jj]at he;split at he
  .rename_i d tM off n z aN fO bz;have key:∀d:I,(∀ar,d≠.tuple ar)->b9 s (ji os a)=some (d,tM)->(if d.wd=n/\z.wd=n/\I.c3 (dG.take k)=off then jj place tM (dG.set k d) (os++[(ji os a).owner]) ps else none)=some (ds,s1)->
     ∃kn S1 e3,Instr.fill place A ((k,v)::vs)=some kn/\bg w0 F0 X F S1 s1 aq w/\aQ w F ds kn.toList e3/\(∀b,e3 b->b<w.heap.size)/\(∀b,e3 b->¬F b)/\(∀u b,e3 b->¬S1 u b)/\
     (∀b,e3 b->X b\/w0.heap.size<=b)/\ds.length=dG.length/\I.c3 ds=I.c3 dG/\(∀n,(∀d∈dG,d.wd=n)->∀d∈ds,d.wd=n):=by
    intro d n9 aN he;split at he
    .rename_i aj;obtain⟨wa,p_,Eg⟩:=aj;obtain⟨S1,e4,aO,a3,Sn,bJ,cN,dD,gp,gW,jS,tI,vY⟩:=mw h iE mv aN;obtain⟨bx,eB,bE,Sx,gj,hj,fW,dS,e9,fX,et,i_⟩:=aQ.pick dG _ _ k z ab bz;have my:=tv a3 n9;have Eh:=al.length _ _ _ bJ;have Ei:=al.length _ _ _ et;have o9:=i_ w d (bL v) Sn (λ_ _=>rfl) (λ_ _=>rfl) bJ (λb KU KV=>by obtain⟨u,hu⟩:=tI b KU;exact aY u b (dS b KV) hu);have Ej:=Ef (bL v) 0 off A bx eB bE hj (by rw[fW,Eg];rfl) (by rw[Ei,Eh,wa,p_]);generalize tN:((bL v).zipIdx 0).foldl (λcs (x:Value×Nat)=>cs.setIfInBounds (off+x.2) x.1) A=vQ at Ej;obtain⟨kn,S2,e3,dZ,fj,gQ,jT,la,n_,oa,kP,zv,wb⟩:=zu (place:=place) ps vs (os++[(ji os a).owner]) tM S1 (dG.set k d) vQ (λb=>Sx b\/Sn b) e4 (by have:=lW.bH vY _ _ tL;simpa [ji,foldl_append,Function.comp_def]using this) (by rw[Ej];exact o9)
      (by rintro b (U|U);exact ad b (dS b U);exact cN b U) (by rintro b (U|U);exact aB b (dS b U);exact dD b U)
      (by rintro u b (U|U);exact λhu=>aY u b (dS b U) (jS u b hu);exact gp u b U) (by rintro b (U|U);exact bn b (dS b U);exact gW b U) ds s1 he
     refine⟨kn,S2,e3,?_,fj,gQ,jT,la,n_,oa,by rw[kP];simp,by rw[zv];exact yP _ _ _ _ bz (by rw[wa,p_]),?_⟩
     .have zw:off+n<=A.size:=by
       have:A.size=A.toList.length:=by simp
       rw[this,hj];simp[fW,Eg,Ei,p_]
      simp only[Instr.fill,fO,my,List.size_toArray,Eh,wa];have ja:¬(n≠n\/A.size<off+n):=by omega
      have zx:(bL v).toArray.zipIdx.foldl (λcs (x:Value×Nat)=>cs.setIfInBounds (off+x.2) x.1) A=vQ:=by
       rw[<-tN,<-Array.foldl_toList];simp
      simp only[ne_eq,not_true_eq_false,decide_false,Bool.false_or,decide_eq_true_eq,gt_iff_lt];rw[if_neg (by simp;omega)];rw[show(bL v).toArray.zipIdx.foldl (λcs x=>match x with|(c,j)=>cs.setIfInBounds (off+j) c) A=vQ from zx];exact dZ
     .intro KW tO;refine wb KW (yQ tO ?_);rw[wa,<-p_];exact tO z (mem_of_getElem? bz)
    .cases he
   split at he
   .cases he
   .rename_i n9;exact key _ (λar e=>n9 ar e) aN he
  .cases he
 |[],_::_,_,_,_,_,_,_,_,ao,_,_,_,_,_,_,_,_=>ao.elim
 |_::_,[],_,_,_,_,_,_,_,ao,_,_,_,_,_,_,_,_=>ao.elim
def fw (C:bA) (s:ah) (T:TypeId) (ps:Xx):Option (I×ah):=
 match(C.T T).k,(C.T T).zero with
 | .struct ar,.agg dG=>if(flat (.agg dG)).isSome=true/\(∀f∈ar,(C.T f.1).ok=true)then
   (match jj (λk=>(ar[k]?).map λf=>(f.2,(C.T f.1).sz)) s dG [] ps with
   |some (ds,s1)=>some (.agg ds,s1)
   |none=>none)else none
 |_,_=>none
def ek (C:bA) (s:ah) (T:TypeId) (n:Nat) (ps:Xx):Option (I×ah):=
 match(C.T T).k with
 | .slice e=>if(C.T e).ok=true/\(C.T e).zero.wd=(C.T e).sz/\(flat (C.T e).zero).isSome=true/\(C.T e).sz≠0/\n*(C.T e).sz<=16777216 then
   (match jj (λk=>some (k*(C.T e).sz,(C.T e).sz)) s (replicate n (C.T e).zero) [] ps with
   |some (ds,s1)=>some (.aw (C.T e).sz ds,s1)
   |none=>none)else none
 |_=>none
theorem KX (a0:C.dm):∀(gs:List Field),(∀g∈gs,(C.T g.type).ok=true)->
  gs.mapM (λf=>(C.P.info? f.type).map λi=>(f.offset,i.size))=some (gs.map λg=>(g.offset,(C.T g.type).sz)):=by
 intro gs;induction gs with
 |nil=>intro _;simp
 |cons g gs ih=>
  intro bf;obtain⟨i,d,z,f1,f2,f3,f4,f5,f6,f7⟩:=a0.info (bf g (by simp));have:=ih (λg ga=>bf g (by simp[ga]));simp[mapM_cons,f1,f2,this]
theorem KY (a0:C.dm) (h:bg w0 F0 X F S s aq w) {T:TypeId} {ps:Xx} {vs:List (Nat×Value)} (ao:lW w F s aq ps vs) (he:fw C s T ps=some (av,s1)):
  Good C w0 F0 X aq w (Instr.build T vs.toArray) av s1:=by
 unfold fw at he;split at he
 .rename_i ar dG ai bz;split at he
  .rename_i aj;obtain⟨oi,KZ⟩:=aj;split at he
   .rename_i ds s2 gP;simp only[Option.some.injEq,Prod.mk.injEq]at he;obtain⟨rfl,rfl⟩:=he;obtain⟨i,d,z,aM,aS,aV,bK,cn,bB,bt⟩:=a0.info (ev ai (by simp));rw[ai]at bt;obtain⟨gs,rfl,Ek⟩:=tr bt;obtain⟨dO,jh⟩:=Option.isSome_iff_exists.1 oi;have oj:=cn dO (by rw[bz];exact jh);have e7:aQ w F dG dO.toArray.toList (λ_=>False):=by
     have:=(al.flat (w:=w) (F:=F) _).1 (.agg dG) dO (λ_=>False) (Nat.le_refl _) jh;rw[al]at this;simpa using this
    have c_:lW w F s aq (ps.map λp=>(p.1,ji [] p.2)) vs:=by simpa [ji]using ao
    obtain⟨kn,S1,e3,dZ,fj,gQ,jT,la,n_,oa,kP,zv,wb⟩:=zu ps vs [] s S dG dO.toArray (λ_=>False) h c_ e7 (λ_ h=>h.elim) (λ_ h=>h.elim) (λ_ _ h=>h.elim) (λ_ h=>h.elim) ds s2 gP;have fO:=KX a0 gs.toList (λg bf=>KZ (g.type,g.offset) (by rw[<-Ek];exact List.mem_map_of_mem bf));have K0:(λ(k:Nat)=>(ar[k]?).map λ(f:TypeId×Nat)=>(f.2,(C.T f.1).sz))=λ(k:Nat)=>((gs.toList.map λg=>(g.offset,(C.T g.type).sz)).toArray)[k]? :=by
     funext k;rw[<-Ek];simp only[getElem?_map,getElem?_toArray,Option.map_map];rfl
    rw[K0]at dZ;refine⟨.agg kn,w,F,S1,run_build w T vs.toArray kn ?_,fj,.inr ⟨rfl,⟨_,rfl⟩,e3,by simp only[bL,gk];rw[al];exact gQ,jT,la,n_,oa⟩⟩;unfold Program.built;simp only[aM,bB,bK,fO,oj];exact dZ
   .cases he
  .cases he
 .cases he
theorem K1 (a0:C.dm) (h:bg w0 F0 X F S s aq w) {T:TypeId} {n:Nat} {ps:Xx} {vs:List (Nat×Value)} (ao:lW w F s aq ps vs) (he:ek C s T n ps=some (av,s1)):
  Good C w0 F0 X aq w (Instr.buildSlice T n vs.toArray) av s1:=by
 unfold ek at he;split at he
 .rename_i e ai;split at he
  .rename_i aj;obtain⟨jx,np,oi,cK,Wa⟩:=aj;split at he
   .rename_i ds s2 gP;simp only[Option.some.injEq,Prod.mk.injEq]at he;obtain⟨rfl,rfl⟩:=he;obtain⟨zl,d,zm,aM,aS,aV,bK,cn,bB,bt⟩:=a0.info (ev ai (by simp));rw[ai]at bt;have:=je bt;subst this;obtain⟨i,zn,z,f1,f2,f3,f4,f5,f6,f7⟩:=a0.info jx;obtain⟨dO,jh⟩:=Option.isSome_iff_exists.1 oi;have oj:=f5 dO jh;have e7:∀aF,al w F (C.T e).zero dO aF:=λaF=>(al.flat _).1 _ dO aF (Nat.le_refl _) jh;have mE:dO.length=(C.T e).sz:=by rw[al.length _ _ _ (e7 (λ_=>False)),np]
    generalize hj:((Array.range (n*(C.T e).sz)).map ((if n*(C.T e).sz=0 then #[]else dO.toArray)[·%(if n*(C.T e).sz=0 then(#[]:Array Value)else dO.toArray).size]!))=A;have zw:A.toList=(replicate n dO).flatten:=by
     rw[<-hj];by_cases ba:n*(C.T e).sz=0
     .have:n=0:=by
       rcases mul_eq_zero.1 ba with h|h
       .exact h
       .exact(cK h).elim
      subst this;simp
     .simp only[ba,if_false];have:=v8 dO n;rw[mE]at this;simpa [mE]using this
    have c_:lW w F s aq (ps.map λp=>(p.1,ji [] p.2)) vs:=by simpa [ji]using ao
    obtain⟨kn,S1,e3,dZ,fj,gQ,jT,la,n_,oa,kP,zv,wb⟩:=zu ps vs [] s S (replicate n (C.T e).zero) A (λ_=>False) h c_ (by rw[zw];exact aQ.replicate e7 n _) (λ_ h=>h.elim) (λ_ h=>h.elim) (λ_ _ h=>h.elim) (λ_ h=>h.elim) ds s2 gP;have hlen:ds.length=n:=by rw[kP];simp
    have El:=wb (C.T e).sz (by intro d af;rw[eq_of_mem_replicate af];exact np);have K2:kn.toList.length=n*(C.T e).sz:=by rw[aQ.qh gQ El,hlen]
    have K3:kn.size=n*(C.T e).sz:=by rw[<-K2];simp
    have Wb:n<=16777216:=by
     have:n*1<=n*(C.T e).sz:=mul_le_mul_left _ (by omega);omega
    have jg:=fj.tC (az:=w.alloc (.cells kn e)) (sz:=(C.T e).sz) (cap:=n) (xs:=ds) (cur:=kn) (e:=e) (fr:=(0,0)) (Sn:=e3) rfl rfl rfl ⟨rfl,λ_=>Nat.le_refl _⟩
     (λo _ ⟨_,ad⟩=>absurd ad (not_lt_zero _)) (by omega) (by unfold maxLen;omega) K3 El (by rw[hlen,take_of_length_le (by omega)];exact gQ) jT la n_ oa
    rw[hlen]at jg;refine⟨_,_,F,S1,?_,jg.1,jg.2⟩;by_cases ba:n*(C.T e).sz=0
    .simp only[ba,if_true]at hj;have rO:(Array.map (λ_=>(default:Value)) (Array.range 0))=A:=by
      have:n=0:=by
       rcases mul_eq_zero.1 ba with h|h
       .exact h
       .exact(cK h).elim
      apply Array.ext';rw[zw,this];simp
     simp[Instr.buildSlice,run_underlying bB,hY f1,f2,ba,newRow];rw[rO,dZ];simp
    .simp only[ba,if_false]at hj;have ja:¬(16777216<n*(C.T e).sz):=by omega
     simp[Instr.buildSlice,run_underlying bB,hY f1,f2,ba,ja,o8 f1 f4,oj,newRow];have rO:(Array.map (λx=>dO[x%dO.length]?.getD default) (Array.range (n*(C.T e).sz)))=A:=by
      rw[<-hj];simp
     rw[rO,dZ];simp
   .cases he
  .cases he
 .cases he
end
inductive cU where
 |fc (x:aX)
 |ko (x:aX)
 |pick (c a b:aX)
 |kL (T:TypeId)
 |g6 (T:TypeId) (x:aX)
 |fw (T:TypeId) (ps:List (Nat×aX))
 |ek (T:TypeId) (n:Nat) (ps:List (Nat×aX))
 |ew (T:TypeId) (x:aX)
 |iC (T:TypeId) (x y:aX)
 |hC (x:aX)
 |dE (op:BinOp) (T:TypeId) (x y:aX)
 |un (op:UnOp) (x:aX)
 |hi (A B:TypeId) (x:aX)
 |om (f:FuncId) (cs:List aX)
 |dB (T:TypeId) (l c:aX)
 |eb (T:TypeId) (x:aX) (c9 aE:Option aX)
 |gO (T:TypeId) (x:aX) (k:Nat)
 |h_ (T:TypeId) (x i:aX)
 |idx (T:TypeId) (x i:aX)
 |ex (x:aX) (k:Nat)
 |km (T:TypeId) (x:aX) (k:Nat)
 |call (f:aX) (args:List aX)
 |len (T:TypeId) (x:aX)
 |app (T bC:TypeId) (x y:aX)
 |shr (a9:cU)
 |hJ (T bC:TypeId) (x y:aX)
 |cap (T:TypeId) (x:aX)
 |nr (fL:Bool) (x y:aX)
 |bad
 |jy (f:aX) (args:List aX) (us:Xt)
 |h0 (T:TypeId) (x:aX)
 |tP
 |lV (T:TypeId) (x i:aX)
 |kO (T:TypeId) (x i v:aX)
def cU.base:cU->cU
 | .shr a9=>a9
 | .hJ T bC x y=>.app T bC x y
 | .jy f args _=>.call f args
 | .h0 T x=>.g6 T x
 |a9=>a9
def rP:List Operand->Option (List aX)
 |[]=>some []
 |o::os=>match cD o,rP os with
  |some x,some xs=>some (x::xs)
  |_,_=>none
def rQ:List (Nat×Operand)->Option (List (Nat×aX))
 |[]=>some []
 |(k,o)::os=>match cD o,rQ os with
  |some x,some xs=>some ((k,x)::xs)
  |_,_=>none
def ns:Option Operand->Option (Option aX)
 |none=>some none
 |some o=>(cD o).map some
def cp:Op->Option cU
 | .move x=>(cD x).map .fc
 | .assign x=>(cD x).map .ko
 | .pick c a b=>match cD c,cD a,cD b with
   |some c,some a,some b=>some (.pick c a b)
   |_,_,_=>none
 | .alloc T=>some (.kL T)
 | .box T x=>(cD x).map (.g6 T)
 | .build T ps=>(rQ ps.toList).map (.fw T)
 | .buildSlice T n ps=>(rQ ps.toList).map (.ek T n)
 | .load T x=>(cD x).map (.ew T)
 | .store T x y=>match cD x,cD y with
   |some x,some y=>some (.iC T x y)
   |_,_=>none
 | .nilCheck x=>(cD x).map .hC
 | .binOp op T x y _=>match cD x,cD y with
   |some x,some y=>some (.dE op T x y)
   |_,_=>none
 | .unOp op _ x=>(cD x).map (.un op)
 | .convert A B x=>(cD x).map (.hi A B)
 | .makeFunc (.func f) first cs=>if first.isEmpty then(rP cs.toList).map (.om f)else none
 | .makeSlice T l c=>match cD l,cD c with
   |some l,some c=>some (.dB T l c)
   |_,_=>none
 | .slice T x c9 aE none=>match cD x,ns c9,ns aE with
   |some x,some c9,some aE=>some (.eb T x c9 aE)
   |_,_,_=>none
 | .fieldAddr T x k=>(cD x).map λx=>.gO T x k
 | .indexAddr T x i=>match cD x,cD i with
   |some x,some i=>some (.h_ T x i)
   |_,_=>none
 | .index T x i=>match cD x,cD i with
   |some x,some i=>some (.idx T x i)
   |_,_=>none
 | .extract x k=>(cD x).map λx=>.ex x k
 | .field T x k=>(cD x).map λx=>.km T x k
 | .makeMap _ none=>some .tP
 | .lookup T x i false=>match cD x,cD i with
   |some x,some i=>some (.lV T x i)
   |_,_=>none
 | .mapUpdate T x i v=>match cD x,cD i,cD v with
   |some x,some i,some v=>some (.kO T x i v)
   |_,_,_=>none
 | .call c=>match c.callee with
   | .value f=>match cD f,rP c.args.toList with
     |some f,some xs=>some (.call f xs)
     |_,_=>none
   | .builtin .len=>match c.args.toList,c.argTypes.toList with
     |[x],[T]=>(cD x).map (.len T)
     |_,_=>none
   | .builtin .cap=>match c.args.toList,c.argTypes.toList with
     |[x],[T]=>(cD x).map (.cap T)
     |_,_=>none
   | .builtin .min=>match c.args.toList with
     |[x,y]=>match cD x,cD y with
      |some x,some y=>some (.nr false x y)
      |_,_=>none
     |_=>none
   | .builtin .max=>match c.args.toList with
     |[x,y]=>match cD x,cD y with
      |some x,some y=>some (.nr true x y)
      |_,_=>none
     |_=>none
   | .builtin .append=>match c.args.toList,c.argTypes.toList with
     |[x,y],[T,bC]=>match cD x,cD y with
      |some x,some y=>some (.app T bC x y)
      |_,_=>none
     |_,_=>none
   |_=>none
 |_=>none
def nr (fL:Bool):I->I->Option I
 | .str a,.str b=>some (.str (vC fL a b))
 | .int k a,.int cH b=>if k=cH then some (.int k (yL fL a b))else none
 |_,_=>none
def tQ (s:ah):I->Option (I×ah)
 | .h y q=>b9 s (.h y q)
 |d=>some (d,s)
def bp (C:bA) (s:ah):cU->Option (I×ah)
 | .fc x=>some (a6 s x,s)
 | .ko x=>match a6 s x with
   | .h y q=>b9 s (.h y q)
   |d=>some (d,s)
 | .pick c a b=>match a6 s c with
   | .bool eh=>some (if eh then a6 s a else a6 s b,s)
   |_=>none
 | .kL T=>(kL C T).map λd=>(d,s)
 | .g6 _ x=>g6 s (a6 s x)
 | .fw T ps=>fw C s T (ps.map λp=>(p.1,a6 s p.2))
 | .ek T n ps=>ek C s T n (ps.map λp=>(p.1,a6 s p.2))
 | .ew T x=>(ew C s T (a6 s x)).map λd=>(d,s)
 | .iC T x y=>(iC C s T (a6 s x) (a6 s y)).map λs1=>(.hole,s1)
 | .hC x=>(hC s (a6 s x)).map λd=>(d,s)
 | .dE op T x y=>(dE C s op T (a6 s x) (a6 s y)).map λd=>(d,s)
 | .un op x=>(un op (a6 s x)).map λd=>(d,s)
 | .hi A B x=>(hi C s A B (a6 s x)).map λd=>(d,s)
 | .om f cs=>some (.fn f (cs.map (a6 s)),s)
 | .dB T l c=>(dB C T (a6 s l) (a6 s c)).map λd=>(d,s)
 | .eb T x c9 aE=>eb C s T (a6 s x) (c9.map (a6 s)) (aE.map (a6 s))
 | .gO T x k=>(gO C s T (a6 s x) k).map λd=>(d,s)
 | .h_ T x i=>(h_ C s T (a6 s x) (a6 s i)).map λd=>(d,s)
 | .idx T x i=>(idx C T (a6 s x) (a6 s i)).map λd=>(d,s)
 | .ex x k=>(ex s (a6 s x) k).map λd=>(d,s)
 | .km T x k=>(km C s T (a6 s x) k).bind (tQ s)
 | .call _ _=>none
 | .len T x=>(od C s T (a6 s x)).map λd=>(d,s)
 | .app T bC x y=>oh C s T bC (a6 s x) (a6 s y)
 | .shr _=>none
 | .jy _ _ _=>none
 | .h0 _ x=>h0 s (a6 s x)
 | .tP=>some (.cS (.mp []),s)
 | .lV T x i=>(lV C s T (a6 s x) (a6 s i)).map λd=>(d,s)
 | .kO T x i v=>(kO C s T (a6 s x) (a6 s i) (a6 s v)).map λs1=>(.hole,s1)
 | .hJ T bC x y=>(hJ C T bC (a6 s x) (a6 s y)).map λd=>(d,s)
 | .cap T x=>match(C.T T).k,a6 s x with
   | .slice _,.a5=>some (.int .i64 0,s)
   |_,_=>none
 | .nr fL x y=>(nr fL (a6 s x) (a6 s y)).map λd=>(d,s)
 | .bad=>none
section
variable {C:bA} {w0 w:World} {F0 X F:Nat->Prop} {S:Nat->Nat->Prop} {s s1:ah} {a:Act} {av:I}
theorem qm:∀{os:List Operand} {xs:List aX},rP os=some xs->os.map cD=xs.map some
 |[],xs,h=>by simp[rP]at h;subst h;rfl
 |o::os,xs,h=>by
  simp only[rP]at h;split at h
  .rename_i x K4 ab ad;simp at h;subst h;simp[ab,qm ad]
  .cases h
theorem zy {aq:Nat->Value} (h:bg w0 F0 X F S s aq w) (cX:∀t,aq t=a.tmps.getD t undef):∀{ps:List (Nat×Operand)} {xs:List (Nat×aX)},rQ ps=some xs->
  lW w F s aq (xs.map λp=>(p.1,a6 s p.2)) (ps.map λp=>(p.1,a.eval p.2))
 |[],xs,h=>by simp[rQ]at h;subst h;trivial
 |(k,o)::ps,xs,bj=>by
  simp only[rQ]at bj;split at bj
  .rename_i x K4 ab ad;simp at bj;subst bj;obtain⟨aO,a3⟩:=dU h cX ab;exact⟨rfl,aO,a3,zy h cX ad⟩
  .cases bj
def Next (C:bA) (w0:World) (F0 X:Nat->Prop) (aq:Nat->Value) (w:World) (m:Sem Go.Next) (av:I) (s1:ah):Prop:=
 ∃r az v bo aF,m.run C.P w= .ok r az/\(r= .value v\/r= .skip/\v=undef)/\bg w0 F0 X bo aF s1 aq az/\jc w0 X bo aF s1 aq az av v
theorem Good.next {aq:Nat->Value} {m:Sem Value} (h:Good C w0 F0 X aq w m av s1):Next C w0 F0 X aq w (do pure (.value (<-m))) av s1:=by
 obtain⟨v,az,bo,aF,ab,ad,aB⟩:=h;exact⟨.value v,az,v,bo,aF,by simp[ab],.inl rfl,ad,aB⟩
theorem Em {aq:Nat->Value} (h:bg w0 F0 X F S s aq w) {fL:Bool} {x y:I} {fi g5:Value} {m:Sem Go.Next} (ab:aA w F s aq x fi (λ_=>False)) (ad:aA w F s aq y g5 (λ_=>False))
  (he:(nr fL x y).map (λd=>(d,s))=some (av,s1)) (hm:m=(do pure (.value (<-if fL then Builtin.max2 fi g5 else Builtin.min2 fi g5)))):Next C w0 F0 X aq w m av s1:=by
 simp only[Option.map_eq_some_iff,Prod.mk.injEq]at he;obtain⟨d,af,rfl,rfl⟩:=he;unfold nr at af;split at af
 .rename_i a b;simp only[Option.some.injEq]at af;subst af;have aM:=lQ ab;have aS:=lQ ad;subst aM aS;subst hm;refine⟨.value (.string ⟨⟨vC fL a b⟩⟩),w,_,F,S,?_,.inl rfl,h,.inl ⟨rfl,mA _⟩⟩;cases fL
  .simp only[Builtin.min2,Op.stringOp,tw,vC,Bool.false_eq_true,if_false];cases U:(Op.bytesLess a b||a==b)<;>simp[asBool]
  .simp only[Builtin.max2,Op.stringOp,tw,vC,if_true];cases U:Op.bytesLess a b<;>simp[asBool]
 .rename_i k a cH b;split at af
  .rename_i ai;subst ai;simp only[Option.some.injEq]at af;subst af;have aM:=lP ab;have aS:=lP ad;subst aM aS;subst hm;refine⟨.value (.int k (yL fL a b)),w,_,F,S,?_,.inl rfl,h,.inl ⟨rfl,of_int _ _⟩⟩;cases fL<;>simp[Builtin.min2,Builtin.max2,yL]
  .cases af
 .cases af
theorem En (a0:C.dm) {aq:Nat->Value} (h:bg w0 F0 X F S s aq w) (cX:∀t,aq t=a.tmps.getD t undef) {o:Oper} {a9:cU} (aa:cp o.op=some a9) (he:bp C s a9=some (av,s1)):
  Next C w0 F0 X aq w (execOp a.eval o) av s1:=by
 obtain⟨dst,op,ty,pos,after,guard⟩:=o;simp only at aa;cases op with
 |move x=>
  simp only[cp,Option.map_eq_some_iff]at aa;obtain⟨cf,an,rfl⟩:=aa;obtain⟨aO,a3⟩:=dU h cX an;simp only[bp,Option.some.injEq,Prod.mk.injEq]at he;obtain⟨rfl,rfl⟩:=he;exact⟨_,w,_,F,S,rfl,.inl rfl,h,.inl ⟨aO,a3⟩⟩
 |assign x=>
  simp only[cp,Option.map_eq_some_iff]at aa;obtain⟨cf,an,rfl⟩:=aa;obtain⟨aO,a3⟩:=dU h cX an;simp only[bp]at he;split at he
  .rename_i y q a2;rw[a2]at aO a3;obtain⟨S1,k0,bM,b1,Sn,cZ,cF,dL,dj,hk,_⟩:=mw h aO a3 he;exact⟨_,w,_,F,S1,rfl,.inl rfl,k0,.inr ⟨bM,b1,Sn,cZ,cF,dL,dj,hk⟩⟩
  .simp only[Option.some.injEq,Prod.mk.injEq]at he;obtain⟨rfl,rfl⟩:=he;exact⟨_,w,_,F,S,rfl,.inl rfl,h,.inl ⟨aO,a3⟩⟩
 |pick c x y=>
  simp only[cp]at aa;split at aa
  .rename_i wc cf jb aj an a2;simp only[Option.some.injEq]at aa;subst aa;simp only[bp]at he;split at he
   .rename_i b U;simp only[Option.some.injEq,Prod.mk.injEq]at he;obtain⟨rfl,rfl⟩:=he;have ql:=(dU h cX aj).2;rw[U]at ql;have ql:=o_ ql;obtain⟨ak,aG⟩:=dU h cX an;obtain⟨gC,h3⟩:=dU h cX a2;refine⟨.value (if b then a.eval x else a.eval y),w,_,F,S,?_,.inl rfl,h,.inl ?_⟩
    .simp[execOp,ql,asBool]
    .cases b
     .exact⟨gC,h3⟩
     .exact⟨ak,aG⟩
   .cases he
  .cases aa
 |alloc T=>
  simp only[cp,Option.some.injEq]at aa;subst aa;simp only[bp,Option.map_eq_some_iff,Prod.mk.injEq]at he;obtain⟨d,af,rfl,rfl⟩:=he;exact(JX a0 h af).next
 |box T x=>
  simp only[cp,Option.map_eq_some_iff]at aa;obtain⟨cf,an,rfl⟩:=aa;obtain⟨aO,a3⟩:=dU h cX an;exact(J1 h aO a3 he).next
 |build T ps=>
  simp only[cp,Option.map_eq_some_iff]at aa;obtain⟨K5,ao,rfl⟩:=aa;obtain⟨ps⟩:=ps;have:=(KY a0 h (zy h cX ao) he).next;simpa [execOp]using this
 |buildSlice T n ps=>
  simp only[cp,Option.map_eq_some_iff]at aa;obtain⟨K5,ao,rfl⟩:=aa;obtain⟨ps⟩:=ps;have:=(K1 a0 h (zy h cX ao) he).next;simpa [execOp]using this
 |load T x=>
  simp only[cp,Option.map_eq_some_iff]at aa;obtain⟨cf,an,rfl⟩:=aa;obtain⟨aO,a3⟩:=dU h cX an;simp only[bp,Option.map_eq_some_iff,Prod.mk.injEq]at he;obtain⟨d,af,rfl,rfl⟩:=he;exact(JS a0 h a3 af).next
 |store T x y=>
  simp only[cp]at aa;split at aa
  .rename_i cf jb an a2;simp only[Option.some.injEq]at aa;subst aa;simp only[bp,Option.map_eq_some_iff,Prod.mk.injEq]at he;obtain⟨s2,af,rfl,rfl⟩:=he;obtain⟨az,aF,ab,ad⟩:=JV a0 h (dU h cX an).2 (dU h cX a2).1 (dU h cX a2).2 af;exact⟨.skip,az,undef,F,aF,by simp[execOp,ab],.inr ⟨rfl,rfl⟩,ad,.inl ⟨rfl,by rw[aA];trivial⟩⟩
  .cases aa
 |nilCheck x=>
  simp only[cp,Option.map_eq_some_iff]at aa;obtain⟨cf,an,rfl⟩:=aa;obtain⟨aO,a3⟩:=dU h cX an;simp only[bp,Option.map_eq_some_iff,Prod.mk.injEq]at he;obtain⟨d,af,rfl,rfl⟩:=he;obtain⟨rfl,ao,aD⟩:=Ke h a3 af;refine⟨.value (a.eval x),w,_,F,S,?_,.inl rfl,h,.inl ⟨ao,a3⟩⟩;rcases aD with⟨b,U⟩|⟨f,c,U⟩<;>simp[execOp,U]
 |binOp op T x y Wc=>
  simp only[cp]at aa;split at aa
  .rename_i cf jb an a2;simp only[Option.some.injEq]at aa;subst aa;simp only[bp,Option.map_eq_some_iff,Prod.mk.injEq]at he;obtain⟨d,af,rfl,rfl⟩:=he;exact(Kb a0 h x y (dU h cX an).2 (dU h cX a2).2 af).next
  .cases aa
 |unOp op T x=>
  simp only[cp,Option.map_eq_some_iff]at aa;obtain⟨cf,an,rfl⟩:=aa;simp only[bp,Option.map_eq_some_iff,Prod.mk.injEq]at he;obtain⟨d,af,rfl,rfl⟩:=he;exact(Kc h (dU h cX an).2 af).next
 |convert A B x=>
  simp only[cp,Option.map_eq_some_iff]at aa;obtain⟨cf,an,rfl⟩:=aa;simp only[bp,Option.map_eq_some_iff,Prod.mk.injEq]at he;obtain⟨d,af,rfl,rfl⟩:=he;exact(Kn a0 h (dU h cX an).2 af).next
 |makeFunc fn first cs=>
  cases fn with
  |func f=>
   simp only[cp]at aa;split at aa
   .rename_i K6;simp only[Option.map_eq_some_iff]at aa;obtain⟨pg,hB,rfl⟩:=aa;simp only[bp,Option.some.injEq,Prod.mk.injEq]at he;obtain⟨rfl,rfl⟩:=he;have K7:first= #[]:=by simpa using K6
    subst K7;refine⟨_,w,_,F,S,rfl,.inl rfl,h,.inl ⟨rfl,?_⟩⟩;rw[aA];refine⟨cs.map a.eval,by simp,?_⟩;simpa using v_ h cX _ _ (qm hB)
   .cases aa
  |_=>simp[cp]at aa
 |makeSlice T l c=>
  simp only[cp]at aa;split at aa
  .rename_i cf jb an a2;simp only[Option.some.injEq]at aa;subst aa;simp only[bp,Option.map_eq_some_iff,Prod.mk.injEq]at he;obtain⟨d,af,rfl,rfl⟩:=he;exact(KO a0 h (dU h cX an).2 (dU h cX a2).2 af).next
  .cases aa
 |slice T x c9 aE fL=>
  cases fL with
  |some m=>simp[cp]at aa
  |none=>
   simp only[cp]at aa;split at aa
   .rename_i cf qn oo an jV kN;simp only[Option.some.injEq]at aa;subst aa;obtain⟨aO,a3⟩:=dU h cX an;have opt:∀{o:Option Operand} {lf:Option aX},ns o=some lf->oe w F s aq (lf.map (a6 s)) (o.map a.eval):=by
     intro o lf bG;cases o with
     |none=>simp[ns]at bG;subst bG;trivial
     |some o=>
      simp only[ns,Option.map_eq_some_iff]at bG;obtain⟨x,an,rfl⟩:=bG;exact(dU h cX an).2
    exact(Kq a0 h aO a3 (opt jV) (opt kN) he).next
   .cases aa
 |fieldAddr T x k=>
  simp only[cp,Option.map_eq_some_iff]at aa;obtain⟨cf,an,rfl⟩:=aa;obtain⟨aO,a3⟩:=dU h cX an;simp only[bp,Option.map_eq_some_iff,Prod.mk.injEq]at he;obtain⟨d,af,rfl,rfl⟩:=he;exact(JM a0 h aO a3 af).next
 |indexAddr T x i=>
  simp only[cp]at aa;split at aa
  .rename_i cf jb an a2;simp only[Option.some.injEq]at aa;subst aa;simp only[bp,Option.map_eq_some_iff,Prod.mk.injEq]at he;obtain⟨d,af,rfl,rfl⟩:=he;exact(JN a0 h (dU h cX an).2 (dU h cX a2).2 af).next
  .cases aa
 |index T x i=>
  simp only[cp]at aa;split at aa
  .rename_i cf jb an a2;simp only[Option.some.injEq]at aa;subst aa;simp only[bp,Option.map_eq_some_iff,Prod.mk.injEq]at he;obtain⟨d,af,rfl,rfl⟩:=he;exact(Kk a0 h (dU h cX an).2 (dU h cX a2).2 af).next
  .cases aa
 |makeMap t r=>
  cases r with
  |none=>
   simp only[cp,Option.some.injEq]at aa;subst aa;simp only[bp,Option.some.injEq,Prod.mk.injEq]at he;obtain⟨rfl,rfl⟩:=he;exact(KN h t).next
  |some r=>simp[cp]at aa
 |lookup T x i c=>
  cases c with
  |true=>simp[cp]at aa
  |false=>
   simp only[cp]at aa;split at aa
   .rename_i cf nd an aE;simp only[Option.some.injEq]at aa;subst aa;simp only[bp,Option.map_eq_some_iff,Prod.mk.injEq]at he;obtain⟨d,af,rfl,rfl⟩:=he;exact(KK a0 h (dU h cX an).2 (dU h cX aE).2 af).next
   .cases aa
 |mapUpdate T x i v=>
  simp only[cp]at aa;split at aa
  .rename_i cf nd eI an aE aD;simp only[Option.some.injEq]at aa;subst aa;simp only[bp,Option.map_eq_some_iff,Prod.mk.injEq]at he;obtain⟨s2,af,rfl,rfl⟩:=he;obtain⟨az,aF,ab,ad⟩:=KL a0 h (dU h cX an).2 (dU h cX aE).2 (dU h cX aD).2 af;exact⟨.skip,az,undef,F,aF,by simp[execOp,ab],.inr ⟨rfl,rfl⟩,ad,.inl ⟨rfl,by rw[aA];trivial⟩⟩
  .cases aa
 |extract x k=>
  simp only[cp,Option.map_eq_some_iff]at aa;obtain⟨cf,an,rfl⟩:=aa;simp only[bp,Option.map_eq_some_iff,Prod.mk.injEq]at he;obtain⟨d,af,rfl,rfl⟩:=he;exact(Kh h (dU h cX an).2 af).next
 |field T x k=>
  simp only[cp,Option.map_eq_some_iff]at aa;obtain⟨cf,an,rfl⟩:=aa;simp only[bp,Option.bind_eq_some_iff]at he;obtain⟨d,af,he⟩:=he;obtain⟨v,az,bo,aF,aI,dT,mu⟩:=Ki a0 h (dU h cX an).2 af;unfold tQ at he;split at he
  .rename_i y q;have K8:aA az bo s aq (.h y q) v (λ_=>False):=by
    rcases mu with⟨_,a3⟩|⟨aO,_⟩
    .exact a3
    .cases aO
   obtain⟨S1,k0,bM,b1,Sn,cZ,cF,dL,dj,hk,_⟩:=mw dT rfl K8 he;exact⟨.value v,az,v,bo,S1,by simp[execOp,aI],.inl rfl,k0,.inr ⟨bM,b1,Sn,cZ,cF,dL,dj,hk⟩⟩
  .simp only[Option.some.injEq,Prod.mk.injEq]at he;obtain⟨rfl,rfl⟩:=he;exact⟨.value v,az,v,bo,aF,by simp[execOp,aI],.inl rfl,dT,mu⟩
 |call c=>
  obtain⟨callee,args,argTypes⟩:=c;simp only[cp]at aa;split at aa
  .split at aa
   .simp only[Option.some.injEq]at aa;subst aa;simp[bp]at he
   .cases aa
  .split at aa
   .rename_i x T kQ qo;simp only[Option.map_eq_some_iff]at aa;obtain⟨cf,an,rfl⟩:=aa;simp only[bp,Option.map_eq_some_iff,Prod.mk.injEq]at he;obtain⟨d,af,rfl,rfl⟩:=he;have:=(Kl (ty:=ty) a0 h (dU h cX an).2 af).next;have aM:args= #[x]:=by apply Array.ext';exact kQ
    have aS:argTypes= #[T]:=by apply Array.ext';exact qo
    subst aM aS;simpa [execOp,resolve,invoke,builtin]using this
   .cases aa
  .split at aa
   .rename_i x T kQ qo;simp only[Option.map_eq_some_iff]at aa;obtain⟨cf,an,rfl⟩:=aa;simp only[bp]at he;split at he
    .rename_i e ai K9;simp only[Option.some.injEq,Prod.mk.injEq]at he;obtain⟨rfl,rfl⟩:=he;have aD:=(dU h cX an).2;rw[K9]at aD;have:=ob aD;obtain⟨i,d,z,aM,aS,aV,bK,cn,bB,bt⟩:=a0.info (ev ai (by simp));rw[ai]at bt;have af:=je bt;subst af;have K_:args= #[x]:=by apply Array.ext';exact kQ
     have La:argTypes= #[T]:=by apply Array.ext';exact qo
     subst K_ La;have aI:(Builtin.cap_ #[T] ty #[a.eval x]).run C.P w= .ok (.int .i64 0) w:=by
      rw[this];simp[Builtin.cap_,run_underlying bB,goInt]
     have:=(Good.same (av:=.int .i64 0) h aI rfl (of_int _ _)).next;simpa [execOp,resolve,invoke,builtin]using this
    .cases he
   .cases aa
  .split at aa
   .rename_i x y kQ;split at aa
    .rename_i cf jb an a2;simp only[Option.some.injEq]at aa;subst aa;have aM:args= #[x,y]:=by apply Array.ext';exact kQ
     subst aM;exact Em h (dU h cX an).2 (dU h cX a2).2 he (by simp[execOp,resolve,invoke,builtin,Builtin.min_])
    .cases aa
   .cases aa
  .split at aa
   .rename_i x y kQ;split at aa
    .rename_i cf jb an a2;simp only[Option.some.injEq]at aa;subst aa;have aM:args= #[x,y]:=by apply Array.ext';exact kQ
     subst aM;exact Em h (dU h cX an).2 (dU h cX a2).2 he (by simp[execOp,resolve,invoke,builtin,Builtin.max_])
    .cases aa
   .cases aa
  .split at aa
   .rename_i x y T bC kQ qo;split at aa
    .rename_i cf jb an a2;simp only[Option.some.injEq]at aa;subst aa;have:=(KA (ty:=ty) a0 h (dU h cX an).2 (dU h cX a2).2 he).next;have aM:args= #[x,y]:=by apply Array.ext';exact kQ
     have aS:argTypes= #[T,bC]:=by apply Array.ext';exact qo
     subst aM aS;simpa [execOp,resolve,invoke,builtin]using this
    .cases aa
   .cases aa
  .cases aa
 |_=>simp[cp]at aa
end
mutual
def I.aa:I->Xt
 | .h x _=>[x]
 | .ao x _=>[x]
 | .U x _=>[x]
 | .fn _ cap=>I.cV cap
 |_=>[]
def I.cV:Xy->Xt
 |[]=>[]
 |d::ds=>d.aa++I.cV ds
end
inductive nt where
 |no
 |bH
 |b8
structure fe where
 k:nt
 x:Nat
 d:I
def nt.app (k:nt) (x:Nat) (a:I):I:=match k with
 | .no=>a
 | .bH=>cM.bH x a
 | .b8=>cM.b8 x a
def fe.at (m:fe) (u:Nat) (a:I):I:=if u=m.x then m.d else m.k.app m.x a
def ic:List fe->Nat->I->I
 |[],_,a=>a
 |m::ms,u,a=>ic ms u (m.at u a)
def cI (ms:List fe) (s:ah):ah:=λu=>ic ms u (s u)
theorem Eo:∀(ms jk:List fe) (u:Nat) (a:I),ic (ms++jk) u a=ic jk u (ic ms u a)
 |[],_,_,_=>rfl
 |m::ms,jk,u,a=>by simp only[cons_append,ic];exact Eo ms jk u _
theorem kp (ms jk:List fe) (s:ah):cI (ms++jk) s=cI jk (cI ms s):=by
 funext u;simp[cI,Eo]
theorem Lb {ms:List fe} {s ax:ah} {u:Nat} (h:ax u=s u):cI ms ax u=cI ms s u:=by simp[cI,h]
theorem qp (s:ah) (x:Nat) (d:I):cl (ft x s) x d=cI [⟨.bH,x,d⟩] s:=by
 funext u;simp only[cI,ic,fe.at,cl,ft,nt.app]
theorem Ep (s:ah) (x:Nat) (d:I):cl (jR x s) x d=cI [⟨.b8,x,d⟩] s:=by
 funext u;simp only[cI,ic,fe.at,cl,jR,nt.app]
theorem Er (s:ah) (x:Nat) (d:I):cl s x d=cI [⟨.no,x,d⟩] s:=by
 funext u;simp only[cI,ic,fe.at,cl,nt.app]
mutual
theorem tR {x:Nat}:∀a:I,x∉a.aa->bH x a=a
 | .h y q,h=>by
   simp only[I.aa,mem_singleton]at h;simp only[bH];rw[if_neg (λe=>h e.symm)]
 | .ao y q,h=>by
   simp only[I.aa,mem_singleton]at h;simp only[bH];rw[if_neg (λe=>h e.symm)]
 | .U y q,h=>rfl
 | .fn f cap,h=>by simp only[bH];rw[Es cap (by simpa [I.aa]using h)]
 | .hole,_=>rfl
 | .bool _,_=>rfl
 | .dR,_=>rfl
 | .int _ _,_=>rfl
 | .str _,_=>rfl
 | .cJ,_=>rfl
 | .a5,_=>rfl
 | .slice _,_=>rfl
 | .aw _ _,_=>rfl
 | .ref _,_=>rfl
 | .bh _,_=>rfl
 | .agg _,_=>rfl
 | .tuple _,_=>rfl
 | .cS _,_=>rfl
 | .er _ _,_=>rfl
theorem Es {x:Nat}:∀ds:Xy,x∉I.cV ds->g4 x ds=ds
 |[],_=>rfl
 |d::ds,h=>by
  simp only[I.cV,mem_append,not_or]at h;simp only[g4];rw[tR d h.1,Es ds h.2]
end
mutual
theorem zz {x:Nat}:∀a:I,x∉a.aa->b8 x a=a
 | .h y q,h=>by
   simp only[I.aa,mem_singleton]at h;simp only[b8];rw[if_neg (λe=>h e.symm)]
 | .ao y q,h=>by
   simp only[I.aa,mem_singleton]at h;simp only[b8];rw[if_neg (λe=>h e.symm)]
 | .U y q,h=>by
   simp only[I.aa,mem_singleton]at h;simp only[b8];rw[if_neg (λe=>h e.symm)]
 | .fn f cap,h=>by simp only[b8];rw[Et cap (by simpa [I.aa]using h)]
 | .hole,_=>rfl
 | .bool _,_=>rfl
 | .dR,_=>rfl
 | .int _ _,_=>rfl
 | .str _,_=>rfl
 | .cJ,_=>rfl
 | .a5,_=>rfl
 | .slice _,_=>rfl
 | .aw _ _,_=>rfl
 | .ref _,_=>rfl
 | .bh _,_=>rfl
 | .agg _,_=>rfl
 | .tuple _,_=>rfl
 | .cS _,_=>rfl
 | .er _ _,_=>rfl
theorem Et {x:Nat}:∀ds:Xy,x∉I.cV ds->hA x ds=ds
 |[],_=>rfl
 |d::ds,h=>by
  simp only[I.cV,mem_append,not_or]at h;simp only[hA];rw[zz d h.1,Et ds h.2]
end
theorem tS {k:nt} {x:Nat} {a:I} (h:k= .no\/x∉a.aa):k.app x a=a:=by
 cases k with
 |no=>rfl
 |bH=>exact tR a (by simpa using h)
 |b8=>exact zz a (by simpa using h)
mutual
theorem Eu (x y:Nat):∀a:I,bH x (bH y a)=bH y (bH x a)
 | .h z q=>by simp only[bH];by_cases ab:z=x<;>by_cases ad:z=y<;>by_cases aB:q=[]<;>simp[ab,ad,aB,bH]<;>(subst_vars;simp_all [bH])
 | .ao z q=>by simp only[bH];by_cases ab:z=x<;>by_cases ad:z=y<;>simp[ab,ad,bH]<;>(subst_vars;simp_all [bH])
 | .U z q=>rfl
 | .fn f cap=>by simp only[bH];rw[Ev x y cap]
 | .hole=>rfl
 | .bool _=>rfl
 | .dR=>rfl
 | .int _ _=>rfl
 | .str _=>rfl
 | .cJ=>rfl
 | .a5=>rfl
 | .slice _=>rfl
 | .aw _ _=>rfl
 | .ref _=>rfl
 | .bh _=>rfl
 | .agg _=>rfl
 | .tuple _=>rfl
 | .cS _=>rfl
 | .er _ _=>rfl
theorem Ev (x y:Nat):∀ds:Xy,g4 x (g4 y ds)=g4 y (g4 x ds)
 |[]=>rfl
 |d::ds=>by simp only[g4];rw[Eu x y d,Ev x y ds]
end
mutual
theorem Ew (x y:Nat):∀a:I,b8 x (b8 y a)=b8 y (b8 x a)
 | .h z q=>by simp only[b8];by_cases ab:z=x<;>by_cases ad:z=y<;>simp[ab,ad,b8]<;>(subst_vars;simp_all [b8])
 | .ao z q=>by simp only[b8];by_cases ab:z=x<;>by_cases ad:z=y<;>simp[ab,ad,b8]<;>(subst_vars;simp_all [b8])
 | .U z q=>by simp only[b8];by_cases ab:z=x<;>by_cases ad:z=y<;>simp[ab,ad,b8]<;>(subst_vars;simp_all [b8])
 | .fn f cap=>by simp only[b8];rw[Ex x y cap]
 | .hole=>rfl
 | .bool _=>rfl
 | .dR=>rfl
 | .int _ _=>rfl
 | .str _=>rfl
 | .cJ=>rfl
 | .a5=>rfl
 | .slice _=>rfl
 | .aw _ _=>rfl
 | .ref _=>rfl
 | .bh _=>rfl
 | .agg _=>rfl
 | .tuple _=>rfl
 | .cS _=>rfl
 | .er _ _=>rfl
theorem Ex (x y:Nat):∀ds:Xy,hA x (hA y ds)=hA y (hA x ds)
 |[]=>rfl
 |d::ds=>by simp only[hA];rw[Ew x y d,Ex x y ds]
end
mutual
theorem zA (x y:Nat):∀a:I,bH x (b8 y a)=b8 y (bH x a)
 | .h z q=>by simp only[b8,bH];by_cases ab:z=x<;>by_cases ad:z=y<;>by_cases aB:q=[]<;>simp[ab,ad,aB,b8,bH]<;>(subst_vars;simp_all [b8,bH])
 | .ao z q=>by simp only[b8,bH];by_cases ab:z=x<;>by_cases ad:z=y<;>simp[ab,ad,b8,bH]<;>(subst_vars;simp_all [b8,bH])
 | .U z q=>by simp only[b8,bH];by_cases ad:z=y<;>simp[ad,bH]
 | .fn f cap=>by simp only[b8,bH];rw[Ey x y cap]
 | .hole=>rfl
 | .bool _=>rfl
 | .dR=>rfl
 | .int _ _=>rfl
 | .str _=>rfl
 | .cJ=>rfl
 | .a5=>rfl
 | .slice _=>rfl
 | .aw _ _=>rfl
 | .ref _=>rfl
 | .bh _=>rfl
 | .agg _=>rfl
 | .tuple _=>rfl
 | .cS _=>rfl
 | .er _ _=>rfl
theorem Ey (x y:Nat):∀ds:Xy,g4 x (hA y ds)=hA y (g4 x ds)
 |[]=>rfl
 |d::ds=>by simp only[hA,g4];rw[zA x y d,Ey x y ds]
end
theorem Lc (k l:nt) (x y:Nat) (a:I):k.app x (l.app y a)=l.app y (k.app x a):=by
 cases k<;>cases l<;>simp only[nt.app]<;>first|rfl|exact Eu .. |exact Ew .. |exact zA .. |exact(zA ..).symm
def aX.use (s:ah):aX->Xt
 | .t n=>n::(s n).aa
 | .c av=>av.aa
 | .f _=>[]
def aX.mG (s:ah):List aX->Xt
 |[]=>[]
 |x::xs=>x.use s++aX.mG s xs
def zB (s:ah):Option aX->Xt
 |none=>[]
 |some x=>x.use s
def use (s:ah):cU->Xt
 | .fc x=>x.use s
 | .ko x=>x.use s
 | .pick c a b=>c.use s++(a.use s++b.use s)
 | .kL _=>[]
 | .g6 _ x=>x.use s
 | .fw _ ps=>aX.mG s (ps.map (·.2))
 | .ek _ _ ps=>aX.mG s (ps.map (·.2))
 | .ew _ x=>x.use s
 | .iC _ x y=>x.use s++y.use s
 | .hC x=>x.use s
 | .dE _ _ x y=>x.use s++y.use s
 | .un _ x=>x.use s
 | .hi _ _ x=>x.use s
 | .om _ cs=>aX.mG s cs
 | .dB _ l c=>l.use s++c.use s
 | .eb _ x c9 aE=>x.use s++(zB s c9++zB s aE)
 | .gO _ x _=>x.use s
 | .h_ _ x i=>x.use s++i.use s
 | .idx _ x i=>x.use s++i.use s
 | .ex x _=>x.use s
 | .km _ x _=>x.use s
 | .call f args=>f.use s++aX.mG s args
 | .len _ x=>x.use s
 | .app _ _ x y=>x.use s++y.use s
 | .shr a9=>use s a9
 | .jy f args us=>us.flatMap (λu=>u::(s u).aa)++(f.use s++aX.mG s args)
 | .h0 _ x=>x.use s
 | .tP=>[]
 | .lV _ x i=>x.use s++i.use s
 | .kO _ x i v=>x.use s++(i.use s++v.use s)
 | .hJ _ _ x y=>x.use s++y.use s
 | .cap _ x=>x.use s
 | .nr _ x y=>x.use s++y.use s
 | .bad=>[]
def kq (s:ah):cU->Xt
 | .ko x=>(a6 s x).aa
 | .g6 _ x=>(a6 s x).aa
 | .fw _ ps=>I.cV (ps.map λp=>a6 s p.2)
 | .ek _ _ ps=>I.cV (ps.map λp=>a6 s p.2)
 | .iC _ x y=>(a6 s x).aa++(a6 s y).aa
 | .km _ x _=>(a6 s x).aa
 | .kO _ x _ _=>(a6 s x).aa
 | .eb _ x _ _=>(a6 s x).aa
 | .app _ _ x y=>(a6 s x).aa++(a6 s y).aa
 | .shr a9=>kq s a9
 |_=>[]
def cG (bC:Xt) (ax s:ah):Prop:=∀u∈bC,ax u=s u
theorem cG.left {bC V:Xt} {ax s:ah} (h:cG (bC++V) ax s):cG bC ax s:=λu hu=>h u (mem_append_left _ hu)
theorem cG.right {bC V:Xt} {ax s:ah} (h:cG (bC++V) ax s):cG V ax s:=λu hu=>h u (mem_append_right _ hu)
theorem cG.cI {bC:Xt} {ax s:ah} (h:cG bC ax s) (ms:List fe):cG bC (cI ms ax) (cI ms s):=λu hu=>Lb (h u hu)
theorem cG.sub {bC V:Xt} {ax s:ah} (h:cG bC ax s) (aa:∀u∈V,u∈bC):cG V ax s:=λu hu=>h u (aa u hu)
theorem aX.qq {s:ah} {x:aX}:∀u∈(a6 s x).aa,u∈x.use s:=by
 intro u hu;cases x with
 |t n=>
  simp only[a6,nb]at hu;split at hu
  .simp[aX.use,hu]
  .simp only[I.aa,mem_singleton]at hu;simp[aX.use,hu]
 |c av=>exact hu
 |f g=>simp[a6,I.aa,I.cV]at hu
theorem aX.ep {s ax:ah} {x:aX} (h:cG (x.use s) ax s):a6 ax x=a6 s x:=by
 cases x with
 |t n=>simp only[a6];rw[h n (by simp[aX.use])]
 |c av=>rfl
 |f g=>rfl
theorem cG.a6 {s ax:ah} {x:aX} (h:cG (x.use s) ax s):cG (a6 s x).aa ax s:=h.sub aX.qq
theorem Ez {s ax:ah} {x:Option aX} (h:cG (zB s x) ax s):x.map (a6 ax)=x.map (a6 s):=by
 cases x with
 |none=>rfl
 |some x=>simp only[Option.map_some];rw[aX.ep h]
theorem aX.zC {s ax:ah}:∀{xs:List aX},cG (aX.mG s xs) ax s->xs.map (a6 ax)=xs.map (a6 s)
 |[],_=>rfl
 |x::xs,h=>by
  simp only[map_cons];rw[aX.ep (h.left),aX.zC (h.right)]
theorem aX.zD {s ax:ah}:∀{ps:List (Nat×aX)},cG (aX.mG s (ps.map (·.2))) ax s->(ps.map λp=>(p.1,a6 ax p.2))=ps.map λp=>(p.1,a6 s p.2)
 |[],_=>rfl
 |x::xs,h=>by
  simp only[map_cons]at h⊢;rw[aX.ep (h.left),aX.zD (h.right)]
theorem aX.we {s:ah}:∀{xs:List aX},∀u∈I.cV (xs.map (a6 s)),u∈aX.mG s xs
 |[],u,h=>by simp[I.cV]at h
 |x::xs,u,h=>by
  simp only[map_cons,I.cV,mem_append]at h;simp only[aX.mG,mem_append];exact h.imp (aX.qq u) (aX.we u)
section
variable {C:bA} {s ax:ah} {x y i:I} {T A B:TypeId}
theorem zE (h:cG x.aa ax s):loc ax x=loc s x:=by
 cases x<;>first
  |rfl
  |(simp only[loc];rw[h _ (by simp[I.aa])])
theorem zF {z:Nat} {q:Xt} (h:loc s x=some (z,q)):z∈x.aa:=by
 cases x with
 |h y p=>
  simp only[loc]at h;split at h
  .simp only[Option.some.injEq,Prod.mk.injEq]at h;simp[I.aa,h.1]
  .cases h
 |ao y p=>
  simp only[loc]at h;split at h
  .simp only[Option.some.injEq,Prod.mk.injEq]at h;simp[I.aa,h.1]
  .cases h
 |_=>simp[loc]at h
theorem Ld (h:cG x.aa ax s):ew C ax T x=ew C s T x:=by
 have hl:=zE h;unfold ew;split
 .rfl
 .rw[h _ (by simp[I.aa])]
 .rw[hl];split
  .rename_i e;rw[h _ (zF e)]
  .rfl
theorem Le {k:Nat} (h:cG x.aa ax s):gO C ax T x k=gO C s T x k:=by
 have hl:=zE h;unfold gO;split
 .split
  .split
   .split
    .rfl
    .rw[h _ (by simp[I.aa])]
    .rw[hl];split
     .rename_i e;rw[h _ (zF e)]
     .rfl
   .rfl
  .rfl
 .rfl
theorem Lf (h:cG x.aa ax s):h_ C ax T x i=h_ C s T x i:=by
 cases x<;>first
  |rfl
  |(simp only[h_];rw[h _ (by simp[I.aa])])
theorem Lg (h:cG x.aa ax s):od C ax T x=od C s T x:=by
 unfold od;cases(C.T T).k<;>cases x<;>first
  |rfl
  |(simp only;rw[h _ (by simp[I.aa])])
theorem Lh (h:cG x.aa ax s):hi C ax A B x=hi C s A B x:=by
 unfold hi;cases(C.T B).k<;>cases x<;>first
  |rfl
  |(simp only;rw[h _ (by simp[I.aa])])
theorem Li (h:cG x.aa ax s):h1 ax x=h1 s x:=by
 cases x<;>first
  |rfl
  |(simp only[h1];rw[h _ (by simp[I.aa])])
theorem Lj (h:cG x.aa ax s):jv ax x=jv s x:=by
 cases x<;>first
  |rfl
  |(simp only[jv];rw[h _ (by simp[I.aa])])
theorem Lk {op:BinOp} (h:cG x.aa ax s):dE C ax op T x y=dE C s op T x y:=by
 have ab:=Li h;have ad:=Lj h;unfold dE;split<;>first|rfl|simp only[ab,ad]
theorem Ll (h:cG x.aa ax s):hC ax x=hC s x:=by
 cases x<;>first
  |rfl
  |(simp only[hC];rw[h _ (by simp[I.aa])])
theorem Lm {k y:Nat} {q:Xt} (h:km C s T x k=some (.h y q)):x.aa=[y]:=by
 unfold km at h;split at h<;>try (cases h;done)
 split at h<;>try (cases h;done)
 split at h
 .split at h<;>try (cases h;done)
  split at h
  .rename_i aj;simp only[Option.some.injEq]at h;rw[h]at aj;exact absurd aj.2.2.2 (by simp[I.tree])
  .cases h
 .split at h<;>try (cases h;done)
  split at h<;>try (cases h;done)
  split at h<;>try (cases h;done)
  rename_i d af aj;by_cases ao:d.plain=true
  .simp only[ao,if_true,Option.some.injEq]at h;rw[h]at aj;exact absurd aj.2.2.2 (by simp[I.tree])
  .simp only[ao,Option.some.injEq]at h;injection h with ab ad;subst ab;rfl
 .cases h
theorem EA {k:Nat} (h:cG x.aa ax s):km C ax T x k=km C s T x k:=by
 unfold km;split<;>try rfl
 split<;>try rfl
 cases x<;>first
  |rfl
  |(simp only[];rw[h _ (by simp[I.aa])])
theorem Ln {k:Nat} (h:cG x.aa ax s):ex ax x k=ex s x k:=by
 cases x<;>first
  |rfl
  |(simp only[ex];rw[h _ (by simp[I.aa])])
theorem rR:∀(q:Xt) (a d e:I),I.sub q a=some d->(d.plain=false\/q≠[])->(q=[]->e.aa=[])->(I.put q e a).aa=[]:=by
 intro q a d e h ao he;cases q with
 |nil=>rw[I.put];exact he rfl
 |cons k q=>
  cases a<;>first
   |(simp[I.sub]at h;done)
   |skip
  all_goals
   unfold I.put
   repeat' split
   all_goals first|rfl|(simp_all;done)
end
def Loc {α:Type} (bC rS:Xt) (f:ah->Option (α×ah)) (s:ah) (av:α) (s1:ah):Prop:=
 ∃ms,s1=cI ms s/\(∀m∈ms,m.x∈rS/\m.d.aa=[])/\∀ax,cG bC ax s->f ax=some (av,cI ms ax)
theorem Loc.pure {α:Type} {bC rS:Xt} {f:ah->Option (α×ah)} {s:ah} {av:α} (h:∀ax,cG bC ax s->f ax=some (av,ax)):Loc bC rS f s av s:=
 ⟨[],rfl,by simp,λax aa=>h ax aa⟩
theorem Loc.mono {α:Type} {bC rS wg EB:Xt} {f:ah->Option (α×ah)} {s s1:ah} {av:α} (h:Loc bC rS f s av s1) (nq:∀u∈bC,u∈wg) (gx:∀u∈rS,u∈EB):Loc wg EB f s av s1:=by
 obtain⟨ms,ab,ad,aB⟩:=h;exact⟨ms,ab,λm hm=>⟨gx _ (ad m hm).1,(ad m hm).2⟩,λax aa=>aB ax (aa.sub nq)⟩
section
variable {C:bA} {s s1:ah} {x y d:I} {T A B:TypeId}
theorem ph (h:b9 s x=some (d,s1)):Loc x.aa x.aa (λs=>b9 s x) s d s1:=by
 cases x with
 |h y q=>
  simp only[b9]at h;split at h
  .rename_i e he;split at h
   .cases h
   .rename_i ao;simp only[Option.some.injEq,Prod.mk.injEq]at h;obtain⟨rfl,rfl⟩:=h;have ao:e.plain=false:=by simpa using ao
    refine⟨[⟨.bH,y,I.put q e.cj (s y)⟩],qp _ _ _,?_,?_⟩
    .intro m hm;simp only[mem_singleton]at hm;subst hm;refine⟨by simp[I.aa],rR q _ _ _ he (.inl ao) λcx=>?_⟩;subst cx;cases e<;>first|(simp[I.plain]at ao;done)|rfl
    .intro ax aa;have aM:ax y=s y:=aa y (by simp[I.aa]);simp only[b9,aM,he,ao];rw[<-qp];rfl
  .cases h
 |ao y q=>simp[b9]at h
 |U y q=>simp[b9]at h
 |fn f c=>simp[b9]at h
 |hole=>simp[b9]at h
 |_=>
  simp only[b9,Option.some.injEq,Prod.mk.injEq]at h;obtain⟨rfl,rfl⟩:=h;exact .pure λax _=>rfl
mutual
theorem EC (x:Nat):∀a:I,∀u∈(bH x a).aa,u∈a.aa
 | .h y q,u,h=>by
   simp only[bH]at h;split at h
   .split at h
    .exact h
    .simp[I.aa]at h
   .exact h
 | .ao y q,u,h=>by
   simp only[bH]at h;split at h
   .simp[I.aa]at h
   .exact h
 | .U y q,u,h=>h
 | .fn f cap,u,h=>by simp only[bH,I.aa]at h⊢;exact ED x cap u h
 | .hole,u,h=>h
 | .bool _,u,h=>h
 | .dR,u,h=>h
 | .int _ _,u,h=>h
 | .str _,u,h=>h
 | .cJ,u,h=>h
 | .a5,u,h=>h
 | .slice _,u,h=>h
 | .aw _ _,u,h=>h
 | .ref _,u,h=>h
 | .bh _,u,h=>h
 | .agg _,u,h=>h
 | .tuple _,u,h=>h
theorem ED (x:Nat):∀ds:Xy,∀u∈I.cV (g4 x ds),u∈I.cV ds
 |[],u,h=>h
 |d::ds,u,h=>by
  simp only[g4,I.cV,mem_append]at h⊢;exact h.imp (EC x d u) (ED x ds u)
end
theorem zG (o:Option Nat) (a:I):∀u∈(iP o a).aa,u∈a.aa:=by
 intro u h;cases o with
 |none=>exact h
 |some x=>exact EC x a u h
theorem EE:∀(os:List (Option Nat)) (a:I),∀u∈(ji os a).aa,u∈a.aa:=by
 intro os;induction os with
 |nil=>intro a u h;exact h
 |cons o os ih=>intro a u h;exact zG o a u (ih (iP o a) u h)
theorem EF {place:Nat->Option (Nat×Nat)}:∀{ps:Xx} {s s1:ah} {dG ds:Xy} {os:List (Option Nat)},jj place s dG os ps=some (ds,s1)->
  Loc (I.cV (ps.map (·.2))) (I.cV (ps.map (·.2))) (λs=>jj place s dG os ps) s ds s1:=by
 intro ps;induction ps with
 |nil=>
  intro s s1 dG ds os h;simp only[jj,Option.some.injEq,Prod.mk.injEq]at h;obtain⟨rfl,rfl⟩:=h;exact .pure λax _=>rfl
 |cons p ps ih=>
  intro s s1 dG ds os h;obtain⟨k,a⟩:=p;simp only[jj]at h;split at h
  .rename_i d s2 off n z aN fO bz;split at h
   .cases h
   .rename_i a7 kR;split at h
    .rename_i aj;obtain⟨mH,rfl,ad,aB⟩:=ph aN;obtain⟨pf,rfl,bn,cb⟩:=ih h;refine⟨mH++pf,(kp _ _ _).symm,?_,?_⟩
     .intro m hm;simp only[map_cons,I.cV,mem_append]at hm⊢;rcases hm with hm|hm
      .exact⟨.inl (EE _ _ _ (ad m hm).1),(ad m hm).2⟩
      .exact⟨.inr (bn m hm).1,(bn m hm).2⟩
     .intro ax aa;simp only[map_cons,I.cV]at aa;have aM:=aB ax (aa.left.sub (EE _ _));have aS:=cb (cI mH ax) (aa.right.cI mH);simp only at aM aS;simp only[jj,aM,fO,bz,kp];rw[if_pos aj];exact aS
    .cases h
  .cases h
theorem Lo {ps:Xx} {av:I} (h:fw C s T ps=some (av,s1)):Loc (I.cV (ps.map (·.2))) (I.cV (ps.map (·.2))) (λs=>fw C s T ps) s av s1:=by
 unfold fw at h;split at h
 .rename_i ar dG ai bz;split at h
  .rename_i aj;split at h
   .rename_i ds s2 bk;simp only[Option.some.injEq,Prod.mk.injEq]at h;obtain⟨rfl,rfl⟩:=h;obtain⟨ms,ab,ad,aB⟩:=EF bk;refine⟨ms,ab,ad,λax aa=>?_⟩;have:=aB ax aa;simp only at this;simp only[fw,ai,bz,if_pos aj,this]
   .cases h
  .cases h
 .cases h
theorem Lp {n:Nat} {ps:Xx} {av:I} (h:ek C s T n ps=some (av,s1)):Loc (I.cV (ps.map (·.2))) (I.cV (ps.map (·.2))) (λs=>ek C s T n ps) s av s1:=by
 unfold ek at h;split at h
 .rename_i e ai;split at h
  .rename_i aj;split at h
   .rename_i ds s2 bk;simp only[Option.some.injEq,Prod.mk.injEq]at h;obtain⟨rfl,rfl⟩:=h;obtain⟨ms,ab,ad,aB⟩:=EF bk;refine⟨ms,ab,ad,λax aa=>?_⟩;have:=aB ax aa;simp only at this;simp only[ek,ai,if_pos aj,this]
   .cases h
  .cases h
 .cases h
theorem Lq {av:I} (h:g6 s x=some (av,s1)):Loc x.aa x.aa (λs=>g6 s x) s av s1:=by
 unfold g6 at h;split at h
 .cases h
 .rename_i d s2 kR aN;simp only[Option.some.injEq,Prod.mk.injEq]at h;obtain⟨rfl,rfl⟩:=h;obtain⟨ms,ab,ad,aB⟩:=ph aN;refine⟨ms,ab,ad,λax aa=>?_⟩;have:=aB ax aa;simp only at this;simp only[g6,this]
 .cases h
theorem Lr {av:I} (h:h0 s x=some (av,s1)):Loc x.aa [] (λs=>h0 s x) s av s1:=by
 unfold h0 at h;split at h
 .rename_i y q;split at h
  .rename_i ds k_;split at h
   .cases h
   .rename_i tu;simp only[Option.some.injEq,Prod.mk.injEq]at h;obtain⟨rfl,rfl⟩:=h;refine .pure λax aa=>?_;have e:ax y=s y:=aa y (by simp[I.aa]);simp only[h0,e,k_,if_neg tu]
  .cases h
 .split at h
  .rename_i aj;simp only[Option.some.injEq,Prod.mk.injEq]at h;obtain⟨rfl,rfl⟩:=h;exact .pure λax aa=>by simp only[h0,aj,if_true]
  .cases h
 .cases h
theorem Ls {s2:ah} (h:iC C s T x y=some s2):Loc (x.aa++y.aa) (x.aa++y.aa) (λs=>(iC C s T x y).map λs1=>(I.hole,s1)) s .hole s2:=by
 unfold iC at h;split at h
 .rename_i d s1 z q aN hl;obtain⟨ms,ab,ad,aB⟩:=ph aN;have bz:=zF hl;have cx:q≠[]:=by
   cases x with
   |h y p=>
    simp only[loc]at hl;split at hl
    .simp only[Option.some.injEq,Prod.mk.injEq]at hl;simp[<-hl.2]
    .cases hl
   |ao y p=>
    simp only[loc]at hl;split at hl
    .rename_i kJ;simp only[Option.some.injEq,Prod.mk.injEq]at hl;obtain⟨rfl,rfl⟩:=hl;intro e;subst e;simp[I.ei]at kJ
    .cases hl
   |_=>simp[loc]at hl
  split at h
  .cases h
  .rename_i a7 kR;split at h
   .rename_i d0 kK;split at h
    .rename_i aj;simp only[Option.some.injEq]at h;subst h;refine⟨ms++[⟨.bH,z,I.put q d (s z)⟩],?_,?_,?_⟩
     .rw[kp,<-ab,qp]
     .intro m hm;simp only[mem_append,mem_singleton]at hm⊢;rcases hm with hm|rfl
      .exact⟨.inr (ad m hm).1,(ad m hm).2⟩
      .exact⟨.inl bz,rR q _ _ _ kK (.inr cx) λe=>(cx e).elim⟩
     .intro ax aa;have aM:=aB ax aa.right;simp only at aM;simp only[iC,aM,zE aa.left,hl,aa.left z bz,kK];cases d<;>first|(simp only[if_pos aj,Option.map_some,kp,qp];done)|exact(kR _ rfl).elim
    .cases h
   .cases h
 .cases h
theorem Lt {c9 aE:Option I} {av:I} (h:eb C s T x c9 aE=some (av,s1)):Loc x.aa x.aa (λs=>eb C s T x c9 aE) s av s1:=by
 cases x with
 |h y q=>
  unfold eb at h;split at h<;>first|(cases h;done)|skip
  all_goals (rename_i an;try cases an)
  rename_i e ai;split at h
  .rename_i sz xs dK;split at h
   .rename_i b jV kN;split at h
    .rename_i aj;split at h
     .rename_i d s2 aN;simp only[Option.some.injEq,Prod.mk.injEq]at h;obtain⟨rfl,rfl⟩:=h;obtain⟨ms,ab,ad,aB⟩:=ph aN;refine⟨ms,ab,ad,λax aa=>?_⟩;have:=aB ax aa;simp only at this;have aM:ax y=s y:=aa y (by simp[I.aa]);simp only[eb,ai,aM,dK,jV,kN,if_pos aj,this]
     .cases h
    .cases h
   .cases h
  .cases h
 |_=>
  have oq:s1=s:=by
   unfold eb at h
   repeat' split at h
   all_goals first|(cases h;done)|(simp only[Option.some.injEq,Prod.mk.injEq]at h;exact h.2.symm)|simp_all
  subst oq;refine .pure λax _=>?_;unfold eb at h⊢
  repeat' split at h
  all_goals first
   |(cases h;done)
   |(simp only[Option.some.injEq,Prod.mk.injEq]at h
     obtain⟨rfl,_⟩:=h;simp_all)
def nu (C:bA) (e:TypeId) (s:ah):I->Option (I×ah)
 | .a5=>some (I.aw (C.T e).sz [],s)
 | .h a q=>b9 s (.h a q)
 |_=>none
def jz (s1:ah):I->Option (Xy×ah)
 | .a5=>some ([],s1)
 | .slice bT=>some (bT,s1)
 | .str l=>some (l.map jf,s1)
 | .h a q=>match b9 s1 (.h a q)with
   |some (.aw _ bT,s2)=>some (bT,s2)
   |_=>none
 |_=>none
theorem zH (C:bA) (s:ah) (T bC:TypeId) (x y:I):oh C s T bC x y=(match(C.T T).k with
 | .slice e=>if(C.T e).ok=true/\(C.T e).zero.wd=(C.T e).sz/\(flat (C.T e).zero).isSome=true/\vW C e bC=true then
   match nu C e s x with
   |some (.aw sz xs,s1)=>if sz=(C.T e).sz then
     match jz s1 (iP x.owner y)with
     |some (bT,s2)=>if(∀d∈bT,d.wd=(C.T e).sz)/\(xs.length+bT.length)*(C.T e).bytes<=140737488355328/\xs.length+bT.length<=9223372036854775807 then some (.aw sz (xs++bT),s2)else none
     |none=>none
    else none
   |_=>none
   else none
 |_=>none):=by
 unfold oh;generalize iP x.owner y=jb;cases(C.T T).k<;>first
  |rfl
  |(cases x<;>cases jb<;>rfl)
theorem Lu {e:TypeId} {d:I} (ab:nu C e s x=some (d,s1)):Loc x.aa x.aa (λs=>nu C e s x) s d s1:=by
 cases x with
 |a5=>
  simp only[nu,Option.some.injEq,Prod.mk.injEq]at ab;obtain⟨ab,rfl⟩:=ab;exact .pure λax _=>by simp only[nu,ab]
 |h a q=>exact ph ab
 |_=>simp[nu]at ab
theorem Lv {bT:Xy} (ad:jz s y=some (bT,s1)):Loc y.aa y.aa (λs=>jz s y) s bT s1:=by
 cases y with
 |a5=>
  simp only[jz,Option.some.injEq,Prod.mk.injEq]at ad;obtain⟨rfl,rfl⟩:=ad;exact .pure λax _=>rfl
 |slice bT=>
  simp only[jz,Option.some.injEq,Prod.mk.injEq]at ad;obtain⟨rfl,rfl⟩:=ad;exact .pure λax _=>rfl
 |str l=>
  simp only[jz,Option.some.injEq,Prod.mk.injEq]at ad;obtain⟨rfl,rfl⟩:=ad;exact .pure λax _=>rfl
 |h a q=>
  simp only[jz]at ad;split at ad
  .rename_i KC Wd jY aN;simp only[Option.some.injEq,Prod.mk.injEq]at ad;obtain⟨rfl,rfl⟩:=ad;obtain⟨ms,aO,a3,bJ⟩:=ph aN;refine⟨ms,aO,a3,λax aa=>?_⟩;have:=bJ ax aa;simp only at this;simp only[jz,this]
  .cases ad
 |_=>simp[jz]at ad
theorem Lw {av:I} (h:oh C s T A x y=some (av,s1)):Loc (x.aa++y.aa) (x.aa++y.aa) (λs=>oh C s T A x y) s av s1:=by
 rw[zH]at h;split at h
 .rename_i e ai;split at h
  .rename_i aj;split at h
   .rename_i sz xs s2 ab;split at h
    .rename_i cK;split at h
     .rename_i bT qs ad;split at h
      .rename_i p_;simp only[Option.some.injEq,Prod.mk.injEq]at h;obtain⟨rfl,rfl⟩:=h;obtain⟨mH,rfl,a4,gB⟩:=Lu ab;obtain⟨pf,rfl,gq,iD⟩:=(Lv ad).mono (zG _ _) (zG _ _);refine⟨mH++pf,(kp _ _ _).symm,?_,?_⟩
       .intro m hm;simp only[mem_append]at hm⊢;rcases hm with hm|hm
        .exact⟨.inl (a4 m hm).1,(a4 m hm).2⟩
        .exact⟨.inr (gq m hm).1,(gq m hm).2⟩
       .intro ax aa;have aM:=gB ax aa.left;have aS:=iD (cI mH ax) (aa.right.cI mH);simp only at aM aS;simp only[zH,ai,if_pos aj,aM,if_pos cK,aS,if_pos p_,kp]
      .cases h
     .cases h
    .cases h
   .cases h
  .cases h
 .cases h
theorem Lx {ax:ah} {i:I} (h:cG x.aa ax s):lV C ax T x i=lV C s T x i:=by
 cases x with
 |h y q=>cases i<;>simp only[lV,h y (by simp[I.aa])]
 |_=>rfl
theorem Ly {i v:I} {s2:ah} (h:kO C s T x i v=some s2):Loc x.aa x.aa (λs=>(kO C s T x i v).map λs1=>(I.hole,s1)) s .hole s2:=by
 unfold kO at h;split at h
 .rename_i y q k b;split at h
  .rename_i m af;split at h
   .rename_i gx;simp only[Option.some.injEq]at h;subst h;refine⟨[⟨.bH,y,I.put q (.cS (.mp (m8 k b m))) (s y)⟩],qp _ _ _,?_,λax aa=>?_⟩
    .intro n aU;simp only[mem_singleton]at aU;subst aU;exact⟨by simp[I.aa],rR q _ _ _ af (.inl rfl) λ_=>rfl⟩
    .have aM:ax y=s y:=aa y (by simp[I.aa]);simp only[kO,aM,af,gx,if_true,Option.map_some];rw[<-qp]
   .cases h
  .cases h
 .cases h
theorem EG {a9:cU} {av:I} (h:bp C s a9=some (av,s1)):Loc (use s a9) (kq s a9) (λs=>bp C s a9) s av s1:=by
 cases a9 with
 |shr a9=>simp[bp]at h
 |jy f args L=>simp[bp]at h
 |h0 T x=>
  obtain⟨ms,ab,ad,aB⟩:=Lr h;refine⟨ms,ab,ad,λax aa=>?_⟩;simp only[bp,aX.ep (x:=x) aa];exact aB ax (cG.a6 aa)
 |hJ T bC x y=>
  simp only[bp,Option.map_eq_some_iff,Prod.mk.injEq]at h;obtain⟨d,af,rfl,rfl⟩:=h;exact .pure λax aa=>by
   simp only[use]at aa;simp only[bp,aX.ep (x:=x) aa.left,aX.ep (x:=y) aa.right,af,Option.map_some]
 |bad=>simp[bp]at h
 |nr fL x y=>
  simp only[bp,Option.map_eq_some_iff,Prod.mk.injEq]at h;obtain⟨d,af,rfl,rfl⟩:=h;exact .pure λax aa=>by
   simp only[use]at aa;simp only[bp,aX.ep (x:=x) aa.left,aX.ep (x:=y) aa.right,af,Option.map_some]
 |cap T x=>
  simp only[bp]at h;split at h
  .rename_i e ai an;simp only[Option.some.injEq,Prod.mk.injEq]at h;obtain⟨rfl,rfl⟩:=h;exact .pure λax aa=>by simp only[bp,aX.ep (x:=x) aa,ai,an]
  .cases h
 |fc x=>
  simp only[bp,Option.some.injEq,Prod.mk.injEq]at h;obtain⟨rfl,rfl⟩:=h;exact .pure λax aa=>by simp only[bp,aX.ep (x:=x) aa]
 |ko x=>
  simp only[bp]at h;split at h
  .rename_i y q an;obtain⟨ms,ab,ad,aB⟩:=ph h;refine⟨ms,ab,by simpa only[kq,an]using ad,λax aa=>?_⟩;have e:=aX.ep (x:=x) aa;have aS:=aB ax (by rw[<-an];exact cG.a6 aa);simp only[bp,e,an];exact aS
  .rename_i Lz;simp only[Option.some.injEq,Prod.mk.injEq]at h;obtain⟨rfl,rfl⟩:=h;refine .pure λax aa=>?_;have e:=aX.ep (x:=x) aa;simp only[bp,e]
 |pick c a b=>
  simp only[bp]at h;split at h
  .rename_i eh U;simp only[Option.some.injEq,Prod.mk.injEq]at h;obtain⟨rfl,rfl⟩:=h;refine .pure λax aa=>?_;simp only[use]at aa;simp only[bp,aX.ep (x:=c) aa.left,aX.ep (x:=a) aa.right.left,aX.ep (x:=b) aa.right.right,U]
  .cases h
 |kL T=>
  simp only[bp,Option.map_eq_some_iff,Prod.mk.injEq]at h;obtain⟨d,af,rfl,rfl⟩:=h;exact .pure λax aa=>by simp only[bp,af,Option.map_some]
 |g6 T x=>
  obtain⟨ms,ab,ad,aB⟩:=Lq h;refine⟨ms,ab,ad,λax aa=>?_⟩;simp only[bp,aX.ep (x:=x) aa];exact aB ax (cG.a6 aa)
 |fw T ps=>
  obtain⟨ms,ab,ad,aB⟩:=Lo h;simp only[List.map_map,Function.comp_def]at ad aB;refine⟨ms,ab,ad,λax aa=>?_⟩;simp only[bp,aX.zD (ps:=ps) aa];refine aB ax (aa.sub λu hu=>?_);simp only[use];exact aX.we u (by simpa [List.map_map,Function.comp_def]using hu)
 |ek T n ps=>
  obtain⟨ms,ab,ad,aB⟩:=Lp h;simp only[List.map_map,Function.comp_def]at ad aB;refine⟨ms,ab,ad,λax aa=>?_⟩;simp only[bp,aX.zD (ps:=ps) aa];refine aB ax (aa.sub λu hu=>?_);simp only[use];exact aX.we u (by simpa [List.map_map,Function.comp_def]using hu)
 |ew T x=>
  simp only[bp,Option.map_eq_some_iff,Prod.mk.injEq]at h;obtain⟨d,af,rfl,rfl⟩:=h;exact .pure λax aa=>by simp only[bp,aX.ep (x:=x) aa,Ld (cG.a6 aa),af,Option.map_some]
 |iC T x y=>
  simp only[bp,Option.map_eq_some_iff,Prod.mk.injEq]at h;obtain⟨s2,af,rfl,rfl⟩:=h;obtain⟨ms,ab,ad,aB⟩:=Ls af;refine⟨ms,ab,ad,λax aa=>?_⟩;simp only[use]at aa;simp only[bp,aX.ep (x:=x) aa.left,aX.ep (x:=y) aa.right];exact aB ax (aa.sub λu hu=>by simp only[mem_append]at hu⊢;exact hu.imp (aX.qq u) (aX.qq u))
 |hC x=>
  simp only[bp,Option.map_eq_some_iff,Prod.mk.injEq]at h;obtain⟨d,af,rfl,rfl⟩:=h;exact .pure λax aa=>by simp only[bp,aX.ep (x:=x) aa,Ll (cG.a6 aa),af,Option.map_some]
 |dE op T x y=>
  simp only[bp,Option.map_eq_some_iff,Prod.mk.injEq]at h;obtain⟨d,af,rfl,rfl⟩:=h;refine .pure λax aa=>?_;simp only[use]at aa;simp only[bp,aX.ep (x:=x) aa.left,aX.ep (x:=y) aa.right,Lk (cG.a6 aa.left),af,Option.map_some]
 |un op x=>
  simp only[bp,Option.map_eq_some_iff,Prod.mk.injEq]at h;obtain⟨d,af,rfl,rfl⟩:=h;exact .pure λax aa=>by simp only[bp,aX.ep (x:=x) aa,af,Option.map_some]
 |hi A B x=>
  simp only[bp,Option.map_eq_some_iff,Prod.mk.injEq]at h;obtain⟨d,af,rfl,rfl⟩:=h;exact .pure λax aa=>by simp only[bp,aX.ep (x:=x) aa,Lh (cG.a6 aa),af,Option.map_some]
 |om f cs=>
  simp only[bp,Option.some.injEq,Prod.mk.injEq]at h;obtain⟨rfl,rfl⟩:=h;exact .pure λax aa=>by simp only[bp,aX.zC (xs:=cs) aa]
 |dB T l c=>
  simp only[bp,Option.map_eq_some_iff,Prod.mk.injEq]at h;obtain⟨d,af,rfl,rfl⟩:=h;refine .pure λax aa=>?_;simp only[use]at aa;simp only[bp,aX.ep (x:=l) aa.left,aX.ep (x:=c) aa.right,af,Option.map_some]
 |eb T x c9 aE=>
  simp only[bp]at h;obtain⟨ms,ab,ad,aB⟩:=Lt h;refine⟨ms,ab,ad,λax aa=>?_⟩;simp only[use]at aa;simp only[bp,aX.ep (x:=x) aa.left,Ez aa.right.left,Ez aa.right.right];exact aB ax (cG.a6 aa.left)
 |gO T x k=>
  simp only[bp,Option.map_eq_some_iff,Prod.mk.injEq]at h;obtain⟨d,af,rfl,rfl⟩:=h;exact .pure λax aa=>by simp only[bp,aX.ep (x:=x) aa,Le (cG.a6 aa),af,Option.map_some]
 |h_ T x i=>
  simp only[bp,Option.map_eq_some_iff,Prod.mk.injEq]at h;obtain⟨d,af,rfl,rfl⟩:=h;refine .pure λax aa=>?_;simp only[use]at aa;simp only[bp,aX.ep (x:=x) aa.left,aX.ep (x:=i) aa.right,Lf (cG.a6 aa.left),af,Option.map_some]
 |idx T x i=>
  simp only[bp,Option.map_eq_some_iff,Prod.mk.injEq]at h;obtain⟨d,af,rfl,rfl⟩:=h;refine .pure λax aa=>?_;simp only[use]at aa;simp only[bp,aX.ep (x:=x) aa.left,aX.ep (x:=i) aa.right,af,Option.map_some]
 |ex x k=>
  simp only[bp,Option.map_eq_some_iff,Prod.mk.injEq]at h;obtain⟨d,af,rfl,rfl⟩:=h;exact .pure λax aa=>by simp only[bp,aX.ep (x:=x) aa,Ln (cG.a6 aa),af,Option.map_some]
 |tP=>
  simp only[bp,Option.some.injEq,Prod.mk.injEq]at h;obtain⟨rfl,rfl⟩:=h;exact .pure λax aa=>rfl
 |lV T x i=>
  simp only[bp,Option.map_eq_some_iff,Prod.mk.injEq]at h;obtain⟨d,af,rfl,rfl⟩:=h;refine .pure λax aa=>?_;simp only[use]at aa;simp only[bp,aX.ep (x:=x) aa.left,aX.ep (x:=i) aa.right,Lx (cG.a6 aa.left),af,Option.map_some]
 |kO T x i v=>
  simp only[bp,Option.map_eq_some_iff,Prod.mk.injEq]at h;obtain⟨s2,af,rfl,rfl⟩:=h;obtain⟨ms,ab,ad,aB⟩:=Ly af;refine⟨ms,ab,ad,λax aa=>?_⟩;simp only[use]at aa;simp only[bp,aX.ep (x:=x) aa.left,aX.ep (x:=i) aa.right.left,aX.ep (x:=v) aa.right.right];exact aB ax (cG.a6 aa.left)
 |km T x k=>
  simp only[bp,Option.bind_eq_some_iff]at h;obtain⟨d,af,h⟩:=h;unfold tQ at h;split at h
  .rename_i y q;have an:=Lm af;obtain⟨ms,ab,ad,aB⟩:=ph h;refine⟨ms,ab,by simpa only[kq,an,I.aa]using ad,λax aa=>?_⟩;have aS:=aB ax (by rw[show(I.h y q).aa=(a6 s x).aa from an.symm];exact cG.a6 aa);simp only[bp,aX.ep (x:=x) aa,EA (cG.a6 aa),af,Option.bind_some,tQ];exact aS
  .rename_i Lz;simp only[Option.some.injEq,Prod.mk.injEq]at h;obtain⟨rfl,rfl⟩:=h;refine .pure λax aa=>?_;simp only[bp,aX.ep (x:=x) aa,EA (cG.a6 aa),af,Option.bind_some,tQ]
 |call f args=>simp[bp]at h
 |len T x=>
  simp only[bp,Option.map_eq_some_iff,Prod.mk.injEq]at h;obtain⟨d,af,rfl,rfl⟩:=h;exact .pure λax aa=>by simp only[bp,aX.ep (x:=x) aa,Lg (cG.a6 aa),af,Option.map_some]
 |app T bC x y=>
  obtain⟨ms,ab,ad,aB⟩:=Lw h;refine⟨ms,ab,ad,λax aa=>?_⟩;simp only[use]at aa;simp only[bp,aX.ep (x:=x) aa.left,aX.ep (x:=y) aa.right];exact aB ax (aa.sub λu hu=>by simp only[mem_append]at hu⊢;exact hu.imp (aX.qq u) (aX.qq u))
end
mutual
def view (s:ah):I->Option I
 | .h x q=>match I.sub q (s x)with
   |some d=>(match d with| .tuple _=>none| .cS _=>none| .er _ _=>none|d=>if d.plain then none else some d.share)
   |none=>none
 | .ao x q=>if I.ei q (s x)then(match I.sub q (s x)with
   |some d=>(match d with| .tuple _=>none|d=>some (.ref d.share))
   |none=>none)else none
 | .U _ _=>none
 | .fn f cap=>(views s cap).map (.fn f)
 | .hole=>none
 |d=>some d
def views (s:ah):Xy->Option Xy
 |[]=>some []
 |d::ds=>match view s d,views s ds with
  |some a,some b=>some (a::b)
  |_,_=>none
end
mutual
theorem zI:∀d:I,d.share.plain=true
 | .hole=>rfl
 | .bool _=>rfl
 | .dR=>rfl
 | .int _ _=>rfl
 | .str _=>rfl
 | .cJ=>rfl
 | .a5=>rfl
 | .slice _=>rfl
 | .aw _ _=>rfl
 | .ref _=>rfl
 | .bh _=>rfl
 | .agg ar=>by simp only[I.share,I.plain];exact zJ ar
 | .tuple ar=>by simp only[I.share,I.plain];exact zJ ar
 | .fn _ _=>rfl
 | .h _ _=>rfl
 | .ao _ _=>rfl
 | .U _ _=>rfl
 | .cS _=>rfl
 | .er _ _=>rfl
theorem zJ:∀ds:Xy,I.dz (I.shares ds)=true
 |[]=>rfl
 |d::ds=>by simp only[I.shares,I.dz];rw[zI d,zJ ds];rfl
end
theorem LA {s:ah} {a d:I} (h:a.plain=true) (he:view s a=some d):d.plain=true:=by
 cases a with
 |h x q=>
  simp only[view]at he;split at he
  .rename_i e dK;cases e<;>simp only at he<;>first
    |(cases he;done)
    |(split at he
      .cases he
      .simp only[Option.some.injEq]at he;subst he;exact zI _)
  .cases he
 |ao x q=>
  simp only[view]at he;split at he
  .split at he
   .rename_i e dK;cases e<;>simp only at he<;>first
     |(cases he;done)
     |(simp only[Option.some.injEq]at he;subst he;rfl)
   .cases he
  .cases he
 |fn f cap=>
  simp only[view,Option.map_eq_some_iff]at he;obtain⟨ds,_,rfl⟩:=he;rfl
 |hole=>simp[view]at he
 |U y q=>simp[view]at he
 |_=>simp only[view,Option.some.injEq]at he;subst he;exact h
theorem zK {d:I} {v:Value} (ab:∀vs,d≠.tuple vs) (h:cO d v):cO d.share v:=by
 cases d<;>first|exact h|exact(ab _ rfl).elim
theorem LB (w:World):∀(q:Xt) (av d a7:I) (cs b4:Xw) (a b7:Option (Nat×Nat)),I.sub q av=some d->a7.wd=d.wd->cu w q av cs a=some (d,b4,b7)->
  cu w q (I.put q a7 av) cs a=some (a7,b4,b7):=by
 intro q;induction q with
 |nil=>
  intro av d a7 cs b4 a b7 af hw h;simp only[cu,Option.some.injEq,Prod.mk.injEq]at h;obtain⟨rfl,rfl,rfl⟩:=h;simp only[I.put,cu]
 |cons k q ih=>
  intro av d a7 cs b4 a b7 af hw h;cases av with
  |agg ar=>
   simp only[I.sub]at af;split at af
   .rename_i x an;have ai:k<ar.length:=(List.getElem?_eq_some_iff.1 an).1;simp only[cu,an]at h;simp only[I.put,an,cu];rw[getElem?_set_self ai];simp only[take_set_of_le (Nat.le_refl k),I.ry q x d a7 af hw];exact ih _ _ _ _ _ _ _ af hw h
   .cases af
  |tuple ar=>
   simp only[I.sub]at af;split at af
   .rename_i x an;have ai:k<ar.length:=(List.getElem?_eq_some_iff.1 an).1;simp only[cu,an]at h;simp only[I.put,an,cu];rw[getElem?_set_self ai];simp only[take_set_of_le (Nat.le_refl k),I.ry q x d a7 af hw];exact ih _ _ _ _ _ _ _ af hw h
   .cases af
  |aw sz ar=>
   simp only[I.sub]at af;split at af
   .rename_i x an;have ai:k<ar.length:=(List.getElem?_eq_some_iff.1 an).1;have jX:(ar.set k (I.put q a7 x))[k]? =some (I.put q a7 x):=getElem?_set_self ai;simp only[I.put,an];rw[cu.eq_def]at h⊢;simp only[an]at h;simp only;rw[jX];split at h
    .rename_i aM;simp only[Option.some.injEq]at aM;subst aM;exact ih _ _ _ _ _ _ _ af hw h
    .cases h
   .cases af
  |bh x=>
   cases k with
   |zero=>
    simp only[I.sub]at af;rw[cu.eq_def]at h⊢;simp only at h;simp only[I.put];split at h
    .rw[I.ry q x d a7 af hw];exact ih _ _ _ _ _ _ _ af hw h
    .cases h
   |succ k=>simp[I.sub]at af
  |_=>simp[I.sub]at af
section
variable {w0 w az:World} {F0 X F Fc:Nat->Prop} {S:Nat->Nat->Prop} {s ax:ah} {aq iA:Nat->Value}
theorem LC (h:bg w0 F0 X F S s aq w) (a1:∀b,F b->Fc b):∀n,
  (∀(a:I) (v:Value) (d:I),SizeOf.sizeOf a<=n->(∀t∈a.aa,∀b,S t b->Fc b)->view s a=some d->aA w F s aq a v (λ_=>False)->aA w Fc ax iA d v (λ_=>False))/\
  (∀(as:Xy) (vs:Xw) (ds:Xy),SizeOf.sizeOf as<=n->(∀t∈I.cV as,∀b,S t b->Fc b)->views s as=some ds->c5 w F s aq as vs->c5 w Fc ax iA ds vs):=by
 intro n;induction n with
 |zero=>exact⟨λa _ _ bz=>by cases a<;>simp at bz<;>omega,λas _ _ bz=>by cases as<;>simp at bz<;>omega⟩
 |succ n ih=>
  refine⟨λa v d bz bm he aD=>?_,λas vs ds bz bm he aD=>?_⟩
  .cases a with
   |h x q=>
    simp only[view]at he;split at he
    .rename_i e dK;have key:(∀ar,e≠.tuple ar)/\e.plain=false/\d=e.share/\(∀o,e≠.cS o)/\∀f c,e≠.er f c:=by
      cases e<;>simp only at he<;>first
       |(cases he;done)
       |(split at he
         .cases he
         .rename_i fO;simp only[Option.some.injEq]at he;exact⟨(λ_ h=>by cases h),by simpa using fO,he.symm,(λ_ h=>by cases h),λ_ _ h=>by cases h⟩)
     obtain⟨kR,fO,rfl,ja,zL⟩:=key;rw[aA]at aD;obtain⟨b4,b7,aO,a3,bJ⟩:=aD e dK fO;have aN:=gl dK (.inl fO);have an:=(aA.bY aN).1 (h.cE x);obtain⟨eC,a4,c6,dY,k0,bM,b1,cZ,cF,dL⟩:=ctx q (s x) (bL (aq x)) (S x) none e an.2 dK;rw[aO]at k0;simp only[Option.some.injEq,Prod.mk.injEq,true_and]at k0;obtain⟨rfl,rfl⟩:=k0;have y4:e.share.tree=true:=by cases e<;>first|rfl|(simp[I.plain]at fO;done)|exact(ja _ rfl).elim|exact(zL _ _ rfl).elim
     have aI:=al.shared a1 e b4 dY (λb U=>bm x (by simp[I.aa]) b (b1 b U)) cF;exact(aA.bY y4).2 ⟨zK kR bJ,by rw[a3];exact aI⟩
    .cases he
   |ao x q=>
    simp only[view]at he;split at he
    .rename_i kJ;split at he
     .rename_i e dK;have key:(∀ar,e≠.tuple ar)/\d= .ref e.share:=by
       cases e<;>simp only at he<;>first
        |(cases he;done)
        |(simp only[Option.some.injEq]at he;exact⟨(λ_ h=>by cases h),he.symm⟩)
      obtain⟨kR,rfl⟩:=key;rw[aA]at aD;obtain⟨b4,b,o,aO,rfl⟩:=aD e dK kJ;have aN:=gl dK (.inr kJ);have an:=(aA.bY aN).1 (h.cE x);obtain⟨eC,a4,c6,dY,k0,bM,b1,cZ,cF,dL⟩:=ctx q (s x) (bL (aq x)) (S x) none e an.2 dK;rw[aO]at k0;simp only[Option.some.injEq,Prod.mk.injEq,true_and]at k0;obtain⟨rfl,rfl⟩:=k0;have aI:=al.shared a1 e b4 dY (λb U=>bm x (by simp[I.aa]) b (b1 b U)) cF;rcases dL with⟨l,r,_,aS,_⟩|⟨eh,cur,ty,fr,l,r,aM,aS,aV,bK,cn,_⟩
      .simp at aS
      .simp only[Option.some.injEq,Prod.mk.injEq]at aM;obtain⟨rfl,rfl⟩:=aM;refine(aA.bY rfl).2 ⟨rfl,?_⟩;rw[al];refine⟨b,l.length,b4,rfl,bm x (by simp[I.aa]) b (bM b aS),?_,aI⟩;intro j c b6;simp only[World.cell?,aV];have aj:cur[l.length+j]? =some c:=by
        rw[<-Array.getElem?_toList,cn,getElem?_append_right (by omega),getElem?_append_left (by
         have:=(List.getElem?_eq_some_iff.1 b6).1;omega)]
        rw[<-b6];congr 1;omega
       simpa using aj
     .cases he
    .cases he
   |fn f cap=>
    simp only[view,Option.map_eq_some_iff]at he;obtain⟨ds,hL,rfl⟩:=he;rw[aA]at aD;obtain⟨arr,rfl,aj⟩:=aD;rw[aA];exact⟨arr,rfl,ih.2 cap _ _ (by simp at bz;omega) (by simpa [I.aa]using bm) hL aj⟩
   |hole=>simp[view]at he
   |U y q=>simp[view]at he
   |_=>
    simp only[view,Option.some.injEq]at he;subst he;have kl:=(aA.bY rfl).1 aD;exact(aA.bY rfl).2 ⟨kl.1,al.mono a1 _ _ _ _ (λ_ h=>h) kl.2⟩
  .cases as with
   |nil=>
    simp only[views,Option.some.injEq]at he;subst he;rw[c5]at aD⊢;exact aD
   |cons a as=>
    simp only[views]at he;split at he
    .rename_i d ds ab ad;simp only[Option.some.injEq]at he;subst he;rw[c5]at aD⊢;obtain⟨v,hX,rfl,aO,a3⟩:=aD;simp at bz;simp only[I.cV,mem_append]at bm;exact⟨v,hX,rfl,ih.1 a v d (by omega) (λt aN=>bm t (.inl aN)) ab aO,ih.2 as hX ds (by omega) (λt aN=>bm t (.inr aN)) ad a3⟩
    .cases he
theorem bg.g8 (h:bg w0 F0 X F S s aq w) {x:Nat} {q:Xt} {d0 a7:I} {b4:Xw} {a:Option (Nat×Nat)} {Sn:Nat->Prop}
  (af:I.sub q (s x)=some d0) (bk:cu w q (s x) (bL (aq x)) none=some (d0,b4,a)) (ad:∀vs,a7≠.tuple vs) (aN:q=[]->a7.tree=true/\cO a7 (aq x))
  (aB:∀k p,q=k::p->(s x).tree=true/\(∀v,gN d0 v->gN a7 v)) (hw:a7.wd=d0.wd)
  (aD:al w F a7 b4 Sn) (c8:∀b,Sn b->b<w.heap.size) (a1:∀b,Sn b->¬F b) (bm:∀u b,Sn b->¬S u b) (ba:∀b,Sn b->X b\/w0.heap.size<=b):
  bg w0 F0 X F (fa S x (λb=>S x b\/Sn b)) (cl (jR x s) x (I.put q a7 (s x))) aq w:=by
 have cX:cl aq x (aq x)=aq:=by funext u;simp only[cl];split<;>simp_all
 have main:(I.put q a7 (s x)).tree=true/\cO (I.put q a7 (s x)) (aq x)/\al w F (I.put q a7 (s x)) (bL (aq x)) (λb=>S x b\/Sn b):=by
  cases q with
  |nil=>
   simp only[cu,Option.some.injEq,Prod.mk.injEq]at bk;obtain⟨aM,aS,aV⟩:=bk;obtain⟨aO,a3⟩:=aN rfl;simp only[I.put];refine⟨aO,?_,?_⟩
   .exact a3
   .rw[aS];exact al.mono (λ_ h=>h) _ _ _ _ (λb U=>.inr U) aD
  |cons k p=>
   obtain⟨aO,a3⟩:=aB k p rfl;have an:=(aA.bY aO).1 (h.cE x);obtain⟨eC,a4,c6,dY,k0,bM,b1,cZ,cF,dL⟩:=ctx (k::p) (s x) (bL (aq x)) (S x) none d0 an.2 af;rw[bk]at k0;simp only[Option.some.injEq,Prod.mk.injEq,true_and]at k0;obtain⟨rfl,rfl⟩:=k0;refine⟨?_,?_,?_⟩
   .rcases o7 k p a7 (s x)with⟨ar,gs,aM,e⟩|⟨ar,gs,aM,e⟩|⟨sz,xs,bT,aM,e⟩|⟨y,z,aM,e⟩|e<;>rw[e]<;>first|rfl|exact aO
   .refine tk an.1 af a3 (λ_ vs e=>(ad vs e).elim) hw
   .have mono:∀b,(c6 b\/Sn b)->(S x b\/Sn b):=λb U=>U.imp (bM b) id;rcases dL with⟨l,r,aM,aS,aV⟩|⟨b,cur,ty,fr,l,r,aM,aS,aV,bK,cn,bB⟩
    .rw[aM];exact al.mono (λ_ h=>h) _ _ _ _ mono (aV w a7 b4 Sn (λ_ _=>rfl) (λ_ _=>rfl) hw aD (λb U aj=>bm x b U (bM b aj)))
    .refine al.mono (λ_ h=>h) _ _ _ _ mono (bB w a7 b4 Sn (λ_ _=>rfl) (λ_ _ _=>rfl) ?_ hw aD (λb U aj=>bm x b U (bM b aj)));rw[aV,<-cn]
 have:=h.Dr (t:=x) main.1 main.2.1 main.2.2 (by rintro b (U|U);exact h.dA x b U;exact c8 b U) (by rintro b (U|U);exact h.eH x b U;exact a1 b U)
  (by rintro u b c4 (U|U);exact λhu=>h.ej u x b c4 hu U;exact bm u b U) (by rintro b (U|U);exact h.cW x b U;exact ba b U)
 rwa [cX]at this
end
mutual
def I.cr:I->Bool
 | .slice _=>false
 | .ref _=>false
 | .fn _ _=>false
 | .h _ _=>false
 | .ao _ _=>false
 | .U _ _=>false
 | .aw _ xs=>I.gD xs
 | .bh d=>d.cr
 | .agg ar=>I.gD ar
 | .tuple ar=>I.gD ar
 | .er _ ar=>I.gD ar
 |_=>true
def I.gD:Xy->Bool
 |[]=>true
 |d::ds=>d.cr&&I.gD ds
end
mutual
theorem al.cr {w:World} {F bo:Nat->Prop}:∀(d:I) (cs:Xw) (S:Nat->Prop),d.cr=true->al w F d cs S->al w bo d cs S
 | .hole,_,_,_,h=>h
 | .bool _,_,_,_,h=>h
 | .dR,_,_,_,h=>h
 | .int _ _,_,_,_,h=>h
 | .str _,_,_,_,h=>h
 | .cJ,_,_,_,h=>h
 | .a5,_,_,_,h=>h
 | .slice xs,cs,S,aU,h=>by simp[I.cr]at aU
 | .ref d,cs,S,aU,h=>by simp[I.cr]at aU
 | .aw sz xs,cs,S,aU,h=>by
   rw[al]at h⊢;rcases h with h|⟨b,cap,cur,e,fr,aF,ab,ad,aB,aY,bn,cb,cc,ea,hH,gw,jQ⟩
   .exact .inl h
   .exact .inr ⟨b,cap,cur,e,fr,aF,ab,ad,aB,aY,bn,cb,cc,ea,aQ.cr xs _ _ aU hH,gw,jQ⟩
 | .bh d,cs,S,aU,h=>by
   rw[al]at h⊢;obtain⟨b,cur,e,fr,aF,ab,ad,aB,aY,bn,cb,cc⟩:=h;exact⟨b,cur,e,fr,aF,ab,ad,aB,aY,al.cr d _ _ aU bn,cb,cc⟩
 | .agg ar,cs,S,aU,h=>by rw[al]at h⊢;exact aQ.cr ar _ _ aU h
 | .tuple ar,cs,S,aU,h=>by rw[al]at h⊢;exact aQ.cr ar _ _ aU h
 | .fn _ _,_,_,aU,h=>by simp[I.cr]at aU
 | .h _ _,_,_,_,h=>h
 | .ao _ _,_,_,_,h=>h
 | .U _ _,_,_,_,h=>h
 | .cS _,_,_,_,h=>h
 | .er _ caps,cs,S,aU,h=>by
   rw[al]at h⊢;obtain⟨arr,ab,ad,aB⟩:=h;exact⟨arr,ab,ad,aQ.cr caps _ _ aU aB⟩
theorem aQ.cr {w:World} {F bo:Nat->Prop}:∀(ds:Xy) (cs:Xw) (S:Nat->Prop),I.gD ds=true->aQ w F ds cs S->aQ w bo ds cs S
 |[],_,_,_,h=>h
 |d::ds,cs,S,aU,h=>by
  simp only[I.gD,Bool.and_eq_true]at aU;rw[aQ]at h⊢;obtain⟨bx,bE,S1,S2,ab,ad,aB,aY,bn,cb⟩:=h;exact⟨bx,bE,S1,S2,ab,al.cr d _ _ aU.1 ad,aQ.cr ds _ _ aU.2 aB,aY,bn,cb⟩
end
theorem EH:∀(q:Xt) (av d e:I),I.sub q av=some d->I.sub q (I.put q e av)=some e:=by
 intro q;induction q with
 |nil=>intro av d e _;simp[I.put,I.sub]
 |cons k q ih=>
  intro av d e h;cases av with
  |agg ar=>
   simp only[I.sub]at h;split at h
   .rename_i x an;have ai:k<ar.length:=(List.getElem?_eq_some_iff.1 an).1;simp only[I.put,an,I.sub,getElem?_set_self ai];exact ih _ _ _ h
   .cases h
  |tuple ar=>
   simp only[I.sub]at h;split at h
   .rename_i x an;have ai:k<ar.length:=(List.getElem?_eq_some_iff.1 an).1;simp only[I.put,an,I.sub,getElem?_set_self ai];exact ih _ _ _ h
   .cases h
  |aw sz ar=>
   simp only[I.sub]at h;split at h
   .rename_i x an;have ai:k<ar.length:=(List.getElem?_eq_some_iff.1 an).1;simp only[I.put,an,I.sub,getElem?_set_self ai];exact ih _ _ _ h
   .cases h
  |bh x=>
   cases k with
   |zero=>simp only[I.sub]at h;simp only[I.put,I.sub];exact ih _ _ _ h
   |succ k=>simp[I.sub]at h
  |_=>simp[I.sub]at h
structure bZ where
 a:I
 g:Bool
 d:I
 o:I
def I.own:I->Bool
 | .aw _ _=>true
 | .bh _=>true
 |_=>false
def I.eW:I->Bool
 | .aw _ _=>true
 | .bh _=>true
 | .cS _=>true
 | .er _ _=>true
 | .agg ar=> !I.dz ar
 |_=>false
def pj (d o:I):Bool:=match d,o with
 | .agg a,.agg b=>I.c3 a==I.c3 b
 | .agg _,_=>false
 |_,.agg _=>false
 |_,_=>true
theorem ot {d:I} (h:d.eW=true):d.plain=false/\d.tree=true/\∀vs,d≠.tuple vs:=by
 cases d<;>simp[I.eW]at h<;>first|exact⟨rfl,rfl,λvs e=>by cases e⟩|exact⟨by simp only[I.plain];exact h,rfl,λvs e=>by cases e⟩
theorem LD {d o:I} (h:d.eW=true) (bG:o.eW=true) (hl:pj d o=true):o.wd=d.wd/\(∀v,cO d v->cO o v)/\∀v,gN d.cj v->gN o v:=by
 cases d<;>simp[I.eW]at h<;>cases o<;>simp[I.eW]at bG<;>simp[pj]at hl<;>first
  |exact⟨rfl,λ_ h=>h,λ_ h=>h⟩
  |exact⟨by simp only[I.wd];exact hl.symm,λ_ h=>h,λ_ h=>h⟩
def bZ.ok (s:ah) (p:bZ):Prop:=
 if p.g then(match p.a with| .h x q=>I.sub q (s x)=some p.d/\p.d.eW=true/\(p.o= .hole\/(p.o.eW=true/\pj p.d p.o=true))|_=>False)
 else view s p.a=some p.d
def gR:List bZ->Bool
 |[]=>true
 |p::r=>(r.all λb0=> !(p.g||b0.g)||(p.a.aa.all λu=> !b0.a.aa.contains u))&&gR r
def bZ.take (s:ah) (p:bZ):ah:=
 if p.g then(match p.a with| .h x q=>cl (ft x s) x (I.put q p.d.cj (s x))|_=>s)else s
def bZ.g8 (s:ah) (p:bZ):ah:=
 if p.g then(match p.a,p.o with|_,.hole=>s| .h x q,o=>cl (jR x s) x (I.put q o (s x))|_,_=>s)else s
def dH (s:ah) (ps:List bZ):ah:=ps.foldl bZ.take s
def fP (s:ah) (ps:List bZ):ah:=ps.foldl bZ.g8 s
section
variable {w0 w az:World} {F0 X F Fc:Nat->Prop} {S:Nat->Nat->Prop} {s ax:ah} {aq iA:Nat->Value}
def LF (w:World) (F:Nat->Prop) (s1:ah) (aq:Nat->Value) (p:bZ) (v:Value) (Sn:Nat->Prop):Prop:=
 ∃x q J,p.a= .h x q/\I.sub q (s1 x)=some p.d.cj/\cu w q (s1 x) (bL (aq x)) none=some (p.d.cj,bL v,J)/\(s1 x).aa=[]/\(q=[]->cO p.d (aq x))/\(q≠[]->(s1 x).tree=true)/\
  cO p.d v/\al w F p.d (bL v) Sn
theorem LG {p:bZ} {x:Nat} (h:(s x).aa=[]) (ao:p.g=true->x∉p.a.aa):bZ.take s p x=s x:=by
 unfold bZ.take;split
 .rename_i bf;cases bQ:p.a with
  |h y q=>
   have:x≠y:=by
    have:=ao bf;rw[bQ]at this;simpa [I.aa]using this
   simp only;rw[hg _ _ this];exact tR _ (by rw[h];simp)
  |_=>rfl
 .rfl
theorem zM:∀{ps:List bZ} {s:ah} {x:Nat},(s x).aa=[]->(∀p∈ps,p.g=true->x∉p.a.aa)->dH s ps x=s x:=by
 intro ps;induction ps with
 |nil=>intros;rfl
 |cons p ps ih=>
  intro s x h ao;have e:=LG (s:=s) (p:=p) h (ao p (by simp));show dH (bZ.take s p) ps x=s x;rw[ih (by rw[e];exact h) (λb0 c_=>ao b0 (by simp[c_])),e]
theorem qt {d:I} (h:d.own=true):d.plain=false/\d.tree=true/\d.cj= .hole/\d.one=true/\d.wd=1/\(∀v,cO d v↔Value.eZ v=true):=by
 cases d<;>simp[I.own]at h<;>exact⟨rfl,rfl,rfl,rfl,rfl,λv=>Iff.rfl⟩
theorem LH:∀(ps:List bZ) (vs:Xw) (s:ah) (S:Nat->Nat->Prop),bg w0 F0 X F S s aq w->ps.length=vs.length->
  (∀(i:Nat) (p:bZ) (v:Value),ps[i]? =some p->vs[i]? =some v->p.a.plain=true/\aA w F s aq p.a v (λ_=>False)/\(p.g=true->p.ok s))->gR ps=true->
  ∃(Sn S1:Nat->Nat->Prop),bg w0 F0 X F S1 (dH s ps) aq w/\(∀u b,S1 u b->S u b)/\
   (∀(i:Nat) (p:bZ) (v:Value),ps[i]? =some p->vs[i]? =some v->p.g=true->LF w F (dH s ps) aq p v (Sn i))/\
   (∀i b,Sn i b->∃p,ps[i]? =some p/\p.g=true)/\
   (∀i b,Sn i b->∃u,S u b)/\(∀i u b,Sn i b->¬S1 u b)/\(∀i j b,i≠j->Sn i b->¬Sn j b)/\
   (∀(a7:I) (eI:Value) (aF:Nat->Prop),(∀p∈ps,p.g=true->∀u∈p.a.aa,u∉a7.aa)->aA w F s aq a7 eI aF->aA w F (dH s ps) aq a7 eI aF):=by
 intro ps;induction ps with
 |nil=>
  intro vs s S h hl _ _;exact⟨λ_ _=>False,S,h,λ_ _ h=>h,λi p v ao=>by simp at ao,λ_ _ h=>h.elim,λ_ _ h=>h.elim,λ_ _ _ h=>h.elim,λ_ _ _ _ h=>h.elim,λ_ _ _ _ h=>h⟩
 |cons p ps ih=>
  intro vs s S h hl tL iE;cases vs with
  |nil=>simp at hl
  |cons v vs=>
   simp only[length_cons,Nat.add_right_cancel_iff]at hl;simp only[gR,Bool.and_eq_true,List.all_eq_true,Bool.or_eq_true,Bool.not_eq_true']at iE;obtain⟨mI,lX⟩:=iE;have rT:∀b0∈ps,(p.g=true\/b0.g=true)->∀u∈p.a.aa,u∉b0.a.aa:=by
    intro b0 c_ bf u hu;rcases mI b0 c_ with e|e
    .rcases bf with bf|bf<;>simp[bf]at e
    .simpa using e u hu
   obtain⟨f1,f2,f3⟩:=tL 0 p v rfl rfl;cases bf:p.g with
   |false=>
    have fb:bZ.take s p=s:=by simp[bZ.take,bf]
    obtain⟨Sn,S1,aO,a3,bJ,cN,dD,gp,gW,jS⟩:=ih vs s S h hl (λi b0 eI ao aD=>tL (i+1) b0 eI (by simpa using ao) (by simpa using aD)) lX;have aM:dH s (p::ps)=dH s ps:=by show dH (bZ.take s p) ps=_;rw[fb]
    rw[aM];refine⟨λi=>match i with|0=>λ_=>False|i+1=>Sn i,S1,aO,a3,?_,?_,?_,?_,?_,λa7 eI aF af=>jS a7 eI aF λb0 c_=>af b0 (by simp[c_])⟩
    .intro i b0 eI ao aD ga;cases i with
     |zero=>simp at ao;subst ao;rw[bf]at ga;cases ga
     |succ i=>exact bJ i b0 eI (by simpa using ao) (by simpa using aD) ga
    .intro i b U;cases i with
     |zero=>exact U.elim
     |succ i=>simpa using cN i b U
    .intro i b U;cases i with
     |zero=>exact U.elim
     |succ i=>exact dD i b U
    .intro i u b U;cases i with
     |zero=>exact U.elim
     |succ i=>exact gp i u b U
    .intro i j b c4 aE b6;cases i with
     |zero=>exact aE.elim
     |succ i=>
      cases j with
      |zero=>exact b6.elim
      |succ j=>exact gW i j b (by omega) aE b6
   |true=>
    have ey:=f3 bf;simp only[bZ.ok,bf,if_true]at ey;split at ey
    .rename_i x q bQ;obtain⟨dK,zN,p6⟩:=ey;obtain⟨jA,hM,kS⟩:=ot zN;have rU:b9 s p.a=some (p.d,cl (ft x s) x (I.put q p.d.cj (s x))):=by
      rw[bQ];simp only[b9,dK,jA];rfl
     obtain⟨S1,t1,t2,t3,LI,t4,t5,t6,t7,t8,t9,t10,t11⟩:=mw h f1 f2 rU;have fb:bZ.take s p=cl (ft x s) x (I.put q p.d.cj (s x)):=by simp[bZ.take,bf,bQ]
     have nv:∀b0∈ps,x∉b0.a.aa:=λb0 c_=>rT b0 c_ (.inl bf) x (by rw[bQ];simp[I.aa]);have zO:bZ.take s p x=I.put q p.d.cj (s x):=by rw[fb,kG]
     have wh:(bZ.take s p x).aa=[]:=by
      rw[zO];exact rR q _ _ _ dK (.inl jA) (λ_=>by cases af:p.d<;>first|rfl|(rw[af]at zN;simp[I.eW]at zN))
     obtain⟨Sn,S2,aO,a3,bJ,cN,dD,gp,gW,jS⟩:=ih vs (bZ.take s p) S1 (by rw[fb];exact t1) hl (by
      intro i b0 eI ao aD;obtain⟨bM,b1,cZ⟩:=tL (i+1) b0 eI (by simpa using ao) (by simpa using aD);have hm:b0∈ps:=mem_of_getElem? ao;refine⟨bM,?_,?_⟩
      .have:=t11 _ _ _ b1;rw[bQ]at this;rw[fb];simp only[I.owner,iP]at this
       rwa [tR _ (nv b0 hm)]at this
      .intro ga;have:=cZ ga;simp only[bZ.ok,ga,if_true]at this⊢;split at this
       .rename_i y hI qu;have c4:y≠x:=λe=>nv b0 hm (by rw[qu,e];simp[I.aa]);rw[fb,hg _ _ c4];have aN:=gl this.1 (.inl (ot this.2.1).1);simp only[ft,yY aN];exact this
       .exact this.elim) lX
     have aM:dH s (p::ps)=dH (bZ.take s p) ps:=rfl;have pk:dH (bZ.take s p) ps x=I.put q p.d.cj (s x):=by
      rw[zM wh (λb0 c_ _=>nv b0 c_),zO]
     rw[aM];refine⟨λi=>match i with|0=>LI|i+1=>Sn i,S2,aO,λu b U=>t9 u b (a3 u b U),?_,?_,?_,?_,?_,?_⟩
     rotate_left 5
     .intro a7 eI aF af g9;refine jS a7 eI aF (λb0 c_=>af b0 (by simp[c_])) ?_;have:=t11 _ _ _ g9;rw[bQ]at this;rw[fb];simp only[I.owner,iP]at this
      rwa [tR _ (af p (by simp) bf x (by rw[bQ];simp[I.aa]))]at this
     .intro i b0 eI ao aD ga;cases i with
      |zero=>
       simp at ao aD;subst ao aD;have wi:=f2;rw[bQ,aA]at wi;obtain⟨b4,J,bx,bE,EI⟩:=wi _ dK jA;refine⟨x,q,J,bQ,?_,?_,?_,?_,?_,t3,t4⟩
       .rw[pk];exact EH q _ _ _ dK
       .rw[pk,bE];exact LB w q _ _ _ _ _ _ _ dK (I.o6 _) bx
       .rw[pk,<-zO];exact wh
       .intro cx;subst cx;simp only[I.sub,Option.some.injEq]at dK;have:=(aA.bY (by rw[dK];exact hM)).1 (h.cE x);rw[dK]at this;exact this.1
       .intro cx;have aN:=gl dK (.inl jA);rw[pk];cases q with
        |nil=>exact(cx rfl).elim
        |cons k q=>rcases o7 k q p.d.cj (s x)with⟨ar,gs,aM,e⟩|⟨ar,gs,aM,e⟩|⟨sz,xs,bT,aM,e⟩|⟨y,z,aM,e⟩|e<;>rw[e]<;>first|rfl|exact aN
      |succ i=>exact bJ i b0 eI (by simpa using ao) (by simpa using aD) ga
     .intro i b U;cases i with
      |zero=>exact⟨p,rfl,bf⟩
      |succ i=>simpa using cN i b U
     .intro i b U;cases i with
      |zero=>exact t10 b U
      |succ i=>obtain⟨u,hu⟩:=dD i b U;exact⟨u,t9 u b hu⟩
     .intro i u b U;cases i with
      |zero=>exact λhu=>t7 u b U (a3 u b hu)
      |succ i=>exact gp i u b U
     .intro i j b c4 aE b6;cases i with
      |zero=>
       cases j with
       |zero=>exact c4 rfl
       |succ j=>obtain⟨u,hu⟩:=dD j b b6;exact t7 u b aE hu
      |succ i=>
       cases j with
       |zero=>obtain⟨u,hu⟩:=dD i b aE;exact t7 u b b6 hu
       |succ j=>exact gW i j b (by omega) aE b6
    .exact ey.elim
end
def fz:Xy->Xy->Xy
 |d::ds,.hole::us=>(if d.plain=true then d else .hole)::fz ds us
 |_::ds,u::us=>u::fz ds us
 |_,us=>us
def wj:I->I->I
 | .er _ ds,.er g us=>.er g (fz ds us)
 |_,o=>o
theorem LJ {d o:I} (h:(wj d o).tree=true):o.tree=true:=by
 cases d<;>cases o<;>first|exact h|rfl
theorem EJ {d:I} (h:d.one=true):d.wd=1:=by cases d<;>first|rfl|(simp[I.one]at h)
theorem EK {w az:World} {F jB:Nat->Prop} (a1:∀b,F b->jB b) (hw:∀b,F b->az.heap[b]? =w.heap[b]?):∀(ds us:Xy) (cs:Xw) (S aF:Nat->Prop),(∀d∈ds,d.one=true)->(∀d∈us,d.one=true)->
  aQ w F ds cs S->aQ az jB us cs aF->aQ az jB (fz ds us) cs aF/\∀d∈fz ds us,d.one=true
 |[],us,cs,S,aF,_,ab,_,aB=>by
  have e:fz [] us=us:=by cases us<;>rfl
  rw[e];exact⟨aB,ab⟩
 |d::ds,[],cs,S,aF,_,_,_,aB=>by
  have e:fz (d::ds) []=[]:=rfl;rw[e];exact⟨aB,λd h=>by cases h⟩
 |d::ds,u::us,cs,S,aF,ba,ab,ad,aB=>by
  rw[aQ]at ad aB;obtain⟨bx,bE,S1,S2,aM,ag,a4,gB,pa,rH⟩:=ad;obtain⟨g7,gq,EL,EM,aS,bM,b1,cZ,cF,dL⟩:=aB;have e6:=al.length _ _ _ ag;have l2:=al.length _ _ _ bM;rw[EJ (ba d (by simp))]at e6;rw[EJ (ab u (by simp))]at l2;have aV:bx=g7/\bE=gq:=append_inj (aM.symm.trans aS) (by rw[e6,l2]);obtain⟨rfl,rfl⟩:=aV;obtain⟨dx,br⟩:=EK a1 hw ds us bE S2 EM (λd af=>ba d (by simp[af])) (λd af=>ab d (by simp[af])) a4 b1;have key:∀y:I,al az jB y bx EL->y.one=true->aQ az jB (y::fz ds us) cs aF/\∀d∈y::fz ds us,d.one=true:=by
   intro y a2 zd;rw[aQ];exact⟨⟨bx,bE,EL,EM,aS,a2,dx,cZ,cF,dL⟩,λd af=>by
    rcases mem_cons.1 af with rfl|af
    .exact zd
    .exact br d af⟩
  by_cases hu:u= .hole
  .subst hu;simp only[fz];by_cases ao:d.plain=true
   .rw[if_pos ao];exact key d (al.plain _ _ _ _ ao (al.mono a1 _ _ _ _ (λ_ h=>h) (al.frame hw _ _ (λ_=>False) (λ_ h=>h.elim) (al.plain _ _ _ _ ao ag)))) (ba d (by simp))
   .rw[if_neg ao];exact key .hole bM rfl
  .have e:fz (d::ds) (u::us)=u::fz ds us:=by cases u<;>first|rfl|exact(hu rfl).elim
   rw[e];exact key u bM (ab u (by simp))
theorem LK {w az:World} {F jB:Nat->Prop} {d o:I} {cs:Xw} {S aF:Nat->Prop} (a1:∀b,F b->jB b) (hw:∀b,F b->az.heap[b]? =w.heap[b]?) (ab:al w F d cs S) (ad:al az jB o cs aF):al az jB (wj d o) cs aF:=by
 cases d with
 |er f ds=>
  cases o with
  |er g us=>
   simp only[wj];rw[al]at ab ad⊢;obtain⟨arr,rfl,a4,gB⟩:=ab;obtain⟨We,e,gq,iD⟩:=ad;simp only[cons.injEq,Value.func.injEq,and_true]at e;obtain⟨aM,aS,aV⟩:=e;subst aV;obtain⟨dx,br⟩:=EK a1 hw ds us _ _ _ a4 gq gB iD;exact⟨arr,by simp_all,br,dx⟩
  |_=>exact ad
 |_=>cases o<;>exact ad
def ez (l:Xy):ah:=λi=>l.getD i .hole
def fA (l:Xw):Nat->Value:=λi=>l.getD i undef
def kT (P:Program) (f:FuncId) (args:Array Value) (w:World) (R:Value->World->Prop):Prop:=
 ((callFunc f args).run P w= .ok (.enter f args) w/\Calls P f args w (λe az=>∃v,e= .returned v/\R v az))\/
 ∃v az,(callFunc f args).run P w= .ok (.value v) az/\R v az
theorem kT.mono {P:Program} {f:FuncId} {args:Array Value} {w:World} {R EN:Value->World->Prop} (h:kT P f args w R) (aI:∀v az,R v az->EN v az):kT P f args w EN:=by
 rcases h with⟨ab,ad⟩|⟨v,az,ab,ad⟩
 .exact .inl ⟨ab,Calls.mono ad λe az ⟨v,e,h⟩=>⟨v,e,aI v az h⟩⟩
 .exact .inr ⟨v,az,ab,aI v az ad⟩
def bb (C:bA) (f:FuncId) (as:Xy) (r:I) (outs:Xy):Prop:=
 ∀(w:World) (F X:Nat->Prop) (S:Nat->Nat->Prop) (vs:Xw),vs.length=as.length->bg w F X F S (ez as) (fA vs) w->
  kT C.P f vs.toArray w λv az=>∃bo aF,bg w F X bo aF (ez (r::outs)) (fA (v::vs)) az
def I.res:I->Bool
 | .h _ _=>false
 | .ao _ _=>false
 | .U _ _=>false
 | .fn _ _=>false
 |_=>true
theorem zP {d:I} (h:d.tree=true):d.aa=[]:=by cases d<;>first|rfl|(simp[I.tree]at h)
mutual
theorem zQ {s ax:ah}:∀(a:I) (d:I),(∀u∈a.aa,(s u).tree=true->ax u=s u)->view s a=some d->view ax a=some d
 | .h x q,d,hu,h=>by
   have aN:(s x).tree=true:=by
    simp only[view]at h;split at h
    .rename_i e dK;cases e<;>simp only at h<;>first
      |(cases h;done)
      |(split at h
        .cases h
        .rename_i ao;exact gl dK (.inl (by simpa using ao)))
    .cases h
   simp only[view]at h⊢;rw[hu x (by simp[I.aa]) aN];exact h
 | .ao x q,d,hu,h=>by
   have aN:(s x).tree=true:=by
    simp only[view]at h;split at h
    .rename_i aj;split at h
     .rename_i e dK;exact gl dK (.inr aj)
     .cases h
    .cases h
   simp only[view]at h⊢;rw[hu x (by simp[I.aa]) aN];exact h
 | .U x q,d,hu,h=>by simp[view]at h
 | .fn f cap,d,hu,h=>by
   simp only[view,Option.map_eq_some_iff]at h⊢;obtain⟨ds,ab,ad⟩:=h;exact⟨ds,EO cap ds (by simpa [I.aa]using hu) ab,ad⟩
 | .hole,d,hu,h=>h
 | .bool _,d,hu,h=>h
 | .dR,d,hu,h=>h
 | .int _ _,d,hu,h=>h
 | .str _,d,hu,h=>h
 | .cJ,d,hu,h=>h
 | .a5,d,hu,h=>h
 | .slice _,d,hu,h=>h
 | .aw _ _,d,hu,h=>h
 | .ref _,d,hu,h=>h
 | .bh _,d,hu,h=>h
 | .agg _,d,hu,h=>h
 | .tuple _,d,hu,h=>h
 | .cS _,d,hu,h=>h
 | .er _ _,d,hu,h=>h
theorem EO {s ax:ah}:∀(as:Xy) (ds:Xy),(∀u∈I.cV as,(s u).tree=true->ax u=s u)->views s as=some ds->views ax as=some ds
 |[],ds,hu,h=>h
 |a::as,ds,hu,h=>by
  simp only[I.cV,mem_append]at hu;simp only[views]at h⊢;split at h
  .rename_i x y ab ad;rw[zQ a x (λu hm=>hu u (.inl hm)) ab,EO as y (λu hm=>hu u (.inr hm)) ad];exact h
  .cases h
end
section
variable {C:bA} {w0 w az:World} {F0 X F Fc:Nat->Prop} {S:Nat->Nat->Prop} {s ax:ah} {aq iA:Nat->Value}
def LL (w:World) (F:Nat->Prop) (s:ah) (aq:Nat->Value) (p:bZ) (v:Value) (lY:Nat->Prop):Prop:=
 p.g=true->p.o= .hole\/∃x q J d0,p.a= .h x q/\I.sub q (s x)=some d0/\cu w q (s x) (bL (aq x)) none=some (d0,bL v,J)/\(s x).aa=[]/\
  (q=[]->cO p.o (aq x))/\(q≠[]->(s x).tree=true)/\p.o.eW=true/\al w F p.o (bL v) lY/\p.o.wd=d0.wd/\∀v,gN d0 v->gN p.o v
theorem LM:∀(ps:List bZ) (vs:Xw) (s:ah) (S lY:Nat->Nat->Prop),bg w0 F0 X F S s aq w->ps.length=vs.length->
  (∀(i:Nat) (p:bZ) (v:Value),ps[i]? =some p->vs[i]? =some v->LL w F s aq p v (lY i))->
  (∀i b,lY i b->b<w.heap.size/\¬F b/\(X b\/w0.heap.size<=b)/\∀u,¬S u b)->(∀i j b,i≠j->lY i b->¬lY j b)->gR ps=true->
  ∃S2,bg w0 F0 X F S2 (fP s ps) aq w/\∀u b,S2 u b->S u b\/∃i,lY i b:=by
 intro ps;induction ps with
 |nil=>intro vs s S lY h _ _ _ _ _;exact⟨S,h,λu b U=>.inl U⟩
 |cons p ps ih=>
  intro vs s S lY h hl zR U af iE;cases vs with
  |nil=>simp at hl
  |cons v vs=>
   simp only[length_cons,Nat.add_right_cancel_iff]at hl;simp only[gR,Bool.and_eq_true,List.all_eq_true,Bool.or_eq_true,Bool.not_eq_true']at iE;obtain⟨mI,lX⟩:=iE;have rT:∀b0∈ps,(p.g=true\/b0.g=true)->∀u∈p.a.aa,u∉b0.a.aa:=by
    intro b0 c_ bf u hu;rcases mI b0 c_ with e|e
    .rcases bf with bf|bf<;>simp[bf]at e
    .simpa using e u hu
   have skip:bZ.g8 s p=s->∃S2,bg w0 F0 X F S2 (fP s (p::ps)) aq w/\∀u b,S2 u b->S u b\/∃i,lY i b:=by
    intro fb;obtain⟨S2,aO,a3⟩:=ih vs s S (λi=>lY (i+1)) h hl (λi b0 eI ao aD=>zR (i+1) b0 eI (by simpa using ao) (by simpa using aD)) (λi b h=>U (i+1) b h)
     (λi j b c4=>af (i+1) (j+1) b (by omega)) lX
    refine⟨S2,?_,λu b hu=>(a3 u b hu).imp id λ⟨i,aE⟩=>⟨i+1,aE⟩⟩;show bg _ _ _ _ _ (fP (bZ.g8 s p) ps) _ _;rw[fb];exact aO
   cases bf:p.g with
   |false=>exact skip (by simp[bZ.g8,bf])
   |true=>
    rcases zR 0 p v rfl rfl bf with bG|⟨x,q,J,d0,bQ,bx,bE,EI,mx,ou,fk,zS,hN,zT⟩
    .exact skip (by simp only[bZ.g8,bf,bG,if_true])
    .obtain⟨jA,hM,LN⟩:=ot fk;have fb:bZ.g8 s p=cl (jR x s) x (I.put q p.o (s x)):=by
      simp only[bZ.g8,bf,if_true,bQ];cases LO:p.o<;>first|rfl|(rw[LO]at fk;simp[I.eW]at fk)
     have step:=h.g8 (x:=x) (q:=q) (a7:=p.o) bx bE LN (λcx=>⟨hM,mx cx⟩) (λk r cx=>⟨ou (by rw[cx];simp),zT⟩) hN zS
      (λb h=>(U 0 b h).1) (λb h=>(U 0 b h).2.1) (λu b h=>(U 0 b h).2.2.2 u) (λb h=>(U 0 b h).2.2.1)
     rw[<-fb]at step;obtain⟨S2,aO,a3⟩:=ih vs (bZ.g8 s p) _ (λi=>lY (i+1)) step hl (by
      intro i b0 eI ao aD ga;have hm:b0∈ps:=mem_of_getElem? ao;rcases zR (i+1) b0 eI (by simpa using ao) (by simpa using aD) ga with bG|⟨y,hI,ag,d1,bM,b1,cZ,cF,dL,dj,hk,dp,jW⟩
      .exact .inl bG
      .have c4:y≠x:=λe=>rT b0 hm (.inl bf) x (by rw[bQ];simp[I.aa]) (by rw[bM,e];simp[I.aa]);have k_:bZ.g8 s p y=s y:=by
        rw[fb,hg _ _ c4];exact zz _ (by rw[cF];simp)
       exact .inr ⟨y,hI,ag,d1,bM,by rw[k_];exact b1,by rw[k_];exact cZ,by rw[k_];exact cF,dL,by rw[k_];exact dj,hk,dp,jW⟩)
      (by
       intro i b aE;obtain⟨g7,gq,iD,cy⟩:=U (i+1) b aE;refine⟨g7,gq,iD,λu hu=>?_⟩;simp only[fa]at hu;split at hu
       .rcases hu with hu|hu
        .exact cy _ hu
        .exact af 0 (i+1) b (by omega) hu aE
       .exact cy _ hu)
      (λi j b c4=>af (i+1) (j+1) b (by omega)) lX
     refine⟨S2,aO,λu b hu=>?_⟩;rcases a3 u b hu with hu|⟨i,aE⟩
     .simp only[fa]at hu;split at hu
      .rename_i e;subst e;exact hu.imp id λh=>⟨0,h⟩
      .exact .inl hu
     .exact .inr ⟨i+1,aE⟩
def ie (ps:List bZ):Bool:=ps.any λp=> !p.g&& !p.a.aa.isEmpty
theorem LP (h:bg w0 F0 X F S s aq w) {ps:List bZ} {vs EP:Xw} {os:Xy} {f:FuncId} {r:I} (hl:ps.length=vs.length) (ER:∀(i:Nat) (p:bZ),ps[i]? =some p->∃o,os[i]? =some o/\(p.o=o\/p.o=wj p.d o))
  (g9:∀(i:Nat) (p:bZ) (v:Value),ps[i]? =some p->vs[i]? =some v->p.a.plain=true/\aA w F s aq p.a v (λ_=>False))
  (ey:∀p∈ps,p.ok s) (iE:gR ps=true) (bk:∀(Fc iQ:Nat->Prop) (c6:Nat->Nat->Prop),(∀b,F b->Fc b)->(∀b,iQ b->∃u,S u b)->bg w Fc iQ Fc c6 (ez (ps.map (·.d))) (fA vs) w->
   kT C.P f EP.toArray w λv az=>∃bo aF,bg w Fc iQ bo aF (ez (r::os)) (fA (v::vs)) az) (aI:r.res=true)
  (aU:ie ps=true->r.cr=true/\∀(i:Nat) (p:bZ) (o:I),ps[i]? =some p->os[i]? =some o->p.g=true->o.cr=true):
  kT C.P f EP.toArray w λv az=>∃bo aF,bg w0 F0 X bo aF (fP (dH s ps) ps) aq az/\jc w0 X bo aF (fP (dH s ps) ps) aq az r v/\∀b,F b->bo b/\az.heap[b]? =w.heap[b]? :=by
 obtain⟨Sn,S1,aO,a3,bJ,cN,dD,gp,gW,jS⟩:=LH ps vs s S h hl (λi p v ao aD=>⟨(g9 i p v ao aD).1,(g9 i p v ao aD).2,λ_=>ey p (mem_of_getElem? ao)⟩) iE;have apart:∀(i j:Nat) (p b0:bZ),ps[i]? =some p->ps[j]? =some b0->i≠j->(p.g=true\/b0.g=true)->∀u∈p.a.aa,u∉b0.a.aa:=by
  clear g9 ey bk aU aO bJ cN jS hl ER;induction ps with
  |nil=>intro i j p b0 ao;simp at ao
  |cons fW ps ih=>
   simp only[gR,Bool.and_eq_true,List.all_eq_true,Bool.or_eq_true,Bool.not_eq_true']at iE;obtain⟨mI,lX⟩:=iE;have rT:∀b0∈ps,(fW.g=true\/b0.g=true)->∀u∈fW.a.aa,u∉b0.a.aa:=by
    intro b0 c_ bf u hu;rcases mI b0 c_ with e|e
    .rcases bf with bf|bf<;>simp[bf]at e
    .simpa using e u hu
   intro i j p b0 ao c_ c4 bf u hu;cases i with
   |zero=>
    simp at ao;subst ao;cases j with
    |zero=>exact(c4 rfl).elim
    |succ j=>exact rT b0 (mem_of_getElem? (by simpa using c_)) bf u hu
   |succ i=>
    cases j with
    |zero=>
     simp at c_;subst c_;exact λtT=>rT p (mem_of_getElem? (by simpa using ao)) bf.symm u tT hu
    |succ j=>exact ih lX i j p b0 (by simpa using ao) (by simpa using c_) (by omega) bf u hu
 let Fc:Nat->Prop:=λb=>F b\/(ie ps=true/\∃u,S1 u b)
 let iQ:Nat->Prop:=λb=>∃i,Sn i b
 have wk:∀b,F b->¬iQ b:=λb a1 ⟨i,aE⟩=>by obtain⟨u,hu⟩:=dD i b aE;exact h.eH u b hu a1
 have tU:∀u b,S1 u b->¬iQ b:=λu b hu ⟨i,aE⟩=>gp i u b aE hu;have aZ:∀b,iQ b->(X b\/w0.heap.size<=b)/\b<w.heap.size:=λb ⟨i,aE⟩=>by obtain⟨u,hu⟩:=dD i b aE;exact⟨h.cW u b hu,h.dA u b hu⟩
 have pre:bg w Fc iQ Fc Sn (ez (ps.map (·.d))) (fA vs) w:=by
  refine⟨λ_ h=>h,λ_ h=>.inl h,?_,λi b aE=>(aZ b ⟨i,aE⟩).2,?_,λi j b c4=>gW i j b c4,λi b aE=>.inl ⟨i,aE⟩,?_,λ_ _ _=>rfl,Nat.le_refl _,rfl,rfl,Out.refl _,h.gn.next h.size h.old λb U=>(aZ b U).1⟩
  .rintro b (U|⟨_,u,hu⟩)
   .exact h.eu b U
   .exact aO.dA u b hu
  .rintro i b aE (U|⟨_,u,hu⟩)
   .exact wk b U ⟨i,aE⟩
   .exact gp i u b aE hu
  .intro t;cases ao:ps[t]? with
   |none=>
    have:ez (ps.map (·.d)) t= .hole:=by simp[ez,List.getD,ao]
    rw[this,aA];trivial
   |some p=>
    have c8:t<vs.length:=by rw[<-hl];exact(List.getElem?_eq_some_iff.1 ao).1
    have aD:vs[t]? =some vs[t]:=getElem?_eq_getElem c8;have aM:ez (ps.map (·.d)) t=p.d:=by simp[ez,List.getD,ao]
    have aS:fA vs t=vs[t]:=by simp[fA,List.getD,aD]
    rw[aM,aS];have hm:p∈ps:=mem_of_getElem? ao;have ai:=ey p hm;cases bf:p.g with
    |true=>
     obtain⟨x,q,J,bM,b1,cZ,cF,dL,dj,hk,dp⟩:=bJ t p _ ao aD bf;simp only[bZ.ok,bf,if_true,bM]at ai;exact(aA.bY (ot ai.2.1).2.1).2 ⟨hk,al.mono (λb U=>.inl U) _ _ _ _ (λ_ h=>h) dp⟩
    |false=>
     simp only[bZ.ok,bf]at ai;obtain⟨f1,f2⟩:=g9 t p _ ao aD;have ES:∀b0∈ps,b0.g=true->∀u∈b0.a.aa,u∉p.a.aa:=by
      intro b0 c_ ga u hu;obtain⟨j,b6⟩:=getElem?_of_mem c_;refine apart j t b0 p b6 ao (λe=>?_) (.inl ga) u hu;subst e;rw[ao]at b6;simp only[Option.some.injEq]at b6;rw[b6,ga]at bf;cases bf
     have wi:=jS _ _ _ ES f2;have jX:view (dH s ps) p.a=some p.d:=zQ _ _ (λu hu aN=>zM (zP aN) (λb0 c_ ga tT=>ES b0 c_ ga u tT hu)) (by simpa using ai);refine aA.nothing (LA f1 jX) ((LC aO (Fc:=Fc) (λb U=>.inl U) (SizeOf.sizeOf p.a)).1 p.a _ p.d (Nat.le_refl _) ?_ jX wi);intro u hu b U;refine .inr ⟨?_,u,U⟩;simp only[ie,List.any_eq_true];refine⟨p,hm,?_⟩;cases kH:p.a.aa with
     |nil=>rw[kH]at hu;cases hu
     |cons _ _=>simp[bf]
 refine kT.mono (bk Fc iQ Sn (λb U=>.inl U) (λb ⟨i,aE⟩=>dD i b aE) pre) ?_;rintro v az ⟨bo,aF,aj⟩;have dd:∀b,b<w.heap.size->¬iQ b->az.heap[b]? =w.heap[b]? :=aj.old;let mJ:Nat->Prop:=λb=>if ie ps=true then F b else bo b
 have ET:∀b,F b->bo b:=λb U=>aj.fN b (.inl U);have qv:∀b,F b->mJ b:=λb U=>by
  simp only[mJ];split
  .exact U
  .exact ET b U
 have jB:∀b,mJ b->bo b:=λb U=>by
  simp only[mJ]at U;split at U
  .exact ET b U
  .exact U
 have EU:∀b,mJ b->F b\/iQ b\/w.heap.size<=b:=λb U=>by
  simp only[mJ]at U;split at U
  .exact .inl U
  .rename_i pd;rcases aj.gm b U with(U|⟨ab,_⟩)|U|U
   .exact .inl U
   .exact(pd ab).elim
   .exact .inr (.inl U)
   .exact .inr (.inr U)
 have mid:bg w0 F0 X mJ S1 (dH s ps) aq az:=by
  refine⟨λb U=>qv b (aO.fN b U),?_,λb U=>aj.eu b (jB b U),λt b U=>Nat.lt_of_lt_of_le (aO.dA t b U) aj.size,?_,aO.ej,aO.cW,?_,?_,Nat.le_trans aO.size aj.size,aj.os.trans aO.os,aj.tape.trans aO.tape,aj.output.trans aO.output,aO.gn⟩
  .intro b U;rcases EU b U with U|U|U
   .exact aO.gm b U
   .rcases(aZ b U).1 with h|h
    .exact .inr (.inl h)
    .exact .inr (.inr h)
   .exact .inr (.inr (Nat.le_trans aO.size U))
  .intro t b aN U;rcases EU b U with U|U|U
   .exact aO.eH t b aN U
   .exact tU t b aN U
   .exact absurd (aO.dA t b aN) (by omega)
  .intro t;exact aA.frame (Sx:=S1) (λb U=>dd b (h.eu b U) (wk b U)) qv (λx b U=>dd b (aO.dA x b U) (tU x b U)) aO.cE _ _ _ (λb U=>dd b (aO.dA t b U) (tU t b U)) (aO.cE t)
  .intro b U iB;refine(dd b (Nat.lt_of_lt_of_le U aO.size) λan=>?_).trans (aO.old b U iB);rcases(aZ b an).1 with h|h
   .exact iB h
   .omega
 have EV:∀(d:I) (cs:Xw) (cW:Nat->Prop),(ie ps=true->d.cr=true)->al az bo d cs cW->al az mJ d cs cW:=by
  intro d cs cW zt e7;by_cases hle:ie ps=true
  .exact al.cr d cs cW (zt hle) e7
  .exact al.mono (λb U=>by simp only[mJ];rw[if_neg hle];exact U) _ _ _ _ (λ_ h=>h) e7
 have bound:∀i b,aF i b->b<az.heap.size/\¬mJ b/\(X b\/w0.heap.size<=b)/\∀u,¬S1 u b:=by
  intro i b U;refine⟨aj.dA i b U,λa1=>aj.eH i b U (jB b a1),?_,λu hu=>?_⟩
  .rcases aj.cW i b U with an|an
   .exact(aZ b an).1
   .exact .inr (Nat.le_trans aO.size an)
  .rcases aj.cW i b U with an|an
   .exact tU u b hu an
   .exact absurd (aO.dA u b hu) (by omega)
 obtain⟨S2,bM,b1⟩:=LM ps vs (dH s ps) S1 (λi=>aF (i+1)) mid hl (by
  intro i p eI ao aD bf;have hm:p∈ps:=mem_of_getElem? ao;have ai:=ey p hm;obtain⟨x,q,J,aM,aS,aV,bK,cn,bB,bt,fy⟩:=bJ i p eI ao aD bf;simp only[bZ.ok,bf,if_true,aM]at ai;rcases ai.2.2 with bG|bG
  .exact .inl bG
  .obtain⟨e6,l2,zU⟩:=LD ai.2.1 bG.1 bG.2;refine .inr ⟨x,q,J,p.d.cj,aM,aS,?_,bK,λcx=>l2 _ (cn cx),bB,bG.1,?_,e6.trans (I.o6 _).symm,zU⟩
   .cases q with
    |nil=>simpa only[cu]using aV
    |cons k q=>
     have aN:=bB (by simp);rw[vF (k::q) _ _ (S1 x) none _ ((aA.bY aN).1 (aO.cE x)).2 aS (λb U=>dd b (aO.dA x b U) (tU x b U))];exact aV
   .have:=aj.cE (i+1);obtain⟨o,jA,hM⟩:=ER i p ao;have h2:ez (r::os) (i+1)=o:=by simp[ez,List.getD,jA]
    have jw:fA (v::vs) (i+1)=eI:=by simp[fA,List.getD,aD]
    rw[h2,jw]at this;have LQ:o.tree=true:=by
     rcases hM with e|e
     .rw[<-e];exact(ot bG.1).2.1
     .exact LJ (d:=p.d) (by rw[<-e];exact(ot bG.1).2.1)
    have ab:=EV _ _ _ (λhle=>(aU hle).2 i p o ao jA bf) ((aA.bY LQ).1 this).2;rcases hM with e|e
    .rw[e];exact ab
    .rw[e];exact LK qv (λb U=>dd b (h.eu b U) (wk b U)) fy ab)
  (λi b U=>bound (i+1) b U) (λi j b c4=>aj.ej (i+1) (j+1) b (by omega)) iE
 refine⟨mJ,S2,bM,?_,λb U=>⟨qv b U,dd b (h.eu b U) (wk b U)⟩⟩;have ba:=aj.cE 0;have h2:ez (r::os) 0=r:=rfl;have jw:fA (v::vs) 0=v:=rfl;rw[h2,jw]at ba;cases aN:r.tree with
 |false=>
  cases r<;>first
   |(simp[I.tree]at aN;done)
   |(simp[I.res]at aI;done)
   |exact .inl ⟨rfl,by rw[aA];trivial⟩
 |true=>
  obtain⟨s1,s2⟩:=(aA.bY aN).1 ba;have qs:=EV _ _ _ (λhle=>(aU hle).1) s2;refine .inr ⟨aN,s1,aF 0,qs,λb U=>(bound 0 b U).1,λb U=>(bound 0 b U).2.1,λu b U hu=>?_,λb U=>(bound 0 b U).2.2.1⟩;rcases b1 u b hu with hu|⟨i,aE⟩
  .exact(bound 0 b U).2.2.2 u hu
  .exact aj.ej 0 (i+1) b (by omega) U aE
theorem EW (h:bg w0 F0 X F S s aq w) {ps:List bZ} {vs:Xw} {f:FuncId} {r:I} (hl:ps.length=vs.length)
  (g9:∀(i:Nat) (p:bZ) (v:Value),ps[i]? =some p->vs[i]? =some v->p.a.plain=true/\aA w F s aq p.a v (λ_=>False))
  (ey:∀p∈ps,p.ok s) (iE:gR ps=true) (bk:∀(Fc iQ:Nat->Prop) (c6:Nat->Nat->Prop),(∀b,F b->Fc b)->(∀b,iQ b->∃u,S u b)->bg w Fc iQ Fc c6 (ez (ps.map (·.d))) (fA vs) w->
   kT C.P f vs.toArray w λv az=>∃bo aF,bg w Fc iQ bo aF (ez (r::ps.map (·.o))) (fA (v::vs)) az) (aI:r.res=true)
  (aU:ie ps=true->r.cr=true/\∀p∈ps,p.o.cr=true):
  kT C.P f vs.toArray w λv az=>∃bo aF,bg w0 F0 X bo aF (fP (dH s ps) ps) aq az/\jc w0 X bo aF (fP (dH s ps) ps) aq az r v/\∀b,F b->bo b/\az.heap[b]? =w.heap[b]? :=
 LP h hl (λi p ao=>⟨p.o,by simp[ao],.inl rfl⟩) g9 ey iE bk aI λhle=>⟨(aU hle).1,λi p o ao bG _=>by
  rw[getElem?_map,ao]at bG;have:=Option.some.inj bG;subst this;exact(aU hle).2 p (mem_of_getElem? ao)⟩
theorem LR (h:bg w0 F0 X F S s aq w) {ps:List bZ} {vs:Xw} {f:FuncId} {r:I} (hl:ps.length=vs.length)
  (g9:∀(i:Nat) (p:bZ) (v:Value),ps[i]? =some p->vs[i]? =some v->p.a.plain=true/\aA w F s aq p.a v (λ_=>False))
  (ey:∀p∈ps,p.ok s) (iE:gR ps=true) (bk:bb C f (ps.map (·.d)) r (ps.map (·.o))) (aI:r.res=true)
  (aU:ie ps=true->r.cr=true/\∀p∈ps,p.o.cr=true):
  kT C.P f vs.toArray w λv az=>∃bo aF,bg w0 F0 X bo aF (fP (dH s ps) ps) aq az/\jc w0 X bo aF (fP (dH s ps) ps) aq az r v/\∀b,F b->bo b/\az.heap[b]? =w.heap[b]? :=
 EW h hl g9 ey iE (λFc iQ c6 _ _ ao=>bk w Fc iQ c6 vs (by simp[hl]) ao) aI aU
end
structure bW where
 dst:Option Nat
 a9:cU
 guard:Option (Nat×Bool)
def tV (ops:Array Oper):Option (Nat×Bool)->Option (Option (Nat×Bool))
 |none=>some none
 |some (j,b)=>match(ops[j]?).bind (·.dst)with
  |some t=>some (some (t,b))
  |none=>none
structure Fr where
 n:Nat
 fx:Xt
def jZ (n:Fr):Option Nat->Bool
 |none=>true
 |some t=>decide (t<n.n)&& !n.fx.contains t
def pn (op:Op):cU:=match cp op with
 |some a9=>a9
 |none=>.bad
def nw (n:Fr) (ops:Array Oper) (o:Oper):Option bW:=
 if jZ n o.dst=true then match tV ops o.guard with
  |some g=>some ⟨o.dst,pn o.op,g⟩
  |none=>none
 else none
def nx (n:Fr) (ops:Array Oper):List Oper->Option (List bW)
 |[]=>some []
 |o::os=>match nw n ops o,nx n ops os with
  |some r,some rs=>some (r::rs)
  |_,_=>none
def zV (C:bA) (s:ah) (f:aX) (args:List aX) (K:I->ah->Prop):Prop:=
 ∃(g:FuncId) (caps:Xy) (ps:List bZ) (r:I),a6 s f= .fn g caps/\I.dz caps=true/\ps.map (·.a)=args.map (a6 s)++caps/\(∀p∈ps,p.ok s)/\gR ps=true/\
   bb C g (ps.map (·.d)) r (ps.map (·.o))/\r.res=true/\(ie ps=true->r.cr=true/\∀p∈ps,p.o.cr=true)/\K r (fP (dH s ps) ps)
mutual
def I.ed (s:ah):I->Bool
 | .h x q=>q.isEmpty&&(s x).own
 | .U x _=> !(s x).plain
 | .ao _ _=>false
 | .hole=>true
 | .fn _ cap=>I.lZ s cap
 |d=>d.plain
def I.lZ (s:ah):Xy->Bool
 |[]=>true
 |d::ds=>d.ed s&&I.lZ s ds
end
def kU (s:ah):Xx->ah
 |[]=>s
 |p::L=>kU (cl s p.1 p.2) L
def jC (s:ah):Xx->Bool
 |[]=>true
 |p::L=>p.2.ed s&&jC s L
def hD (s:ah) (us:Xt):Xx:=us.map λu=>(u,s u)
def l0 (C:bA) (s:ah) (a9:cU) (K:I->ah->Prop):Prop:=
 match a9 with
 | .call f args=>∃(g:FuncId) (caps:Xy) (ps:List bZ) (r:I),a6 s f= .fn g caps/\I.dz caps=true/\ps.map (·.a)=args.map (a6 s)++caps/\(∀p∈ps,p.ok s)/\gR ps=true/\
   bb C g (ps.map (·.d)) r (ps.map (·.o))/\r.res=true/\(ie ps=true->r.cr=true/\∀p∈ps,p.o.cr=true)/\K r (fP (dH s ps) ps)
 | .shr a9=>∃av s1,bp C s a9=some (av,s1)/\av.tree=true/\(∀vs,av≠.tuple vs)/\K av.share s1
 | .jy f args us=>jC s (hD s us)=true/\zV C s f args λav s1=>jC s1 (hD s us)=true/\K av (kU s1 (hD s us))
 |a9=>∃av s1,bp C s a9=some (av,s1)/\K av s1
theorem wm {C:bA} {s:ah} {a9:cU} {K cA:I->ah->Prop} (h:l0 C s a9 K) (ai:∀av s,K av s->cA av s):l0 C s a9 cA:=by
 cases a9 with
 |call f args=>
  obtain⟨g,caps,ps,r,ab,fl,ad,aB,aY,bn,cb,cc,ea⟩:=h;exact⟨g,caps,ps,r,ab,fl,ad,aB,aY,bn,cb,cc,ai _ _ ea⟩
 |shr a9=>
  obtain⟨av,s1,ab,ad,aB,aY⟩:=h;exact⟨av,s1,ab,ad,aB,ai _ _ aY⟩
 |jy f args us=>
  obtain⟨b1,g,caps,ps,r,ab,fl,ad,aB,aY,bn,cb,cc,ea,hH⟩:=h;exact⟨b1,g,caps,ps,r,ab,fl,ad,aB,aY,bn,cb,cc,ea,ai _ _ hH⟩
 |_=>
  obtain⟨av,s1,ab,ad⟩:=h;exact⟨av,s1,ab,ai _ _ ad⟩
def j0 (C:bA) (s:ah) (o:bW) (K:ah->Prop):Prop:=
 match o.guard with
 |none=>l0 C s o.a9 λav s1=>K (fin s1 o.dst av)
 |some (t,b)=>match s t with
  | .bool eh=>if eh=b then l0 C s o.a9 (λav s1=>K (fin s1 o.dst av))else K (fin s o.dst (.tuple []))
  | .tuple []=>K (fin s o.dst (.tuple []))
  |_=>False
def jD (C:bA) (s:ah):List bW->(ah->Prop)->Prop
 |[],K=>K s
 |o::os,K=>j0 C s o λs1=>jD C s1 os K
def ig (C:bA) (ros:List bW) (s:ah):Xt->(ah->Prop)->Prop
 |[],K=>K s
 |i::l,K=>match ros[i]? with
  |none=>ig C ros s l K
  |some o=>j0 C s o λs1=>ig C ros s1 l K
theorem LS (C:bA) (K:ah->Prop):∀(rs pre:List bW) (s:ah),jD C s rs K->ig C (pre++rs) s ((range rs.length).map (·+pre.length)) K:=by
 intro rs;induction rs with
 |nil=>intro pre s h;exact h
 |cons r rs ih=>
  intro pre s h;rw[length_cons,range_succ_eq_map,map_cons,List.map_map];simp only[ig,Nat.zero_add];rw[getElem?_append_right (Nat.le_refl _)];simp only[Nat.sub_self,getElem?_cons_zero];have key:∀s1,jD C s1 rs K->ig C (pre++r::rs) s1 ((range rs.length).map ((λx=>x+pre.length)∘succ)) K:=by
   intro s1 ab;have:=ih (pre++[r]) s1 ab;simp only[append_assoc,singleton_append,length_append,length_singleton]at this;have e:((λx=>x+pre.length)∘succ)=λx=>x+(pre.length+1):=by funext x;simp;omega
   rw[e];exact this
  simp only[jD]at h;unfold j0 at h⊢;split
  .rename_i bf;rw[bf]at h;exact wm h λav s1=>key _
  .rename_i t b bf;rw[bf]at h;simp only at h;split
   .rename_i eh aa;rw[aa]at h;simp only at h;split
    .rename_i U;rw[if_pos U]at h;exact wm h λav s1=>key _
    .rename_i U;rw[if_neg U]at h;exact key _ h
   .rename_i aa;rw[aa]at h;exact key _ h
   .rename_i ab ad;split at h
    .exact ab _ (by assumption)
    .exact ad (by assumption)
    .exact h
structure Rel (w0:World) (F0 X:Nat->Prop) (n:Fr) (ρ:Nat->Value) (s:ah) (a:Act) (w:World):Prop where
 defers:a.defers=[]
 size:a.tmps.size=n.n
 fixed:∀i∈n.fx,a.tmps.getD i undef=ρ i
 rel:∃F S,bg w0 F0 X F S s (λt=>a.tmps.getD t undef) w
section
variable {C:bA} {w0 w:World} {F0 X:Nat->Prop} {n:Fr} {ρ:Nat->Value} {s s1:ah} {a:Act} {av:I} {Q:Exit->Act->World->Prop}
theorem wo {dst:Option Nat} (v:Value) (aa:a.tmps.size=n.n) (af:jZ n dst=true):
  (λt=>(a.put dst v).tmps.getD t undef)=jd (λt=>a.tmps.getD t undef) dst v/\(a.put dst v).tmps.size=n.n/\(a.put dst v).defers=a.defers:=by
 cases dst with
 |none=>exact⟨rfl,aa,rfl⟩
 |some d=>
  simp only[jZ,Bool.and_eq_true,decide_eq_true_eq]at af;refine⟨?_,by simp[Act.put,aa],rfl⟩;funext t;simp only[Act.put,jd,cl,Array.getD_eq_getD_getElem?];by_cases h:t=d
  .subst h;rw[if_pos rfl,Array.getElem?_setIfInBounds_self_of_lt (by omega)];rfl
  .rw[if_neg h,Array.getElem?_setIfInBounds_ne (λe=>h e.symm)]
theorem Rel.put {F S} (af:a.defers=[]) (aa:a.tmps.size=n.n) (bk:∀i∈n.fx,a.tmps.getD i undef=ρ i) {az:World} (aI:bg w0 F0 X F S s (λt=>a.tmps.getD t undef) az) {v:Value} (aD:jc w0 X F S s (λt=>a.tmps.getD t undef) az av v)
  {dst:Option Nat} (ey:jZ n dst=true):Rel w0 F0 X n ρ (fin s dst av) (a.put dst v) az:=by
 obtain⟨aM,aS,aV⟩:=wo (n:=n) (dst:=dst) v aa ey;obtain⟨aF,bj⟩:=aI.fin aD dst;refine⟨aV.trans af,aS,λi aE=>?_,F,aF,by rw[aM];exact bj⟩;rw[congrFun aM i];cases dst with
 |none=>exact bk i aE
 |some d=>
  simp only[jZ,Bool.and_eq_true,Bool.not_eq_true',contains_eq_mem,decide_eq_false_iff_not]at ey;have c4:i≠d:=λe=>ey.2 (by rw[<-e];exact aE);simp only[jd];rw[hg _ _ c4];exact bk i aE
theorem Rel.skip (h:Rel w0 F0 X n ρ s a w) {dst:Option Nat} (ey:jZ n dst=true):Rel w0 F0 X n ρ (fin s dst (.tuple [])) (a.put dst undef) w:=by
 obtain⟨af,aa,bk,F,S,aI⟩:=h;refine Rel.put (av:=.tuple []) af aa bk aI (.inl ⟨rfl,(aA.bY (d:=.tuple []) rfl).2 ⟨?_,?_⟩⟩) ey
 .exact⟨#[],rfl,rfl,λk d x ai=>by simp at ai⟩
 .rw[al,aQ];rfl
theorem EX {F:Nat->Prop} {aq:Nat->Value} {w:World}:∀{ds es:Xy} {vs us:Xw},c5 w F s aq ds vs->c5 w F s aq es us->c5 w F s aq (ds++es) (vs++us):=by
 intro ds;induction ds with
 |nil=>intro es vs us ab ad;rw[c5]at ab;subst ab;exact ad
 |cons d ds ih=>
  intro es vs us ab ad;rw[c5]at ab;obtain⟨v,hX,rfl,aO,a3⟩:=ab;rw[cons_append,cons_append,c5];exact⟨v,_,rfl,aO,ih a3 ad⟩
theorem EY {F:Nat->Prop} {aq:Nat->Value} {w:World}:∀{ds:Xy} {vs:Xw},c5 w F s aq ds vs->ds.length=vs.length/\∀(i:Nat) (d:I) (v:Value),ds[i]? =some d->vs[i]? =some v->aA w F s aq d v (λ_=>False):=by
 intro ds;induction ds with
 |nil=>intro vs h;rw[c5]at h;subst h;exact⟨rfl,λi d v h=>by simp at h⟩
 |cons d ds ih=>
  intro vs h;rw[c5]at h;obtain⟨v,hX,rfl,aO,a3⟩:=h;obtain⟨bM,b1⟩:=ih a3;refine⟨by simp[bM],λi a7 eI af aD=>?_⟩;cases i with
  |zero=>simp at af aD;subst af aD;exact aO
  |succ i=>exact b1 i a7 eI (by simpa using af) (by simpa using aD)
theorem po {op:Op} {a9:cU} (h:pn op=a9):a9= .bad\/cp op=some a9:=by
 unfold pn at h;split at h
 .subst h;right;assumption
 .exact .inl h.symm
theorem LU {op:Op} {a9:cU}:cp op≠some (.shr a9):=by
 intro h;unfold cp at h;split at h<;>(try split at h)<;>(try split at h)<;>(try split at h)<;>(try simp[Option.map_eq_some_iff]at h)
theorem LV {op:Op} {f:aX} {args:List aX} {us:Xt}:cp op≠some (.jy f args us):=by
 intro h;unfold cp at h;split at h<;>(try split at h)<;>(try split at h)<;>(try split at h)<;>(try simp[Option.map_eq_some_iff]at h)
theorem LW {op:Op} {T:TypeId} {x:aX}:cp op≠some (.h0 T x):=by
 intro h;unfold cp at h;split at h<;>(try split at h)<;>(try split at h)<;>(try split at h)<;>(try simp[Option.map_eq_some_iff]at h)
theorem LX {op:Op} {T bC:TypeId} {x y:aX}:cp op≠some (.hJ T bC x y):=by
 intro h;unfold cp at h;split at h<;>(try split at h)<;>(try split at h)<;>(try split at h)<;>(try simp[Option.map_eq_some_iff]at h)
theorem LY {op:Op} {T bC:TypeId} {x y:aX} (h:cp op=some (.app T bC x y)):∃a b,op= .call ⟨.builtin .append,#[a,b],#[T,bC]⟩/\cD a=some x/\cD b=some y:=by
 cases op with
 |call c=>
  obtain⟨callee,args,argTypes⟩:=c;simp only[cp]at h;split at h
  .split at h<;>simp at h
  .split at h<;>simp at h
  .split at h<;>simp at h
  ·(split at h<;>try split at h)<;>simp at h
  ·(split at h<;>try split at h)<;>simp at h
  .split at h
   .rename_i a b zW wg kQ qo;split at h
    .rename_i cf jb an a2;simp only[Option.some.injEq,cU.app.injEq]at h;obtain⟨rfl,rfl,rfl,rfl⟩:=h;refine⟨a,b,?_,an,a2⟩;have aM:args= #[a,b]:=by apply Array.ext';exact kQ
     have aS:argTypes= #[zW,wg]:=by apply Array.ext';exact qo
     subst aM aS;rfl
    .cases h
   .cases h
  .cases h
 |makeFunc fn first cs=>
  cases fn<;>simp only[cp]at h<;>first|(cases h;done)|(split at h<;>simp at h)
 |slice T x c9 aE fL=>
  cases fL<;>simp only[cp]at h<;>first|(cases h;done)|(split at h<;>simp at h)
 |makeMap T r=>cases r<;>simp only[cp]at h<;>simp at h
 |lookup T x i c=>cases c<;>simp only[cp]at h<;>first|(cases h;done)|(split at h<;>simp at h)
 |_=>simp only[cp]at h<;>first|(cases h;done)|(simp at h;done)|(split at h<;>simp at h)
theorem bg.alias {F:Nat->Prop} {S:Nat->Nat->Prop} {aq:Nat->Value} {u x:Nat} (h:bg w0 F0 X F S s aq w) (hu:s u= .hole) (an:(s x).own=true) (aD:bL (aq u)=bL (aq x)) (ab:Value.eZ (aq u)=true):
  bg w0 F0 X F (fa S u (λ_=>False)) (cl s u (.h x [])) aq w:=by
 have cX:cl aq u (aq u)=aq:=by funext y;simp only[cl];split<;>simp_all
 have:=h.tj (t:=u) (d:=.h x []) (v:=aq u) rfl (by
  rw[aA];intro d af ao;simp only[I.sub,Option.some.injEq]at af;subst af;exact⟨bL (aq x),none,rfl,aD,((qt an).2.2.2.2.2 _).2 ab⟩)
 rwa [cX]at this
theorem jc.less {F:Nat->Prop} {S aF:Nat->Nat->Prop} {aq:Nat->Value} {s1:ah} {v:Value} (bm:∀u b,aF u b->S u b) (aI:av.res=true) (h:jc w0 X F S s aq w av v):jc w0 X F aF s1 aq w av v:=by
 rcases h with⟨ab,ad⟩|⟨ab,ad,Sn,aB,aY,bn,cb,cc⟩
 .refine .inl ⟨ab,?_⟩;cases av<;>first
   |(simp[I.res]at aI;done)
   |(rw[aA];trivial)
   |(rw[aA]at ad⊢;exact ad)
 .exact .inr ⟨ab,ad,Sn,aB,aY,bn,λu b U hu=>cb u b U (bm u b hu),cc⟩
theorem EZ (a0:C.dm) (h:Rel w0 F0 X n ρ s a w) {o:Oper} {f:aX} {args:List aX} (bX:cp o.op=some (.call f args)) (af:jZ n o.dst=true) {K:I->ah->Prop} {L:ah->Prop} {next:Act->World->Prop}
  (hw:zV C s f args K) (qw:∀F S bo aF w az av s1 v,bg w0 F0 X F S s (λt=>a.tmps.getD t undef) w->K av s1->av.res=true->bg w0 F0 X bo aF s1 (λt=>a.tmps.getD t undef) az->jc w0 X bo aF s1 (λt=>a.tmps.getD t undef) az av v->(∀b,F b->bo b/\az.heap[b]? =w.heap[b]?)->
   ∃s2 S2,L (fin s2 o.dst av)/\bg w0 F0 X bo S2 s2 (λt=>a.tmps.getD t undef) az/\jc w0 X bo S2 s2 (λt=>a.tmps.getD t undef) az av v)
  (aU:∀ax b7 az,L ax->Rel w0 F0 X n ρ ax b7 az->next b7 az):o.wp C.P a w next Q:=by
 have j1:=h;obtain⟨ij,cK,g0,F,S,aI⟩:=h;obtain⟨g,caps,ps,r,ab,fl,ad,aB,aY,bn,cb,cc,ea⟩:=hw;obtain⟨dst,op,ty,pos,after,guard⟩:=o;simp only at bX af qw;cases op with
 |call c=>
  obtain⟨callee,mK,argTypes⟩:=c;simp only[cp]at bX;split at bX
  .split at bX
   .rename_i tW _ _ LZ xs bk nv;simp only[Option.some.injEq,cU.call.injEq]at bX;obtain⟨rfl,rfl⟩:=bX;obtain⟨f1,f2⟩:=dU aI (λ_=>rfl) bk;rw[ab,aA]at f2;obtain⟨arr,f3,f4⟩:=f2;have qx:execOp a.eval {dst,op:=.call {callee:=.value tW,args:=mK,argTypes},type:=ty,pos,after,guard}=callFunc g ((mK.toList.map a.eval++arr.toList).toArray):=by
     have:a.eval tW= .func (.func g) #[] arr:=f3;simp only[execOp,resolve,this,Deferred.ofValue,pure_bind,invoke];congr 1;apply Array.ext';simp
    unfold Oper.wp;rw[qx];have tX:c5 w F s (λt=>a.tmps.getD t undef) (xs.map (a6 s)++caps) (mK.toList.map a.eval++arr.toList):=EX (v_ aI (λ_=>rfl) _ _ (qm nv)) f4;rw[<-ad]at tX;obtain⟨e6,l2⟩:=EY tX;have fO:∀d∈xs.map (a6 s)++caps,d.plain=true:=by
     intro d af;rcases mem_append.1 af with af|af
     .obtain⟨x,an,rfl⟩:=mem_map.1 af;exact Dx s x λav e=>by
       subst e;have hm:=qm nv;have:some (aX.c av)∈xs.map some:=mem_map.2 ⟨_,an,rfl⟩;rw[<-hm]at this;obtain⟨o,_,bG⟩:=mem_map.1 this;cases o with
       |const v=>simp only[cD,Option.map_eq_some_iff]at bG;obtain⟨c,aj,e⟩:=bG;cases e;exact y3 aj
       |tmp n=>simp[cD]at bG
       |func g=>simp[cD]at bG
       |global g=>simp[cD]at bG
     .obtain⟨k,ai⟩:=getElem?_of_mem af;exact vE fl ai
    have zX:=LR (C:=C) aI (ps:=ps) (vs:=mK.toList.map a.eval++arr.toList) (f:=g) (r:=r) (by simpa using e6)
     (λi p v ao aD=>⟨fO p.a (by rw[<-ad];exact mem_map.2 ⟨p,mem_of_getElem? ao,rfl⟩),l2 i p.a v (by simp[ao]) aD⟩) aB aY bn cb cc
    rcases zX with⟨dx,br⟩|⟨v,az,dx,bo,aF,br,e5,bV⟩
    .rw[dx,Oper.upon_enter];refine Calls.mono br ?_;rintro e az ⟨v,rfl,bo,aF,bM,b1,cZ⟩;obtain⟨s2,S2,dZ,fj,gQ⟩:=qw _ _ _ _ _ _ _ _ _ aI ea cb bM b1 cZ;exact aU _ _ _ dZ (Rel.put ij cK g0 fj gQ af)
    .rw[dx,Oper.upon_value];obtain⟨s2,S2,dZ,fj,gQ⟩:=qw _ _ _ _ _ _ _ _ _ aI ea cb br e5 bV;exact aU _ _ _ dZ (Rel.put ij cK g0 fj gQ af)
   .cases bX
  .split at bX
   .simp only[Option.map_eq_some_iff]at bX;obtain⟨_,_,bX⟩:=bX;cases bX
   .cases bX
  .split at bX
   .simp only[Option.map_eq_some_iff]at bX;obtain⟨_,_,bX⟩:=bX;cases bX
   .cases bX
  iterate 3
   .split at bX
    .split at bX<;>cases bX
    .cases bX
  .cases bX
 |makeFunc fn first cs=>
  cases fn<;>simp only[cp]at bX<;>first|(cases bX;done)|(split at bX<;>simp at bX)
 |slice T x c9 aE fL=>
  cases fL<;>simp only[cp]at bX<;>first|(cases bX;done)|(split at bX<;>simp at bX)
 |makeMap T r=>cases r<;>simp only[cp]at bX<;>simp at bX
 |lookup T x i c=>cases c<;>simp only[cp]at bX<;>first|(cases bX;done)|(split at bX<;>simp at bX)
 |_=>simp only[cp]at bX<;>first|(cases bX;done)|(simp at bX;done)|(split at bX<;>simp at bX)
theorem L0 (a0:C.dm) (h:Rel w0 F0 X n ρ s a w) {o:Oper} {a9:cU} (bX:cp o.op=some a9) (af:jZ n o.dst=true) {K:ah->Prop} {next:Act->World->Prop}
  (hw:l0 C s a9 λav s1=>K (fin s1 o.dst av)) (aU:∀ax b7 az,K ax->Rel w0 F0 X n ρ ax b7 az->next b7 az):o.wp C.P a w next Q:=by
 have j1:=h;obtain⟨ij,cK,g0,F,S,aI⟩:=h;have plain:∀av s1,bp C s a9=some (av,s1)->K (fin s1 o.dst av)->o.wp C.P a w next Q:=by
  intro av s1 he ai;obtain⟨r,az,v,bo,aF,ab,ad,aB,aY⟩:=En (a:=a) a0 aI (λ_=>rfl) bX he;unfold Oper.wp;rw[ab];rcases ad with rfl|⟨rfl,rfl⟩
  .exact aU _ _ _ ai (Rel.put ij cK g0 aB aY af)
  .exact aU _ _ _ ai (Rel.put ij cK g0 aB aY af)
 cases a9 with
 |shr a9=>exact(LU bX).elim
 |hJ T bC x y=>exact(LX bX).elim
 |call f args=>exact EZ a0 ⟨ij,cK,g0,F,S,aI⟩ bX af (K:=λav s1=>K (fin s1 o.dst av)) hw (λ_ _ _ aF _ _ _ s1 _ _ ad _ aB aY _=>⟨s1,aF,ad,aB,aY⟩) aU
 |jy f args L=>exact(LV bX).elim
 |h0 T x=>exact(LW bX).elim
 |_=>
  obtain⟨av,s1,he,ai⟩:=hw;exact plain av s1 he ai
theorem jc.share {F:Nat->Prop} {S:Nat->Nat->Prop} {aq:Nat->Value} {v:Value} (h:bg w0 F0 X F S s aq w) (aD:jc w0 X F S s aq w av v) (aN:av.tree=true) (aU:∀vs,av≠.tuple vs):
  ∃bo,bg w0 F0 X bo S s aq w/\jc w0 X bo S s aq w av.share v:=by
 obtain⟨Sn,gX,fv,fZ,gA,jU,kV⟩:∃Sn:Nat->Prop,cO av v/\al w F av (bL v) Sn/\(∀b,Sn b->b<w.heap.size)/\(∀b,Sn b->¬F b)/\(∀u b,Sn b->¬S u b)/\(∀b,Sn b->X b\/w0.heap.size<=b):=by
  rcases aD with⟨ab,ad⟩|⟨_,ad,Sn,aB,aY,bn,cb,cc⟩
  .rw[aA.bY aN]at ad;exact⟨λ_=>False,ad.1,ad.2,λ_ h=>h.elim,λ_ h=>h.elim,λ_ _ h=>h.elim,λ_ h=>h.elim⟩
  .exact⟨Sn,ad,aB,aY,bn,cb,cc⟩
 refine⟨λb=>F b\/Sn b,?_,.inl ⟨zI av,?_⟩⟩
 .exact {
   fN:=λb U=>.inl (h.fN b U)
   gm:=λb U=>by
    rcases U with U|U
    .exact h.gm b U
    .exact .inr (kV b U)
   eu:=λb U=>U.elim (h.eu b) (fZ b)
   dA:=h.dA
   eH:=λt b U bk=>bk.elim (h.eH t b U) (λaa=>jU t b aa U)
   ej:=h.ej
   cW:=h.cW
   cE:=λt=>aA.frame (λ_ _=>rfl) (λb U=>.inl U) (λ_ _ _=>rfl) h.cE _ _ _ (λ_ _=>rfl) (h.cE t)
   old:=h.old
   size:=h.size
   os:=h.os
   tape:=h.tape
   output:=h.output
   gn:=h.gn}
 .by_cases bG:∃o,av= .cS o
  .obtain⟨o,rfl⟩:=bG;rw[I.share,aA];trivial
  by_cases wq:∃f c,av= .er f c
  .obtain⟨f,c,rfl⟩:=wq;rw[I.share,aA];trivial
  have lg:av.share.tree=true:=by cases av<;>first|exact aN|rfl|exact(bG ⟨_,rfl⟩).elim|exact(wq ⟨_,_,rfl⟩).elim
  rw[aA.bY lg];exact⟨zK aU gX,al.shared (λb U=>.inl U) av _ Sn (λb U=>.inr U) fv⟩
theorem L1 {op:Op} {T:TypeId} {x:aX} (h:cp op=some (.g6 T x)):∃a,op= .box T a/\cD a=some x:=by
 cases op with
 |box zW a=>
  simp only[cp,Option.map_eq_some_iff,cU.g6.injEq]at h;obtain⟨y,a2,rfl,rfl⟩:=h;exact⟨a,rfl,a2⟩
 |_=>
  exfalso;unfold cp at h;split at h<;>(try split at h)<;>(try split at h)<;>(try split at h)<;>(try simp[Option.map_eq_some_iff]at h)<;>contradiction
theorem L2 {az:World} {F bo:Nat->Prop} {s s1:ah} {aq:Nat->Value} (a1:∀b,F b->bo b/\az.heap[b]? =w.heap[b]?):∀(n:Nat),
  (∀(d:I) (v:Value) (S:Nat->Prop),SizeOf.sizeOf d<=n->d.ed s=true->d.ed s1=true->aA w F s aq d v S->aA az bo s1 aq d v (λ_=>False))/\
  (∀(ds:Xy) (vs:Xw),SizeOf.sizeOf ds<=n->I.lZ s ds=true->I.lZ s1 ds=true->c5 w F s aq ds vs->c5 az bo s1 aq ds vs):=by
 intro n;induction n with
 |zero=>
  refine⟨λd v S bz=>?_,λds vs bz=>?_⟩
  .cases d<;>simp at bz<;>omega
  .cases ds<;>simp at bz<;>omega
 |succ n ih=>
  refine⟨λd v S bz bM b1 h=>?_,λds vs bz bM b1 h=>?_⟩
  .cases d with
   |hole=>rw[aA];trivial
   |h x q=>
    simp only[I.ed,Bool.and_eq_true,isEmpty_iff]at bM b1;obtain⟨rfl,bM⟩:=bM;rw[aA]at h⊢;obtain⟨b4,a,dS,e9,fX⟩:=h (s x) (by simp only[I.sub]) (qt bM).1;simp only[cu,Option.some.injEq,Prod.mk.injEq,true_and]at dS;intro d af _;simp only[I.sub,Option.some.injEq]at af;subst af;exact⟨bL (aq x),none,by simp only[cu],by rw[e9,<-dS.1],((qt b1.2).2.2.2.2.2 _).2 (((qt bM).2.2.2.2.2 _).1 fX)⟩
   |ao x q=>simp[I.ed]at bM
   |U x k=>
    simp only[I.ed,Bool.not_eq_true']at bM;rw[aA]at h⊢;obtain⟨b,cur,e,fr,ab,ad,aB,aY⟩:=h bM;exact λ_=>⟨b,cur,e,fr,ab,(a1 b ad).1,(a1 b ad).2.trans aB,aY⟩
   |fn f cap=>
    simp only[I.ed]at bM b1;rw[aA]at h⊢;obtain⟨arr,rfl,aj⟩:=h;exact⟨arr,rfl,ih.2 _ _ (by simp at bz;omega) bM b1 aj⟩
   |_=>
    simp only[I.ed]at bM;have bj:=(aA.bY rfl).1 h;exact(aA.bY rfl).2 ⟨bj.1,al.mono (λb U=>(a1 b U).1) _ _ _ _ (λ_ h=>h) (al.frame (λb U=>(a1 b U).2) _ _ _ (λ_ h=>h.elim) (al.plain _ _ _ _ bM bj.2))⟩
  .cases ds with
   |nil=>rw[c5]at h⊢;exact h
   |cons d ds=>
    simp only[I.lZ,Bool.and_eq_true]at bM b1;rw[c5]at h⊢;obtain⟨v,hX,rfl,ab,ad⟩:=h;simp at bz;exact⟨v,hX,rfl,ih.1 _ _ _ (by omega) bM.1 b1.1 ab,ih.2 _ _ (by omega) bM.2 b1.2 ad⟩
theorem L3 {s:ah} {d:I} (h:d.ed s=true):d.plain=true:=by
 cases d<;>first|rfl|(simpa [I.ed]using h)
theorem bg.kU {F:Nat->Prop} {aq:Nat->Value}:∀(L:Xx) (s:ah) (S:Nat->Nat->Prop),bg w0 F0 X F S s aq w->(∀p∈L,p.2.plain=true/\aA w F s aq p.2 (aq p.1) (λ_=>False))->
  ∃aF,bg w0 F0 X F aF (cM.kU s L) aq w/\∀u b,aF u b->S u b:=by
 intro L;induction L with
 |nil=>intro s S h _;exact⟨S,h,λ_ _ h=>h⟩
 |cons p L ih=>
  intro s S h qw;obtain⟨ab,ad⟩:=qw p (by simp);have cX:cl aq p.1 (aq p.1)=aq:=by funext u;simp only[cl];split<;>simp_all
  have aB:=h.tj (t:=p.1) ab ad;rw[cX]at aB;have fu:∀x,x≠p.1->(cl s p.1 p.2 x).tree=true->cl s p.1 p.2 x=s x/\aq x=aq x:=λx an _=>⟨hg _ _ an,rfl⟩
  obtain⟨aF,aO,a3⟩:=ih _ _ aB (λq cx=>⟨(qw q (by simp[cx])).1,(aA.void (t:=p.1) fu (by rw[kG];exact ab) _).1 _ _ _ (Nat.le_refl _) (qw q (by simp[cx])).2⟩);refine⟨aF,aO,λu b U=>?_⟩;have:=a3 u b U;simp only[fa]at this;split at this
  .exact this.elim
  .exact this
theorem zY {s:ah}:∀{L:Xx},jC s L=true->∀p∈L,p.2.ed s=true
 |q::L,ab,p,ao=>by
  simp only[jC,Bool.and_eq_true]at ab;rcases mem_cons.1 ao with rfl|ao
  .exact ab.1
  .exact zY ab.2 p ao
theorem L4 {s:ah} {us:Xt} {p:Nat×I} (h:p∈hD s us):p.1∈us/\s p.1=p.2:=by
 obtain⟨u,hu,rfl⟩:=mem_map.1 h;exact⟨hu,rfl⟩
theorem L5 (a0:C.dm) (h:Rel w0 F0 X n ρ s a w) {o:Oper} {a9:cU} (bX:pn o.op=a9.base) (af:jZ n o.dst=true) {K:ah->Prop} {next:Act->World->Prop}
  (hw:l0 C s a9 λav s1=>K (fin s1 o.dst av)) (aU:∀ax b7 az,K ax->Rel w0 F0 X n ρ ax b7 az->next b7 az):o.wp C.P a w next Q:=by
 cases a9 with
 |shr a9=>
  obtain⟨av,s1,he,aN,kR,ai⟩:=hw;rcases po bX with bX|bX
  .change a9= .bad at bX;subst bX;cases he
  obtain⟨ij,cK,g0,F,S,aI⟩:=h;obtain⟨r,az,v,bo,aF,ab,ad,aB,aY⟩:=En (a:=a) a0 aI (λ_=>rfl) bX he;obtain⟨jB,bJ,cN⟩:=jc.share aB aY aN kR;unfold Oper.wp;rw[ab];rcases ad with rfl|⟨rfl,rfl⟩
  .exact aU _ _ _ ai (Rel.put ij cK g0 bJ cN af)
  .exact aU _ _ _ ai (Rel.put ij cK g0 bJ cN af)
 |bad=>obtain⟨av,s1,he,_⟩:=hw;cases he
 |jy f args L=>
  obtain⟨aS,hw⟩:=hw;rcases po bX with U|U
  .cases U
  .refine EZ a0 h U af hw ?_ aU;rintro F S bo aF w az av s1 v gX ⟨fv,gA⟩ jU kV l1 L6;obtain⟨S2,aO,a3⟩:=kV.kU (hD s L) s1 aF (λp ao=>by
    have dx:=(L4 ao).2;have br:=zY aS p ao;have e5:=zY fv p ao;refine⟨L3 br,(L2 L6 _).1 _ _ (S p.1) (Nat.le_refl _) br e5 ?_⟩;have:=gX.cE p.1;rw[dx]at this;exact this)
   exact⟨_,S2,gA,aO,l1.less a3 jU⟩
 |h0 T x=>
  obtain⟨av,s1,he,ai⟩:=hw;rcases po bX with U|U
  .cases U
  .obtain⟨cf,pq,an⟩:=L1 U;obtain⟨ij,cK,g0,F,S,aI⟩:=h;obtain⟨dst,op,ty,pos,after,guard⟩:=o;simp only at pq af ai;subst pq;obtain⟨r,az,v,bo,aF,ab,ad,aB,aY⟩:Next C w0 F0 X (λt=>a.tmps.getD t undef) w (execOp a.eval ⟨dst,.box T cf,ty,pos,after,guard⟩) av s1:=(J0 (T:=T) aI (dU aI (λ_=>rfl) an).2 he).next;unfold Oper.wp;rw[ab];rcases ad with rfl|⟨rfl,rfl⟩
   .exact aU _ _ _ ai (Rel.put ij cK g0 aB aY af)
   .exact aU _ _ _ ai (Rel.put ij cK g0 aB aY af)
 |hJ T bC x y=>
  obtain⟨av,s1,he,ai⟩:=hw;rcases po bX with U|U
  .cases U
  .obtain⟨cf,jb,pq,an,a2⟩:=LY U;obtain⟨ij,cK,g0,F,S,aI⟩:=h;simp only[bp,Option.map_eq_some_iff,Prod.mk.injEq]at he;obtain⟨d,fG,rfl,rfl⟩:=he;obtain⟨v,az,bo,aF,ab,ad,aB⟩:=KQ (ty:=o.type) a0 aI (dU aI (λ_=>rfl) an).2 (dU aI (λ_=>rfl) a2).2 fG;have qx:execOp a.eval o=(do pure (.value (<-Builtin.append_ #[T,bC] o.type #[a.eval cf,a.eval jb]))):=by
    obtain⟨dst,op,ty,pos,after,guard⟩:=o;simp only at pq;subst pq;simp[execOp,resolve,invoke,builtin]
   unfold Oper.wp;rw[qx];simp only[Sem.run_bind,ab,Result.andThen];exact aU _ _ _ ai (Rel.put ij cK g0 ad aB af)
 |_=>
  rcases po bX with U|U
  .cases U
  .exact L0 a0 h U af hw aU
end
end Go.cM
