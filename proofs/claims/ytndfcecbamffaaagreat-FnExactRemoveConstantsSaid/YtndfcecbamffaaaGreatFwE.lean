/- Part of a proof that a law returns true for every input. No condition. -/
import Derived.Test.YtndfcecbamffaaaGreatFwD
import Derived.Laws.Tables
namespace Go.c3
open List Go.IntKind Nat Or
section
variable {C:bH} {w0 w:World} {F0 X F:Nat->Prop} {S:Nat->Nat->Prop} {s s1:ak} {aw:Nat->Value} {av:I}
theorem zL (z:aff):∀n,(range (n*z.length)).map (λi=>z[i%z.length]!)=(replicate n z).flatten
 |0=>by simp
 |n+1=>by
  rw[Nat.add_mul,Nat.one_mul,range_add,map_append,zL z n,replicate_succ',flatten_append];congr 1;simp only[List.map_map,flatten_cons,flatten_nil,append_nil];apply ext_getElem
  .simp
  .intro i ae af;have aC:i<z.length:=af;simp[mod_eq_of_lt aC,aC]
theorem aX.replicate {d:I} {cs:aff} (h:∀aO,ao w F d cs aO):∀n aO,aX w F (replicate n d) (replicate n cs).flatten aO
 |0,aO=>by simp only[replicate_zero,flatten_nil];rw[aX]
 |n+1,aO=>by
  rw[replicate_succ,replicate_succ,flatten_cons,aX];exact⟨cs,_,λ_=>False,λ_=>False,rfl,h _,aX.replicate h n _,λ_ h=>h.elim,λ_ h=>h.elim,λ_ h=>h.elim⟩
def ei (C:bH) (T:TypeId) (l c:I):Option I:=
 match(C.T T).k,l,c with
 | .slice e,.int .i64 n,.int .i64 m=>if n=m/\0<=n/\(C.T e).ok=true/\(C.T e).zero.wd=(C.T e).sz/\(flat (C.T e).zero).isSome=true/\(C.T e).sz≠0/\(C.T e).bytes*n<=140737488355328/\n<=9223372036854775807 then
   some (.ag (C.T e).sz (replicate n.toNat (C.T e).zero))else none
 |_,_,_=>none
theorem Ql (a9:C.dL) (h:bw w0 F0 X F S s aw w) {T:TypeId} {l c:I} {IZ I0:Value} (hl:aG w F s aw l IZ (λ_=>False)) (an:aG w F s aw c I0 (λ_=>False)) (he:ei C T l c=some av):
  Good C w0 F0 X aw w (Instr.makeSlice T IZ I0) av s:=by
 unfold ei at he;split at he
 .rename_i e n m aj;have:=nV hl;subst this;have:=nV an;subst this;obtain⟨C8,d,C9,aT,a3,aY,b1,cI,bQ,bL⟩:=a9.info (fv aj (by simp));rw[aj]at bL;have:=ks bL;subst this;split at he
  .rename_i oH;obtain⟨rfl,a4,kQ,pH,qC,cO,I1,Da⟩:=oH;simp only[Option.some.injEq]at he;subst he;obtain⟨i,C_,z,f1,f2,f3,f4,f5,f6,f7⟩:=a9.info kQ;obtain⟨eO,ky⟩:=Option.isSome_iff_exists.1 qC;have qD:=f5 eO ky;have fF:∀aO,ao w F (C.T e).zero eO aO:=λaO=>(ao.flat _).1 _ eO aO (Nat.le_refl _) ky;have oN:eO.length=(C.T e).sz:=by rw[ao.length _ _ _ (fF (λ_=>False)),pH]
   obtain⟨n,rfl⟩:=Int.eq_ofNat_of_zero_le a4;simp only[Int.toNat_natCast];have uA:i64.wrap (n:Int)=n:=by
    rw[wrap_i64];omega
   have uy:∀k (w:World),(askRoom k).run C.P w= .ok () w:=by
    intro k w;unfold askRoom;split<;>rfl
   have lL:((Array.range (n*(C.T e).sz)).map (eO.toArray[·%eO.toArray.size]!)).toList=(replicate n eO).flatten:=by
    have:=zL eO n;rw[oN]at this;simpa [oN]using this
   have c5:¬(281474976710656<(i.bytes:Int)*n):=by
    rw[f3];omega
   have zM:¬((n:Int)<0):=by omega
   have run:(Instr.makeSlice T (.int .i64 n) (.int .i64 n)).run C.P w= .ok (.slice (some ⟨w.heap.size,0,none⟩) n n)
     (w.alloc (.cells (if n*(C.T e).sz=0 then(Array.range (n*(C.T e).sz)).map (λ_=>default)else(Array.range (n*(C.T e).sz)).map (eO.toArray[·%eO.toArray.size]!)) e)):=by
    by_cases bo:n*(C.T e).sz=0
    .simp[Instr.makeSlice,run_underlying bQ,asInt,asIntOf,sx f1,uA,c5,zM,uy,iR f1,f2,bo,newRow]
    .simp only[bo,if_false];simp[Instr.makeSlice,run_underlying bQ,asInt,asIntOf,sx f1,uA,c5,zM,uy,iR f1,f2,bo,newRow,rA f1 f4,qD]
   have iz:(if n*(C.T e).sz=0 then(Array.range (n*(C.T e).sz)).map (λ_=>(default:Value))else(Array.range (n*(C.T e).sz)).map (eO.toArray[·%eO.toArray.size]!)).toList=(replicate n eO).flatten:=by
    split
    .rename_i bo;have:n=0:=by
      rcases mul_eq_zero.1 bo with h|h
      .exact h
      .exact(cO h).elim
     subst this;simp
    .exact lL
   generalize sN:(if n*(C.T e).sz=0 then(Array.range (n*(C.T e).sz)).map (λ_=>(default:Value))else(Array.range (n*(C.T e).sz)).map (eO.toArray[·%eO.toArray.size]!))=cur at run iz;have hO:(replicate n eO).flatten.length=n*(C.T e).sz:=by simp[oN]
   have ho:cur.size=n*(C.T e).sz:=by
    have:cur.size=cur.toList.length:=by simp
    rw[this,iz,hO]
   have kx:=h.wS (aB:=w.alloc (.cells cur e)) (sz:=(C.T e).sz) (cap:=n) (xs:=replicate n (C.T e).zero) (cur:=cur) (e:=e) (fr:=(0,0)) (Sn:=λ_=>False) rfl rfl rfl ⟨rfl,λ_=>Nat.le_refl _⟩
    (λo _ ⟨_,af⟩=>absurd af (not_lt_zero _)) (by simp) (by unfold maxLen;omega) ho (by intro d ai;rw[eq_of_mem_replicate ai];exact pH)
    (by rw[iz,length_replicate,take_of_length_le (by rw[hO];exact Nat.le_refl _)];exact aX.replicate fF n _) (λ_ h=>h.elim) (λ_ h=>h.elim) (λ_ _ h=>h.elim) (λ_ h=>h.elim)
   rw[length_replicate]at kx;exact⟨_,_,F,S,run,kx.1,kx.2⟩
  .cases he
 .cases he
def i7 (C:bH) (T bP:TypeId) (x y:I):Option I:=
 match(C.T T).k,(C.T bP).k,x,y with
 | .slice e,.int _,.aN,.int .i64 n=>if 0<=n/\(C.T e).ok=true/\(C.T e).zero.wd=(C.T e).sz/\(flat (C.T e).zero).isSome=true/\(C.T e).sz≠0/\(C.T e).bytes*n<=140737488355328/\n<=9223372036854775807 then
   some (.ag (C.T e).sz (replicate n.toNat (C.T e).zero))else none
 |_,_,_,_=>none
theorem Qm {P:Program} {T bP ty e:TypeId} {k:IntKind} {i:TypeInfo} {z:Value} (aP:P.underlying T=some (.slice e)) (hu:P.underlying bP=some (.int k)) (aC:P.info? e=some i) (bF:i.zero=some z)
  (n:Nat) (bo:n≠0) (aa:i.size≠0) (a4:n<=9223372036854775807) (U:n*i.bytes<=140737488355328):
  (Builtin.append_ #[T,bP] ty #[.slice none 0 0,.int .i64 n]).run P w= .ok (.slice (some ⟨w.heap.size,0,none⟩) n (grownCap w n 0 e))
   (w.drew.alloc (.cells (Builtin.zeroCells z.cells n++Builtin.zeroCells z.cells (grownCap w n 0 e-n)) e)):=by
 have uA:i64.wrap (n:Int)=n:=by rw[wrap_i64];omega
 have zM:¬((n:Int)<0):=by omega
 have hmul:(n:Int)*(i.bytes:Int)=((n*i.bytes:Nat):Int):=by simp
 have c5:¬(281474976710656<(n:Int)*(i.bytes:Int)):=by rw[hmul];omega
 have hy:¬(281474976710656<Builtin.nextslicecap n 0*i.bytes):=by
  have:Builtin.nextslicecap n 0=n:=by unfold Builtin.nextslicecap;rw[if_pos (by omega)]
  rw[this];omega
 have uy:∀k (w:World),(askRoom k).run P w= .ok () w:=by
  intro k w;unfold askRoom;split<;>rfl
 have C5:¬(9223372036854775807<(n:Int)):=by omega
 have De:n*i.size≠0:=Nat.mul_ne_zero bo aa;simp[Builtin.append_,run_underlying aP,run_underlying hu,iR aC,sx aC,asInt,asIntOf,uA,zM,c5,hy,bo,Question.forced,uy,C5,rA aC bF,newRow,grownCap,Builtin.firstCells];intro mi;exact(De mi).elim
theorem Qn (a9:C.dL) (h:bw w0 F0 X F S s aw w) {T bP ty:TypeId} {x y:I} {fD gh:Value} (al:aG w F s aw x fD (λ_=>False)) (a5:aG w F s aw y gh (λ_=>False)) (he:i7 C T bP x y=some av):
  Good C w0 F0 X aw w (Builtin.append_ #[T,bP] ty #[fD,gh]) av s:=by
 unfold i7 at he;split at he
 .rename_i e adG n aj sO;have:=qw al;subst this;have:=nV a5;subst this;obtain⟨C8,d,C9,aT,a3,aY,b1,cI,bQ,bL⟩:=a9.info (fv aj (by simp));rw[aj]at bL;have:=ks bL;subst this;obtain⟨adH,adI,adJ,Df,Dg,I2,adK,adL,I3,I4⟩:=a9.info (fv sO (by simp));rw[sO]at I4;have:=wL I4;subst this;split at he
  .rename_i oH;obtain⟨a4,kQ,pH,qC,cO,I1,Da⟩:=oH;simp only[Option.some.injEq]at he;subst he;obtain⟨i,C_,z,f1,f2,f3,f4,f5,f6,f7⟩:=a9.info kQ;obtain⟨eO,ky⟩:=Option.isSome_iff_exists.1 qC;have qD:=f5 eO ky;have fF:∀aO,ao w F (C.T e).zero eO aO:=λaO=>(ao.flat _).1 _ eO aO (Nat.le_refl _) ky;have oN:eO.length=(C.T e).sz:=by rw[ao.length _ _ _ (fF (λ_=>False)),pH]
   obtain⟨n,rfl⟩:=Int.eq_ofNat_of_zero_le a4;simp only[Int.toNat_natCast];by_cases bo:n=0
   .subst bo;have run:(Builtin.append_ #[T,bP] ty #[.slice none 0 0,.int .i64 ((0:Nat):Int)]).run C.P w= .ok (.slice none 0 0) w:=by
     have uA:i64.wrap 0=0:=by decide
     simp[Builtin.append_,run_underlying bQ,run_underlying I3,iR f1,sx f1,asInt,asIntOf,uA]
    exact⟨_,w,F,S,run,h,.inr ⟨rfl,rfl,λ_=>False,by simp only[bX,hj];rw[ao];exact .inl ⟨rfl,_,rfl⟩,λ_ h=>h.elim,λ_ h=>h.elim,λ_ _ h=>h.elim,λ_ h=>h.elim⟩⟩
   .have run:=Qm (w:=w) (ty:=ty) bQ I3 f1 f4 n bo (by rw[f2];exact cO) (by omega) (by
     rw[f3];have:((C.T e).bytes:Int)*(n:Int)=(((C.T e).bytes*n:Nat):Int):=by simp
     rw[this]at I1;rw[Nat.mul_comm];omega)
    rw[qD]at run;have rF:=grownCap_ge w n 0 e;have wV:=grownCap_le_maxLen w n 0 e (by unfold maxLen;omega);have I5:∀m,(Builtin.zeroCells eO.toArray m).toList=(replicate m eO).flatten:=by
     intro m;have:=zL eO m;unfold Builtin.zeroCells;simpa [oN]using this
    have hO:∀m,(replicate m eO).flatten.length=m*(C.T e).sz:=by intro m;simp[oN]
    generalize sN:Builtin.zeroCells eO.toArray n++Builtin.zeroCells eO.toArray (grownCap w n 0 e-n)=cur at run;have iz:cur.toList=(replicate n eO).flatten++(replicate (grownCap w n 0 e-n) eO).flatten:=by rw[<-sN,Array.toList_append,I5,I5]
    have ho:cur.size=grownCap w n 0 e*(C.T e).sz:=by
     have:cur.size=cur.toList.length:=by simp
     rw[this,iz,length_append,hO,hO,<-Nat.add_mul];congr 1;omega
    have kx:=h.wS (aB:=w.drew.alloc (.cells cur e)) (sz:=(C.T e).sz) (cap:=grownCap w n 0 e) (xs:=replicate n (C.T e).zero) (cur:=cur) (e:=e) (fr:=(0,0)) (Sn:=λ_=>False) rfl rfl rfl ⟨rfl,λ_=>le_succ _⟩
     (λo _ ⟨_,af⟩=>absurd af (not_lt_zero _)) (by simpa using rF) wV ho (by intro d ai;rw[eq_of_mem_replicate ai];exact pH)
     (by rw[iz,length_replicate,take_left' (hO n)];exact aX.replicate fF n _) (λ_ h=>h.elim) (λ_ h=>h.elim) (λ_ _ h=>h.elim) (λ_ h=>h.elim)
    rw[length_replicate]at kx;exact⟨_,_,F,S,run,kx.1,kx.2⟩
  .cases he
 .cases he
def n1 (s:ak) (f:FuncId) (cs:List a6):Option I:=some (.fn f (cs.map (a7 s)))
theorem zN {a:Act} (h:bw w0 F0 X F S s aw w) (dt:∀t,aw t=a.tmps.getD t undef):∀(os:List Operand) (xs:List a6),os.map cY=xs.map some->dC w F s aw (xs.map (a7 s)) (os.map a.eval)
 |[],[],_=>by simp only[map_nil];rw[dC]
 |[],x::xs,h=>by simp at h
 |o::os,[],h=>by simp at h
 |o::os,x::xs,bB=>by
  simp only[map_cons,cons.injEq]at bB⊢;rw[dC];exact⟨_,_,rfl,(eg h dt bB.1).2,zN h dt os xs bB.2⟩
theorem I6:∀(vs:aff) (k off:Nat) (A:Array Value) (l m r:aff),A.toList=l++(m++r)->l.length=off+k->m.length=vs.length->
  ((vs.zipIdx k).foldl (λcs (x:Value×Nat)=>cs.setIfInBounds (off+x.2) x.1) A).toList=l++(vs++r)
 |[],k,off,A,l,m,r,iC,hl,hm=>by
  have:m=[]:=by simpa using hm
  subst this;simpa using iC
 |v::vs,k,off,A,l,m,r,iC,hl,hm=>by
  obtain⟨x,m,rfl⟩:∃x ez,m=x::ez:=by
   cases m with
   |nil=>simp at hm
   |cons x m=>exact⟨x,m,rfl⟩
  rw[zipIdx_cons,foldl_cons];have:=I6 vs (k+1) off (A.setIfInBounds (off+k) v) (l++[v]) m r (by
   rw[Array.toList_setIfInBounds,iC,<-hl,set_append_right _ _ (Nat.le_refl _)];simp) (by simp;omega) (by simpa using hm)
  simpa using this
def kz (os:List (Option Nat)) (a:I):I:=os.foldl (λa o=>j8 o a) a
def jV (place:Nat->Option (Nat×Nat)):ak->afh->List (Option Nat)->afg->Option (afh×ak)
 |s,ee,_,[]=>some (ee,s)
 |s,ee,os,(k,a)::r=>match cr s (kz os a),place k,ee[k]? with
  |some (d,s1),some (off,n),some z=>match d with
   | .tuple _=>none
   |d=>if d.wd=n/\z.wd=n/\I.dh (ee.take k)=off then jV place s1 (ee.set k d) (os++[(kz os a).owner]) r else none
  |_,_,_=>none
def n2 (w:World) (F:Nat->Prop) (s:ak) (aw:Nat->Value):afg->List (Nat×Value)->Prop
 |[],[]=>True
 |(k,a)::r,(c8,v)::gz=>k=c8/\a.plain=true/\aG w F s aw a v (λ_=>False)/\n2 w F s aw r gz
 |_,_=>False
theorem Qo (x:Nat):∀d:I,d.plain=true->(b5 x d).plain=true
 | .h y q,_=>by simp only[b5];split<;>(try split)<;>rfl
 | .au y q,_=>by simp only[b5];split<;>rfl
 | .U y q,_=>rfl
 | .fn f c,_=>by simp only[b5];rfl
 | .hole,h=>h
 | .bool _,h=>h
 | .eM,h=>h
 | .int _ _,h=>h
 | .str _,h=>h
 | .db,h=>h
 | .aN,h=>h
 | .slice _,h=>h
 | .ag _ _,h=>h
 | .ref _,h=>h
 | .aK _,h=>h
 | .agg _,h=>h
 | .tuple _,h=>h
theorem Qp (o:Option Nat) (d:I) (h:d.plain=true):(j8 o d).plain=true:=by
 cases o with
 |none=>exact h
 |some x=>exact Qo x d h
theorem n2.b5 {w:World} {F:Nat->Prop} {s s1:ak} {aw:Nat->Value} {o:Option Nat} (au:∀(bh:I) (fI:Value) (aO:Nat->Prop),aG w F s aw bh fI aO->aG w F s1 aw (j8 o bh) fI aO):
  ∀(r:afg) (gz:List (Nat×Value)),n2 w F s aw r gz->n2 w F s1 aw (r.map λp=>(p.1,j8 o p.2)) gz
 |[],[],_=>trivial
 |(k,a)::r,(c8,v)::gz,h=>by
  obtain⟨ae,af,aF,a1⟩:=h;exact⟨ae,Qp _ _ af,au _ _ _ aF,n2.b5 au r gz a1⟩
 |[],_::_,h=>h.elim
 |_::_,[],h=>h.elim
theorem Dh {place:Nat->Option (Nat×Nat)}:∀(ps:afg) (vs:List (Nat×Value)) (os:List (Option Nat)) (s:ak) (S:Nat->Nat->Prop) (ee:afh) (A:Array Value) (g1:Nat->Prop),
  bw w0 F0 X F S s aw w->n2 w F s aw (ps.map λp=>(p.1,kz os p.2)) vs->aX w F ee A.toList g1->(∀b,g1 b->b<w.heap.size)->(∀b,g1 b->¬F b)->(∀u b,g1 b->¬S u b)->(∀b,g1 b->X b\/w0.heap.size<=b)->
  ∀ds s1,jV place s ee os ps=some (ds,s1)->∃lO S1 gg,Instr.fill place A vs=some lO/\bw w0 F0 X F S1 s1 aw w/\aX w F ds lO.toList gg/\(∀b,gg b->b<w.heap.size)/\(∀b,gg b->¬F b)/\(∀u b,gg b->¬S1 u b)/\
   (∀b,gg b->X b\/w0.heap.size<=b)/\ds.length=ee.length/\I.dh ds=I.dh ee/\(∀n,(∀d∈ee,d.wd=n)->∀d∈ds,d.wd=n)
 |[],[],os,s,S,ee,A,g1,h,_,ae,af,aF,a1,bt,ds,s1,he=>by
  simp only[jV,Option.some.injEq,Prod.mk.injEq]at he;obtain⟨rfl,rfl⟩:=he;exact⟨A,S,g1,rfl,h,ae,af,aF,a1,bt,rfl,rfl,λ_ h=>h⟩
 |(k,a)::ps,(c8,v)::vs,os,s,S,ee,A,g1,h,au,ae,af,aF,a1,bt,ds,s1,he=>by
  obtain⟨rfl,jW,oF,w2⟩:=au;simp only[jV]at he;split at he
  .rename_i d w3 off n z aP gH bF;have key:∀d:I,(∀ay,d≠.tuple ay)->cr s (kz os a)=some (d,w3)->(if d.wd=n/\z.wd=n/\I.dh (ee.take k)=off then jV place w3 (ee.set k d) (os++[(kz os a).owner]) ps else none)=some (ds,s1)->
     ∃lO S1 gg,Instr.fill place A ((k,v)::vs)=some lO/\bw w0 F0 X F S1 s1 aw w/\aX w F ds lO.toList gg/\(∀b,gg b->b<w.heap.size)/\(∀b,gg b->¬F b)/\(∀u b,gg b->¬S1 u b)/\
     (∀b,gg b->X b\/w0.heap.size<=b)/\ds.length=ee.length/\I.dh ds=I.dh ee/\(∀n,(∀d∈ee,d.wd=n)->∀d∈ds,d.wd=n):=by
    intro d mZ aP he;split at he
    .rename_i an;obtain⟨zO,sy,I7⟩:=an;obtain⟨S1,fB,aV,ba,Sn,bT,c6,ea,gy,g9,kO,wY,zG⟩:=mW h jW oF aP;obtain⟨bA,dQ,bK,Sx,gq,iC,eZ,dD,ej,fV,dE,ia⟩:=aX.pick ee _ _ k z ae bF;have lL:=sA ba mZ;have I8:=ao.length _ _ _ bT;have I9:=ao.length _ _ _ dE;have rC:=ia w d (bX v) Sn (λ_ _=>rfl) (λ_ _=>rfl) bT (λb Qq Qr=>by obtain⟨u,hu⟩:=wY b Qq;exact a1 u b (dD b Qr) hu);have I_:=I6 (bX v) 0 off A bA dQ bK iC (by rw[eZ,I7];rfl) (by rw[I9,I8,zO,sy]);generalize w4:((bX v).zipIdx 0).foldl (λcs (x:Value×Nat)=>cs.setIfInBounds (off+x.2) x.1) A=zy at I_;obtain⟨lO,S2,gg,el,fJ,gU,jT,j9,lK,m0,i9,Di,zP⟩:=Dh (place:=place) ps vs (os++[(kz os a).owner]) w3 S1 (ee.set k d) zy (λb=>Sx b\/Sn b) fB (by have:=n2.b5 zG _ _ w2;simpa [kz,foldl_append,Function.comp_def]using this) (by rw[I_];exact rC)
      (by rintro b (U|U);exact af b (dD b U);exact c6 b U) (by rintro b (U|U);exact aF b (dD b U);exact ea b U)
      (by rintro u b (U|U);exact λhu=>a1 u b (dD b U) (kO u b hu);exact gy u b U) (by rintro b (U|U);exact bt b (dD b U);exact g9 b U) ds s1 he
     refine⟨lO,S2,gg,?_,fJ,gU,jT,j9,lK,m0,by rw[i9];simp,by rw[Di];exact CB _ _ _ _ bF (by rw[zO,sy]),?_⟩
     .have Dj:off+n<=A.size:=by
       have:A.size=A.toList.length:=by simp
       rw[this,iC];simp[eZ,I7,I9,sy]
      simp only[Instr.fill,gH,lL,List.size_toArray,I8,zO];have jn:¬(n≠n\/A.size<off+n):=by omega
      have w5:(bX v).toArray.zipIdx.foldl (λcs (x:Value×Nat)=>cs.setIfInBounds (off+x.2) x.1) A=zy:=by
       rw[<-w4,<-Array.foldl_toList];simp
      simp only[ne_eq,not_true_eq_false,decide_false,Bool.false_or,decide_eq_true_eq,gt_iff_lt];rw[if_neg (by simp;omega)];rw[show(bX v).toArray.zipIdx.foldl (λcs x=>match x with|(c,j)=>cs.setIfInBounds (off+j) c) A=zy from w5];exact el
     .intro Qs w6;refine zP Qs (CC w6 ?_);rw[zO,<-sy];exact w6 z (mem_of_getElem? bF)
    .cases he
   split at he
   .cases he
   .rename_i mZ;exact key _ (λay e=>mZ ay e) aP he
  .cases he
 |[],_::_,_,_,_,_,_,_,_,au,_,_,_,_,_,_,_,_=>au.elim
 |_::_,[],_,_,_,_,_,_,_,au,_,_,_,_,_,_,_,_=>au.elim
def fl (C:bH) (s:ak) (T:TypeId) (ps:afg):Option (I×ak):=
 match(C.T T).k,(C.T T).zero with
 | .struct ay,.agg ee=>if(flat (.agg ee)).isSome=true/\(∀f∈ay,(C.T f.1).ok=true)then
   (match jV (λk=>(ay[k]?).map λf=>(f.2,(C.T f.1).sz)) s ee [] ps with
   |some (ds,s1)=>some (.agg ds,s1)
   |none=>none)else none
 |_,_=>none
def eu (C:bH) (s:ak) (T:TypeId) (n:Nat) (ps:afg):Option (I×ak):=
 match(C.T T).k with
 | .slice e=>if(C.T e).ok=true/\(C.T e).zero.wd=(C.T e).sz/\(flat (C.T e).zero).isSome=true/\(C.T e).sz≠0/\n*(C.T e).sz<=16777216 then
   (match jV (λk=>some (k*(C.T e).sz,(C.T e).sz)) s (replicate n (C.T e).zero) [] ps with
   |some (ds,s1)=>some (.ag (C.T e).sz ds,s1)
   |none=>none)else none
 |_=>none
theorem Qt (a9:C.dL):∀(gs:List Field),(∀g∈gs,(C.T g.type).ok=true)->
  gs.mapM (λf=>(C.P.info? f.type).map λi=>(f.offset,i.size))=some (gs.map λg=>(g.offset,(C.T g.type).sz)):=by
 intro gs;induction gs with
 |nil=>intro _;simp
 |cons g gs ih=>
  intro bl;obtain⟨i,d,z,f1,f2,f3,f4,f5,f6,f7⟩:=a9.info (bl g (by simp));have:=ih (λg gl=>bl g (by simp[gl]));simp[mapM_cons,f1,f2,this]
theorem Qu (a9:C.dL) (h:bw w0 F0 X F S s aw w) {T:TypeId} {ps:afg} {vs:List (Nat×Value)} (au:n2 w F s aw ps vs) (he:fl C s T ps=some (av,s1)):
  Good C w0 F0 X aw w (Instr.build T vs.toArray) av s1:=by
 unfold fl at he;split at he
 .rename_i ay ee aj bF;split at he
  .rename_i an;obtain⟨qC,Qv⟩:=an;split at he
   .rename_i ds s2 hO;simp only[Option.some.injEq,Prod.mk.injEq]at he;obtain⟨rfl,rfl⟩:=he;obtain⟨i,d,z,aT,a3,aY,b1,cI,bQ,bL⟩:=a9.info (fv aj (by simp));rw[aj]at bL;obtain⟨gs,rfl,Ja⟩:=wK bL;obtain⟨eO,ky⟩:=Option.isSome_iff_exists.1 qC;have qD:=cI eO (by rw[bF];exact ky);have fF:aX w F ee eO.toArray.toList (λ_=>False):=by
     have:=(ao.flat (w:=w) (F:=F) _).1 (.agg ee) eO (λ_=>False) (Nat.le_refl _) ky;rw[ao]at this;simpa using this
    have dJ:n2 w F s aw (ps.map λp=>(p.1,kz [] p.2)) vs:=by simpa [kz]using au
    obtain⟨lO,S1,gg,el,fJ,gU,jT,j9,lK,m0,i9,Di,zP⟩:=Dh ps vs [] s S ee eO.toArray (λ_=>False) h dJ fF (λ_ h=>h.elim) (λ_ h=>h.elim) (λ_ _ h=>h.elim) (λ_ h=>h.elim) ds s2 hO;have gH:=Qt a9 gs.toList (λg bl=>Qv (g.type,g.offset) (by rw[<-Ja];exact List.mem_map_of_mem bl));have Qw:(λ(k:Nat)=>(ay[k]?).map λ(f:TypeId×Nat)=>(f.2,(C.T f.1).sz))=λ(k:Nat)=>((gs.toList.map λg=>(g.offset,(C.T g.type).sz)).toArray)[k]? :=by
     funext k;rw[<-Ja];simp only[getElem?_map,getElem?_toArray,Option.map_map];rfl
    rw[Qw]at el;refine⟨.agg lO,w,F,S1,run_build w T vs.toArray lO ?_,fJ,.inr ⟨rfl,⟨_,rfl⟩,gg,by simp only[bX,hj];rw[ao];exact gU,jT,j9,lK,m0⟩⟩;unfold Program.built;simp only[aT,bQ,b1,gH,qD];exact el
   .cases he
  .cases he
 .cases he
theorem Qx (a9:C.dL) (h:bw w0 F0 X F S s aw w) {T:TypeId} {n:Nat} {ps:afg} {vs:List (Nat×Value)} (au:n2 w F s aw ps vs) (he:eu C s T n ps=some (av,s1)):
  Good C w0 F0 X aw w (Instr.buildSlice T n vs.toArray) av s1:=by
 unfold eu at he;split at he
 .rename_i e aj;split at he
  .rename_i an;obtain⟨kQ,pH,qC,cO,adM⟩:=an;split at he
   .rename_i ds s2 hO;simp only[Option.some.injEq,Prod.mk.injEq]at he;obtain⟨rfl,rfl⟩:=he;obtain⟨C8,d,C9,aT,a3,aY,b1,cI,bQ,bL⟩:=a9.info (fv aj (by simp));rw[aj]at bL;have:=ks bL;subst this;obtain⟨i,C_,z,f1,f2,f3,f4,f5,f6,f7⟩:=a9.info kQ;obtain⟨eO,ky⟩:=Option.isSome_iff_exists.1 qC;have qD:=f5 eO ky;have fF:∀aO,ao w F (C.T e).zero eO aO:=λaO=>(ao.flat _).1 _ eO aO (Nat.le_refl _) ky;have oN:eO.length=(C.T e).sz:=by rw[ao.length _ _ _ (fF (λ_=>False)),pH]
    generalize iC:((Array.range (n*(C.T e).sz)).map ((if n*(C.T e).sz=0 then #[]else eO.toArray)[·%(if n*(C.T e).sz=0 then(#[]:Array Value)else eO.toArray).size]!))=A;have Dj:A.toList=(replicate n eO).flatten:=by
     rw[<-iC];by_cases bo:n*(C.T e).sz=0
     .have:n=0:=by
       rcases mul_eq_zero.1 bo with h|h
       .exact h
       .exact(cO h).elim
      subst this;simp
     .simp only[bo,if_false];have:=zL eO n;rw[oN]at this;simpa [oN]using this
    have dJ:n2 w F s aw (ps.map λp=>(p.1,kz [] p.2)) vs:=by simpa [kz]using au
    obtain⟨lO,S1,gg,el,fJ,gU,jT,j9,lK,m0,i9,Di,zP⟩:=Dh ps vs [] s S (replicate n (C.T e).zero) A (λ_=>False) h dJ (by rw[Dj];exact aX.replicate fF n _) (λ_ h=>h.elim) (λ_ h=>h.elim) (λ_ _ h=>h.elim) (λ_ h=>h.elim) ds s2 hO;have hlen:ds.length=n:=by rw[i9];simp
    have Jb:=zP (C.T e).sz (by intro d ai;rw[eq_of_mem_replicate ai];exact pH);have Qy:lO.toList.length=n*(C.T e).sz:=by rw[aX.sI gU Jb,hlen]
    have Qz:lO.size=n*(C.T e).sz:=by rw[<-Qy];simp
    have adN:n<=16777216:=by
     have:n*1<=n*(C.T e).sz:=mul_le_mul_left _ (by omega);omega
    have kx:=fJ.wS (aB:=w.alloc (.cells lO e)) (sz:=(C.T e).sz) (cap:=n) (xs:=ds) (cur:=lO) (e:=e) (fr:=(0,0)) (Sn:=gg) rfl rfl rfl ⟨rfl,λ_=>Nat.le_refl _⟩
     (λo _ ⟨_,af⟩=>absurd af (not_lt_zero _)) (by omega) (by unfold maxLen;omega) Qz Jb (by rw[hlen,take_of_length_le (by omega)];exact gU) jT j9 lK m0
    rw[hlen]at kx;refine⟨_,_,F,S1,?_,kx.1,kx.2⟩;by_cases bo:n*(C.T e).sz=0
    .simp only[bo,if_true]at iC;have uB:(Array.map (λ_=>(default:Value)) (Array.range 0))=A:=by
      have:n=0:=by
       rcases mul_eq_zero.1 bo with h|h
       .exact h
       .exact(cO h).elim
      apply Array.ext';rw[Dj,this];simp
     simp[Instr.buildSlice,run_underlying bQ,iR f1,f2,bo,newRow];rw[uB,el];simp
    .simp only[bo,if_false]at iC;have jn:¬(16777216<n*(C.T e).sz):=by omega
     simp[Instr.buildSlice,run_underlying bQ,iR f1,f2,bo,jn,rA f1 f4,qD,newRow];have uB:(Array.map (λx=>eO[x%eO.length]?.getD default) (Array.range (n*(C.T e).sz)))=A:=by
      rw[<-iC];simp
     rw[uB,el];simp
   .cases he
  .cases he
 .cases he
end
inductive di where
 |eP (x:a6)
 |lP (x:a6)
 |pick (c a b:a6)
 |lM (T:TypeId)
 |g_ (T:TypeId) (x:a6)
 |fl (T:TypeId) (ps:List (Nat×a6))
 |eu (T:TypeId) (n:Nat) (ps:List (Nat×a6))
 |ff (T:TypeId) (x:a6)
 |gT (T:TypeId) (x y:a6)
 |iT (x:a6)
 |eh (op:BinOp) (T:TypeId) (x y:a6)
 |un (op:UnOp) (x:a6)
 |iB (A B:TypeId) (x:a6)
 |n1 (f:FuncId) (cs:List a6)
 |ei (T:TypeId) (l c:a6)
 |e2 (T:TypeId) (x:a6) (dI aC:Option a6)
 |hN (T:TypeId) (x:a6) (k:Nat)
 |jA (T:TypeId) (x i:a6)
 |idx (T:TypeId) (x i:a6)
 |ex (x:a6) (k:Nat)
 |lN (T:TypeId) (x:a6) (k:Nat)
 |call (f:a6) (args:List a6)
 |len (T:TypeId) (x:a6)
 |app (T bP:TypeId) (x y:a6)
 |shr (bq:di)
 |i7 (T bP:TypeId) (x y:a6)
 |cap (T:TypeId) (x:a6)
 |pJ (g0:Bool) (x y:a6)
 |bad
 |kR (f:a6) (args:List a6) (us:afc)
 |ic (T:TypeId) (x:a6)
 |ext (x:a6) (k:Nat)
 |ll (T:TypeId) (x y:a6) (u:Nat)
 |w7
 |n0 (T:TypeId) (x i:a6)
 |mo (T:TypeId) (x i v:a6)
def di.base:di->di
 | .shr bq=>bq
 | .i7 T bP x y=>.app T bP x y
 | .kR f args _=>.call f args
 | .ic T x=>.g_ T x
 | .ext x k=>.ex x k
 | .ll T x y _=>.gT T x y
 |bq=>bq
def uC:List Operand->Option (List a6)
 |[]=>some []
 |o::os=>match cY o,uC os with
  |some x,some xs=>some (x::xs)
  |_,_=>none
def uD:List (Nat×Operand)->Option (List (Nat×a6))
 |[]=>some []
 |(k,o)::os=>match cY o,uD os with
  |some x,some xs=>some ((k,x)::xs)
  |_,_=>none
def pK:Option Operand->Option (Option a6)
 |none=>some none
 |some o=>(cY o).map some
def cz:Op->Option di
 | .move x=>(cY x).map .eP
 | .assign x=>(cY x).map .lP
 | .pick c a b=>match cY c,cY a,cY b with
   |some c,some a,some b=>some (.pick c a b)
   |_,_,_=>none
 | .alloc T=>some (.lM T)
 | .box T x=>(cY x).map (.g_ T)
 | .build T ps=>(uD ps.toList).map (.fl T)
 | .buildSlice T n ps=>(uD ps.toList).map (.eu T n)
 | .load T x=>(cY x).map (.ff T)
 | .store T x y=>match cY x,cY y with
   |some x,some y=>some (.gT T x y)
   |_,_=>none
 | .nilCheck x=>(cY x).map .iT
 | .binOp op T x y _=>match cY x,cY y with
   |some x,some y=>some (.eh op T x y)
   |_,_=>none
 | .unOp op _ x=>(cY x).map (.un op)
 | .convert A B x=>(cY x).map (.iB A B)
 | .makeFunc (.func f) first cs=>if first.isEmpty then(uC cs.toList).map (.n1 f)else none
 | .makeSlice T l c=>match cY l,cY c with
   |some l,some c=>some (.ei T l c)
   |_,_=>none
 | .slice T x dI aC none=>match cY x,pK dI,pK aC with
   |some x,some dI,some aC=>some (.e2 T x dI aC)
   |_,_,_=>none
 | .fieldAddr T x k=>(cY x).map λx=>.hN T x k
 | .indexAddr T x i=>match cY x,cY i with
   |some x,some i=>some (.jA T x i)
   |_,_=>none
 | .index T x i=>match cY x,cY i with
   |some x,some i=>some (.idx T x i)
   |_,_=>none
 | .extract x k=>(cY x).map λx=>.ex x k
 | .field T x k=>(cY x).map λx=>.lN T x k
 | .makeMap _ none=>some .w7
 | .lookup T x i false=>match cY x,cY i with
   |some x,some i=>some (.n0 T x i)
   |_,_=>none
 | .mapUpdate T x i v=>match cY x,cY i,cY v with
   |some x,some i,some v=>some (.mo T x i v)
   |_,_,_=>none
 | .call c=>match c.callee with
   | .value f=>match cY f,uC c.args.toList with
     |some f,some xs=>some (.call f xs)
     |_,_=>none
   | .builtin .len=>match c.args.toList,c.argTypes.toList with
     |[x],[T]=>(cY x).map (.len T)
     |_,_=>none
   | .builtin .cap=>match c.args.toList,c.argTypes.toList with
     |[x],[T]=>(cY x).map (.cap T)
     |_,_=>none
   | .builtin .min=>match c.args.toList with
     |[x,y]=>match cY x,cY y with
      |some x,some y=>some (.pJ false x y)
      |_,_=>none
     |_=>none
   | .builtin .max=>match c.args.toList with
     |[x,y]=>match cY x,cY y with
      |some x,some y=>some (.pJ true x y)
      |_,_=>none
     |_=>none
   | .builtin .append=>match c.args.toList,c.argTypes.toList with
     |[x,y],[T,bP]=>match cY x,cY y with
      |some x,some y=>some (.app T bP x y)
      |_,_=>none
     |_,_=>none
   |_=>none
 |_=>none
def pJ (g0:Bool):I->I->Option I
 | .str a,.str b=>some (.str (zj g0 a b))
 | .int k a,.int c8 b=>if k=c8 then some (.int k (Cx g0 a b))else none
 |_,_=>none
def w8 (s:ak):I->Option (I×ak)
 | .h y q=>cr s (.h y q)
 |d=>some (d,s)
def rL (s:ak) (x:I) (k:Nat):Option (I×ak):=
 match x,ex s x k with
 | .h y _,some (.h z p)=>if z=y then cr s (.h z p)else none
 |_,_=>none
theorem Jc {s s1:ak} {x av:I} {k:Nat} (h:rL s x k=some (av,s1)):∃y q p,x= .h y q/\ex s x k=some (.h y p)/\cr s (.h y p)=some (av,s1):=by
 unfold rL at h;split at h
 .rename_i y q z p he;split at h
  .rename_i e;subst e;exact⟨z,q,p,rfl,he,h⟩
  .cases h
 .cases h
def bE (C:bH) (s:ak):di->Option (I×ak)
 | .eP x=>some (a7 s x,s)
 | .lP x=>match a7 s x with
   | .h y q=>cr s (.h y q)
   |d=>some (d,s)
 | .pick c a b=>match a7 s c with
   | .bool eN=>some (if eN then a7 s a else a7 s b,s)
   |_=>none
 | .lM T=>(lM C T).map λd=>(d,s)
 | .g_ _ x=>g_ s (a7 s x)
 | .fl T ps=>fl C s T (ps.map λp=>(p.1,a7 s p.2))
 | .eu T n ps=>eu C s T n (ps.map λp=>(p.1,a7 s p.2))
 | .ff T x=>(ff C s T (a7 s x)).map λd=>(d,s)
 | .gT T x y=>(gT C s T (a7 s x) (a7 s y)).map λs1=>(.hole,s1)
 | .iT x=>(iT s (a7 s x)).map λd=>(d,s)
 | .eh op T x y=>(eh C s op T (a7 s x) (a7 s y)).map λd=>(d,s)
 | .un op x=>(un op (a7 s x)).map λd=>(d,s)
 | .iB A B x=>(iB C s A B (a7 s x)).map λd=>(d,s)
 | .n1 f cs=>some (.fn f (cs.map (a7 s)),s)
 | .ei T l c=>(ei C T (a7 s l) (a7 s c)).map λd=>(d,s)
 | .e2 T x dI aC=>e2 C s T (a7 s x) (dI.map (a7 s)) (aC.map (a7 s))
 | .hN T x k=>(hN C s T (a7 s x) k).map λd=>(d,s)
 | .jA T x i=>(jA C s T (a7 s x) (a7 s i)).map λd=>(d,s)
 | .idx T x i=>(idx C T (a7 s x) (a7 s i)).map λd=>(d,s)
 | .ex x k=>(ex s (a7 s x) k).map λd=>(d,s)
 | .lN T x k=>(lN C s T (a7 s x) k).bind (w8 s)
 | .call _ _=>none
 | .len T x=>(qy C s T (a7 s x)).map λd=>(d,s)
 | .app T bP x y=>qB C s T bP (a7 s x) (a7 s y)
 | .shr _=>none
 | .kR _ _ _=>none
 | .ll _ _ _ _=>none
 | .ic _ x=>ic s (a7 s x)
 | .ext x k=>rL s (a7 s x) k
 | .w7=>some (.dm (.mp []),s)
 | .n0 T x i=>(n0 C s T (a7 s x) (a7 s i)).map λd=>(d,s)
 | .mo T x i v=>(mo C s T (a7 s x) (a7 s i) (a7 s v)).map λs1=>(.hole,s1)
 | .i7 T bP x y=>(i7 C T bP (a7 s x) (a7 s y)).map λd=>(d,s)
 | .cap T x=>match(C.T T).k,a7 s x with
   | .slice _,.aN=>some (.int .i64 0,s)
   |_,_=>none
 | .pJ g0 x y=>(pJ g0 (a7 s x) (a7 s y)).map λd=>(d,s)
 | .bad=>none
section
variable {C:bH} {w0 w:World} {F0 X F:Nat->Prop} {S:Nat->Nat->Prop} {s s1:ak} {a:Act} {av:I}
theorem sP:∀{os:List Operand} {xs:List a6},uC os=some xs->os.map cY=xs.map some
 |[],xs,h=>by simp[uC]at h;subst h;rfl
 |o::os,xs,h=>by
  simp only[uC]at h;split at h
  .rename_i x sQ ae af;simp at h;subst h;simp[ae,sP af]
  .cases h
theorem Dk {aw:Nat->Value} (h:bw w0 F0 X F S s aw w) (dt:∀t,aw t=a.tmps.getD t undef):∀{ps:List (Nat×Operand)} {xs:List (Nat×a6)},uD ps=some xs->
  n2 w F s aw (xs.map λp=>(p.1,a7 s p.2)) (ps.map λp=>(p.1,a.eval p.2))
 |[],xs,h=>by simp[uD]at h;subst h;trivial
 |(k,o)::ps,xs,bB=>by
  simp only[uD]at bB;split at bB
  .rename_i x sQ ae af;simp at bB;subst bB;obtain⟨aV,ba⟩:=eg h dt ae;exact⟨rfl,aV,ba,Dk h dt af⟩
  .cases bB
def Next (C:bH) (w0:World) (F0 X:Nat->Prop) (aw:Nat->Value) (w:World) (m:Sem Go.Next) (av:I) (s1:ak):Prop:=
 ∃r aB v bC aO,m.run C.P w= .ok r aB/\(r= .value v\/r= .skip/\v=undef)/\bw w0 F0 X bC aO s1 aw aB/\kq w0 X bC aO s1 aw aB av v
theorem Good.next {aw:Nat->Value} {m:Sem Value} (h:Good C w0 F0 X aw w m av s1):Next C w0 F0 X aw w (do pure (.value (<-m))) av s1:=by
 obtain⟨v,aB,bC,aO,ae,af,aF⟩:=h;exact⟨.value v,aB,v,bC,aO,by simp[ae],.inl rfl,af,aF⟩
theorem Jd {aw:Nat->Value} (h:bw w0 F0 X F S s aw w) {g0:Bool} {x y:I} {fD gh:Value} {m:Sem Go.Next} (ae:aG w F s aw x fD (λ_=>False)) (af:aG w F s aw y gh (λ_=>False))
  (he:(pJ g0 x y).map (λd=>(d,s))=some (av,s1)) (hm:m=(do pure (.value (<-if g0 then Builtin.max2 fD gh else Builtin.min2 fD gh)))):Next C w0 F0 X aw w m av s1:=by
 simp only[Option.map_eq_some_iff,Prod.mk.injEq]at he;obtain⟨d,ai,rfl,rfl⟩:=he;unfold pJ at ai;split at ai
 .rename_i a b;simp only[Option.some.injEq]at ai;subst ai;have aT:=nW ae;have a3:=nW af;subst aT a3;subst hm;refine⟨.value (.string ⟨⟨zj g0 a b⟩⟩),w,_,F,S,?_,.inl rfl,h,.inl ⟨rfl,oJ _⟩⟩;cases g0
  .simp only[Builtin.min2,Op.stringOp,wP,zj,Bool.false_eq_true,if_false];cases U:(Op.bytesLess a b||a==b)<;>simp[asBool]
  .simp only[Builtin.max2,Op.stringOp,wP,zj,if_true];cases U:Op.bytesLess a b<;>simp[asBool]
 .rename_i k a c8 b;split at ai
  .rename_i aj;subst aj;simp only[Option.some.injEq]at ai;subst ai;have aT:=nV ae;have a3:=nV af;subst aT a3;subst hm;refine⟨.value (.int k (Cx g0 a b)),w,_,F,S,?_,.inl rfl,h,.inl ⟨rfl,of_int _ _⟩⟩;cases g0<;>simp[Builtin.min2,Builtin.max2,Cx]
  .cases ai
 .cases ai
theorem Je (a9:C.dL) {aw:Nat->Value} (h:bw w0 F0 X F S s aw w) (dt:∀t,aw t=a.tmps.getD t undef) {o:Oper} {bq:di} (aa:cz o.op=some bq) (he:bE C s bq=some (av,s1)):
  Next C w0 F0 X aw w (execOp a.eval o) av s1:=by
 obtain⟨dst,op,ty,pos,after,guard⟩:=o;simp only at aa;cases op with
 |move x=>
  simp only[cz,Option.map_eq_some_iff]at aa;obtain⟨cw,al,rfl⟩:=aa;obtain⟨aV,ba⟩:=eg h dt al;simp only[bE,Option.some.injEq,Prod.mk.injEq]at he;obtain⟨rfl,rfl⟩:=he;exact⟨_,w,_,F,S,rfl,.inl rfl,h,.inl ⟨aV,ba⟩⟩
 |assign x=>
  simp only[cz,Option.map_eq_some_iff]at aa;obtain⟨cw,al,rfl⟩:=aa;obtain⟨aV,ba⟩:=eg h dt al;simp only[bE]at he;split at he
  .rename_i y q a5;rw[a5]at aV ba;obtain⟨S1,k0,bU,ch,Sn,dd,cW,ed,dn,h4,_⟩:=mW h aV ba he;exact⟨_,w,_,F,S1,rfl,.inl rfl,k0,.inr ⟨bU,ch,Sn,dd,cW,ed,dn,h4⟩⟩
  .simp only[Option.some.injEq,Prod.mk.injEq]at he;obtain⟨rfl,rfl⟩:=he;exact⟨_,w,_,F,S,rfl,.inl rfl,h,.inl ⟨aV,ba⟩⟩
 |pick c x y=>
  simp only[cz]at aa;split at aa
  .rename_i Jf cw jo an al a5;simp only[Option.some.injEq]at aa;subst aa;simp only[bE]at he;split at he
   .rename_i b U;simp only[Option.some.injEq,Prod.mk.injEq]at he;obtain⟨rfl,rfl⟩:=he;have sN:=(eg h dt an).2;rw[U]at sN;have sN:=rD sN;obtain⟨ah,aA⟩:=eg h dt al;obtain⟨e_,iD⟩:=eg h dt a5;refine⟨.value (if b then a.eval x else a.eval y),w,_,F,S,?_,.inl rfl,h,.inl ?_⟩
    .simp[execOp,sN,asBool]
    .cases b
     .exact⟨e_,iD⟩
     .exact⟨ah,aA⟩
   .cases he
  .cases aa
 |alloc T=>
  simp only[cz,Option.some.injEq]at aa;subst aa;simp only[bE,Option.map_eq_some_iff,Prod.mk.injEq]at he;obtain⟨d,ai,rfl,rfl⟩:=he;exact(Pv a9 h ai).next
 |box T x=>
  simp only[cz,Option.map_eq_some_iff]at aa;obtain⟨cw,al,rfl⟩:=aa;obtain⟨aV,ba⟩:=eg h dt al;exact(Pz h aV ba he).next
 |build T ps=>
  simp only[cz,Option.map_eq_some_iff]at aa;obtain⟨QA,au,rfl⟩:=aa;obtain⟨ps⟩:=ps;have:=(Qu a9 h (Dk h dt au) he).next;simpa [execOp]using this
 |buildSlice T n ps=>
  simp only[cz,Option.map_eq_some_iff]at aa;obtain⟨QA,au,rfl⟩:=aa;obtain⟨ps⟩:=ps;have:=(Qx a9 h (Dk h dt au) he).next;simpa [execOp]using this
 |load T x=>
  simp only[cz,Option.map_eq_some_iff]at aa;obtain⟨cw,al,rfl⟩:=aa;obtain⟨aV,ba⟩:=eg h dt al;simp only[bE,Option.map_eq_some_iff,Prod.mk.injEq]at he;obtain⟨d,ai,rfl,rfl⟩:=he;exact(Pr a9 h ba ai).next
 |store T x y=>
  simp only[cz]at aa;split at aa
  .rename_i cw jo al a5;simp only[Option.some.injEq]at aa;subst aa;simp only[bE,Option.map_eq_some_iff,Prod.mk.injEq]at he;obtain⟨s2,ai,rfl,rfl⟩:=he;obtain⟨aB,aO,ae,af⟩:=Pu a9 h (eg h dt al).2 (eg h dt a5).1 (eg h dt a5).2 ai;exact⟨.skip,aB,undef,F,aO,by simp[execOp,ae],.inr ⟨rfl,rfl⟩,af,.inl ⟨rfl,by rw[aG];trivial⟩⟩
  .cases aa
 |nilCheck x=>
  simp only[cz,Option.map_eq_some_iff]at aa;obtain⟨cw,al,rfl⟩:=aa;obtain⟨aV,ba⟩:=eg h dt al;simp only[bE,Option.map_eq_some_iff,Prod.mk.injEq]at he;obtain⟨d,ai,rfl,rfl⟩:=he;obtain⟨rfl,au,aH⟩:=PM h ba ai;refine⟨.value (a.eval x),w,_,F,S,?_,.inl rfl,h,.inl ⟨au,ba⟩⟩;rcases aH with⟨b,U⟩|⟨f,c,U⟩<;>simp[execOp,U]
 |binOp op T x y adO=>
  simp only[cz]at aa;split at aa
  .rename_i cw jo al a5;simp only[Option.some.injEq]at aa;subst aa;simp only[bE,Option.map_eq_some_iff,Prod.mk.injEq]at he;obtain⟨d,ai,rfl,rfl⟩:=he;exact(PJ a9 h x y (eg h dt al).2 (eg h dt a5).2 ai).next
  .cases aa
 |unOp op T x=>
  simp only[cz,Option.map_eq_some_iff]at aa;obtain⟨cw,al,rfl⟩:=aa;simp only[bE,Option.map_eq_some_iff,Prod.mk.injEq]at he;obtain⟨d,ai,rfl,rfl⟩:=he;exact(PK h (eg h dt al).2 ai).next
 |convert A B x=>
  simp only[cz,Option.map_eq_some_iff]at aa;obtain⟨cw,al,rfl⟩:=aa;simp only[bE,Option.map_eq_some_iff,Prod.mk.injEq]at he;obtain⟨d,ai,rfl,rfl⟩:=he;exact(PV a9 h (eg h dt al).2 ai).next
 |makeFunc fn first cs=>
  cases fn with
  |func f=>
   simp only[cz]at aa;split at aa
   .rename_i QB;simp only[Option.map_eq_some_iff]at aa;obtain⟨rM,ho,rfl⟩:=aa;simp only[bE,Option.some.injEq,Prod.mk.injEq]at he;obtain⟨rfl,rfl⟩:=he;have Dl:first= #[]:=by simpa using QB
    subst Dl;refine⟨_,w,_,F,S,rfl,.inl rfl,h,.inl ⟨rfl,?_⟩⟩;rw[aG];refine⟨cs.map a.eval,by simp,?_⟩;simpa using zN h dt _ _ (sP ho)
   .cases aa
  |_=>simp[cz]at aa
 |makeSlice T l c=>
  simp only[cz]at aa;split at aa
  .rename_i cw jo al a5;simp only[Option.some.injEq]at aa;subst aa;simp only[bE,Option.map_eq_some_iff,Prod.mk.injEq]at he;obtain⟨d,ai,rfl,rfl⟩:=he;exact(Ql a9 h (eg h dt al).2 (eg h dt a5).2 ai).next
  .cases aa
 |slice T x dI aC g0=>
  cases g0 with
  |some m=>simp[cz]at aa
  |none=>
   simp only[cz]at aa;split at aa
   .rename_i cw sR n3 al lj mn;simp only[Option.some.injEq]at aa;subst aa;obtain⟨aV,ba⟩:=eg h dt al;have opt:∀{o:Option Operand} {m5:Option a6},pK o=some m5->qz w F s aw (m5.map (a7 s)) (o.map a.eval):=by
     intro o m5 bO;cases o with
     |none=>simp[pK]at bO;subst bO;trivial
     |some o=>
      simp only[pK,Option.map_eq_some_iff]at bO;obtain⟨x,al,rfl⟩:=bO;exact(eg h dt al).2
    exact(PY a9 h aV ba (opt lj) (opt mn) he).next
   .cases aa
 |fieldAddr T x k=>
  simp only[cz,Option.map_eq_some_iff]at aa;obtain⟨cw,al,rfl⟩:=aa;obtain⟨aV,ba⟩:=eg h dt al;simp only[bE,Option.map_eq_some_iff,Prod.mk.injEq]at he;obtain⟨d,ai,rfl,rfl⟩:=he;exact(Pl a9 h aV ba ai).next
 |indexAddr T x i=>
  simp only[cz]at aa;split at aa
  .rename_i cw jo al a5;simp only[Option.some.injEq]at aa;subst aa;simp only[bE,Option.map_eq_some_iff,Prod.mk.injEq]at he;obtain⟨d,ai,rfl,rfl⟩:=he;exact(Pm a9 h (eg h dt al).2 (eg h dt a5).2 ai).next
  .cases aa
 |index T x i=>
  simp only[cz]at aa;split at aa
  .rename_i cw jo al a5;simp only[Option.some.injEq]at aa;subst aa;simp only[bE,Option.map_eq_some_iff,Prod.mk.injEq]at he;obtain⟨d,ai,rfl,rfl⟩:=he;exact(PS a9 h (eg h dt al).2 (eg h dt a5).2 ai).next
  .cases aa
 |makeMap t r=>
  cases r with
  |none=>
   simp only[cz,Option.some.injEq]at aa;subst aa;simp only[bE,Option.some.injEq,Prod.mk.injEq]at he;obtain⟨rfl,rfl⟩:=he;exact(Qk h t).next
  |some r=>simp[cz]at aa
 |lookup T x i c=>
  cases c with
  |true=>simp[cz]at aa
  |false=>
   simp only[cz]at aa;split at aa
   .rename_i cw ml al aC;simp only[Option.some.injEq]at aa;subst aa;simp only[bE,Option.map_eq_some_iff,Prod.mk.injEq]at he;obtain⟨d,ai,rfl,rfl⟩:=he;exact(Qh a9 h (eg h dt al).2 (eg h dt aC).2 ai).next
   .cases aa
 |mapUpdate T x i v=>
  simp only[cz]at aa;split at aa
  .rename_i cw ml fI al aC aH;simp only[Option.some.injEq]at aa;subst aa;simp only[bE,Option.map_eq_some_iff,Prod.mk.injEq]at he;obtain⟨s2,ai,rfl,rfl⟩:=he;obtain⟨aB,aO,ae,af⟩:=Qi a9 h (eg h dt al).2 (eg h dt aC).2 (eg h dt aH).2 ai;exact⟨.skip,aB,undef,F,aO,by simp[execOp,ae],.inr ⟨rfl,rfl⟩,af,.inl ⟨rfl,by rw[aG];trivial⟩⟩
  .cases aa
 |extract x k=>
  simp only[cz,Option.map_eq_some_iff]at aa;obtain⟨cw,al,rfl⟩:=aa;simp only[bE,Option.map_eq_some_iff,Prod.mk.injEq]at he;obtain⟨d,ai,rfl,rfl⟩:=he;exact(IC h (eg h dt al).2 ai).next
 |field T x k=>
  simp only[cz,Option.map_eq_some_iff]at aa;obtain⟨cw,al,rfl⟩:=aa;simp only[bE,Option.bind_eq_some_iff]at he;obtain⟨d,ai,he⟩:=he;obtain⟨v,aB,bC,aO,aR,eH,mV⟩:=PQ a9 h (eg h dt al).2 ai;unfold w8 at he;split at he
  .rename_i y q;have Dm:aG aB bC s aw (.h y q) v (λ_=>False):=by
    rcases mV with⟨_,ba⟩|⟨aV,_⟩
    .exact ba
    .cases aV
   obtain⟨S1,k0,bU,ch,Sn,dd,cW,ed,dn,h4,_⟩:=mW eH rfl Dm he;exact⟨.value v,aB,v,bC,S1,by simp[execOp,aR],.inl rfl,k0,.inr ⟨bU,ch,Sn,dd,cW,ed,dn,h4⟩⟩
  .simp only[Option.some.injEq,Prod.mk.injEq]at he;obtain⟨rfl,rfl⟩:=he;exact⟨.value v,aB,v,bC,aO,by simp[execOp,aR],.inl rfl,eH,mV⟩
 |call c=>
  obtain⟨callee,args,argTypes⟩:=c;simp only[cz]at aa;split at aa
  .split at aa
   .simp only[Option.some.injEq]at aa;subst aa;simp[bE]at he
   .cases aa
  .split at aa
   .rename_i x T mq sS;simp only[Option.map_eq_some_iff]at aa;obtain⟨cw,al,rfl⟩:=aa;simp only[bE,Option.map_eq_some_iff,Prod.mk.injEq]at he;obtain⟨d,ai,rfl,rfl⟩:=he;have:=(PT (ty:=ty) a9 h (eg h dt al).2 ai).next;have aT:args= #[x]:=by apply Array.ext';exact mq
    have a3:argTypes= #[T]:=by apply Array.ext';exact sS
    subst aT a3;simpa [execOp,resolve,invoke,builtin]using this
   .cases aa
  .split at aa
   .rename_i x T mq sS;simp only[Option.map_eq_some_iff]at aa;obtain⟨cw,al,rfl⟩:=aa;simp only[bE]at he;split at he
    .rename_i e aj QC;simp only[Option.some.injEq,Prod.mk.injEq]at he;obtain⟨rfl,rfl⟩:=he;have aH:=(eg h dt al).2;rw[QC]at aH;have:=qw aH;obtain⟨i,d,z,aT,a3,aY,b1,cI,bQ,bL⟩:=a9.info (fv aj (by simp));rw[aj]at bL;have ai:=ks bL;subst ai;have QD:args= #[x]:=by apply Array.ext';exact mq
     have QE:argTypes= #[T]:=by apply Array.ext';exact sS
     subst QD QE;have aR:(Builtin.cap_ #[T] ty #[a.eval x]).run C.P w= .ok (.int .i64 0) w:=by
      rw[this];simp[Builtin.cap_,run_underlying bQ,goInt]
     have:=(Good.same (av:=.int .i64 0) h aR rfl (of_int _ _)).next;simpa [execOp,resolve,invoke,builtin]using this
    .cases he
   .cases aa
  .split at aa
   .rename_i x y mq;split at aa
    .rename_i cw jo al a5;simp only[Option.some.injEq]at aa;subst aa;have aT:args= #[x,y]:=by apply Array.ext';exact mq
     subst aT;exact Jd h (eg h dt al).2 (eg h dt a5).2 he (by simp[execOp,resolve,invoke,builtin,Builtin.min_])
    .cases aa
   .cases aa
  .split at aa
   .rename_i x y mq;split at aa
    .rename_i cw jo al a5;simp only[Option.some.injEq]at aa;subst aa;have aT:args= #[x,y]:=by apply Array.ext';exact mq
     subst aT;exact Jd h (eg h dt al).2 (eg h dt a5).2 he (by simp[execOp,resolve,invoke,builtin,Builtin.max_])
    .cases aa
   .cases aa
  .split at aa
   .rename_i x y T bP mq sS;split at aa
    .rename_i cw jo al a5;simp only[Option.some.injEq]at aa;subst aa;have:=(P8 (ty:=ty) a9 h (eg h dt al).2 (eg h dt a5).2 he).next;have aT:args= #[x,y]:=by apply Array.ext';exact mq
     have a3:argTypes= #[T,bP]:=by apply Array.ext';exact sS
     subst aT a3;simpa [execOp,resolve,invoke,builtin]using this
    .cases aa
   .cases aa
  .cases aa
 |_=>simp[cz]at aa
end
mutual
def I.aa:I->afc
 | .h x _=>[x]
 | .au x _=>[x]
 | .U x _=>[x]
 | .fn _ cap=>I.du cap
 |_=>[]
def I.du:afh->afc
 |[]=>[]
 |d::ds=>d.aa++I.du ds
end
inductive pL where
 |no
 |b5
 |cv
structure gr where
 k:pL
 x:Nat
 d:I
def pL.app (k:pL) (x:Nat) (a:I):I:=match k with
 | .no=>a
 | .b5=>c3.b5 x a
 | .cv=>c3.cv x a
def gr.at (m:gr) (u:Nat) (a:I):I:=if u=m.x then m.d else m.k.app m.x a
def jD:List gr->Nat->I->I
 |[],_,a=>a
 |m::ms,u,a=>jD ms u (m.at u a)
def c1 (ms:List gr) (s:ak):ak:=λu=>jD ms u (s u)
theorem Jg:∀(ms kA:List gr) (u:Nat) (a:I),jD (ms++kA) u a=jD kA u (jD ms u a)
 |[],_,_,_=>rfl
 |m::ms,kA,u,a=>by simp only[cons_append,jD];exact Jg ms kA u _
theorem ln (ms kA:List gr) (s:ak):c1 (ms++kA) s=c1 kA (c1 ms s):=by
 funext u;simp[c1,Jg]
theorem QF {ms:List gr} {s az:ak} {u:Nat} (h:az u=s u):c1 ms az u=c1 ms s u:=by simp[c1,h]
theorem sT (s:ak) (x:Nat) (d:I):cg (e0 x s) x d=c1 [⟨.b5,x,d⟩] s:=by
 funext u;simp only[c1,jD,gr.at,cg,e0,pL.app]
theorem Jh (s:ak) (x:Nat) (d:I):cg (lf x s) x d=c1 [⟨.cv,x,d⟩] s:=by
 funext u;simp only[c1,jD,gr.at,cg,lf,pL.app]
theorem Ji (s:ak) (x:Nat) (d:I):cg s x d=c1 [⟨.no,x,d⟩] s:=by
 funext u;simp only[c1,jD,gr.at,cg,pL.app]
mutual
theorem w9 {x:Nat}:∀a:I,x∉a.aa->b5 x a=a
 | .h y q,h=>by
   simp only[I.aa,mem_singleton]at h;simp only[b5];rw[if_neg (λe=>h e.symm)]
 | .au y q,h=>by
   simp only[I.aa,mem_singleton]at h;simp only[b5];rw[if_neg (λe=>h e.symm)]
 | .U y q,h=>rfl
 | .fn f cap,h=>by simp only[b5];rw[Jj cap (by simpa [I.aa]using h)]
 | .hole,_=>rfl
 | .bool _,_=>rfl
 | .eM,_=>rfl
 | .int _ _,_=>rfl
 | .str _,_=>rfl
 | .db,_=>rfl
 | .aN,_=>rfl
 | .slice _,_=>rfl
 | .ag _ _,_=>rfl
 | .ref _,_=>rfl
 | .aK _,_=>rfl
 | .agg _,_=>rfl
 | .tuple _,_=>rfl
 | .dm _,_=>rfl
 | .eY _ _,_=>rfl
 | .gb _,_=>rfl
theorem Jj {x:Nat}:∀ds:afh,x∉I.du ds->ib x ds=ds
 |[],_=>rfl
 |d::ds,h=>by
  simp only[I.du,mem_append,not_or]at h;simp only[ib];rw[w9 d h.1,Jj ds h.2]
end
mutual
theorem Dn {x:Nat}:∀a:I,x∉a.aa->cv x a=a
 | .h y q,h=>by
   simp only[I.aa,mem_singleton]at h;simp only[cv];rw[if_neg (λe=>h e.symm)]
 | .au y q,h=>by
   simp only[I.aa,mem_singleton]at h;simp only[cv];rw[if_neg (λe=>h e.symm)]
 | .U y q,h=>by
   simp only[I.aa,mem_singleton]at h;simp only[cv];rw[if_neg (λe=>h e.symm)]
 | .fn f cap,h=>by simp only[cv];rw[Jk cap (by simpa [I.aa]using h)]
 | .hole,_=>rfl
 | .bool _,_=>rfl
 | .eM,_=>rfl
 | .int _ _,_=>rfl
 | .str _,_=>rfl
 | .db,_=>rfl
 | .aN,_=>rfl
 | .slice _,_=>rfl
 | .ag _ _,_=>rfl
 | .ref _,_=>rfl
 | .aK _,_=>rfl
 | .agg _,_=>rfl
 | .tuple _,_=>rfl
 | .dm _,_=>rfl
 | .eY _ _,_=>rfl
 | .gb _,_=>rfl
theorem Jk {x:Nat}:∀ds:afh,x∉I.du ds->iQ x ds=ds
 |[],_=>rfl
 |d::ds,h=>by
  simp only[I.du,mem_append,not_or]at h;simp only[iQ];rw[Dn d h.1,Jk ds h.2]
end
theorem w_ {k:pL} {x:Nat} {a:I} (h:k= .no\/x∉a.aa):k.app x a=a:=by
 cases k with
 |no=>rfl
 |b5=>exact w9 a (by simpa using h)
 |cv=>exact Dn a (by simpa using h)
mutual
theorem Jl (x y:Nat):∀a:I,b5 x (b5 y a)=b5 y (b5 x a)
 | .h z q=>by simp only[b5];by_cases ae:z=x<;>by_cases af:z=y<;>by_cases aF:q=[]<;>simp[ae,af,aF,b5]<;>(subst_vars;simp_all [b5])
 | .au z q=>by simp only[b5];by_cases ae:z=x<;>by_cases af:z=y<;>simp[ae,af,b5]<;>(subst_vars;simp_all [b5])
 | .U z q=>rfl
 | .fn f cap=>by simp only[b5];rw[Jm x y cap]
 | .hole=>rfl
 | .bool _=>rfl
 | .eM=>rfl
 | .int _ _=>rfl
 | .str _=>rfl
 | .db=>rfl
 | .aN=>rfl
 | .slice _=>rfl
 | .ag _ _=>rfl
 | .ref _=>rfl
 | .aK _=>rfl
 | .agg _=>rfl
 | .tuple _=>rfl
 | .dm _=>rfl
 | .eY _ _=>rfl
 | .gb _=>rfl
theorem Jm (x y:Nat):∀ds:afh,ib x (ib y ds)=ib y (ib x ds)
 |[]=>rfl
 |d::ds=>by simp only[ib];rw[Jl x y d,Jm x y ds]
end
mutual
theorem Jn (x y:Nat):∀a:I,cv x (cv y a)=cv y (cv x a)
 | .h z q=>by simp only[cv];by_cases ae:z=x<;>by_cases af:z=y<;>simp[ae,af,cv]<;>(subst_vars;simp_all [cv])
 | .au z q=>by simp only[cv];by_cases ae:z=x<;>by_cases af:z=y<;>simp[ae,af,cv]<;>(subst_vars;simp_all [cv])
 | .U z q=>by simp only[cv];by_cases ae:z=x<;>by_cases af:z=y<;>simp[ae,af,cv]<;>(subst_vars;simp_all [cv])
 | .fn f cap=>by simp only[cv];rw[Jo x y cap]
 | .hole=>rfl
 | .bool _=>rfl
 | .eM=>rfl
 | .int _ _=>rfl
 | .str _=>rfl
 | .db=>rfl
 | .aN=>rfl
 | .slice _=>rfl
 | .ag _ _=>rfl
 | .ref _=>rfl
 | .aK _=>rfl
 | .agg _=>rfl
 | .tuple _=>rfl
 | .dm _=>rfl
 | .eY _ _=>rfl
 | .gb _=>rfl
theorem Jo (x y:Nat):∀ds:afh,iQ x (iQ y ds)=iQ y (iQ x ds)
 |[]=>rfl
 |d::ds=>by simp only[iQ];rw[Jn x y d,Jo x y ds]
end
mutual
theorem Dp (x y:Nat):∀a:I,b5 x (cv y a)=cv y (b5 x a)
 | .h z q=>by simp only[cv,b5];by_cases ae:z=x<;>by_cases af:z=y<;>by_cases aF:q=[]<;>simp[ae,af,aF,cv,b5]<;>(subst_vars;simp_all [cv,b5])
 | .au z q=>by simp only[cv,b5];by_cases ae:z=x<;>by_cases af:z=y<;>simp[ae,af,cv,b5]<;>(subst_vars;simp_all [cv,b5])
 | .U z q=>by simp only[cv,b5];by_cases af:z=y<;>simp[af,b5]
 | .fn f cap=>by simp only[cv,b5];rw[Jp x y cap]
 | .hole=>rfl
 | .bool _=>rfl
 | .eM=>rfl
 | .int _ _=>rfl
 | .str _=>rfl
 | .db=>rfl
 | .aN=>rfl
 | .slice _=>rfl
 | .ag _ _=>rfl
 | .ref _=>rfl
 | .aK _=>rfl
 | .agg _=>rfl
 | .tuple _=>rfl
 | .dm _=>rfl
 | .eY _ _=>rfl
 | .gb _=>rfl
theorem Jp (x y:Nat):∀ds:afh,ib x (iQ y ds)=iQ y (ib x ds)
 |[]=>rfl
 |d::ds=>by simp only[iQ,ib];rw[Dp x y d,Jp x y ds]
end
theorem QG (k l:pL) (x y:Nat) (a:I):k.app x (l.app y a)=l.app y (k.app x a):=by
 cases k<;>cases l<;>simp only[pL.app]<;>first|rfl|exact Jl .. |exact Jn .. |exact Dp .. |exact(Dp ..).symm
def a6.use (s:ak):a6->afc
 | .t n=>n::(s n).aa
 | .c av=>av.aa
 | .f _=>[]
def a6.oP (s:ak):List a6->afc
 |[]=>[]
 |x::xs=>x.use s++a6.oP s xs
def Dq (s:ak):Option a6->afc
 |none=>[]
 |some x=>x.use s
def use (s:ak):di->afc
 | .eP x=>x.use s
 | .lP x=>x.use s
 | .pick c a b=>c.use s++(a.use s++b.use s)
 | .lM _=>[]
 | .g_ _ x=>x.use s
 | .fl _ ps=>a6.oP s (ps.map (·.2))
 | .eu _ _ ps=>a6.oP s (ps.map (·.2))
 | .ff _ x=>x.use s
 | .gT _ x y=>x.use s++y.use s
 | .iT x=>x.use s
 | .eh _ _ x y=>x.use s++y.use s
 | .un _ x=>x.use s
 | .iB _ _ x=>x.use s
 | .n1 _ cs=>a6.oP s cs
 | .ei _ l c=>l.use s++c.use s
 | .e2 _ x dI aC=>x.use s++(Dq s dI++Dq s aC)
 | .hN _ x _=>x.use s
 | .jA _ x i=>x.use s++i.use s
 | .idx _ x i=>x.use s++i.use s
 | .ex x _=>x.use s
 | .lN _ x _=>x.use s
 | .call f args=>f.use s++a6.oP s args
 | .len _ x=>x.use s
 | .app _ _ x y=>x.use s++y.use s
 | .shr bq=>use s bq
 | .kR f args us=>us.flatMap (λu=>u::(s u).aa)++(f.use s++a6.oP s args)
 | .ll _ x y u=>(u::(s u).aa)++(x.use s++y.use s)
 | .ic _ x=>x.use s
 | .ext x _=>x.use s
 | .w7=>[]
 | .n0 _ x i=>x.use s++i.use s
 | .mo _ x i v=>x.use s++(i.use s++v.use s)
 | .i7 _ _ x y=>x.use s++y.use s
 | .cap _ x=>x.use s
 | .pJ _ x y=>x.use s++y.use s
 | .bad=>[]
def kS (s:ak):di->afc
 | .lP x=>(a7 s x).aa
 | .g_ _ x=>(a7 s x).aa
 | .fl _ ps=>I.du (ps.map λp=>a7 s p.2)
 | .eu _ _ ps=>I.du (ps.map λp=>a7 s p.2)
 | .gT _ x y=>(a7 s x).aa++(a7 s y).aa
 | .lN _ x _=>(a7 s x).aa
 | .ext x _=>(a7 s x).aa
 | .mo _ x _ _=>(a7 s x).aa
 | .e2 _ x _ _=>(a7 s x).aa
 | .app _ _ x y=>(a7 s x).aa++(a7 s y).aa
 | .shr bq=>kS s bq
 |_=>[]
def cX (bP:afc) (az s:ak):Prop:=∀u∈bP,az u=s u
theorem cX.left {bP V:afc} {az s:ak} (h:cX (bP++V) az s):cX bP az s:=λu hu=>h u (mem_append_left _ hu)
theorem cX.right {bP V:afc} {az s:ak} (h:cX (bP++V) az s):cX V az s:=λu hu=>h u (mem_append_right _ hu)
theorem cX.c1 {bP:afc} {az s:ak} (h:cX bP az s) (ms:List gr):cX bP (c1 ms az) (c1 ms s):=λu hu=>QF (h u hu)
theorem cX.sub {bP V:afc} {az s:ak} (h:cX bP az s) (aa:∀u∈V,u∈bP):cX V az s:=λu hu=>h u (aa u hu)
theorem a6.sU {s:ak} {x:a6}:∀u∈(a7 s x).aa,u∈x.use s:=by
 intro u hu;cases x with
 |t n=>
  simp only[a7,nR]at hu;split at hu
  .simp[a6.use,hu]
  .simp only[I.aa,mem_singleton]at hu;simp[a6.use,hu]
 |c av=>exact hu
 |f g=>simp[a7,I.aa,I.du]at hu
theorem a6.e3 {s az:ak} {x:a6} (h:cX (x.use s) az s):a7 az x=a7 s x:=by
 cases x with
 |t n=>simp only[a7];rw[h n (by simp[a6.use])]
 |c av=>rfl
 |f g=>rfl
theorem cX.a7 {s az:ak} {x:a6} (h:cX (x.use s) az s):cX (a7 s x).aa az s:=h.sub a6.sU
theorem Jq {s az:ak} {x:Option a6} (h:cX (Dq s x) az s):x.map (a7 az)=x.map (a7 s):=by
 cases x with
 |none=>rfl
 |some x=>simp only[Option.map_some];rw[a6.e3 h]
theorem a6.Dr {s az:ak}:∀{xs:List a6},cX (a6.oP s xs) az s->xs.map (a7 az)=xs.map (a7 s)
 |[],_=>rfl
 |x::xs,h=>by
  simp only[map_cons];rw[a6.e3 (h.left),a6.Dr (h.right)]
theorem a6.Ds {s az:ak}:∀{ps:List (Nat×a6)},cX (a6.oP s (ps.map (·.2))) az s->(ps.map λp=>(p.1,a7 az p.2))=ps.map λp=>(p.1,a7 s p.2)
 |[],_=>rfl
 |x::xs,h=>by
  simp only[map_cons]at h⊢;rw[a6.e3 (h.left),a6.Ds (h.right)]
theorem a6.zQ {s:ak}:∀{xs:List a6},∀u∈I.du (xs.map (a7 s)),u∈a6.oP s xs
 |[],u,h=>by simp[I.du]at h
 |x::xs,u,h=>by
  simp only[map_cons,I.du,mem_append]at h;simp only[a6.oP,mem_append];exact h.imp (a6.sU u) (a6.zQ u)
section
variable {C:bH} {s az:ak} {x y i:I} {T A B:TypeId}
theorem Dt (h:cX x.aa az s):loc az x=loc s x:=by
 cases x<;>first
  |rfl
  |(simp only[loc];rw[h _ (by simp[I.aa])])
theorem Du {z:Nat} {q:afc} (h:loc s x=some (z,q)):z∈x.aa:=by
 cases x with
 |h y p=>
  simp only[loc]at h;split at h
  .simp only[Option.some.injEq,Prod.mk.injEq]at h;simp[I.aa,h.1]
  .cases h
 |au y p=>
  simp only[loc]at h;split at h
  .simp only[Option.some.injEq,Prod.mk.injEq]at h;simp[I.aa,h.1]
  .cases h
 |_=>simp[loc]at h
theorem QH (h:cX x.aa az s):ff C az T x=ff C s T x:=by
 have hl:=Dt h;unfold ff;split
 .rfl
 .rw[h _ (by simp[I.aa])]
 .rw[hl];split
  .rename_i e;rw[h _ (Du e)]
  .rfl
theorem QI {k:Nat} (h:cX x.aa az s):hN C az T x k=hN C s T x k:=by
 have hl:=Dt h;unfold hN;split
 .split
  .split
   .split
    .rfl
    .rw[h _ (by simp[I.aa])]
    .rw[hl];split
     .rename_i e;rw[h _ (Du e)]
     .rfl
   .rfl
  .rfl
 .rfl
theorem QJ (h:cX x.aa az s):jA C az T x i=jA C s T x i:=by
 cases x<;>first
  |rfl
  |(simp only[jA];rw[h _ (by simp[I.aa])])
theorem QK (h:cX x.aa az s):qy C az T x=qy C s T x:=by
 unfold qy;cases(C.T T).k<;>cases x<;>first
  |rfl
  |(simp only;rw[h _ (by simp[I.aa])])
theorem QL (h:cX x.aa az s):iB C az A B x=iB C s A B x:=by
 unfold iB;cases(C.T B).k<;>cases x<;>first
  |rfl
  |(simp only;rw[h _ (by simp[I.aa])])
theorem QM (h:cX x.aa az s):jr az x=jr s x:=by
 cases x<;>first
  |rfl
  |(simp only[jr];rw[h _ (by simp[I.aa])])
theorem QN (h:cX x.aa az s):kP az x=kP s x:=by
 cases x<;>first
  |rfl
  |(simp only[kP];rw[h _ (by simp[I.aa])])
theorem QO {op:BinOp} (h:cX x.aa az s):eh C az op T x y=eh C s op T x y:=by
 have ae:=QM h;have af:=QN h;unfold eh;split<;>first|rfl|simp only[ae,af]
theorem QP (h:cX x.aa az s):iT az x=iT s x:=by
 cases x<;>first
  |rfl
  |(simp only[iT];rw[h _ (by simp[I.aa])])
theorem QQ {k y:Nat} {q:afc} (h:lN C s T x k=some (.h y q)):x.aa=[y]:=by
 unfold lN at h;split at h<;>try (cases h;done)
 split at h<;>try (cases h;done)
 split at h
 .split at h<;>try (cases h;done)
  split at h
  .rename_i an;simp only[Option.some.injEq]at h;rw[h]at an;exact absurd an.2.2.2 (by simp[I.tree])
  .cases h
 .split at h<;>try (cases h;done)
  split at h<;>try (cases h;done)
  split at h<;>try (cases h;done)
  rename_i d ai an;by_cases au:d.plain=true
  .simp only[au,if_true,Option.some.injEq]at h;rw[h]at an;exact absurd an.2.2.2 (by simp[I.tree])
  .simp only[au,Option.some.injEq]at h;injection h with ae af;subst ae;rfl
 .cases h
theorem Jr {k:Nat} (h:cX x.aa az s):lN C az T x k=lN C s T x k:=by
 unfold lN;split<;>try rfl
 split<;>try rfl
 cases x<;>first
  |rfl
  |(simp only[];rw[h _ (by simp[I.aa])])
theorem Js {k:Nat} (h:cX x.aa az s):ex az x k=ex s x k:=by
 cases x<;>first
  |rfl
  |(simp only[ex];rw[h _ (by simp[I.aa])])
theorem uE:∀(q:afc) (a d e:I),I.sub q a=some d->(d.plain=false\/q≠[])->(q=[]->e.aa=[])->(I.put q e a).aa=[]:=by
 intro q a d e h au he;cases q with
 |nil=>rw[I.put];exact he rfl
 |cons k q=>
  cases a<;>first
   |(simp[I.sub]at h;done)
   |skip
  all_goals
   unfold I.put
   repeat' split
   all_goals first|rfl|(simp_all;done)
end
def Loc {α:Type} (bP sV:afc) (f:ak->Option (α×ak)) (s:ak) (av:α) (s1:ak):Prop:=
 ∃ms,s1=c1 ms s/\(∀m∈ms,m.x∈sV/\m.d.aa=[])/\∀az,cX bP az s->f az=some (av,c1 ms az)
theorem Loc.pure {α:Type} {bP sV:afc} {f:ak->Option (α×ak)} {s:ak} {av:α} (h:∀az,cX bP az s->f az=some (av,az)):Loc bP sV f s av s:=
 ⟨[],rfl,by simp,λaz aa=>h az aa⟩
theorem Loc.mono {α:Type} {bP sV zR Jt:afc} {f:ak->Option (α×ak)} {s s1:ak} {av:α} (h:Loc bP sV f s av s1) (pI:∀u∈bP,u∈zR) (gS:∀u∈sV,u∈Jt):Loc zR Jt f s av s1:=by
 obtain⟨ms,ae,af,aF⟩:=h;exact⟨ms,ae,λm hm=>⟨gS _ (af m hm).1,(af m hm).2⟩,λaz aa=>aF az (aa.sub pI)⟩
section
variable {C:bH} {s s1:ak} {x y d:I} {T A B:TypeId}
theorem qE (h:cr s x=some (d,s1)):Loc x.aa x.aa (λs=>cr s x) s d s1:=by
 cases x with
 |h y q=>
  simp only[cr]at h;split at h
  .rename_i e he;split at h
   .cases h
   .rename_i au;simp only[Option.some.injEq,Prod.mk.injEq]at h;obtain⟨rfl,rfl⟩:=h;have au:e.plain=false:=by simpa using au
    refine⟨[⟨.b5,y,I.put q e.ct (s y)⟩],sT _ _ _,?_,?_⟩
    .intro m hm;simp only[mem_singleton]at hm;subst hm;refine⟨by simp[I.aa],uE q _ _ _ he (.inl au) λcF=>?_⟩;subst cF;cases e<;>first|(simp[I.plain]at au;done)|rfl
    .intro az aa;have aT:az y=s y:=aa y (by simp[I.aa]);simp only[cr,aT,he,au];rw[<-sT];rfl
  .cases h
 |au y q=>simp[cr]at h
 |U y q=>simp[cr]at h
 |fn f c=>simp[cr]at h
 |hole=>simp[cr]at h
 |_=>
  simp only[cr,Option.some.injEq,Prod.mk.injEq]at h;obtain⟨rfl,rfl⟩:=h;exact .pure λaz _=>rfl
mutual
theorem Ju (x:Nat):∀a:I,∀u∈(b5 x a).aa,u∈a.aa
 | .h y q,u,h=>by
   simp only[b5]at h;split at h
   .split at h
    .exact h
    .simp[I.aa]at h
   .exact h
 | .au y q,u,h=>by
   simp only[b5]at h;split at h
   .simp[I.aa]at h
   .exact h
 | .U y q,u,h=>h
 | .fn f cap,u,h=>by simp only[b5,I.aa]at h⊢;exact Jv x cap u h
 | .hole,u,h=>h
 | .bool _,u,h=>h
 | .eM,u,h=>h
 | .int _ _,u,h=>h
 | .str _,u,h=>h
 | .db,u,h=>h
 | .aN,u,h=>h
 | .slice _,u,h=>h
 | .ag _ _,u,h=>h
 | .ref _,u,h=>h
 | .aK _,u,h=>h
 | .agg _,u,h=>h
 | .tuple _,u,h=>h
theorem Jv (x:Nat):∀ds:afh,∀u∈I.du (ib x ds),u∈I.du ds
 |[],u,h=>h
 |d::ds,u,h=>by
  simp only[ib,I.du,mem_append]at h⊢;exact h.imp (Ju x d u) (Jv x ds u)
end
theorem Dv (o:Option Nat) (a:I):∀u∈(j8 o a).aa,u∈a.aa:=by
 intro u h;cases o with
 |none=>exact h
 |some x=>exact Ju x a u h
theorem Jw:∀(os:List (Option Nat)) (a:I),∀u∈(kz os a).aa,u∈a.aa:=by
 intro os;induction os with
 |nil=>intro a u h;exact h
 |cons o os ih=>intro a u h;exact Dv o a u (ih (j8 o a) u h)
theorem Jx {place:Nat->Option (Nat×Nat)}:∀{ps:afg} {s s1:ak} {ee ds:afh} {os:List (Option Nat)},jV place s ee os ps=some (ds,s1)->
  Loc (I.du (ps.map (·.2))) (I.du (ps.map (·.2))) (λs=>jV place s ee os ps) s ds s1:=by
 intro ps;induction ps with
 |nil=>
  intro s s1 ee ds os h;simp only[jV,Option.some.injEq,Prod.mk.injEq]at h;obtain⟨rfl,rfl⟩:=h;exact .pure λaz _=>rfl
 |cons p ps ih=>
  intro s s1 ee ds os h;obtain⟨k,a⟩:=p;simp only[jV]at h;split at h
  .rename_i d s2 off n z aP gH bF;split at h
   .cases h
   .rename_i bh mr;split at h
    .rename_i an;obtain⟨oQ,rfl,af,aF⟩:=qE aP;obtain⟨rK,rfl,bt,b_⟩:=ih h;refine⟨oQ++rK,(ln _ _ _).symm,?_,?_⟩
     .intro m hm;simp only[map_cons,I.du,mem_append]at hm⊢;rcases hm with hm|hm
      .exact⟨.inl (Jw _ _ _ (af m hm).1),(af m hm).2⟩
      .exact⟨.inr (bt m hm).1,(bt m hm).2⟩
     .intro az aa;simp only[map_cons,I.du]at aa;have aT:=aF az (aa.left.sub (Jw _ _));have a3:=b_ (c1 oQ az) (aa.right.c1 oQ);simp only at aT a3;simp only[jV,aT,gH,bF,ln];rw[if_pos an];exact a3
    .cases h
  .cases h
theorem QR {ps:afg} {av:I} (h:fl C s T ps=some (av,s1)):Loc (I.du (ps.map (·.2))) (I.du (ps.map (·.2))) (λs=>fl C s T ps) s av s1:=by
 unfold fl at h;split at h
 .rename_i ay ee aj bF;split at h
  .rename_i an;split at h
   .rename_i ds s2 a8;simp only[Option.some.injEq,Prod.mk.injEq]at h;obtain⟨rfl,rfl⟩:=h;obtain⟨ms,ae,af,aF⟩:=Jx a8;refine⟨ms,ae,af,λaz aa=>?_⟩;have:=aF az aa;simp only at this;simp only[fl,aj,bF,if_pos an,this]
   .cases h
  .cases h
 .cases h
theorem QS {n:Nat} {ps:afg} {av:I} (h:eu C s T n ps=some (av,s1)):Loc (I.du (ps.map (·.2))) (I.du (ps.map (·.2))) (λs=>eu C s T n ps) s av s1:=by
 unfold eu at h;split at h
 .rename_i e aj;split at h
  .rename_i an;split at h
   .rename_i ds s2 a8;simp only[Option.some.injEq,Prod.mk.injEq]at h;obtain⟨rfl,rfl⟩:=h;obtain⟨ms,ae,af,aF⟩:=Jx a8;refine⟨ms,ae,af,λaz aa=>?_⟩;have:=aF az aa;simp only at this;simp only[eu,aj,if_pos an,this]
   .cases h
  .cases h
 .cases h
theorem QT {av:I} (h:g_ s x=some (av,s1)):Loc x.aa x.aa (λs=>g_ s x) s av s1:=by
 unfold g_ at h;split at h
 .cases h
 .rename_i d s2 mr aP;simp only[Option.some.injEq,Prod.mk.injEq]at h;obtain⟨rfl,rfl⟩:=h;obtain⟨ms,ae,af,aF⟩:=qE aP;refine⟨ms,ae,af,λaz aa=>?_⟩;have:=aF az aa;simp only at this;simp only[g_,this]
 .cases h
theorem QU {av:I} (h:ic s x=some (av,s1)):Loc x.aa [] (λs=>ic s x) s av s1:=by
 unfold ic at h;split at h
 .rename_i y q;split at h
  .rename_i CW;simp only[Option.some.injEq,Prod.mk.injEq]at h;obtain⟨rfl,rfl⟩:=h;refine .pure λaz aa=>?_;have e:az y=s y:=aa y (by simp[I.aa]);simp only[ic,e,if_pos CW]
  .cases h
 .split at h
  .rename_i an;simp only[Option.some.injEq,Prod.mk.injEq]at h;obtain⟨rfl,rfl⟩:=h;exact .pure λaz aa=>by simp only[ic,an,if_true]
  .cases h
 .cases h
theorem Jy {s2:ak} (h:gT C s T x y=some s2):Loc (x.aa++y.aa) (x.aa++y.aa) (λs=>(gT C s T x y).map λs1=>(I.hole,s1)) s .hole s2:=by
 unfold gT at h;split at h
 .rename_i d s1 z q aP hl;obtain⟨ms,ae,af,aF⟩:=qE aP;have bF:=Du hl;have cF:q≠[]:=by
   cases x with
   |h y p=>
    simp only[loc]at hl;split at hl
    .simp only[Option.some.injEq,Prod.mk.injEq]at hl;simp[<-hl.2]
    .cases hl
   |au y p=>
    simp only[loc]at hl;split at hl
    .rename_i i6;simp only[Option.some.injEq,Prod.mk.injEq]at hl;obtain⟨rfl,rfl⟩:=hl;intro e;subst e;simp[I.dZ]at i6
    .cases hl
   |_=>simp[loc]at hl
  split at h
  .cases h
  .rename_i bh mr;split at h
   .rename_i d0 hP;split at h
    .rename_i an;simp only[Option.some.injEq]at h;subst h;refine⟨ms++[⟨.b5,z,I.put q d (s z)⟩],?_,?_,?_⟩
     .rw[ln,<-ae,sT]
     .intro m hm;simp only[mem_append,mem_singleton]at hm⊢;rcases hm with hm|rfl
      .exact⟨.inr (af m hm).1,(af m hm).2⟩
      .exact⟨.inl bF,uE q _ _ _ hP (.inr cF) λe=>(cF e).elim⟩
     .intro az aa;have aT:=aF az aa.right;simp only at aT;simp only[gT,aT,Dt aa.left,hl,aa.left z bF,hP];cases d<;>first|(simp only[if_pos an,Option.map_some,ln,sT];done)|exact(mr _ rfl).elim
    .cases h
   .cases h
 .cases h
theorem QV {dI aC:Option I} {av:I} (h:e2 C s T x dI aC=some (av,s1)):Loc x.aa x.aa (λs=>e2 C s T x dI aC) s av s1:=by
 cases x with
 |h y q=>
  unfold e2 at h;split at h<;>first|(cases h;done)|skip
  all_goals (rename_i al;try cases al)
  rename_i e aj;split at h
  .rename_i sz xs eG;split at h
   .rename_i b lj mn;split at h
    .rename_i an;split at h
     .rename_i d s2 aP;simp only[Option.some.injEq,Prod.mk.injEq]at h;obtain⟨rfl,rfl⟩:=h;obtain⟨ms,ae,af,aF⟩:=qE aP;refine⟨ms,ae,af,λaz aa=>?_⟩;have:=aF az aa;simp only at this;have aT:az y=s y:=aa y (by simp[I.aa]);simp only[e2,aj,aT,eG,lj,mn,if_pos an,this]
     .cases h
    .cases h
   .cases h
  .cases h
 |_=>
  have qF:s1=s:=by
   unfold e2 at h
   repeat' split at h
   all_goals first|(cases h;done)|(simp only[Option.some.injEq,Prod.mk.injEq]at h;exact h.2.symm)|simp_all
  subst qF;refine .pure λaz _=>?_;unfold e2 at h⊢
  repeat' split at h
  all_goals first
   |(cases h;done)
   |(simp only[Option.some.injEq,Prod.mk.injEq]at h
     obtain⟨rfl,_⟩:=h;simp_all)
def pM (C:bH) (e:TypeId) (s:ak):I->Option (I×ak)
 | .aN=>some (I.ag (C.T e).sz [],s)
 | .h a q=>cr s (.h a q)
 |_=>none
def kT (s1:ak):I->Option (afh×ak)
 | .aN=>some ([],s1)
 | .slice cf=>some (cf,s1)
 | .str l=>some (l.map kv,s1)
 | .h a q=>match cr s1 (.h a q)with
   |some (.ag _ cf,s2)=>some (cf,s2)
   |_=>none
 |_=>none
theorem Dw (C:bH) (s:ak) (T bP:TypeId) (x y:I):qB C s T bP x y=(match(C.T T).k with
 | .slice e=>if(C.T e).ok=true/\(C.T e).zero.wd=(C.T e).sz/\(flat (C.T e).zero).isSome=true/\zE C e bP=true then
   match pM C e s x with
   |some (.ag sz xs,s1)=>if sz=(C.T e).sz then
     match kT s1 (j8 x.owner y)with
     |some (cf,s2)=>if(∀d∈cf,d.wd=(C.T e).sz)/\(xs.length+cf.length)*(C.T e).bytes<=140737488355328/\xs.length+cf.length<=9223372036854775807 then some (.ag sz (xs++cf),s2)else none
     |none=>none
    else none
   |_=>none
   else none
 |_=>none):=by
 unfold qB;generalize j8 x.owner y=jo;cases(C.T T).k<;>first
  |rfl
  |(cases x<;>cases jo<;>rfl)
theorem QW {e:TypeId} {d:I} (ae:pM C e s x=some (d,s1)):Loc x.aa x.aa (λs=>pM C e s x) s d s1:=by
 cases x with
 |aN=>
  simp only[pM,Option.some.injEq,Prod.mk.injEq]at ae;obtain⟨ae,rfl⟩:=ae;exact .pure λaz _=>by simp only[pM,ae]
 |h a q=>exact qE ae
 |_=>simp[pM]at ae
theorem QX {cf:afh} (af:kT s y=some (cf,s1)):Loc y.aa y.aa (λs=>kT s y) s cf s1:=by
 cases y with
 |aN=>
  simp only[kT,Option.some.injEq,Prod.mk.injEq]at af;obtain⟨rfl,rfl⟩:=af;exact .pure λaz _=>rfl
 |slice cf=>
  simp only[kT,Option.some.injEq,Prod.mk.injEq]at af;obtain⟨rfl,rfl⟩:=af;exact .pure λaz _=>rfl
 |str l=>
  simp only[kT,Option.some.injEq,Prod.mk.injEq]at af;obtain⟨rfl,rfl⟩:=af;exact .pure λaz _=>rfl
 |h a q=>
  simp only[kT]at af;split at af
  .rename_i P_ adP lo aP;simp only[Option.some.injEq,Prod.mk.injEq]at af;obtain⟨rfl,rfl⟩:=af;obtain⟨ms,aV,ba,bT⟩:=qE aP;refine⟨ms,aV,ba,λaz aa=>?_⟩;have:=bT az aa;simp only at this;simp only[kT,this]
  .cases af
 |_=>simp[kT]at af
theorem QY {av:I} (h:qB C s T A x y=some (av,s1)):Loc (x.aa++y.aa) (x.aa++y.aa) (λs=>qB C s T A x y) s av s1:=by
 rw[Dw]at h;split at h
 .rename_i e aj;split at h
  .rename_i an;split at h
   .rename_i sz xs s2 ae;split at h
    .rename_i cO;split at h
     .rename_i cf iE af;split at h
      .rename_i sy;simp only[Option.some.injEq,Prod.mk.injEq]at h;obtain⟨rfl,rfl⟩:=h;obtain⟨oQ,rfl,aW,fm⟩:=QW ae;obtain⟨rK,rfl,hp,jU⟩:=(QX af).mono (Dv _ _) (Dv _ _);refine⟨oQ++rK,(ln _ _ _).symm,?_,?_⟩
       .intro m hm;simp only[mem_append]at hm⊢;rcases hm with hm|hm
        .exact⟨.inl (aW m hm).1,(aW m hm).2⟩
        .exact⟨.inr (hp m hm).1,(hp m hm).2⟩
       .intro az aa;have aT:=fm az aa.left;have a3:=jU (c1 oQ az) (aa.right.c1 oQ);simp only at aT a3;simp only[Dw,aj,if_pos an,aT,if_pos cO,a3,if_pos sy,ln]
      .cases h
     .cases h
    .cases h
   .cases h
  .cases h
 .cases h
theorem QZ {az:ak} {i:I} (h:cX x.aa az s):n0 C az T x i=n0 C s T x i:=by
 cases x with
 |h y q=>cases i<;>simp only[n0,h y (by simp[I.aa])]
 |_=>rfl
theorem Q0 {i v:I} {s2:ak} (h:mo C s T x i v=some s2):Loc x.aa x.aa (λs=>(mo C s T x i v).map λs1=>(I.hole,s1)) s .hole s2:=by
 unfold mo at h;split at h
 .rename_i y q k b;split at h
  .rename_i m ai;split at h
   .rename_i gS;simp only[Option.some.injEq]at h;subst h;refine⟨[⟨.b5,y,I.put q (.dm (.mp (pw k b m))) (s y)⟩],sT _ _ _,?_,λaz aa=>?_⟩
    .intro n a4;simp only[mem_singleton]at a4;subst a4;exact⟨by simp[I.aa],uE q _ _ _ ai (.inl rfl) λ_=>rfl⟩
    .have aT:az y=s y:=aa y (by simp[I.aa]);simp only[mo,aT,ai,gS,if_true,Option.map_some];rw[<-sT]
   .cases h
  .cases h
 .cases h
theorem Jz {bq:di} {av:I} (h:bE C s bq=some (av,s1)):Loc (use s bq) (kS s bq) (λs=>bE C s bq) s av s1:=by
 cases bq with
 |shr bq=>simp[bE]at h
 |kR f args L=>simp[bE]at h
 |ll T x y u=>simp[bE]at h
 |ic T x=>
  obtain⟨ms,ae,af,aF⟩:=QU h;refine⟨ms,ae,af,λaz aa=>?_⟩;simp only[bE,a6.e3 (x:=x) aa];exact aF az (cX.a7 aa)
 |i7 T bP x y=>
  simp only[bE,Option.map_eq_some_iff,Prod.mk.injEq]at h;obtain⟨d,ai,rfl,rfl⟩:=h;exact .pure λaz aa=>by
   simp only[use]at aa;simp only[bE,a6.e3 (x:=x) aa.left,a6.e3 (x:=y) aa.right,ai,Option.map_some]
 |bad=>simp[bE]at h
 |pJ g0 x y=>
  simp only[bE,Option.map_eq_some_iff,Prod.mk.injEq]at h;obtain⟨d,ai,rfl,rfl⟩:=h;exact .pure λaz aa=>by
   simp only[use]at aa;simp only[bE,a6.e3 (x:=x) aa.left,a6.e3 (x:=y) aa.right,ai,Option.map_some]
 |cap T x=>
  simp only[bE]at h;split at h
  .rename_i e aj al;simp only[Option.some.injEq,Prod.mk.injEq]at h;obtain⟨rfl,rfl⟩:=h;exact .pure λaz aa=>by simp only[bE,a6.e3 (x:=x) aa,aj,al]
  .cases h
 |eP x=>
  simp only[bE,Option.some.injEq,Prod.mk.injEq]at h;obtain⟨rfl,rfl⟩:=h;exact .pure λaz aa=>by simp only[bE,a6.e3 (x:=x) aa]
 |lP x=>
  simp only[bE]at h;split at h
  .rename_i y q al;obtain⟨ms,ae,af,aF⟩:=qE h;refine⟨ms,ae,by simpa only[kS,al]using af,λaz aa=>?_⟩;have e:=a6.e3 (x:=x) aa;have a3:=aF az (by rw[<-al];exact cX.a7 aa);simp only[bE,e,al];exact a3
  .rename_i Q1;simp only[Option.some.injEq,Prod.mk.injEq]at h;obtain⟨rfl,rfl⟩:=h;refine .pure λaz aa=>?_;have e:=a6.e3 (x:=x) aa;simp only[bE,e]
 |pick c a b=>
  simp only[bE]at h;split at h
  .rename_i eN U;simp only[Option.some.injEq,Prod.mk.injEq]at h;obtain⟨rfl,rfl⟩:=h;refine .pure λaz aa=>?_;simp only[use]at aa;simp only[bE,a6.e3 (x:=c) aa.left,a6.e3 (x:=a) aa.right.left,a6.e3 (x:=b) aa.right.right,U]
  .cases h
 |lM T=>
  simp only[bE,Option.map_eq_some_iff,Prod.mk.injEq]at h;obtain⟨d,ai,rfl,rfl⟩:=h;exact .pure λaz aa=>by simp only[bE,ai,Option.map_some]
 |g_ T x=>
  obtain⟨ms,ae,af,aF⟩:=QT h;refine⟨ms,ae,af,λaz aa=>?_⟩;simp only[bE,a6.e3 (x:=x) aa];exact aF az (cX.a7 aa)
 |fl T ps=>
  obtain⟨ms,ae,af,aF⟩:=QR h;simp only[List.map_map,Function.comp_def]at af aF;refine⟨ms,ae,af,λaz aa=>?_⟩;simp only[bE,a6.Ds (ps:=ps) aa];refine aF az (aa.sub λu hu=>?_);simp only[use];exact a6.zQ u (by simpa [List.map_map,Function.comp_def]using hu)
 |eu T n ps=>
  obtain⟨ms,ae,af,aF⟩:=QS h;simp only[List.map_map,Function.comp_def]at af aF;refine⟨ms,ae,af,λaz aa=>?_⟩;simp only[bE,a6.Ds (ps:=ps) aa];refine aF az (aa.sub λu hu=>?_);simp only[use];exact a6.zQ u (by simpa [List.map_map,Function.comp_def]using hu)
 |ff T x=>
  simp only[bE,Option.map_eq_some_iff,Prod.mk.injEq]at h;obtain⟨d,ai,rfl,rfl⟩:=h;exact .pure λaz aa=>by simp only[bE,a6.e3 (x:=x) aa,QH (cX.a7 aa),ai,Option.map_some]
 |gT T x y=>
  simp only[bE,Option.map_eq_some_iff,Prod.mk.injEq]at h;obtain⟨s2,ai,rfl,rfl⟩:=h;obtain⟨ms,ae,af,aF⟩:=Jy ai;refine⟨ms,ae,af,λaz aa=>?_⟩;simp only[use]at aa;simp only[bE,a6.e3 (x:=x) aa.left,a6.e3 (x:=y) aa.right];exact aF az (aa.sub λu hu=>by simp only[mem_append]at hu⊢;exact hu.imp (a6.sU u) (a6.sU u))
 |iT x=>
  simp only[bE,Option.map_eq_some_iff,Prod.mk.injEq]at h;obtain⟨d,ai,rfl,rfl⟩:=h;exact .pure λaz aa=>by simp only[bE,a6.e3 (x:=x) aa,QP (cX.a7 aa),ai,Option.map_some]
 |eh op T x y=>
  simp only[bE,Option.map_eq_some_iff,Prod.mk.injEq]at h;obtain⟨d,ai,rfl,rfl⟩:=h;refine .pure λaz aa=>?_;simp only[use]at aa;simp only[bE,a6.e3 (x:=x) aa.left,a6.e3 (x:=y) aa.right,QO (cX.a7 aa.left),ai,Option.map_some]
 |un op x=>
  simp only[bE,Option.map_eq_some_iff,Prod.mk.injEq]at h;obtain⟨d,ai,rfl,rfl⟩:=h;exact .pure λaz aa=>by simp only[bE,a6.e3 (x:=x) aa,ai,Option.map_some]
 |iB A B x=>
  simp only[bE,Option.map_eq_some_iff,Prod.mk.injEq]at h;obtain⟨d,ai,rfl,rfl⟩:=h;exact .pure λaz aa=>by simp only[bE,a6.e3 (x:=x) aa,QL (cX.a7 aa),ai,Option.map_some]
 |n1 f cs=>
  simp only[bE,Option.some.injEq,Prod.mk.injEq]at h;obtain⟨rfl,rfl⟩:=h;exact .pure λaz aa=>by simp only[bE,a6.Dr (xs:=cs) aa]
 |ei T l c=>
  simp only[bE,Option.map_eq_some_iff,Prod.mk.injEq]at h;obtain⟨d,ai,rfl,rfl⟩:=h;refine .pure λaz aa=>?_;simp only[use]at aa;simp only[bE,a6.e3 (x:=l) aa.left,a6.e3 (x:=c) aa.right,ai,Option.map_some]
 |e2 T x dI aC=>
  simp only[bE]at h;obtain⟨ms,ae,af,aF⟩:=QV h;refine⟨ms,ae,af,λaz aa=>?_⟩;simp only[use]at aa;simp only[bE,a6.e3 (x:=x) aa.left,Jq aa.right.left,Jq aa.right.right];exact aF az (cX.a7 aa.left)
 |hN T x k=>
  simp only[bE,Option.map_eq_some_iff,Prod.mk.injEq]at h;obtain⟨d,ai,rfl,rfl⟩:=h;exact .pure λaz aa=>by simp only[bE,a6.e3 (x:=x) aa,QI (cX.a7 aa),ai,Option.map_some]
 |jA T x i=>
  simp only[bE,Option.map_eq_some_iff,Prod.mk.injEq]at h;obtain⟨d,ai,rfl,rfl⟩:=h;refine .pure λaz aa=>?_;simp only[use]at aa;simp only[bE,a6.e3 (x:=x) aa.left,a6.e3 (x:=i) aa.right,QJ (cX.a7 aa.left),ai,Option.map_some]
 |idx T x i=>
  simp only[bE,Option.map_eq_some_iff,Prod.mk.injEq]at h;obtain⟨d,ai,rfl,rfl⟩:=h;refine .pure λaz aa=>?_;simp only[use]at aa;simp only[bE,a6.e3 (x:=x) aa.left,a6.e3 (x:=i) aa.right,ai,Option.map_some]
 |ext x k=>
  simp only[bE]at h;obtain⟨y,q,p,ae,af,aF⟩:=Jc h;obtain⟨ms,aV,ba,bT⟩:=qE aF;refine⟨ms,aV,by simpa only[kS,ae,I.aa]using ba,λaz aa=>?_⟩;have b8:cX (a7 s x).aa az s:=cX.a7 aa;have aT:ex az (a7 s x) k=some (.h y p):=(Js b8).trans af;have a3:=bT az (λv aH=>b8 v (by rw[ae];exact aH));simp only[bE,a6.e3 (x:=x) aa];unfold rL;rw[aT,ae];simp only[if_true];exact a3
 |ex x k=>
  simp only[bE,Option.map_eq_some_iff,Prod.mk.injEq]at h;obtain⟨d,ai,rfl,rfl⟩:=h;exact .pure λaz aa=>by simp only[bE,a6.e3 (x:=x) aa,Js (cX.a7 aa),ai,Option.map_some]
 |w7=>
  simp only[bE,Option.some.injEq,Prod.mk.injEq]at h;obtain⟨rfl,rfl⟩:=h;exact .pure λaz aa=>rfl
 |n0 T x i=>
  simp only[bE,Option.map_eq_some_iff,Prod.mk.injEq]at h;obtain⟨d,ai,rfl,rfl⟩:=h;refine .pure λaz aa=>?_;simp only[use]at aa;simp only[bE,a6.e3 (x:=x) aa.left,a6.e3 (x:=i) aa.right,QZ (cX.a7 aa.left),ai,Option.map_some]
 |mo T x i v=>
  simp only[bE,Option.map_eq_some_iff,Prod.mk.injEq]at h;obtain⟨s2,ai,rfl,rfl⟩:=h;obtain⟨ms,ae,af,aF⟩:=Q0 ai;refine⟨ms,ae,af,λaz aa=>?_⟩;simp only[use]at aa;simp only[bE,a6.e3 (x:=x) aa.left,a6.e3 (x:=i) aa.right.left,a6.e3 (x:=v) aa.right.right];exact aF az (cX.a7 aa.left)
 |lN T x k=>
  simp only[bE,Option.bind_eq_some_iff]at h;obtain⟨d,ai,h⟩:=h;unfold w8 at h;split at h
  .rename_i y q;have al:=QQ ai;obtain⟨ms,ae,af,aF⟩:=qE h;refine⟨ms,ae,by simpa only[kS,al,I.aa]using af,λaz aa=>?_⟩;have a3:=aF az (by rw[show(I.h y q).aa=(a7 s x).aa from al.symm];exact cX.a7 aa);simp only[bE,a6.e3 (x:=x) aa,Jr (cX.a7 aa),ai,Option.bind_some,w8];exact a3
  .rename_i Q1;simp only[Option.some.injEq,Prod.mk.injEq]at h;obtain⟨rfl,rfl⟩:=h;refine .pure λaz aa=>?_;simp only[bE,a6.e3 (x:=x) aa,Jr (cX.a7 aa),ai,Option.bind_some,w8]
 |call f args=>simp[bE]at h
 |len T x=>
  simp only[bE,Option.map_eq_some_iff,Prod.mk.injEq]at h;obtain⟨d,ai,rfl,rfl⟩:=h;exact .pure λaz aa=>by simp only[bE,a6.e3 (x:=x) aa,QK (cX.a7 aa),ai,Option.map_some]
 |app T bP x y=>
  obtain⟨ms,ae,af,aF⟩:=QY h;refine⟨ms,ae,af,λaz aa=>?_⟩;simp only[use]at aa;simp only[bE,a6.e3 (x:=x) aa.left,a6.e3 (x:=y) aa.right];exact aF az (aa.sub λu hu=>by simp only[mem_append]at hu⊢;exact hu.imp (a6.sU u) (a6.sU u))
end
mutual
def view (s:ak):I->Option I
 | .h x q=>match I.sub q (s x)with
   |some d=>(match d with| .tuple _=>none| .dm _=>none| .eY _ _=>none| .gb _=>none|d=>if d.plain then none else some d.share)
   |none=>none
 | .au x q=>if I.dZ q (s x)then(match I.sub q (s x)with
   |some d=>(match d with| .tuple _=>none|d=>some (.ref d.share))
   |none=>none)else none
 | .U _ _=>none
 | .fn f cap=>(views s cap).map (.fn f)
 | .hole=>none
 |d=>some d
def views (s:ak):afh->Option afh
 |[]=>some []
 |d::ds=>match view s d,views s ds with
  |some a,some b=>some (a::b)
  |_,_=>none
end
mutual
theorem Dx:∀d:I,d.share.plain=true
 | .hole=>rfl
 | .bool _=>rfl
 | .eM=>rfl
 | .int _ _=>rfl
 | .str _=>rfl
 | .db=>rfl
 | .aN=>rfl
 | .slice _=>rfl
 | .ag _ _=>rfl
 | .ref _=>rfl
 | .aK _=>rfl
 | .agg ay=>by simp only[I.share,I.plain];exact Dy ay
 | .tuple ay=>by simp only[I.share,I.plain];exact Dy ay
 | .fn _ _=>rfl
 | .h _ _=>rfl
 | .au _ _=>rfl
 | .U _ _=>rfl
 | .dm _=>rfl
 | .eY _ _=>rfl
 | .gb _=>rfl
theorem Dy:∀ds:afh,I.eb (I.shares ds)=true
 |[]=>rfl
 |d::ds=>by simp only[I.shares,I.eb];rw[Dx d,Dy ds];rfl
end
theorem Q2 {s:ak} {a d:I} (h:a.plain=true) (he:view s a=some d):d.plain=true:=by
 cases a with
 |h x q=>
  simp only[view]at he;split at he
  .rename_i e eG;cases e<;>simp only at he<;>first
    |(cases he;done)
    |(split at he
      .cases he
      .simp only[Option.some.injEq]at he;subst he;exact Dx _)
  .cases he
 |au x q=>
  simp only[view]at he;split at he
  .split at he
   .rename_i e eG;cases e<;>simp only at he<;>first
     |(cases he;done)
     |(simp only[Option.some.injEq]at he;subst he;rfl)
   .cases he
  .cases he
 |fn f cap=>
  simp only[view,Option.map_eq_some_iff]at he;obtain⟨ds,_,rfl⟩:=he;rfl
 |hole=>simp[view]at he
 |U y q=>simp[view]at he
 |_=>simp only[view,Option.some.injEq]at he;subst he;exact h
theorem Dz {d:I} {v:Value} (ae:∀vs,d≠.tuple vs) (h:dc d v):dc d.share v:=by
 cases d<;>first|exact h|exact(ae _ rfl).elim
theorem DA (w:World):∀(q:afc) (av d bh:I) (cs b7:aff) (a ca:Option (Nat×Nat)),I.sub q av=some d->bh.wd=d.wd->cj w q av cs a=some (d,b7,ca)->
  cj w q (I.put q bh av) cs a=some (bh,b7,ca):=by
 intro q;induction q with
 |nil=>
  intro av d bh cs b7 a ca ai hw h;simp only[cj,Option.some.injEq,Prod.mk.injEq]at h;obtain⟨rfl,rfl,rfl⟩:=h;simp only[I.put,cj]
 |cons k q ih=>
  intro av d bh cs b7 a ca ai hw h;cases av with
  |agg ay=>
   simp only[I.sub]at ai;split at ai
   .rename_i x al;have aj:k<ay.length:=(List.getElem?_eq_some_iff.1 al).1;simp only[cj,al]at h;simp only[I.put,al,cj];rw[getElem?_set_self aj];simp only[take_set_of_le (Nat.le_refl k),I.ug q x d bh ai hw];exact ih _ _ _ _ _ _ _ ai hw h
   .cases ai
  |tuple ay=>
   simp only[I.sub]at ai;split at ai
   .rename_i x al;have aj:k<ay.length:=(List.getElem?_eq_some_iff.1 al).1;simp only[cj,al]at h;simp only[I.put,al,cj];rw[getElem?_set_self aj];simp only[take_set_of_le (Nat.le_refl k),I.ug q x d bh ai hw];exact ih _ _ _ _ _ _ _ ai hw h
   .cases ai
  |ag sz ay=>
   simp only[I.sub]at ai;split at ai
   .rename_i x al;have aj:k<ay.length:=(List.getElem?_eq_some_iff.1 al).1;have js:(ay.set k (I.put q bh x))[k]? =some (I.put q bh x):=getElem?_set_self aj;simp only[I.put,al];rw[cj.eq_def]at h⊢;simp only[al]at h;simp only;rw[js];split at h
    .rename_i aT;simp only[Option.some.injEq]at aT;subst aT;exact ih _ _ _ _ _ _ _ ai hw h
    .cases h
   .cases ai
  |aK x=>
   cases k with
   |zero=>
    simp only[I.sub]at ai;rw[cj.eq_def]at h⊢;simp only at h;simp only[I.put];split at h
    .rw[I.ug q x d bh ai hw];exact ih _ _ _ _ _ _ _ ai hw h
    .cases h
   |succ k=>simp[I.sub]at ai
  |_=>simp[I.sub]at ai
section
variable {w0 w aB:World} {F0 X F Fc:Nat->Prop} {S:Nat->Nat->Prop} {s az:ak} {aw jy:Nat->Value}
theorem Q3 (h:bw w0 F0 X F S s aw w) (bb:∀b,F b->Fc b):∀n,
  (∀(a:I) (v:Value) (d:I),SizeOf.sizeOf a<=n->(∀t∈a.aa,∀b,S t b->Fc b)->view s a=some d->aG w F s aw a v (λ_=>False)->aG w Fc az jy d v (λ_=>False))/\
  (∀(as:afh) (vs:aff) (ds:afh),SizeOf.sizeOf as<=n->(∀t∈I.du as,∀b,S t b->Fc b)->views s as=some ds->dC w F s aw as vs->dC w Fc az jy ds vs):=by
 intro n;induction n with
 |zero=>exact⟨λa _ _ bF=>by cases a<;>simp at bF<;>omega,λas _ _ bF=>by cases as<;>simp at bF<;>omega⟩
 |succ n ih=>
  refine⟨λa v d bF bs he aH=>?_,λas vs ds bF bs he aH=>?_⟩
  .cases a with
   |h x q=>
    simp only[view]at he;split at he
    .rename_i e eG;have key:(∀ay,e≠.tuple ay)/\e.plain=false/\d=e.share/\(∀o,e≠.dm o)/\(∀f c,e≠.eY f c)/\∀c,e≠.gb c:=by
      cases e<;>simp only at he<;>first
       |(cases he;done)
       |(split at he
         .cases he
         .rename_i gH;simp only[Option.some.injEq]at he;exact⟨(λ_ h=>by cases h),by simpa using gH,he.symm,(λ_ h=>by cases h),(λ_ _ h=>by cases h),λ_ h=>by cases h⟩)
     obtain⟨mr,gH,rfl,jn,DB,DC⟩:=key;rw[aG]at aH;obtain⟨b7,ca,aV,ba,bT⟩:=aH e eG gH;have aP:=gx eG (.inl gH);have al:=(aG.cd aP).1 (h.cV x);obtain⟨fk,aW,dB,eF,k0,bU,ch,dd,cW,ed⟩:=ctx q (s x) (bX (aw x)) (S x) none e al.2 eG;rw[aV]at k0;simp only[Option.some.injEq,Prod.mk.injEq,true_and]at k0;obtain⟨rfl,rfl⟩:=k0;have CP:e.share.tree=true:=by cases e<;>first|rfl|(simp[I.plain]at gH;done)|exact(jn _ rfl).elim|exact(DB _ _ rfl).elim|exact(DC _ rfl).elim
     have aR:=ao.shared bb e b7 eF (λb U=>bs x (by simp[I.aa]) b (ch b U)) cW;exact(aG.cd CP).2 ⟨Dz mr bT,by rw[ba];exact aR⟩
    .cases he
   |au x q=>
    simp only[view]at he;split at he
    .rename_i i6;split at he
     .rename_i e eG;have key:(∀ay,e≠.tuple ay)/\d= .ref e.share:=by
       cases e<;>simp only at he<;>first
        |(cases he;done)
        |(simp only[Option.some.injEq]at he;exact⟨(λ_ h=>by cases h),he.symm⟩)
      obtain⟨mr,rfl⟩:=key;rw[aG]at aH;obtain⟨b7,b,o,aV,rfl⟩:=aH e eG i6;have aP:=gx eG (.inr i6);have al:=(aG.cd aP).1 (h.cV x);obtain⟨fk,aW,dB,eF,k0,bU,ch,dd,cW,ed⟩:=ctx q (s x) (bX (aw x)) (S x) none e al.2 eG;rw[aV]at k0;simp only[Option.some.injEq,Prod.mk.injEq,true_and]at k0;obtain⟨rfl,rfl⟩:=k0;have aR:=ao.shared bb e b7 eF (λb U=>bs x (by simp[I.aa]) b (ch b U)) cW;rcases ed with⟨l,r,_,a3,_⟩|⟨eN,cur,ty,fr,l,r,aT,a3,aY,b1,cI,_⟩
      .simp at a3
      .simp only[Option.some.injEq,Prod.mk.injEq]at aT;obtain⟨rfl,rfl⟩:=aT;refine(aG.cd rfl).2 ⟨rfl,?_⟩;rw[ao];refine⟨b,l.length,b7,rfl,bs x (by simp[I.aa]) b (bU b a3),?_,aR⟩;intro j c bZ;simp only[World.cell?,aY];have an:cur[l.length+j]? =some c:=by
        rw[<-Array.getElem?_toList,cI,getElem?_append_right (by omega),getElem?_append_left (by
         have:=(List.getElem?_eq_some_iff.1 bZ).1;omega)]
        rw[<-bZ];congr 1;omega
       simpa using an
     .cases he
    .cases he
   |fn f cap=>
    simp only[view,Option.map_eq_some_iff]at he;obtain⟨ds,i_,rfl⟩:=he;rw[aG]at aH;obtain⟨arr,rfl,an⟩:=aH;rw[aG];exact⟨arr,rfl,ih.2 cap _ _ (by simp at bF;omega) (by simpa [I.aa]using bs) i_ an⟩
   |hole=>simp[view]at he
   |U y q=>simp[view]at he
   |_=>
    simp only[view,Option.some.injEq]at he;subst he;have lI:=(aG.cd rfl).1 aH;exact(aG.cd rfl).2 ⟨lI.1,ao.mono bb _ _ _ _ (λ_ h=>h) lI.2⟩
  .cases as with
   |nil=>
    simp only[views,Option.some.injEq]at he;subst he;rw[dC]at aH⊢;exact aH
   |cons a as=>
    simp only[views]at he;split at he
    .rename_i d ds ae af;simp only[Option.some.injEq]at he;subst he;rw[dC]at aH⊢;obtain⟨v,jm,rfl,aV,ba⟩:=aH;simp at bF;simp only[I.du,mem_append]at bs;exact⟨v,jm,rfl,ih.1 a v d (by omega) (λt aP=>bs t (.inl aP)) ae aV,ih.2 as jm ds (by omega) (λt aP=>bs t (.inr aP)) af ba⟩
    .cases he
theorem bw.ig (h:bw w0 F0 X F S s aw w) {x:Nat} {q:afc} {d0 bh:I} {b7:aff} {a:Option (Nat×Nat)} {Sn:Nat->Prop}
  (ai:I.sub q (s x)=some d0) (a8:cj w q (s x) (bX (aw x)) none=some (d0,b7,a)) (af:∀vs,bh≠.tuple vs) (aP:q=[]->bh.tree=true/\dc bh (aw x))
  (aF:∀k p,q=k::p->(s x).tree=true/\(∀v,hL d0 v->hL bh v)) (hw:bh.wd=d0.wd)
  (aH:ao w F bh b7 Sn) (c5:∀b,Sn b->b<w.heap.size) (bb:∀b,Sn b->¬F b) (bs:∀u b,Sn b->¬S u b) (bo:∀b,Sn b->X b\/w0.heap.size<=b):
  bw w0 F0 X F (gf S x (λb=>S x b\/Sn b)) (cg (lf x s) x (I.put q bh (s x))) aw w:=by
 have dt:cg aw x (aw x)=aw:=by funext u;simp only[cg];split<;>simp_all
 have main:(I.put q bh (s x)).tree=true/\dc (I.put q bh (s x)) (aw x)/\ao w F (I.put q bh (s x)) (bX (aw x)) (λb=>S x b\/Sn b):=by
  cases q with
  |nil=>
   simp only[cj,Option.some.injEq,Prod.mk.injEq]at a8;obtain⟨aT,a3,aY⟩:=a8;obtain⟨aV,ba⟩:=aP rfl;simp only[I.put];refine⟨aV,?_,?_⟩
   .exact ba
   .rw[a3];exact ao.mono (λ_ h=>h) _ _ _ _ (λb U=>.inr U) aH
  |cons k p=>
   obtain⟨aV,ba⟩:=aF k p rfl;have al:=(aG.cd aV).1 (h.cV x);obtain⟨fk,aW,dB,eF,k0,bU,ch,dd,cW,ed⟩:=ctx (k::p) (s x) (bX (aw x)) (S x) none d0 al.2 ai;rw[a8]at k0;simp only[Option.some.injEq,Prod.mk.injEq,true_and]at k0;obtain⟨rfl,rfl⟩:=k0;refine⟨?_,?_,?_⟩
   .rcases rz k p bh (s x)with⟨ay,gs,aT,e⟩|⟨ay,gs,aT,e⟩|⟨sz,xs,cf,aT,e⟩|⟨y,z,aT,e⟩|e<;>rw[e]<;>first|rfl|exact aV
   .refine wG al.1 ai ba (λ_ vs e=>(af vs e).elim) hw
   .have mono:∀b,(dB b\/Sn b)->(S x b\/Sn b):=λb U=>U.imp (bU b) id;rcases ed with⟨l,r,aT,a3,aY⟩|⟨b,cur,ty,fr,l,r,aT,a3,aY,b1,cI,bQ⟩
    .rw[aT];exact ao.mono (λ_ h=>h) _ _ _ _ mono (aY w bh b7 Sn (λ_ _=>rfl) (λ_ _=>rfl) hw aH (λb U an=>bs x b U (bU b an)))
    .refine ao.mono (λ_ h=>h) _ _ _ _ mono (bQ w bh b7 Sn (λ_ _=>rfl) (λ_ _ _=>rfl) ?_ hw aH (λb U an=>bs x b U (bU b an)));rw[aY,<-cI]
 have:=h.H7 (t:=x) main.1 main.2.1 main.2.2 (by rintro b (U|U);exact h.ek x b U;exact c5 b U) (by rintro b (U|U);exact h.fC x b U;exact bb b U)
  (by rintro u b c_ (U|U);exact λhu=>h.e9 u x b c_ hu U;exact bs u b U) (by rintro b (U|U);exact h.c7 x b U;exact bo b U)
 rwa [dt]at this
end
mutual
def I.cM:I->Bool
 | .slice _=>false
 | .ref _=>false
 | .fn _ _=>false
 | .h _ _=>false
 | .au _ _=>false
 | .U _ _=>false
 | .ag _ xs=>I.hq xs
 | .aK d=>d.cM
 | .agg ay=>I.hq ay
 | .tuple ay=>I.hq ay
 | .eY _ ay=>I.hq ay
 | .gb _=>false
 |_=>true
def I.hq:afh->Bool
 |[]=>true
 |d::ds=>d.cM&&I.hq ds
end
mutual
theorem ao.cM {w:World} {F bC:Nat->Prop}:∀(d:I) (cs:aff) (S:Nat->Prop),d.cM=true->ao w F d cs S->ao w bC d cs S
 | .hole,_,_,_,h=>h
 | .bool _,_,_,_,h=>h
 | .eM,_,_,_,h=>h
 | .int _ _,_,_,_,h=>h
 | .str _,_,_,_,h=>h
 | .db,_,_,_,h=>h
 | .aN,_,_,_,h=>h
 | .slice xs,cs,S,a4,h=>by simp[I.cM]at a4
 | .ref d,cs,S,a4,h=>by simp[I.cM]at a4
 | .ag sz xs,cs,S,a4,h=>by
   rw[ao]at h⊢;rcases h with h|⟨b,cap,cur,e,fr,aO,ae,af,aF,a1,bt,b_,cq,er,h1,gp,j4⟩
   .exact .inl h
   .exact .inr ⟨b,cap,cur,e,fr,aO,ae,af,aF,a1,bt,b_,cq,er,aX.cM xs _ _ a4 h1,gp,j4⟩
 | .aK d,cs,S,a4,h=>by
   rw[ao]at h⊢;obtain⟨b,cur,e,fr,aO,ae,af,aF,a1,bt,b_,cq⟩:=h;exact⟨b,cur,e,fr,aO,ae,af,aF,a1,ao.cM d _ _ a4 bt,b_,cq⟩
 | .agg ay,cs,S,a4,h=>by rw[ao]at h⊢;exact aX.cM ay _ _ a4 h
 | .tuple ay,cs,S,a4,h=>by rw[ao]at h⊢;exact aX.cM ay _ _ a4 h
 | .fn _ _,_,_,a4,h=>by simp[I.cM]at a4
 | .h _ _,_,_,_,h=>h
 | .au _ _,_,_,_,h=>h
 | .U _ _,_,_,_,h=>h
 | .dm _,_,_,_,h=>h
 | .eY _ caps,cs,S,a4,h=>by
   rw[ao]at h⊢;obtain⟨arr,ae,af,aF⟩:=h;exact⟨arr,ae,af,aX.cM caps _ _ a4 aF⟩
 | .gb _,_,_,a4,h=>by simp[I.cM]at a4
theorem aX.cM {w:World} {F bC:Nat->Prop}:∀(ds:afh) (cs:aff) (S:Nat->Prop),I.hq ds=true->aX w F ds cs S->aX w bC ds cs S
 |[],_,_,_,h=>h
 |d::ds,cs,S,a4,h=>by
  simp only[I.hq,Bool.and_eq_true]at a4;rw[aX]at h⊢;obtain⟨bA,bK,S1,S2,ae,af,aF,a1,bt,b_⟩:=h;exact⟨bA,bK,S1,S2,ae,ao.cM d _ _ a4.1 af,aX.cM ds _ _ a4.2 aF,a1,bt,b_⟩
end
theorem zS:∀(q:afc) (av d e:I),I.sub q av=some d->I.sub q (I.put q e av)=some e:=by
 intro q;induction q with
 |nil=>intro av d e _;simp[I.put,I.sub]
 |cons k q ih=>
  intro av d e h;cases av with
  |agg ay=>
   simp only[I.sub]at h;split at h
   .rename_i x al;have aj:k<ay.length:=(List.getElem?_eq_some_iff.1 al).1;simp only[I.put,al,I.sub,getElem?_set_self aj];exact ih _ _ _ h
   .cases h
  |tuple ay=>
   simp only[I.sub]at h;split at h
   .rename_i x al;have aj:k<ay.length:=(List.getElem?_eq_some_iff.1 al).1;simp only[I.put,al,I.sub,getElem?_set_self aj];exact ih _ _ _ h
   .cases h
  |ag sz ay=>
   simp only[I.sub]at h;split at h
   .rename_i x al;have aj:k<ay.length:=(List.getElem?_eq_some_iff.1 al).1;simp only[I.put,al,I.sub,getElem?_set_self aj];exact ih _ _ _ h
   .cases h
  |aK x=>
   cases k with
   |zero=>simp only[I.sub]at h;simp only[I.put,I.sub];exact ih _ _ _ h
   |succ k=>simp[I.sub]at h
  |_=>simp[I.sub]at h
structure cn where
 a:I
 g:Bool
 d:I
 o:I
def I.own:I->Bool
 | .ag _ _=>true
 | .aK _=>true
 |_=>false
def I.fY:I->Bool
 | .ag _ _=>true
 | .aK _=>true
 | .dm _=>true
 | .eY _ _=>true
 | .gb _=>true
 | .agg ay=> !I.eb ay
 |_=>false
def rN (d o:I):Bool:=match d,o with
 | .agg a,.agg b=>I.dh a==I.dh b
 | .agg _,_=>false
 |_,.agg _=>false
 |_,_=>true
theorem qG {d:I} (h:d.fY=true):d.plain=false/\d.tree=true/\∀vs,d≠.tuple vs:=by
 cases d<;>simp[I.fY]at h<;>first|exact⟨rfl,rfl,λvs e=>by cases e⟩|exact⟨by simp only[I.plain];exact h,rfl,λvs e=>by cases e⟩
theorem Q4 {d o:I} (h:d.fY=true) (bO:o.fY=true) (hl:rN d o=true):o.wd=d.wd/\(∀v,dc d v->dc o v)/\∀v,hL d.ct v->hL o v:=by
 cases d<;>simp[I.fY]at h<;>cases o<;>simp[I.fY]at bO<;>simp[rN]at hl<;>first
  |exact⟨rfl,λ_ h=>h,λ_ h=>h⟩
  |exact⟨by simp only[I.wd];exact hl.symm,λ_ h=>h,λ_ h=>h⟩
def cn.ok (s:ak) (p:cn):Prop:=
 if p.g then(match p.a with| .h x q=>I.sub q (s x)=some p.d/\p.d.fY=true/\(p.o= .hole\/(p.o.fY=true/\rN p.d p.o=true))|_=>False)
 else view s p.a=some p.d
def hQ:List cn->Bool
 |[]=>true
 |p::r=>(r.all λck=> !(p.g||ck.g)||(p.a.aa.all λu=> !ck.a.aa.contains u))&&hQ r
def cn.take (s:ak) (p:cn):ak:=
 if p.g then(match p.a with| .h x q=>cg (e0 x s) x (I.put q p.d.ct (s x))|_=>s)else s
def cn.ig (s:ak) (p:cn):ak:=
 if p.g then(match p.a,p.o with|_,.hole=>s| .h x q,o=>cg (lf x s) x (I.put q o (s x))|_,_=>s)else s
def eA (s:ak) (ps:List cn):ak:=ps.foldl cn.take s
def g3 (s:ak) (ps:List cn):ak:=ps.foldl cn.ig s
section
variable {w0 w aB:World} {F0 X F Fc:Nat->Prop} {S:Nat->Nat->Prop} {s az:ak} {aw jy:Nat->Value}
def Q5 (w:World) (F:Nat->Prop) (s1:ak) (aw:Nat->Value) (p:cn) (v:Value) (Sn:Nat->Prop):Prop:=
 ∃x q J,p.a= .h x q/\I.sub q (s1 x)=some p.d.ct/\cj w q (s1 x) (bX (aw x)) none=some (p.d.ct,bX v,J)/\(s1 x).aa=[]/\(q=[]->dc p.d (aw x))/\(q≠[]->(s1 x).tree=true)/\
  dc p.d v/\ao w F p.d (bX v) Sn
theorem Q6 {p:cn} {x:Nat} (h:(s x).aa=[]) (au:p.g=true->x∉p.a.aa):cn.take s p x=s x:=by
 unfold cn.take;split
 .rename_i bl;cases b8:p.a with
  |h y q=>
   have:x≠y:=by
    have:=au bl;rw[b8]at this;simpa [I.aa]using this
   simp only;rw[h2 _ _ this];exact w9 _ (by rw[h];simp)
  |_=>rfl
 .rfl
theorem DD:∀{ps:List cn} {s:ak} {x:Nat},(s x).aa=[]->(∀p∈ps,p.g=true->x∉p.a.aa)->eA s ps x=s x:=by
 intro ps;induction ps with
 |nil=>intros;rfl
 |cons p ps ih=>
  intro s x h au;have e:=Q6 (s:=s) (p:=p) h (au p (by simp));show eA (cn.take s p) ps x=s x;rw[ih (by rw[e];exact h) (λck dJ=>au ck (by simp[dJ])),e]
theorem sW {d:I} (h:d.own=true):d.plain=false/\d.tree=true/\d.ct= .hole/\d.one=true/\d.wd=1/\(∀v,dc d v↔Value.fU v=true):=by
 cases d<;>simp[I.own]at h<;>exact⟨rfl,rfl,rfl,rfl,rfl,λv=>Iff.rfl⟩
theorem Q7:∀(ps:List cn) (vs:aff) (s:ak) (S:Nat->Nat->Prop),bw w0 F0 X F S s aw w->ps.length=vs.length->
  (∀(i:Nat) (p:cn) (v:Value),ps[i]? =some p->vs[i]? =some v->p.a.plain=true/\aG w F s aw p.a v (λ_=>False)/\(p.g=true->p.ok s))->hQ ps=true->
  ∃(Sn S1:Nat->Nat->Prop),bw w0 F0 X F S1 (eA s ps) aw w/\(∀u b,S1 u b->S u b)/\
   (∀(i:Nat) (p:cn) (v:Value),ps[i]? =some p->vs[i]? =some v->p.g=true->Q5 w F (eA s ps) aw p v (Sn i))/\
   (∀i b,Sn i b->∃p,ps[i]? =some p/\p.g=true)/\
   (∀i b,Sn i b->∃u,S u b)/\(∀i u b,Sn i b->¬S1 u b)/\(∀i j b,i≠j->Sn i b->¬Sn j b)/\
   (∀(bh:I) (fI:Value) (aO:Nat->Prop),(∀p∈ps,p.g=true->∀u∈p.a.aa,u∉bh.aa)->aG w F s aw bh fI aO->aG w F (eA s ps) aw bh fI aO):=by
 intro ps;induction ps with
 |nil=>
  intro vs s S h hl _ _;exact⟨λ_ _=>False,S,h,λ_ _ h=>h,λi p v au=>by simp at au,λ_ _ h=>h.elim,λ_ _ h=>h.elim,λ_ _ _ h=>h.elim,λ_ _ _ _ h=>h.elim,λ_ _ _ _ h=>h⟩
 |cons p ps ih=>
  intro vs s S h hl w2 jW;cases vs with
  |nil=>simp at hl
  |cons v vs=>
   simp only[length_cons,Nat.add_right_cancel_iff]at hl;simp only[hQ,Bool.and_eq_true,List.all_eq_true,Bool.or_eq_true,Bool.not_eq_true']at jW;obtain⟨oR,n4⟩:=jW;have uF:∀ck∈ps,(p.g=true\/ck.g=true)->∀u∈p.a.aa,u∉ck.a.aa:=by
    intro ck dJ bl u hu;rcases oR ck dJ with e|e
    .rcases bl with bl|bl<;>simp[bl]at e
    .simpa using e u hu
   obtain⟨f1,f2,f3⟩:=w2 0 p v rfl rfl;cases bl:p.g with
   |false=>
    have fE:cn.take s p=s:=by simp[cn.take,bl]
    obtain⟨Sn,S1,aV,ba,bT,c6,ea,gy,g9,kO⟩:=ih vs s S h hl (λi ck fI au aH=>w2 (i+1) ck fI (by simpa using au) (by simpa using aH)) n4;have aT:eA s (p::ps)=eA s ps:=by show eA (cn.take s p) ps=_;rw[fE]
    rw[aT];refine⟨λi=>match i with|0=>λ_=>False|i+1=>Sn i,S1,aV,ba,?_,?_,?_,?_,?_,λbh fI aO ai=>kO bh fI aO λck dJ=>ai ck (by simp[dJ])⟩
    .intro i ck fI au aH gl;cases i with
     |zero=>simp at au;subst au;rw[bl]at gl;cases gl
     |succ i=>exact bT i ck fI (by simpa using au) (by simpa using aH) gl
    .intro i b U;cases i with
     |zero=>exact U.elim
     |succ i=>simpa using c6 i b U
    .intro i b U;cases i with
     |zero=>exact U.elim
     |succ i=>exact ea i b U
    .intro i u b U;cases i with
     |zero=>exact U.elim
     |succ i=>exact gy i u b U
    .intro i j b c_ aC bZ;cases i with
     |zero=>exact aC.elim
     |succ i=>
      cases j with
      |zero=>exact bZ.elim
      |succ j=>exact g9 i j b (by omega) aC bZ
   |true=>
    have eB:=f3 bl;simp only[cn.ok,bl,if_true]at eB;split at eB
    .rename_i x q b8;obtain⟨eG,DE,su⟩:=eB;obtain⟨j_,iF,lp⟩:=qG DE;have qH:cr s p.a=some (p.d,cg (e0 x s) x (I.put q p.d.ct (s x))):=by
      rw[b8];simp only[cr,eG,j_];rfl
     obtain⟨S1,t1,t2,t3,Q8,t4,t5,t6,t7,t8,t9,t10,t11⟩:=mW h f1 f2 qH;have fE:cn.take s p=cg (e0 x s) x (I.put q p.d.ct (s x)):=by simp[cn.take,bl,b8]
     have pN:∀ck∈ps,x∉ck.a.aa:=λck dJ=>uF ck dJ (.inl bl) x (by rw[b8];simp[I.aa]);have DF:cn.take s p x=I.put q p.d.ct (s x):=by rw[fE,lg]
     have zT:(cn.take s p x).aa=[]:=by
      rw[DF];exact uE q _ _ _ eG (.inl j_) (λ_=>by cases ai:p.d<;>first|rfl|(rw[ai]at DE;simp[I.fY]at DE))
     obtain⟨Sn,S2,aV,ba,bT,c6,ea,gy,g9,kO⟩:=ih vs (cn.take s p) S1 (by rw[fE];exact t1) hl (by
      intro i ck fI au aH;obtain⟨bU,ch,dd⟩:=w2 (i+1) ck fI (by simpa using au) (by simpa using aH);have hm:ck∈ps:=mem_of_getElem? au;refine⟨bU,?_,?_⟩
      .have:=t11 _ _ _ ch;rw[b8]at this;rw[fE];simp only[I.owner,j8]at this
       rwa [w9 _ (pN ck hm)]at this
      .intro gl;have:=dd gl;simp only[cn.ok,gl,if_true]at this⊢;split at this
       .rename_i y i5 sX;have c_:y≠x:=λe=>pN ck hm (by rw[sX,e];simp[I.aa]);rw[fE,h2 _ _ c_];have aP:=gx this.1 (.inl (qG this.2.1).1);simp only[e0,CJ aP];exact this
       .exact this.elim) n4
     have aT:eA s (p::ps)=eA (cn.take s p) ps:=rfl;have rO:eA (cn.take s p) ps x=I.put q p.d.ct (s x):=by
      rw[DD zT (λck dJ _=>pN ck dJ),DF]
     rw[aT];refine⟨λi=>match i with|0=>Q8|i+1=>Sn i,S2,aV,λu b U=>t9 u b (ba u b U),?_,?_,?_,?_,?_,?_⟩
     rotate_left 5
     .intro bh fI aO ai ij;refine kO bh fI aO (λck dJ=>ai ck (by simp[dJ])) ?_;have:=t11 _ _ _ ij;rw[b8]at this;rw[fE];simp only[I.owner,j8]at this
      rwa [w9 _ (ai p (by simp) bl x (by rw[b8];simp[I.aa]))]at this
     .intro i ck fI au aH gl;cases i with
      |zero=>
       simp at au aH;subst au aH;have zU:=f2;rw[b8,aG]at zU;obtain⟨b7,J,bA,bK,zV⟩:=zU _ eG j_;refine⟨x,q,J,b8,?_,?_,?_,?_,?_,t3,t4⟩
       .rw[rO];exact zS q _ _ _ eG
       .rw[rO,bK];exact DA w q _ _ _ _ _ _ _ eG (I.py _) bA
       .rw[rO,<-DF];exact zT
       .intro cF;subst cF;simp only[I.sub,Option.some.injEq]at eG;have:=(aG.cd (by rw[eG];exact iF)).1 (h.cV x);rw[eG]at this;exact this.1
       .intro cF;have aP:=gx eG (.inl j_);rw[rO];cases q with
        |nil=>exact(cF rfl).elim
        |cons k q=>rcases rz k q p.d.ct (s x)with⟨ay,gs,aT,e⟩|⟨ay,gs,aT,e⟩|⟨sz,xs,cf,aT,e⟩|⟨y,z,aT,e⟩|e<;>rw[e]<;>first|rfl|exact aP
      |succ i=>exact bT i ck fI (by simpa using au) (by simpa using aH) gl
     .intro i b U;cases i with
      |zero=>exact⟨p,rfl,bl⟩
      |succ i=>simpa using c6 i b U
     .intro i b U;cases i with
      |zero=>exact t10 b U
      |succ i=>obtain⟨u,hu⟩:=ea i b U;exact⟨u,t9 u b hu⟩
     .intro i u b U;cases i with
      |zero=>exact λhu=>t7 u b U (ba u b hu)
      |succ i=>exact gy i u b U
     .intro i j b c_ aC bZ;cases i with
      |zero=>
       cases j with
       |zero=>exact c_ rfl
       |succ j=>obtain⟨u,hu⟩:=ea j b bZ;exact t7 u b aC hu
      |succ i=>
       cases j with
       |zero=>obtain⟨u,hu⟩:=ea i b aC;exact t7 u b bZ hu
       |succ j=>exact g9 i j b (by omega) aC bZ
    .exact eB.elim
end
def fo:afh->afh->afh
 |d::ds,.hole::us=>(if d.plain=true then d else .hole)::fo ds us
 |_::ds,u::us=>u::fo ds us
 |_,us=>us
def zW:I->I->I
 | .eY _ ds,.eY g us=>.eY g (fo ds us)
 |_,o=>o
theorem Q9 {d o:I} (h:(zW d o).tree=true):o.tree=true:=by
 cases d<;>cases o<;>first|exact h|rfl
theorem JA {d:I} (h:d.one=true):d.wd=1:=by cases d<;>first|rfl|(simp[I.one]at h)
theorem JB {w aB:World} {F kU:Nat->Prop} (bb:∀b,F b->kU b) (hw:∀b,F b->aB.heap[b]? =w.heap[b]?):∀(ds us:afh) (cs:aff) (S aO:Nat->Prop),(∀d∈ds,d.one=true)->(∀d∈us,d.one=true)->
  aX w F ds cs S->aX aB kU us cs aO->aX aB kU (fo ds us) cs aO/\∀d∈fo ds us,d.one=true
 |[],us,cs,S,aO,_,ae,_,aF=>by
  have e:fo [] us=us:=by cases us<;>rfl
  rw[e];exact⟨aF,ae⟩
 |d::ds,[],cs,S,aO,_,_,_,aF=>by
  have e:fo (d::ds) []=[]:=rfl;rw[e];exact⟨aF,λd h=>by cases h⟩
 |d::ds,u::us,cs,S,aO,bo,ae,af,aF=>by
  rw[aX]at af aF;obtain⟨bA,bK,S1,S2,aT,ab,aW,fm,rE,uv⟩:=af;obtain⟨ie,hp,zX,JC,a3,bU,ch,dd,cW,ed⟩:=aF;have gi:=ao.length _ _ _ ab;have l2:=ao.length _ _ _ bU;rw[JA (bo d (by simp))]at gi;rw[JA (ae u (by simp))]at l2;have aY:bA=ie/\bK=hp:=append_inj (aT.symm.trans a3) (by rw[gi,l2]);obtain⟨rfl,rfl⟩:=aY;obtain⟨dR,bx⟩:=JB bb hw ds us bK S2 JC (λd ai=>bo d (by simp[ai])) (λd ai=>ae d (by simp[ai])) aW ch;have key:∀y:I,ao aB kU y bA zX->y.one=true->aX aB kU (y::fo ds us) cs aO/\∀d∈y::fo ds us,d.one=true:=by
   intro y a5 C0;rw[aX];exact⟨⟨bA,bK,zX,JC,a3,a5,dR,dd,cW,ed⟩,λd ai=>by
    rcases mem_cons.1 ai with rfl|ai
    .exact C0
    .exact bx d ai⟩
  by_cases hu:u= .hole
  .subst hu;simp only[fo];by_cases au:d.plain=true
   .rw[if_pos au];exact key d (ao.plain _ _ _ _ au (ao.mono bb _ _ _ _ (λ_ h=>h) (ao.frame hw _ _ (λ_=>False) (λ_ h=>h.elim) (ao.plain _ _ _ _ au ab)))) (bo d (by simp))
   .rw[if_neg au];exact key .hole bU rfl
  .have e:fo (d::ds) (u::us)=u::fo ds us:=by cases u<;>first|rfl|exact(hu rfl).elim
   rw[e];exact key u bU (ae u (by simp))
theorem Q_ {w aB:World} {F kU:Nat->Prop} {d o:I} {cs:aff} {S aO:Nat->Prop} (bb:∀b,F b->kU b) (hw:∀b,F b->aB.heap[b]? =w.heap[b]?) (ae:ao w F d cs S) (af:ao aB kU o cs aO):ao aB kU (zW d o) cs aO:=by
 cases d with
 |eY f ds=>
  cases o with
  |eY g us=>
   simp only[zW];rw[ao]at ae af⊢;obtain⟨arr,rfl,aW,fm⟩:=ae;obtain⟨adQ,e,hp,jU⟩:=af;simp only[cons.injEq,Value.func.injEq,and_true]at e;obtain⟨aT,a3,aY⟩:=e;subst aY;obtain⟨dR,bx⟩:=JB bb hw ds us _ _ _ aW hp fm jU;exact⟨arr,by simp_all,bx,dR⟩
  |_=>exact af
 |_=>cases o<;>exact af
def fw (l:afh):ak:=λi=>l.getD i .hole
def gL (l:aff):Nat->Value:=λi=>l.getD i undef
def mu (P:Program) (f:FuncId) (args:Array Value) (w:World) (R:Value->World->Prop):Prop:=
 ((callFunc f args).run P w= .ok (.enter f args) w/\Calls P f args w (λe aB=>∃v,e= .returned v/\R v aB))\/
 ∃v aB,(callFunc f args).run P w= .ok (.value v) aB/\R v aB
theorem mu.mono {P:Program} {f:FuncId} {args:Array Value} {w:World} {R JD:Value->World->Prop} (h:mu P f args w R) (aR:∀v aB,R v aB->JD v aB):mu P f args w JD:=by
 rcases h with⟨ae,af⟩|⟨v,aB,ae,af⟩
 .exact .inl ⟨ae,Calls.mono af λe aB ⟨v,e,h⟩=>⟨v,e,aR v aB h⟩⟩
 .exact .inr ⟨v,aB,ae,aR v aB af⟩
def bk (C:bH) (f:FuncId) (as:afh) (r:I) (outs:afh):Prop:=
 ∀(w:World) (F X:Nat->Prop) (S:Nat->Nat->Prop) (vs:aff),vs.length=as.length->bw w F X F S (fw as) (gL vs) w->
  mu C.P f vs.toArray w λv aB=>∃bC aO,bw w F X bC aO (fw (r::outs)) (gL (v::vs)) aB
def I.res:I->Bool
 | .h _ _=>false
 | .au _ _=>false
 | .U _ _=>false
 | .fn _ _=>false
 |_=>true
theorem DG {d:I} (h:d.tree=true):d.aa=[]:=by cases d<;>first|rfl|(simp[I.tree]at h)
mutual
theorem DH {s az:ak}:∀(a:I) (d:I),(∀u∈a.aa,(s u).tree=true->az u=s u)->view s a=some d->view az a=some d
 | .h x q,d,hu,h=>by
   have aP:(s x).tree=true:=by
    simp only[view]at h;split at h
    .rename_i e eG;cases e<;>simp only at h<;>first
      |(cases h;done)
      |(split at h
        .cases h
        .rename_i au;exact gx eG (.inl (by simpa using au)))
    .cases h
   simp only[view]at h⊢;rw[hu x (by simp[I.aa]) aP];exact h
 | .au x q,d,hu,h=>by
   have aP:(s x).tree=true:=by
    simp only[view]at h;split at h
    .rename_i an;split at h
     .rename_i e eG;exact gx eG (.inr an)
     .cases h
    .cases h
   simp only[view]at h⊢;rw[hu x (by simp[I.aa]) aP];exact h
 | .U x q,d,hu,h=>by simp[view]at h
 | .fn f cap,d,hu,h=>by
   simp only[view,Option.map_eq_some_iff]at h⊢;obtain⟨ds,ae,af⟩:=h;exact⟨ds,JE cap ds (by simpa [I.aa]using hu) ae,af⟩
 | .hole,d,hu,h=>h
 | .bool _,d,hu,h=>h
 | .eM,d,hu,h=>h
 | .int _ _,d,hu,h=>h
 | .str _,d,hu,h=>h
 | .db,d,hu,h=>h
 | .aN,d,hu,h=>h
 | .slice _,d,hu,h=>h
 | .ag _ _,d,hu,h=>h
 | .ref _,d,hu,h=>h
 | .aK _,d,hu,h=>h
 | .agg _,d,hu,h=>h
 | .tuple _,d,hu,h=>h
 | .dm _,d,hu,h=>h
 | .eY _ _,d,hu,h=>h
 | .gb _,d,hu,h=>h
theorem JE {s az:ak}:∀(as:afh) (ds:afh),(∀u∈I.du as,(s u).tree=true->az u=s u)->views s as=some ds->views az as=some ds
 |[],ds,hu,h=>h
 |a::as,ds,hu,h=>by
  simp only[I.du,mem_append]at hu;simp only[views]at h⊢;split at h
  .rename_i x y ae af;rw[DH a x (λu hm=>hu u (.inl hm)) ae,JE as y (λu hm=>hu u (.inr hm)) af];exact h
  .cases h
end
section
variable {C:bH} {w0 w aB:World} {F0 X F Fc:Nat->Prop} {S:Nat->Nat->Prop} {s az:ak} {aw jy:Nat->Value}
def Ra (w:World) (F:Nat->Prop) (s:ak) (aw:Nat->Value) (p:cn) (v:Value) (n5:Nat->Prop):Prop:=
 p.g=true->p.o= .hole\/∃x q J d0,p.a= .h x q/\I.sub q (s x)=some d0/\cj w q (s x) (bX (aw x)) none=some (d0,bX v,J)/\(s x).aa=[]/\
  (q=[]->dc p.o (aw x))/\(q≠[]->(s x).tree=true)/\p.o.fY=true/\ao w F p.o (bX v) n5/\p.o.wd=d0.wd/\∀v,hL d0 v->hL p.o v
theorem Rb:∀(ps:List cn) (vs:aff) (s:ak) (S n5:Nat->Nat->Prop),bw w0 F0 X F S s aw w->ps.length=vs.length->
  (∀(i:Nat) (p:cn) (v:Value),ps[i]? =some p->vs[i]? =some v->Ra w F s aw p v (n5 i))->
  (∀i b,n5 i b->b<w.heap.size/\¬F b/\(X b\/w0.heap.size<=b)/\∀u,¬S u b)->(∀i j b,i≠j->n5 i b->¬n5 j b)->hQ ps=true->
  ∃S2,bw w0 F0 X F S2 (g3 s ps) aw w/\∀u b,S2 u b->S u b\/∃i,n5 i b:=by
 intro ps;induction ps with
 |nil=>intro vs s S n5 h _ _ _ _ _;exact⟨S,h,λu b U=>.inl U⟩
 |cons p ps ih=>
  intro vs s S n5 h hl DI U ai jW;cases vs with
  |nil=>simp at hl
  |cons v vs=>
   simp only[length_cons,Nat.add_right_cancel_iff]at hl;simp only[hQ,Bool.and_eq_true,List.all_eq_true,Bool.or_eq_true,Bool.not_eq_true']at jW;obtain⟨oR,n4⟩:=jW;have uF:∀ck∈ps,(p.g=true\/ck.g=true)->∀u∈p.a.aa,u∉ck.a.aa:=by
    intro ck dJ bl u hu;rcases oR ck dJ with e|e
    .rcases bl with bl|bl<;>simp[bl]at e
    .simpa using e u hu
   have skip:cn.ig s p=s->∃S2,bw w0 F0 X F S2 (g3 s (p::ps)) aw w/\∀u b,S2 u b->S u b\/∃i,n5 i b:=by
    intro fE;obtain⟨S2,aV,ba⟩:=ih vs s S (λi=>n5 (i+1)) h hl (λi ck fI au aH=>DI (i+1) ck fI (by simpa using au) (by simpa using aH)) (λi b h=>U (i+1) b h)
     (λi j b c_=>ai (i+1) (j+1) b (by omega)) n4
    refine⟨S2,?_,λu b hu=>(ba u b hu).imp id λ⟨i,aC⟩=>⟨i+1,aC⟩⟩;show bw _ _ _ _ _ (g3 (cn.ig s p) ps) _ _;rw[fE];exact aV
   cases bl:p.g with
   |false=>exact skip (by simp[cn.ig,bl])
   |true=>
    rcases DI 0 p v rfl rfl bl with bO|⟨x,q,J,d0,b8,bA,bK,zV,jS,pO,fg,DJ,gV,DK⟩
    .exact skip (by simp only[cn.ig,bl,bO,if_true])
    .obtain⟨j_,iF,Rc⟩:=qG fg;have fE:cn.ig s p=cg (lf x s) x (I.put q p.o (s x)):=by
      simp only[cn.ig,bl,if_true,b8];cases Rd:p.o<;>first|rfl|(rw[Rd]at fg;simp[I.fY]at fg)
     have step:=h.ig (x:=x) (q:=q) (bh:=p.o) bA bK Rc (λcF=>⟨iF,jS cF⟩) (λk r cF=>⟨pO (by rw[cF];simp),DK⟩) gV DJ
      (λb h=>(U 0 b h).1) (λb h=>(U 0 b h).2.1) (λu b h=>(U 0 b h).2.2.2 u) (λb h=>(U 0 b h).2.2.1)
     rw[<-fE]at step;obtain⟨S2,aV,ba⟩:=ih vs (cn.ig s p) _ (λi=>n5 (i+1)) step hl (by
      intro i ck fI au aH gl;have hm:ck∈ps:=mem_of_getElem? au;rcases DI (i+1) ck fI (by simpa using au) (by simpa using aH) gl with bO|⟨y,i5,ab,d1,bU,ch,dd,cW,ed,dn,h4,cL,lk⟩
      .exact .inl bO
      .have c_:y≠x:=λe=>uF ck hm (.inl bl) x (by rw[b8];simp[I.aa]) (by rw[bU,e];simp[I.aa]);have rB:cn.ig s p y=s y:=by
        rw[fE,h2 _ _ c_];exact Dn _ (by rw[cW];simp)
       exact .inr ⟨y,i5,ab,d1,bU,by rw[rB];exact ch,by rw[rB];exact dd,by rw[rB];exact cW,ed,by rw[rB];exact dn,h4,cL,lk⟩)
      (by
       intro i b aC;obtain⟨ie,hp,jU,cG⟩:=U (i+1) b aC;refine⟨ie,hp,jU,λu hu=>?_⟩;simp only[gf]at hu;split at hu
       .rcases hu with hu|hu
        .exact cG _ hu
        .exact ai 0 (i+1) b (by omega) hu aC
       .exact cG _ hu)
      (λi j b c_=>ai (i+1) (j+1) b (by omega)) n4
     refine⟨S2,aV,λu b hu=>?_⟩;rcases ba u b hu with hu|⟨i,aC⟩
     .simp only[gf]at hu;split at hu
      .rename_i e;subst e;exact hu.imp id λh=>⟨0,h⟩
      .exact .inl hu
     .exact .inr ⟨i+1,aC⟩
def jE (ps:List cn):Bool:=ps.any λp=> !p.g&& !p.a.aa.isEmpty
theorem Re (h:bw w0 F0 X F S s aw w) {ps:List cn} {vs JF:aff} {os:afh} {f:FuncId} {r:I} (hl:ps.length=vs.length) (uG:∀(i:Nat) (p:cn),ps[i]? =some p->∃o,os[i]? =some o/\(p.o=o\/p.o=zW p.d o))
  (ij:∀(i:Nat) (p:cn) (v:Value),ps[i]? =some p->vs[i]? =some v->p.a.plain=true/\aG w F s aw p.a v (λ_=>False))
  (eB:∀p∈ps,p.ok s) (jW:hQ ps=true) (a8:∀(Fc ka:Nat->Prop) (dB:Nat->Nat->Prop),(∀b,F b->Fc b)->(∀b,ka b->∃u,S u b)->bw w Fc ka Fc dB (fw (ps.map (·.d))) (gL vs) w->
   mu C.P f JF.toArray w λv aB=>∃bC aO,bw w Fc ka bC aO (fw (r::os)) (gL (v::vs)) aB) (aR:r.res=true)
  (a4:jE ps=true->r.cM=true/\∀(i:Nat) (p:cn) (o:I),ps[i]? =some p->os[i]? =some o->p.g=true->o.cM=true):
  mu C.P f JF.toArray w λv aB=>∃bC aO,bw w0 F0 X bC aO (g3 (eA s ps) ps) aw aB/\kq w0 X bC aO (g3 (eA s ps) ps) aw aB r v/\∀b,F b->bC b/\aB.heap[b]? =w.heap[b]? :=by
 obtain⟨Sn,S1,aV,ba,bT,c6,ea,gy,g9,kO⟩:=Q7 ps vs s S h hl (λi p v au aH=>⟨(ij i p v au aH).1,(ij i p v au aH).2,λ_=>eB p (mem_of_getElem? au)⟩) jW;have apart:∀(i j:Nat) (p ck:cn),ps[i]? =some p->ps[j]? =some ck->i≠j->(p.g=true\/ck.g=true)->∀u∈p.a.aa,u∉ck.a.aa:=by
  clear ij eB a8 a4 aV bT c6 kO hl uG;induction ps with
  |nil=>intro i j p ck au;simp at au
  |cons eZ ps ih=>
   simp only[hQ,Bool.and_eq_true,List.all_eq_true,Bool.or_eq_true,Bool.not_eq_true']at jW;obtain⟨oR,n4⟩:=jW;have uF:∀ck∈ps,(eZ.g=true\/ck.g=true)->∀u∈eZ.a.aa,u∉ck.a.aa:=by
    intro ck dJ bl u hu;rcases oR ck dJ with e|e
    .rcases bl with bl|bl<;>simp[bl]at e
    .simpa using e u hu
   intro i j p ck au dJ c_ bl u hu;cases i with
   |zero=>
    simp at au;subst au;cases j with
    |zero=>exact(c_ rfl).elim
    |succ j=>exact uF ck (mem_of_getElem? (by simpa using dJ)) bl u hu
   |succ i=>
    cases j with
    |zero=>
     simp at dJ;subst dJ;exact λqI=>uF p (mem_of_getElem? (by simpa using au)) bl.symm u qI hu
    |succ j=>exact ih n4 i j p ck (by simpa using au) (by simpa using dJ) (by omega) bl u hu
 let Fc:Nat->Prop:=λb=>F b\/(jE ps=true/\∃u,S1 u b)
 let ka:Nat->Prop:=λb=>∃i,Sn i b
 have zY:∀b,F b->¬ka b:=λb bb ⟨i,aC⟩=>by obtain⟨u,hu⟩:=ea i b aC;exact h.fC u b hu bb
 have xa:∀u b,S1 u b->¬ka b:=λu b hu ⟨i,aC⟩=>gy i u b aC hu;have X0:∀b,ka b->(X b\/w0.heap.size<=b)/\b<w.heap.size:=λb ⟨i,aC⟩=>by obtain⟨u,hu⟩:=ea i b aC;exact⟨h.c7 u b hu,h.ek u b hu⟩
 have pre:bw w Fc ka Fc Sn (fw (ps.map (·.d))) (gL vs) w:=by
  refine⟨λ_ h=>h,λ_ h=>.inl h,?_,λi b aC=>(X0 b ⟨i,aC⟩).2,?_,λi j b c_=>g9 i j b c_,λi b aC=>.inl ⟨i,aC⟩,?_,λ_ _ _=>rfl,Nat.le_refl _,rfl,rfl,Out.refl _,h.hn.next h.size h.old λb U=>(X0 b U).1⟩
  .rintro b (U|⟨_,u,hu⟩)
   .exact h.fu b U
   .exact aV.ek u b hu
  .rintro i b aC (U|⟨_,u,hu⟩)
   .exact zY b U ⟨i,aC⟩
   .exact gy i u b aC hu
  .intro t;cases au:ps[t]? with
   |none=>
    have:fw (ps.map (·.d)) t= .hole:=by simp[fw,List.getD,au]
    rw[this,aG];trivial
   |some p=>
    have c5:t<vs.length:=by rw[<-hl];exact(List.getElem?_eq_some_iff.1 au).1
    have aH:vs[t]? =some vs[t]:=getElem?_eq_getElem c5;have aT:fw (ps.map (·.d)) t=p.d:=by simp[fw,List.getD,au]
    have a3:gL vs t=vs[t]:=by simp[gL,List.getD,aH]
    rw[aT,a3];have hm:p∈ps:=mem_of_getElem? au;have aj:=eB p hm;cases bl:p.g with
    |true=>
     obtain⟨x,q,J,bU,ch,dd,cW,ed,dn,h4,cL⟩:=bT t p _ au aH bl;simp only[cn.ok,bl,if_true,bU]at aj;exact(aG.cd (qG aj.2.1).2.1).2 ⟨h4,ao.mono (λb U=>.inl U) _ _ _ _ (λ_ h=>h) cL⟩
    |false=>
     simp only[cn.ok,bl]at aj;obtain⟨f1,f2⟩:=ij t p _ au aH;have JG:∀ck∈ps,ck.g=true->∀u∈ck.a.aa,u∉p.a.aa:=by
      intro ck dJ gl u hu;obtain⟨j,bZ⟩:=getElem?_of_mem dJ;refine apart j t ck p bZ au (λe=>?_) (.inl gl) u hu;subst e;rw[au]at bZ;simp only[Option.some.injEq]at bZ;rw[bZ,gl]at bl;cases bl
     have zU:=kO _ _ _ JG f2;have js:view (eA s ps) p.a=some p.d:=DH _ _ (λu hu aP=>DD (DG aP) (λck dJ gl qI=>JG ck dJ gl u qI hu)) (by simpa using aj);refine aG.nothing (Q2 f1 js) ((Q3 aV (Fc:=Fc) (λb U=>.inl U) (SizeOf.sizeOf p.a)).1 p.a _ p.d (Nat.le_refl _) ?_ js zU);intro u hu b U;refine .inr ⟨?_,u,U⟩;simp only[jE,List.any_eq_true];refine⟨p,hm,?_⟩;cases mi:p.a.aa with
     |nil=>rw[mi]at hu;cases hu
     |cons _ _=>simp[bl]
 refine mu.mono (a8 Fc ka Sn (λb U=>.inl U) (λb ⟨i,aC⟩=>ea i b aC) pre) ?_;rintro v aB ⟨bC,aO,an⟩;have c9:∀b,b<w.heap.size->¬ka b->aB.heap[b]? =w.heap[b]? :=an.old;let oS:Nat->Prop:=λb=>if jE ps=true then F b else bC b
 have JH:∀b,F b->bC b:=λb U=>an.g2 b (.inl U);have sY:∀b,F b->oS b:=λb U=>by
  simp only[oS];split
  .exact U
  .exact JH b U
 have kU:∀b,oS b->bC b:=λb U=>by
  simp only[oS]at U;split at U
  .exact JH b U
  .exact U
 have JI:∀b,oS b->F b\/ka b\/w.heap.size<=b:=λb U=>by
  simp only[oS]at U;split at U
  .exact .inl U
  .rename_i rI;rcases an.hk b U with(U|⟨ae,_⟩)|U|U
   .exact .inl U
   .exact(rI ae).elim
   .exact .inr (.inl U)
   .exact .inr (.inr U)
 have mid:bw w0 F0 X oS S1 (eA s ps) aw aB:=by
  refine⟨λb U=>sY b (aV.g2 b U),?_,λb U=>an.fu b (kU b U),λt b U=>Nat.lt_of_lt_of_le (aV.ek t b U) an.size,?_,aV.e9,aV.c7,?_,?_,Nat.le_trans aV.size an.size,an.os.trans aV.os,an.tape.trans aV.tape,an.output.trans aV.output,aV.hn⟩
  .intro b U;rcases JI b U with U|U|U
   .exact aV.hk b U
   .rcases(X0 b U).1 with h|h
    .exact .inr (.inl h)
    .exact .inr (.inr h)
   .exact .inr (.inr (Nat.le_trans aV.size U))
  .intro t b aP U;rcases JI b U with U|U|U
   .exact aV.fC t b aP U
   .exact xa t b aP U
   .exact absurd (aV.ek t b aP) (by omega)
  .intro t;exact aG.frame (Sx:=S1) (λb U=>c9 b (h.fu b U) (zY b U)) sY (λx b U=>c9 b (aV.ek x b U) (xa x b U)) aV.cV _ _ _ (λb U=>c9 b (aV.ek t b U) (xa t b U)) (aV.cV t)
  .intro b U jR;refine(c9 b (Nat.lt_of_lt_of_le U aV.size) λal=>?_).trans (aV.old b U jR);rcases(X0 b al).1 with h|h
   .exact jR h
   .omega
 have JJ:∀(d:I) (cs:aff) (c7:Nat->Prop),(jE ps=true->d.cM=true)->ao aB bC d cs c7->ao aB oS d cs c7:=by
  intro d cs c7 De fF;by_cases hle:jE ps=true
  .exact ao.cM d cs c7 (De hle) fF
  .exact ao.mono (λb U=>by simp only[oS];rw[if_neg hle];exact U) _ _ _ _ (λ_ h=>h) fF
 have bound:∀i b,aO i b->b<aB.heap.size/\¬oS b/\(X b\/w0.heap.size<=b)/\∀u,¬S1 u b:=by
  intro i b U;refine⟨an.ek i b U,λbb=>an.fC i b U (kU b bb),?_,λu hu=>?_⟩
  .rcases an.c7 i b U with al|al
   .exact(X0 b al).1
   .exact .inr (Nat.le_trans aV.size al)
  .rcases an.c7 i b U with al|al
   .exact xa u b hu al
   .exact absurd (aV.ek u b hu) (by omega)
 obtain⟨S2,bU,ch⟩:=Rb ps vs (eA s ps) S1 (λi=>aO (i+1)) mid hl (by
  intro i p fI au aH bl;have hm:p∈ps:=mem_of_getElem? au;have aj:=eB p hm;obtain⟨x,q,J,aT,a3,aY,b1,cI,bQ,bL,gI⟩:=bT i p fI au aH bl;simp only[cn.ok,bl,if_true,aT]at aj;rcases aj.2.2 with bO|bO
  .exact .inl bO
  .obtain⟨gi,l2,DL⟩:=Q4 aj.2.1 bO.1 bO.2;refine .inr ⟨x,q,J,p.d.ct,aT,a3,?_,b1,λcF=>l2 _ (cI cF),bQ,bO.1,?_,gi.trans (I.py _).symm,DL⟩
   .cases q with
    |nil=>simpa only[cj]using aY
    |cons k q=>
     have aP:=bQ (by simp);rw[zm (k::q) _ _ (S1 x) none _ ((aG.cd aP).1 (aV.cV x)).2 a3 (λb U=>c9 b (aV.ek x b U) (xa x b U))];exact aY
   .have:=an.cV (i+1);obtain⟨o,j_,iF⟩:=uG i p au;have iS:fw (r::os) (i+1)=o:=by simp[fw,List.getD,j_]
    have jC:gL (v::vs) (i+1)=fI:=by simp[gL,List.getD,aH]
    rw[iS,jC]at this;have Rf:o.tree=true:=by
     rcases iF with e|e
     .rw[<-e];exact(qG bO.1).2.1
     .exact Q9 (d:=p.d) (by rw[<-e];exact(qG bO.1).2.1)
    have ae:=JJ _ _ _ (λhle=>(a4 hle).2 i p o au j_ bl) ((aG.cd Rf).1 this).2;rcases iF with e|e
    .rw[e];exact ae
    .rw[e];exact Q_ sY (λb U=>c9 b (h.fu b U) (zY b U)) gI ae)
  (λi b U=>bound (i+1) b U) (λi j b c_=>an.e9 (i+1) (j+1) b (by omega)) jW
 refine⟨oS,S2,bU,?_,λb U=>⟨sY b U,c9 b (h.fu b U) (zY b U)⟩⟩;have bo:=an.cV 0;have iS:fw (r::os) 0=r:=rfl;have jC:gL (v::vs) 0=v:=rfl;rw[iS,jC]at bo;cases aP:r.tree with
 |false=>
  cases r<;>first
   |(simp[I.tree]at aP;done)
   |(simp[I.res]at aR;done)
   |exact .inl ⟨rfl,by rw[aG];trivial⟩
 |true=>
  obtain⟨s1,s2⟩:=(aG.cd aP).1 bo;have iE:=JJ _ _ _ (λhle=>(a4 hle).1) s2;refine .inr ⟨aP,s1,aO 0,iE,λb U=>(bound 0 b U).1,λb U=>(bound 0 b U).2.1,λu b U hu=>?_,λb U=>(bound 0 b U).2.2.1⟩;rcases ch u b hu with hu|⟨i,aC⟩
  .exact(bound 0 b U).2.2.2 u hu
  .exact an.e9 0 (i+1) b (by omega) U aC
theorem JK (h:bw w0 F0 X F S s aw w) {ps:List cn} {vs:aff} {f:FuncId} {r:I} (hl:ps.length=vs.length)
  (ij:∀(i:Nat) (p:cn) (v:Value),ps[i]? =some p->vs[i]? =some v->p.a.plain=true/\aG w F s aw p.a v (λ_=>False))
  (eB:∀p∈ps,p.ok s) (jW:hQ ps=true) (a8:∀(Fc ka:Nat->Prop) (dB:Nat->Nat->Prop),(∀b,F b->Fc b)->(∀b,ka b->∃u,S u b)->bw w Fc ka Fc dB (fw (ps.map (·.d))) (gL vs) w->
   mu C.P f vs.toArray w λv aB=>∃bC aO,bw w Fc ka bC aO (fw (r::ps.map (·.o))) (gL (v::vs)) aB) (aR:r.res=true)
  (a4:jE ps=true->r.cM=true/\∀p∈ps,p.o.cM=true):
  mu C.P f vs.toArray w λv aB=>∃bC aO,bw w0 F0 X bC aO (g3 (eA s ps) ps) aw aB/\kq w0 X bC aO (g3 (eA s ps) ps) aw aB r v/\∀b,F b->bC b/\aB.heap[b]? =w.heap[b]? :=
 Re h hl (λi p au=>⟨p.o,by simp[au],.inl rfl⟩) ij eB jW a8 aR λhle=>⟨(a4 hle).1,λi p o au bO _=>by
  rw[getElem?_map,au]at bO;have:=Option.some.inj bO;subst this;exact(a4 hle).2 p (mem_of_getElem? au)⟩
theorem Rg (h:bw w0 F0 X F S s aw w) {ps:List cn} {vs:aff} {f:FuncId} {r:I} (hl:ps.length=vs.length)
  (ij:∀(i:Nat) (p:cn) (v:Value),ps[i]? =some p->vs[i]? =some v->p.a.plain=true/\aG w F s aw p.a v (λ_=>False))
  (eB:∀p∈ps,p.ok s) (jW:hQ ps=true) (a8:bk C f (ps.map (·.d)) r (ps.map (·.o))) (aR:r.res=true)
  (a4:jE ps=true->r.cM=true/\∀p∈ps,p.o.cM=true):
  mu C.P f vs.toArray w λv aB=>∃bC aO,bw w0 F0 X bC aO (g3 (eA s ps) ps) aw aB/\kq w0 X bC aO (g3 (eA s ps) ps) aw aB r v/\∀b,F b->bC b/\aB.heap[b]? =w.heap[b]? :=
 JK h hl ij eB jW (λFc ka dB _ _ au=>a8 w Fc ka dB vs (by simp[hl]) au) aR a4
end
structure bJ where
 dst:Option Nat
 bq:di
 guard:Option (Nat×Bool)
def uH (ops:Array Oper):Option (Nat×Bool)->Option (Option (Nat×Bool))
 |none=>some none
 |some (j,b)=>match(ops[j]?).bind (·.dst)with
  |some t=>some (some (t,b))
  |none=>none
structure Fr where
 n:Nat
 fx:afc
def kV (n:Fr):Option Nat->Bool
 |none=>true
 |some t=>decide (t<n.n)&& !n.fx.contains t
def pP (op:Op):di:=match cz op with
 |some bq=>bq
 |none=>.bad
def lq (n:Fr) (ops:Array Oper) (o:Oper):Option bJ:=
 if kV n o.dst=true then match uH ops o.guard with
  |some g=>some ⟨o.dst,pP o.op,g⟩
  |none=>none
 else none
def oT (n:Fr) (ops:Array Oper):List Oper->Option (List bJ)
 |[]=>some []
 |o::os=>match lq n ops o,oT n ops os with
  |some r,some rs=>some (r::rs)
  |_,_=>none
def DM (C:bH) (s:ak) (f:a6) (args:List a6) (K:I->ak->Prop):Prop:=
 ∃(g:FuncId) (caps:afh) (ps:List cn) (r:I),a7 s f= .fn g caps/\I.eb caps=true/\ps.map (·.a)=args.map (a7 s)++caps/\(∀p∈ps,p.ok s)/\hQ ps=true/\
   bk C g (ps.map (·.d)) r (ps.map (·.o))/\r.res=true/\(jE ps=true->r.cM=true/\∀p∈ps,p.o.cM=true)/\K r (g3 (eA s ps) ps)
theorem JL (w:World):∀(q:afc) (x e:I) (cs c4:aff) (l:Nat×Nat) (b o:Nat),I.dZ q x=false->cj w q x cs (some l)=some (e,c4,some (b,o))->b=l.1:=by
 intro q;induction q with
 |nil=>intro x e cs c4 l b o _ h;simp only[cj,Option.some.injEq,Prod.mk.injEq]at h;rw[h.2.2]
 |cons k q ih=>
  intro x e cs c4 l b o an h;cases x with
  |agg ay=>simp only[cj]at h;split at h
           .rename_i y a5;simp only[I.dZ,a5]at an;simpa using ih _ _ _ _ _ _ _ an h
           .cases h
  |tuple ay=>simp only[cj]at h;split at h
             .rename_i y a5;simp only[I.dZ,a5]at an;simpa using ih _ _ _ _ _ _ _ an h
             .cases h
  |ag sz xs=>simp[I.dZ]at an
  |aK y=>simp[I.dZ]at an
  |_=>simp[cj]at h
theorem Rh {w:World} {F:Nat->Prop}:∀(q:afc) (av e:I) (cs c4:aff) (S:Nat->Prop) (a:Option (Nat×Nat)) (b o:Nat),ao w F av cs S->I.dZ q av=true->cj w q av cs a=some (e,c4,some (b,o))->S b:=by
 intro q;induction q with
 |nil=>intro av e cs c4 S a b o _ an;simp[I.dZ]at an
 |cons k q ih=>
  intro av e cs c4 S a b o h an a8;cases av with
  |agg ay=>
   simp only[cj]at a8;split at a8
   .rename_i x al;rw[ao]at h;simp only[I.dZ,al]at an;obtain⟨bA,dQ,bK,S1,gq,rfl,eZ,dD,ej,fV,dE,ia⟩:=aX.pick ay cs S k x h al;rw[nO bA dQ bK _ _ eZ (ao.length _ _ _ dE)]at a8;exact ej _ (ih _ _ _ _ _ _ _ _ dE an a8)
   .cases a8
  |tuple ay=>
   simp only[cj]at a8;split at a8
   .rename_i x al;rw[ao]at h;simp only[I.dZ,al]at an;obtain⟨bA,dQ,bK,S1,gq,rfl,eZ,dD,ej,fV,dE,ia⟩:=aX.pick ay cs S k x h al;rw[nO bA dQ bK _ _ eZ (ao.length _ _ _ dE)]at a8;exact ej _ (ih _ _ _ _ _ _ _ _ dE an a8)
   .cases a8
  |ag sz xs=>
   rw[ao]at h;rcases h with⟨rfl,_,rfl⟩|⟨fK,cap,cur,fE,fr,c7,rfl,af,aF,a1,bt,b_,cq,er,h1,gp,j4⟩
   .simp[cj]at a8
   .rw[cj.eq_def]at a8;simp only at a8;split at a8
    .rename_i x eN _ _ _ _ al ho;simp only[cons.injEq,Value.slice.injEq,Option.some.injEq,Addr.mk.injEq,and_true]at ho;obtain⟨⟨rfl,_⟩,_⟩:=ho;cases xb:I.dZ q x
     .rw[JL w q x e _ c4 _ b o xb a8];exact af
     .obtain⟨bA,dQ,bK,S1,gq,p,eZ,dD,ej,fV,dE,ia⟩:=aX.pick xs _ c7 k x h1 al;have hl:=ao.length _ _ _ dE;have CF:k<xs.length:=(List.getElem?_eq_some_iff.1 al).1;have px:x.wd=sz:=er x (mem_of_getElem? al);have bO:I.dh (xs.take k)=k*sz:=by
       rw[oE _ (λd ai=>er d (mem_of_mem_take ai))];rw[length_take,Nat.min_eq_left (by omega)]
      obtain⟨lH,iz⟩:∃lH,cur.toList=bA++(dQ++(bK++lH)):=by
       refine⟨cur.toList.drop (xs.length*sz),?_⟩;have:=(take_append_drop (xs.length*sz) cur.toList).symm;rw[p]at this;simpa using this
      have hv:j5 w fK (k*sz) sz=dQ:=by
       have:=nP aF iz
       rwa [eZ,bO,hl,px]at this
      rw[hv]at a8;exact gp _ (ej _ (ih _ _ _ _ _ _ _ _ dE xb a8))
    .cases a8
  |aK x=>
   cases k with
   |succ k=>simp[cj]at a8
   |zero=>
    rw[ao]at h;obtain⟨fK,cur,fE,fr,c7,rfl,af,aF,a1,bt,b_,cq⟩:=h;have hl:=ao.length _ _ _ bt;have hv:j5 w fK 0 x.wd=cur.toList:=by
     have:=nP (l:=[]) (m:=cur.toList) (r:=[]) aF (by simp)
     rwa [hl]at this
    simp only[cj,hv]at a8;cases xb:I.dZ q x
    .rw[JL w q x e _ c4 _ b o xb a8];exact af
    .exact b_ _ (ih _ _ _ _ _ _ _ _ bt xb a8)
  |_=>simp[cj]at a8
theorem Ri {w aB:World} {F:Nat->Prop} {b k o:Nat} {r:afc} (hw:∀c,c≠b->aB.heap[c]? =w.heap[c]?):∀(p:afc) (av d e:I) (cs b7 c4:aff) (S:Nat->Prop) (a ab:Option (Nat×Nat)),ao w F av cs S->I.dZ (k::r) d=true->
  cj w p av cs a=some (d,b7,ab)->cj w (k::r) d b7 ab=some (e,c4,some (b,o))->cj aB p av cs a=some (d,b7,ab)/\S b:=by
 intro p;induction p with
 |nil=>
  intro av d e cs b7 c4 S a ab h an a8 bl;have Dl:=a8;simp only[cj,Option.some.injEq,Prod.mk.injEq]at a8;obtain⟨rfl,rfl,rfl⟩:=a8;exact⟨Dl,Rh _ _ _ _ _ _ _ _ _ h an bl⟩
 |cons j p ih=>
  intro av d e cs b7 c4 S a ab h an a8 bl;cases av with
  |agg ay=>
   simp only[cj]at a8⊢;split at a8
   .rename_i x al;rw[ao]at h;obtain⟨bA,dQ,bK,S1,gq,rfl,eZ,dD,ej,fV,dE,ia⟩:=aX.pick ay cs S j x h al;rw[nO bA dQ bK _ _ eZ (ao.length _ _ _ dE)]at a8⊢;obtain⟨aV,ba⟩:=ih _ _ _ _ _ _ _ _ _ dE an a8 bl;exact⟨aV,ej _ ba⟩
   .cases a8
  |tuple ay=>
   simp only[cj]at a8⊢;split at a8
   .rename_i x al;rw[ao]at h;obtain⟨bA,dQ,bK,S1,gq,rfl,eZ,dD,ej,fV,dE,ia⟩:=aX.pick ay cs S j x h al;rw[nO bA dQ bK _ _ eZ (ao.length _ _ _ dE)]at a8⊢;obtain⟨aV,ba⟩:=ih _ _ _ _ _ _ _ _ _ dE an a8 bl;exact⟨aV,ej _ ba⟩
   .cases a8
  |ag sz xs=>
   rw[ao]at h;rcases h with⟨rfl,_,rfl⟩|⟨fK,cap,cur,fE,fr,c7,rfl,af,aF,a1,bt,b_,cq,er,h1,gp,j4⟩
   .simp[cj]at a8
   .rw[cj.eq_def]at a8⊢;simp only at a8⊢;split at a8
    .rename_i x eN _ _ _ _ al ho;simp only[cons.injEq,Value.slice.injEq,Option.some.injEq,Addr.mk.injEq,and_true]at ho;obtain⟨⟨rfl,_⟩,_⟩:=ho;obtain⟨bA,dQ,bK,S1,gq,ck,eZ,dD,ej,fV,dE,ia⟩:=aX.pick xs _ c7 j x h1 al;have hl:=ao.length _ _ _ dE;have CF:j<xs.length:=(List.getElem?_eq_some_iff.1 al).1;have px:x.wd=sz:=er x (mem_of_getElem? al);have bO:I.dh (xs.take j)=j*sz:=by
      rw[oE _ (λd ai=>er d (mem_of_mem_take ai))];rw[length_take,Nat.min_eq_left (by omega)]
     obtain⟨lH,iz⟩:∃lH,cur.toList=bA++(dQ++(bK++lH)):=by
      refine⟨cur.toList.drop (xs.length*sz),?_⟩;have:=(take_append_drop (xs.length*sz) cur.toList).symm;rw[ck]at this;simpa using this
     have hv:j5 w fK (j*sz) sz=dQ:=by
      have:=nP aF iz
      rwa [eZ,bO,hl,px]at this
     rw[hv]at a8;obtain⟨aV,ba⟩:=ih _ _ _ _ _ _ _ _ _ dE an a8 bl;have c_:fK≠b:=λe=>j4 (e▸ej _ ba);have sr:j5 aB fK (j*sz) sz=dQ:=by
      have:=nP ((hw fK c_).trans aF) iz
      rwa [eZ,bO,hl,px]at this
     refine⟨?_,gp _ (ej _ ba)⟩;rw[sr];exact aV
    .cases a8
  |aK x=>
   cases j with
   |succ k=>simp[cj]at a8
   |zero=>
    rw[ao]at h;obtain⟨fK,cur,fE,fr,c7,rfl,af,aF,a1,bt,b_,cq⟩:=h;have hl:=ao.length _ _ _ bt;have hv:j5 w fK 0 x.wd=cur.toList:=by
     have:=nP (l:=[]) (m:=cur.toList) (r:=[]) aF (by simp)
     rwa [hl]at this
    simp only[cj,hv]at a8⊢;obtain⟨aV,ba⟩:=ih _ _ _ _ _ _ _ _ _ bt an a8 bl;have c_:fK≠b:=λe=>cq (e▸ba);have sr:j5 aB fK 0 x.wd=cur.toList:=by
     have:=nP (l:=[]) (m:=cur.toList) (r:=[]) ((hw fK c_).trans aF) (by simp)
     rwa [hl]at this
    rw[sr];exact⟨aV,b_ _ ba⟩
  |_=>simp[cj]at a8
theorem JM:∀(p:afc) (av e d:I) (r:afc),I.sub p av=some e->I.put (p++r) d av=I.put p (I.put r d e) av:=by
 intro p;induction p with
 |nil=>intro av e d r h;simp only[I.sub,Option.some.injEq]at h;subst h;rfl
 |cons k p ih=>
  intro av e d r h;cases av with
  |agg ay=>simp only[I.sub]at h;split at h
           .rename_i x al;simp only[cons_append,I.put,al,ih _ _ d r h]
           .cases h
  |tuple ay=>simp only[I.sub]at h;split at h
             .rename_i x al;simp only[cons_append,I.put,al,ih _ _ d r h]
             .cases h
  |ag sz ay=>simp only[I.sub]at h;split at h
             .rename_i x al;simp only[cons_append,I.put,al,ih _ _ d r h]
             .cases h
  |aK x=>cases k with
   |succ k=>simp[I.sub]at h
   |zero=>simp only[I.sub]at h;simp only[cons_append,I.put,ih _ _ d r h]
  |_=>simp[I.sub]at h
def kb:afc->afc->Option afc
 |[],r=>some r
 |a::p,b::q=>if a=b then kb p q else none
 |_::_,[]=>none
theorem DN:∀{p q r:afc},kb p q=some r->q=p++r
 |[],q,r,h=>by simp only[kb,Option.some.injEq]at h;rw[h];rfl
 |a::p,[],r,h=>by simp[kb]at h
 |a::p,b::q,r,h=>by
  simp only[kb]at h;split at h
  .rename_i e;rw[e,DN h];rfl
  .cases h
def sZ:Option afc->Option I->Bool
 |some (_::_),some (.ag _ _)=>true
 |_,_=>false
def lQ (s:ak) (x a:I):Bool:=match x,a with
 | .au z q,.h y p=>decide (y=z)&&sZ (kb p q) (I.sub p (s z))
 |_,_=>false
theorem Rj {C:bH} {w0 w:World} {F0 X F:Nat->Prop} {S:Nat->Nat->Prop} {s:ak} {aw:Nat->Value} (a9:C.dL) (h:bw w0 F0 X F S s aw w) {T:TypeId} {x y:I} {fD gh:Value} (sB:aG w F s aw x fD (λ_=>False)) (a5:y.plain=true) (wO:aG w F s aw y gh (λ_=>False))
  {s2:ak} (he:gT C s T x y=some s2) {u:Nat} {hu:I} (sO:lQ s x hu=true) (uI:aG w F s aw hu (aw u) (λ_=>False)):
  ∃aB aO,(Instr.storeAt T fD gh).run C.P w= .ok () aB/\bw w0 F0 X F aO s2 aw aB/\aG aB F s2 aw hu (aw u) (λ_=>False):=by
 unfold gT at he;split at he
 .rename_i d s1 z q aP hl;have key:∀d:I,(∀ay,d≠.tuple ay)->cr s y=some (d,s1)->(match I.sub q (s z)with
   |some d0=>if d.wd=d0.wd/\d.wd=(C.T T).sz/\(C.T T).ok=true/\y.owner≠some z then some (cg (e0 z s1) z (I.put q d (s z)))else none
   |none=>none)=some s2->∃aB aO,(Instr.storeAt T fD gh).run C.P w= .ok () aB/\bw w0 F0 X F aO s2 aw aB/\aG aB F s2 aw hu (aw u) (λ_=>False):=by
   intro d mZ aP he;split at he
   .rename_i d0 hP;split at he
    .rename_i oH;obtain⟨ae,af,aF,a1⟩:=oH;simp only[Option.some.injEq]at he;subst he;obtain⟨i6,b7,b,o,rfl,hM⟩:=wM h sB hl hP;obtain⟨S1,fB,aV,ba,Sn,bT,c6,ea,gy,g9,kO⟩:=mW h a5 wO aP;have cO:s1 z=s z:=Im aP (gx hP (.inr i6)) a1;have adR:=hP;have Rk:=hM;rw[<-cO]at hP i6 hM⊢;obtain⟨fk,eN,l,r,cur,e,fr,k0,bU,ch,dd,cW⟩:=fB.store hP i6 bT ae c6 ea gy g9;rw[hM]at k0;simp only[Option.some.injEq,Prod.mk.injEq,true_and]at k0;obtain⟨rfl,rfl,rfl⟩:=k0;obtain⟨i,sD,mX,aT,a3,aY,b1,cI,bQ,bL⟩:=a9.info aF;have hlen:=ao.length _ _ _ bT;have hm:b7.length=(bX gh).length:=by
      have lJ:=fB.cV z;rw[aG.cd (gx hP (.inr i6))]at lJ;obtain⟨_,_,_,_,i4,_,_,_,jS,_⟩:=ctx q (s1 z) (bX (aw z)) (S1 z) none _ lJ.2 hP;rw[hM]at i4;simp only[Option.some.injEq,Prod.mk.injEq,true_and]at i4;rw[i4.1,ao.length _ _ _ jS,hlen,ae]
     obtain⟨aB,el,fJ,gU,jT,j9,lK,m0⟩:=uq (P:=C.P) (b:=b) (o:=l.length) (e:=e) (fr:=fr) (bX gh) 0 cur w l b7 r bU dd ch rfl hm (ao.qu _ _ _ bT);obtain⟨aO,ed⟩:=cW aB fJ gU jT j9 lK m0;refine⟨aB,aO,?_,ed,?_⟩
     rotate_left
     .cases x with
      |au JN gj=>
       simp only[loc]at hl;split at hl
       .simp only[Option.some.injEq,Prod.mk.injEq]at hl;obtain⟨rfl,rfl⟩:=hl;cases hu with
        |h e_ p=>
         simp only[lQ,Bool.and_eq_true,decide_eq_true_eq]at sO;obtain⟨rfl,kt⟩:=sO;cases s0:kb p gj with
         |none=>rw[s0]at kt;simp[sZ]at kt
         |some lr=>
          rw[s0]at kt;have cF:=DN s0;cases mv:I.sub p (s e_)with
          |none=>rw[mv]at kt;cases lr<;>simp[sZ]at kt
          |some d2=>
           rw[mv]at kt;cases lr with
           |nil=>simp[sZ]at kt
           |cons k lr=>
            cases d2 with
            |ag sz xs=>
             rw[aG]at uI⊢;obtain⟨zZ,J,f1,f2,f3⟩:=uI _ mv rfl;have lJ:=h.cV e_;rw[aG.cd (gx mv (.inl rfl))]at lJ;have f4:=sw w p (s e_) _ _ zZ none J (k::lr) f1;rw[<-cF,Rk]at f4;obtain⟨f5,_⟩:=Ri (aB:=aB) (b:=b) (o:=l.length) gU p _ _ _ _ _ _ _ _ _ lJ.2 rfl f1 f4.symm;have uJ:=JM p (s e_) _ d (k::lr) mv;intro aT kW gH;rw[lg,cO,cF,uJ]at kW⊢;obtain⟨sQ,lh⟩:∃sQ,I.put (k::lr) d (.ag sz xs)= .ag sz sQ:=by
              simp only[I.put];split
              .exact⟨_,rfl⟩
              .exact⟨_,rfl⟩
             rw[lh]at kW⊢;rw[zS p (s e_) _ _ mv]at kW;have kW:=Option.some.inj kW;subst kW;exact⟨zZ,J,DA aB p (s e_) _ _ _ _ _ _ mv rfl f5,f2,f3⟩
            |_=>simp[sZ]at kt
        |_=>simp[lQ]at sO
       .cases hl
      |_=>simp[lQ]at sO
     have lL:=sA ba mZ;simp[Instr.storeAt,Instr.sureAddr,storeVar,iR aT,a3,lL,hlen,af,el]
    .cases he
   .cases he
  split at he
  .cases he
  .rename_i mZ;exact key _ (λay e=>mZ ay e) aP he
 .cases he
mutual
def I.e4 (s:ak):I->Bool
 | .h x q=>q.isEmpty&&(s x).own
 | .U x _=> !(s x).plain
 | .au _ _=>false
 | .hole=>true
 | .fn _ cap=>I.n6 s cap
 |d=>d.plain
def I.n6 (s:ak):afh->Bool
 |[]=>true
 |d::ds=>d.e4 s&&I.n6 s ds
end
def kc (s:ak):afg->ak
 |[]=>s
 |p::L=>kc (cg s p.1 p.2) L
def kX (s:ak):afg->Bool
 |[]=>true
 |p::L=>p.2.e4 s&&kX s L
def iU (s:ak) (us:afc):afg:=us.map λu=>(u,s u)
def n7 (C:bH) (s:ak) (bq:di) (K:I->ak->Prop):Prop:=
 match bq with
 | .call f args=>∃(g:FuncId) (caps:afh) (ps:List cn) (r:I),a7 s f= .fn g caps/\I.eb caps=true/\ps.map (·.a)=args.map (a7 s)++caps/\(∀p∈ps,p.ok s)/\hQ ps=true/\
   bk C g (ps.map (·.d)) r (ps.map (·.o))/\r.res=true/\(jE ps=true->r.cM=true/\∀p∈ps,p.o.cM=true)/\K r (g3 (eA s ps) ps)
 | .shr bq=>∃av s1,bE C s bq=some (av,s1)/\av.tree=true/\(∀vs,av≠.tuple vs)/\K av.share s1
 | .kR f args us=>kX s (iU s us)=true/\DM C s f args λav s1=>kX s1 (iU s us)=true/\K av (kc s1 (iU s us))
 | .ll T x y u=>lQ s (a7 s x) (s u)=true/\∃s1,gT C s T (a7 s x) (a7 s y)=some s1/\K .hole (kc s1 [(u,s u)])
 |bq=>∃av s1,bE C s bq=some (av,s1)/\K av s1
theorem z0 {C:bH} {s:ak} {bq:di} {K cZ:I->ak->Prop} (h:n7 C s bq K) (aj:∀av s,K av s->cZ av s):n7 C s bq cZ:=by
 cases bq with
 |call f args=>
  obtain⟨g,caps,ps,r,ae,gA,af,aF,a1,bt,b_,cq,er⟩:=h;exact⟨g,caps,ps,r,ae,gA,af,aF,a1,bt,b_,cq,aj _ _ er⟩
 |shr bq=>
  obtain⟨av,s1,ae,af,aF,a1⟩:=h;exact⟨av,s1,ae,af,aF,aj _ _ a1⟩
 |kR f args us=>
  obtain⟨ch,g,caps,ps,r,ae,gA,af,aF,a1,bt,b_,cq,er,h1⟩:=h;exact⟨ch,g,caps,ps,r,ae,gA,af,aF,a1,bt,b_,cq,er,aj _ _ h1⟩
 |ll T x y u=>obtain⟨bU,s1,ae,af⟩:=h;exact⟨bU,s1,ae,aj _ _ af⟩
 |_=>
  obtain⟨av,s1,ae,af⟩:=h;exact⟨av,s1,ae,aj _ _ af⟩
def lu (C:bH) (s:ak) (o:bJ) (K:ak->Prop):Prop:=
 match o.guard with
 |none=>n7 C s o.bq λav s1=>K (fin s1 o.dst av)
 |some (t,b)=>match s t with
  | .bool eN=>if eN=b then n7 C s o.bq (λav s1=>K (fin s1 o.dst av))else K (fin s o.dst (.tuple []))
  | .tuple []=>K (fin s o.dst (.tuple []))
  |_=>False
def ja (C:bH) (s:ak):List bJ->(ak->Prop)->Prop
 |[],K=>K s
 |o::os,K=>lu C s o λs1=>ja C s1 os K
def jF (C:bH) (ros:List bJ) (s:ak):afc->(ak->Prop)->Prop
 |[],K=>K s
 |i::l,K=>match ros[i]? with
  |none=>jF C ros s l K
  |some o=>lu C s o λs1=>jF C ros s1 l K
theorem Rl (C:bH) (K:ak->Prop):∀(rs pre:List bJ) (s:ak),ja C s rs K->jF C (pre++rs) s ((range rs.length).map (·+pre.length)) K:=by
 intro rs;induction rs with
 |nil=>intro pre s h;exact h
 |cons r rs ih=>
  intro pre s h;rw[length_cons,range_succ_eq_map,map_cons,List.map_map];simp only[jF,Nat.zero_add];rw[getElem?_append_right (Nat.le_refl _)];simp only[Nat.sub_self,getElem?_cons_zero];have key:∀s1,ja C s1 rs K->jF C (pre++r::rs) s1 ((range rs.length).map ((λx=>x+pre.length)∘succ)) K:=by
   intro s1 ae;have:=ih (pre++[r]) s1 ae;simp only[append_assoc,singleton_append,length_append,length_singleton]at this;have e:((λx=>x+pre.length)∘succ)=λx=>x+(pre.length+1):=by funext x;simp;omega
   rw[e];exact this
  simp only[ja]at h;unfold lu at h⊢;split
  .rename_i bl;rw[bl]at h;exact z0 h λav s1=>key _
  .rename_i t b bl;rw[bl]at h;simp only at h;split
   .rename_i eN aa;rw[aa]at h;simp only at h;split
    .rename_i U;rw[if_pos U]at h;exact z0 h λav s1=>key _
    .rename_i U;rw[if_neg U]at h;exact key _ h
   .rename_i aa;rw[aa]at h;exact key _ h
   .rename_i ae af;split at h
    .exact ae _ (by assumption)
    .exact af (by assumption)
    .exact h
structure Rel (w0:World) (F0 X:Nat->Prop) (n:Fr) (ρ:Nat->Value) (s:ak) (a:Act) (w:World):Prop where
 defers:a.defers=[]
 size:a.tmps.size=n.n
 fixed:∀i∈n.fx,a.tmps.getD i undef=ρ i
 rel:∃F S,bw w0 F0 X F S s (λt=>a.tmps.getD t undef) w
section
variable {C:bH} {w0 w:World} {F0 X:Nat->Prop} {n:Fr} {ρ:Nat->Value} {s s1:ak} {a:Act} {av:I} {Q:Exit->Act->World->Prop}
theorem z1 {dst:Option Nat} (v:Value) (aa:a.tmps.size=n.n) (ai:kV n dst=true):
  (λt=>(a.put dst v).tmps.getD t undef)=kr (λt=>a.tmps.getD t undef) dst v/\(a.put dst v).tmps.size=n.n/\(a.put dst v).defers=a.defers:=by
 cases dst with
 |none=>exact⟨rfl,aa,rfl⟩
 |some d=>
  simp only[kV,Bool.and_eq_true,decide_eq_true_eq]at ai;refine⟨?_,by simp[Act.put,aa],rfl⟩;funext t;simp only[Act.put,kr,cg,Array.getD_eq_getD_getElem?];by_cases h:t=d
  .subst h;rw[if_pos rfl,Array.getElem?_setIfInBounds_self_of_lt (by omega)];rfl
  .rw[if_neg h,Array.getElem?_setIfInBounds_ne (λe=>h e.symm)]
theorem Rel.put {F S} (ai:a.defers=[]) (aa:a.tmps.size=n.n) (a8:∀i∈n.fx,a.tmps.getD i undef=ρ i) {aB:World} (aR:bw w0 F0 X F S s (λt=>a.tmps.getD t undef) aB) {v:Value} (aH:kq w0 X F S s (λt=>a.tmps.getD t undef) aB av v)
  {dst:Option Nat} (eB:kV n dst=true):Rel w0 F0 X n ρ (fin s dst av) (a.put dst v) aB:=by
 obtain⟨aT,a3,aY⟩:=z1 (n:=n) (dst:=dst) v aa eB;obtain⟨aO,bB⟩:=aR.fin aH dst;refine⟨aY.trans ai,a3,λi aC=>?_,F,aO,by rw[aT];exact bB⟩;rw[congrFun aT i];cases dst with
 |none=>exact a8 i aC
 |some d=>
  simp only[kV,Bool.and_eq_true,Bool.not_eq_true',contains_eq_mem,decide_eq_false_iff_not]at eB;have c_:i≠d:=λe=>eB.2 (by rw[<-e];exact aC);simp only[kr];rw[h2 _ _ c_];exact a8 i aC
theorem Rel.skip (h:Rel w0 F0 X n ρ s a w) {dst:Option Nat} (eB:kV n dst=true):Rel w0 F0 X n ρ (fin s dst (.tuple [])) (a.put dst undef) w:=by
 obtain⟨ai,aa,a8,F,S,aR⟩:=h;refine Rel.put (av:=.tuple []) ai aa a8 aR (.inl ⟨rfl,(aG.cd (d:=.tuple []) rfl).2 ⟨?_,?_⟩⟩) eB
 .exact⟨#[],rfl,rfl,λk d x aj=>by simp at aj⟩
 .rw[ao,aX];rfl
theorem JO {F:Nat->Prop} {aw:Nat->Value} {w:World}:∀{ds es:afh} {vs us:aff},dC w F s aw ds vs->dC w F s aw es us->dC w F s aw (ds++es) (vs++us):=by
 intro ds;induction ds with
 |nil=>intro es vs us ae af;rw[dC]at ae;subst ae;exact af
 |cons d ds ih=>
  intro es vs us ae af;rw[dC]at ae;obtain⟨v,jm,rfl,aV,ba⟩:=ae;rw[cons_append,cons_append,dC];exact⟨v,_,rfl,aV,ih ba af⟩
theorem JP {F:Nat->Prop} {aw:Nat->Value} {w:World}:∀{ds:afh} {vs:aff},dC w F s aw ds vs->ds.length=vs.length/\∀(i:Nat) (d:I) (v:Value),ds[i]? =some d->vs[i]? =some v->aG w F s aw d v (λ_=>False):=by
 intro ds;induction ds with
 |nil=>intro vs h;rw[dC]at h;subst h;exact⟨rfl,λi d v h=>by simp at h⟩
 |cons d ds ih=>
  intro vs h;rw[dC]at h;obtain⟨v,jm,rfl,aV,ba⟩:=h;obtain⟨bU,ch⟩:=ih ba;refine⟨by simp[bU],λi bh fI ai aH=>?_⟩;cases i with
  |zero=>simp at ai aH;subst ai aH;exact aV
  |succ i=>exact ch i bh fI (by simpa using ai) (by simpa using aH)
theorem oU {op:Op} {bq:di} (h:pP op=bq):bq= .bad\/cz op=some bq:=by
 unfold pP at h;split at h
 .subst h;right;assumption
 .exact .inl h.symm
theorem Rm {op:Op} {bq:di}:cz op≠some (.shr bq):=by
 intro h;unfold cz at h;split at h<;>(try split at h)<;>(try split at h)<;>(try split at h)<;>(try simp[Option.map_eq_some_iff]at h)
theorem Rn {op:Op} {f:a6} {args:List a6} {us:afc}:cz op≠some (.kR f args us):=by
 intro h;unfold cz at h;split at h<;>(try split at h)<;>(try split at h)<;>(try split at h)<;>(try simp[Option.map_eq_some_iff]at h)
theorem Ro {op:Op} {x:a6} {k:Nat}:cz op≠some (.ext x k):=by
 intro h;unfold cz at h;split at h<;>(try split at h)<;>(try split at h)<;>(try split at h)<;>(try simp[Option.map_eq_some_iff]at h)
theorem Rp {op:Op} {x:a6} {k:Nat} (h:cz op=some (.ex x k)):∃cw,op= .extract cw k/\cY cw=some x:=by
 cases op with
 |extract cw c8=>
  simp only[cz,Option.map_eq_some_iff,di.ex.injEq]at h;obtain⟨y,a5,rfl,rfl⟩:=h;exact⟨cw,rfl,a5⟩
 |_=>
  exfalso;unfold cz at h;split at h<;>(try split at h)<;>(try split at h)<;>(try split at h)<;>(try simp[Option.map_eq_some_iff]at h)<;>contradiction
theorem Rq {op:Op} {T:TypeId} {x y:a6} {u:Nat}:cz op≠some (.ll T x y u):=by
 intro h;unfold cz at h;split at h<;>(try split at h)<;>(try split at h)<;>(try split at h)<;>(try simp[Option.map_eq_some_iff]at h)
theorem Rr {op:Op} {T:TypeId} {x:a6}:cz op≠some (.ic T x):=by
 intro h;unfold cz at h;split at h<;>(try split at h)<;>(try split at h)<;>(try split at h)<;>(try simp[Option.map_eq_some_iff]at h)
theorem Rs {op:Op} {T bP:TypeId} {x y:a6}:cz op≠some (.i7 T bP x y):=by
 intro h;unfold cz at h;split at h<;>(try split at h)<;>(try split at h)<;>(try split at h)<;>(try simp[Option.map_eq_some_iff]at h)
theorem Rt {op:Op} {T bP:TypeId} {x y:a6} (h:cz op=some (.app T bP x y)):∃a b,op= .call ⟨.builtin .append,#[a,b],#[T,bP]⟩/\cY a=some x/\cY b=some y:=by
 cases op with
 |call c=>
  obtain⟨callee,args,argTypes⟩:=c;simp only[cz]at h;split at h
  .split at h<;>simp at h
  .split at h<;>simp at h
  .split at h<;>simp at h
  ·(split at h<;>try split at h)<;>simp at h
  ·(split at h<;>try split at h)<;>simp at h
  .split at h
   .rename_i a b z2 zR mq sS;split at h
    .rename_i cw jo al a5;simp only[Option.some.injEq,di.app.injEq]at h;obtain⟨rfl,rfl,rfl,rfl⟩:=h;refine⟨a,b,?_,al,a5⟩;have aT:args= #[a,b]:=by apply Array.ext';exact mq
     have a3:argTypes= #[z2,zR]:=by apply Array.ext';exact sS
     subst aT a3;rfl
    .cases h
   .cases h
  .cases h
 |makeFunc fn first cs=>
  cases fn<;>simp only[cz]at h<;>first|(cases h;done)|(split at h<;>simp at h)
 |slice T x dI aC g0=>
  cases g0<;>simp only[cz]at h<;>first|(cases h;done)|(split at h<;>simp at h)
 |makeMap T r=>cases r<;>simp only[cz]at h<;>simp at h
 |lookup T x i c=>cases c<;>simp only[cz]at h<;>first|(cases h;done)|(split at h<;>simp at h)
 |_=>simp only[cz]at h<;>first|(cases h;done)|(simp at h;done)|(split at h<;>simp at h)
theorem bw.alias {F:Nat->Prop} {S:Nat->Nat->Prop} {aw:Nat->Value} {u x:Nat} (h:bw w0 F0 X F S s aw w) (hu:s u= .hole) (al:(s x).own=true) (aH:bX (aw u)=bX (aw x)) (ae:Value.fU (aw u)=true):
  bw w0 F0 X F (gf S u (λ_=>False)) (cg s u (.h x [])) aw w:=by
 have dt:cg aw u (aw u)=aw:=by funext y;simp only[cg];split<;>simp_all
 have:=h.uj (t:=u) (d:=.h x []) (v:=aw u) rfl (by
  rw[aG];intro d ai au;simp only[I.sub,Option.some.injEq]at ai;subst ai;exact⟨bX (aw x),none,rfl,aH,((sW al).2.2.2.2.2 _).2 ae⟩)
 rwa [dt]at this
theorem kq.less {F:Nat->Prop} {S aO:Nat->Nat->Prop} {aw:Nat->Value} {s1:ak} {v:Value} (bs:∀u b,aO u b->S u b) (aR:av.res=true) (h:kq w0 X F S s aw w av v):kq w0 X F aO s1 aw w av v:=by
 rcases h with⟨ae,af⟩|⟨ae,af,Sn,aF,a1,bt,b_,cq⟩
 .refine .inl ⟨ae,?_⟩;cases av<;>first
   |(simp[I.res]at aR;done)
   |(rw[aG];trivial)
   |(rw[aG]at af⊢;exact af)
 .exact .inr ⟨ae,af,Sn,aF,a1,bt,λu b U hu=>b_ u b U (bs u b hu),cq⟩
theorem JQ (a9:C.dL) (h:Rel w0 F0 X n ρ s a w) {o:Oper} {f:a6} {args:List a6} (cb:cz o.op=some (.call f args)) (ai:kV n o.dst=true) {K:I->ak->Prop} {L:ak->Prop} {next:Act->World->Prop}
  (hw:DM C s f args K) (s3:∀F S bC aO w aB av s1 v,bw w0 F0 X F S s (λt=>a.tmps.getD t undef) w->K av s1->av.res=true->bw w0 F0 X bC aO s1 (λt=>a.tmps.getD t undef) aB->kq w0 X bC aO s1 (λt=>a.tmps.getD t undef) aB av v->(∀b,F b->bC b/\aB.heap[b]? =w.heap[b]?)->
   ∃s2 S2,L (fin s2 o.dst av)/\bw w0 F0 X bC S2 s2 (λt=>a.tmps.getD t undef) aB/\kq w0 X bC S2 s2 (λt=>a.tmps.getD t undef) aB av v)
  (a4:∀az ca aB,L az->Rel w0 F0 X n ρ az ca aB->next ca aB):o.wp C.P a w next Q:=by
 have hrel:=h;obtain⟨hz,cO,gB,F,S,aR⟩:=h;obtain⟨g,caps,ps,r,ae,gA,af,aF,a1,bt,b_,cq,er⟩:=hw;obtain⟨dst,op,ty,pos,after,guard⟩:=o;simp only at cb ai s3;cases op with
 |call c=>
  obtain⟨callee,oV,argTypes⟩:=c;simp only[cz]at cb;split at cb
  .split at cb
   .rename_i xc _ _ Ru xs a8 pN;simp only[Option.some.injEq,di.call.injEq]at cb;obtain⟨rfl,rfl⟩:=cb;obtain⟨f1,f2⟩:=eg aR (λ_=>rfl) a8;rw[ae,aG]at f2;obtain⟨arr,f3,f4⟩:=f2;have qJ:execOp a.eval {dst,op:=.call {callee:=.value xc,args:=oV,argTypes},type:=ty,pos,after,guard}=callFunc g ((oV.toList.map a.eval++arr.toList).toArray):=by
     have:a.eval xc= .func (.func g) #[] arr:=f3;simp only[execOp,resolve,this,Deferred.ofValue,pure_bind,invoke];congr 1;apply Array.ext';simp
    unfold Oper.wp;rw[qJ];have xd:dC w F s (λt=>a.tmps.getD t undef) (xs.map (a7 s)++caps) (oV.toList.map a.eval++arr.toList):=JO (zN aR (λ_=>rfl) _ _ (sP pN)) f4;rw[<-af]at xd;obtain⟨gi,l2⟩:=JP xd;have gH:∀d∈xs.map (a7 s)++caps,d.plain=true:=by
     intro d ai;rcases mem_append.1 ai with ai|ai
     .obtain⟨x,al,rfl⟩:=mem_map.1 ai;exact Ie s x λav e=>by
       subst e;have hm:=sP pN;have:some (a6.c av)∈xs.map some:=mem_map.2 ⟨_,al,rfl⟩;rw[<-hm]at this;obtain⟨o,_,bO⟩:=mem_map.1 this;cases o with
       |const v=>simp only[cY,Option.map_eq_some_iff]at bO;obtain⟨c,an,e⟩:=bO;cases e;exact CO an
       |tmp n=>simp[cY]at bO
       |func g=>simp[cY]at bO
       |global g=>simp[cY]at bO
     .obtain⟨k,aj⟩:=getElem?_of_mem ai;exact wD gA aj
    have DO:=Rg (C:=C) aR (ps:=ps) (vs:=oV.toList.map a.eval++arr.toList) (f:=g) (r:=r) (by simpa using gi)
     (λi p v au aH=>⟨gH p.a (by rw[<-af];exact mem_map.2 ⟨p,mem_of_getElem? au,rfl⟩),l2 i p.a v (by simp[au]) aH⟩) aF a1 bt b_ cq
    rcases DO with⟨dR,bx⟩|⟨v,aB,dR,bC,aO,bx,e1,bR⟩
    .rw[dR,Oper.upon_enter];refine Calls.mono bx ?_;rintro e aB ⟨v,rfl,bC,aO,bU,ch,dd⟩;obtain⟨s2,S2,el,fJ,gU⟩:=s3 _ _ _ _ _ _ _ _ _ aR er b_ bU ch dd;exact a4 _ _ _ el (Rel.put hz cO gB fJ gU ai)
    .rw[dR,Oper.upon_value];obtain⟨s2,S2,el,fJ,gU⟩:=s3 _ _ _ _ _ _ _ _ _ aR er b_ bx e1 bR;exact a4 _ _ _ el (Rel.put hz cO gB fJ gU ai)
   .cases cb
  .split at cb
   .simp only[Option.map_eq_some_iff]at cb;obtain⟨_,_,cb⟩:=cb;cases cb
   .cases cb
  .split at cb
   .simp only[Option.map_eq_some_iff]at cb;obtain⟨_,_,cb⟩:=cb;cases cb
   .cases cb
  iterate 3
   .split at cb
    .split at cb<;>cases cb
    .cases cb
  .cases cb
 |makeFunc fn first cs=>
  cases fn<;>simp only[cz]at cb<;>first|(cases cb;done)|(split at cb<;>simp at cb)
 |slice T x dI aC g0=>
  cases g0<;>simp only[cz]at cb<;>first|(cases cb;done)|(split at cb<;>simp at cb)
 |makeMap T r=>cases r<;>simp only[cz]at cb<;>simp at cb
 |lookup T x i c=>cases c<;>simp only[cz]at cb<;>first|(cases cb;done)|(split at cb<;>simp at cb)
 |_=>simp only[cz]at cb<;>first|(cases cb;done)|(simp at cb;done)|(split at cb<;>simp at cb)
theorem Rv (a9:C.dL) (h:Rel w0 F0 X n ρ s a w) {o:Oper} {bq:di} (cb:cz o.op=some bq) (ai:kV n o.dst=true) {K:ak->Prop} {next:Act->World->Prop}
  (hw:n7 C s bq λav s1=>K (fin s1 o.dst av)) (a4:∀az ca aB,K az->Rel w0 F0 X n ρ az ca aB->next ca aB):o.wp C.P a w next Q:=by
 have hrel:=h;obtain⟨hz,cO,gB,F,S,aR⟩:=h;have plain:∀av s1,bE C s bq=some (av,s1)->K (fin s1 o.dst av)->o.wp C.P a w next Q:=by
  intro av s1 he aj;obtain⟨r,aB,v,bC,aO,ae,af,aF,a1⟩:=Je (a:=a) a9 aR (λ_=>rfl) cb he;unfold Oper.wp;rw[ae];rcases af with rfl|⟨rfl,rfl⟩
  .exact a4 _ _ _ aj (Rel.put hz cO gB aF a1 ai)
  .exact a4 _ _ _ aj (Rel.put hz cO gB aF a1 ai)
 cases bq with
 |shr bq=>exact(Rm cb).elim
 |i7 T bP x y=>exact(Rs cb).elim
 |call f args=>exact JQ a9 ⟨hz,cO,gB,F,S,aR⟩ cb ai (K:=λav s1=>K (fin s1 o.dst av)) hw (λ_ _ _ aO _ _ _ s1 _ _ af _ aF a1 _=>⟨s1,aO,af,aF,a1⟩) a4
 |kR f args L=>exact(Rn cb).elim
 |ll T x y u=>exact(Rq cb).elim
 |ic T x=>exact(Rr cb).elim
 |ext x k=>exact(Ro cb).elim
 |_=>
  obtain⟨av,s1,he,aj⟩:=hw;exact plain av s1 he aj
theorem kq.share {F:Nat->Prop} {S:Nat->Nat->Prop} {aw:Nat->Value} {v:Value} (h:bw w0 F0 X F S s aw w) (aH:kq w0 X F S s aw w av v) (aP:av.tree=true) (a4:∀vs,av≠.tuple vs):
  ∃bC,bw w0 F0 X bC S s aw w/\kq w0 X bC S s aw w av.share v:=by
 obtain⟨Sn,gj,fQ,gJ,gK,ku,mw⟩:∃Sn:Nat->Prop,dc av v/\ao w F av (bX v) Sn/\(∀b,Sn b->b<w.heap.size)/\(∀b,Sn b->¬F b)/\(∀u b,Sn b->¬S u b)/\(∀b,Sn b->X b\/w0.heap.size<=b):=by
  rcases aH with⟨ae,af⟩|⟨_,af,Sn,aF,a1,bt,b_,cq⟩
  .rw[aG.cd aP]at af;exact⟨λ_=>False,af.1,af.2,λ_ h=>h.elim,λ_ h=>h.elim,λ_ _ h=>h.elim,λ_ h=>h.elim⟩
  .exact⟨Sn,af,aF,a1,bt,b_,cq⟩
 refine⟨λb=>F b\/Sn b,?_,.inl ⟨Dx av,?_⟩⟩
 .exact {
   g2:=λb U=>.inl (h.g2 b U)
   hk:=λb U=>by
    rcases U with U|U
    .exact h.hk b U
    .exact .inr (mw b U)
   fu:=λb U=>U.elim (h.fu b) (gJ b)
   ek:=h.ek
   fC:=λt b U a8=>a8.elim (h.fC t b U) (λaa=>ku t b aa U)
   e9:=h.e9
   c7:=h.c7
   cV:=λt=>aG.frame (λ_ _=>rfl) (λb U=>.inl U) (λ_ _ _=>rfl) h.cV _ _ _ (λ_ _=>rfl) (h.cV t)
   old:=h.old
   size:=h.size
   os:=h.os
   tape:=h.tape
   output:=h.output
   hn:=h.hn}
 .by_cases bO:∃o,av= .dm o
  .obtain⟨o,rfl⟩:=bO;rw[I.share,aG];trivial
  by_cases z3:∃f c,av= .eY f c
  .obtain⟨f,c,rfl⟩:=z3;rw[I.share,aG];trivial
  by_cases JR:∃c,av= .gb c
  .obtain⟨c,rfl⟩:=JR;rw[I.share,aG];trivial
  have m6:av.share.tree=true:=by cases av<;>first|exact aP|rfl|exact(bO ⟨_,rfl⟩).elim|exact(z3 ⟨_,_,rfl⟩).elim|exact(JR ⟨_,rfl⟩).elim
  rw[aG.cd m6];exact⟨Dz a4 gj,ao.shared (λb U=>.inl U) av _ Sn (λb U=>.inr U) fQ⟩
theorem JS {op:Op} {T:TypeId} {x y:a6} (h:cz op=some (.gT T x y)):∃a b,op= .store T a b/\cY a=some x/\cY b=some y:=by
 cases op with
 |store z2 a b=>
  simp only[cz]at h;split at h
  .rename_i cw jo al a5;simp only[Option.some.injEq,di.gT.injEq]at h;obtain⟨rfl,rfl,rfl⟩:=h;exact⟨a,b,rfl,al,a5⟩
  .cases h
 |_=>
  exfalso;unfold cz at h;split at h<;>(try split at h)<;>(try split at h)<;>(try split at h)<;>(try simp[Option.map_eq_some_iff]at h)<;>contradiction
theorem Rw {op:Op} {T:TypeId} {x:a6} (h:cz op=some (.g_ T x)):∃a,op= .box T a/\cY a=some x:=by
 cases op with
 |box z2 a=>
  simp only[cz,Option.map_eq_some_iff,di.g_.injEq]at h;obtain⟨y,a5,rfl,rfl⟩:=h;exact⟨a,rfl,a5⟩
 |_=>
  exfalso;unfold cz at h;split at h<;>(try split at h)<;>(try split at h)<;>(try split at h)<;>(try simp[Option.map_eq_some_iff]at h)<;>contradiction
theorem Rx {aB:World} {F bC:Nat->Prop} {s s1:ak} {aw:Nat->Value} (bb:∀b,F b->bC b/\aB.heap[b]? =w.heap[b]?):∀(n:Nat),
  (∀(d:I) (v:Value) (S:Nat->Prop),SizeOf.sizeOf d<=n->d.e4 s=true->d.e4 s1=true->aG w F s aw d v S->aG aB bC s1 aw d v (λ_=>False))/\
  (∀(ds:afh) (vs:aff),SizeOf.sizeOf ds<=n->I.n6 s ds=true->I.n6 s1 ds=true->dC w F s aw ds vs->dC aB bC s1 aw ds vs):=by
 intro n;induction n with
 |zero=>
  refine⟨λd v S bF=>?_,λds vs bF=>?_⟩
  .cases d<;>simp at bF<;>omega
  .cases ds<;>simp at bF<;>omega
 |succ n ih=>
  refine⟨λd v S bF bU ch h=>?_,λds vs bF bU ch h=>?_⟩
  .cases d with
   |hole=>rw[aG];trivial
   |h x q=>
    simp only[I.e4,Bool.and_eq_true,isEmpty_iff]at bU ch;obtain⟨rfl,bU⟩:=bU;rw[aG]at h⊢;obtain⟨b7,a,dD,ej,fV⟩:=h (s x) (by simp only[I.sub]) (sW bU).1;simp only[cj,Option.some.injEq,Prod.mk.injEq,true_and]at dD;intro d ai _;simp only[I.sub,Option.some.injEq]at ai;subst ai;exact⟨bX (aw x),none,by simp only[cj],by rw[ej,<-dD.1],((sW ch.2).2.2.2.2.2 _).2 (((sW bU).2.2.2.2.2 _).1 fV)⟩
   |au x q=>simp[I.e4]at bU
   |U x k=>
    simp only[I.e4,Bool.not_eq_true']at bU;rw[aG]at h⊢;obtain⟨b,cur,e,fr,ae,af,aF,a1⟩:=h bU;exact λ_=>⟨b,cur,e,fr,ae,(bb b af).1,(bb b af).2.trans aF,a1⟩
   |fn f cap=>
    simp only[I.e4]at bU ch;rw[aG]at h⊢;obtain⟨arr,rfl,an⟩:=h;exact⟨arr,rfl,ih.2 _ _ (by simp at bF;omega) bU ch an⟩
   |_=>
    simp only[I.e4]at bU;have bB:=(aG.cd rfl).1 h;exact(aG.cd rfl).2 ⟨bB.1,ao.mono (λb U=>(bb b U).1) _ _ _ _ (λ_ h=>h) (ao.frame (λb U=>(bb b U).2) _ _ _ (λ_ h=>h.elim) (ao.plain _ _ _ _ bU bB.2))⟩
  .cases ds with
   |nil=>rw[dC]at h⊢;exact h
   |cons d ds=>
    simp only[I.n6,Bool.and_eq_true]at bU ch;rw[dC]at h⊢;obtain⟨v,jm,rfl,ae,af⟩:=h;simp at bF;exact⟨v,jm,rfl,ih.1 _ _ _ (by omega) bU.1 ch.1 ae,ih.2 _ _ (by omega) bU.2 ch.2 af⟩
theorem Ry {s:ak} {d:I} (h:d.e4 s=true):d.plain=true:=by
 cases d<;>first|rfl|(simpa [I.e4]using h)
theorem bw.kc {F:Nat->Prop} {aw:Nat->Value}:∀(L:afg) (s:ak) (S:Nat->Nat->Prop),bw w0 F0 X F S s aw w->(∀p∈L,p.2.plain=true/\aG w F s aw p.2 (aw p.1) (λ_=>False))->
  ∃aO,bw w0 F0 X F aO (c3.kc s L) aw w/\∀u b,aO u b->S u b:=by
 intro L;induction L with
 |nil=>intro s S h _;exact⟨S,h,λ_ _ h=>h⟩
 |cons p L ih=>
  intro s S h s3;obtain⟨ae,af⟩:=s3 p (by simp);have dt:cg aw p.1 (aw p.1)=aw:=by funext u;simp only[cg];split<;>simp_all
  have aF:=h.uj (t:=p.1) ae af;rw[dt]at aF;have gG:∀x,x≠p.1->(cg s p.1 p.2 x).tree=true->cg s p.1 p.2 x=s x/\aw x=aw x:=λx al _=>⟨h2 _ _ al,rfl⟩
  obtain⟨aO,aV,ba⟩:=ih _ _ aF (λq cF=>⟨(s3 q (by simp[cF])).1,(aG.void (t:=p.1) gG (by rw[lg];exact ae) _).1 _ _ _ (Nat.le_refl _) (s3 q (by simp[cF])).2⟩);refine⟨aO,aV,λu b U=>?_⟩;have:=ba u b U;simp only[gf]at this;split at this
  .exact this.elim
  .exact this
theorem DP {s:ak}:∀{L:afg},kX s L=true->∀p∈L,p.2.e4 s=true
 |q::L,ae,p,au=>by
  simp only[kX,Bool.and_eq_true]at ae;rcases mem_cons.1 au with rfl|au
  .exact ae.1
  .exact DP ae.2 p au
theorem Rz {s:ak} {us:afc} {p:Nat×I} (h:p∈iU s us):p.1∈us/\s p.1=p.2:=by
 obtain⟨u,hu,rfl⟩:=mem_map.1 h;exact⟨hu,rfl⟩
theorem RA (a9:C.dL) (h:Rel w0 F0 X n ρ s a w) {o:Oper} {bq:di} (cb:pP o.op=bq.base) (ai:kV n o.dst=true) {K:ak->Prop} {next:Act->World->Prop}
  (hw:n7 C s bq λav s1=>K (fin s1 o.dst av)) (a4:∀az ca aB,K az->Rel w0 F0 X n ρ az ca aB->next ca aB):o.wp C.P a w next Q:=by
 cases bq with
 |shr bq=>
  obtain⟨av,s1,he,aP,mr,aj⟩:=hw;rcases oU cb with cb|cb
  .change bq= .bad at cb;subst cb;cases he
  obtain⟨hz,cO,gB,F,S,aR⟩:=h;obtain⟨r,aB,v,bC,aO,ae,af,aF,a1⟩:=Je (a:=a) a9 aR (λ_=>rfl) cb he;obtain⟨kU,bT,c6⟩:=kq.share aF a1 aP mr;unfold Oper.wp;rw[ae];rcases af with rfl|⟨rfl,rfl⟩
  .exact a4 _ _ _ aj (Rel.put hz cO gB bT c6 ai)
  .exact a4 _ _ _ aj (Rel.put hz cO gB bT c6 ai)
 |bad=>obtain⟨av,s1,he,_⟩:=hw;cases he
 |kR f args L=>
  obtain⟨a3,hw⟩:=hw;rcases oU cb with U|U
  .cases U
  .refine JQ a9 h U ai hw ?_ a4;rintro F S bC aO w aB av s1 v gj ⟨fQ,gK⟩ ku mw n8 RB;obtain⟨S2,aV,ba⟩:=mw.kc (iU s L) s1 aO (λp au=>by
    have dR:=(Rz au).2;have bx:=DP a3 p au;have e1:=DP fQ p au;refine⟨Ry bx,(Rx RB _).1 _ _ (S p.1) (Nat.le_refl _) bx e1 ?_⟩;have:=gj.cV p.1;rw[dR]at this;exact this)
   exact⟨_,S2,gK,aV,n8.less ba ku⟩
 |ll T x y u=>
  obtain⟨aT,s1,he,aj⟩:=hw;rcases oU cb with U|U
  .cases U
  .obtain⟨cw,jo,kd,al,a5⟩:=JS U;obtain⟨hz,cO,gB,F,S,aR⟩:=h;obtain⟨dst,op,ty,pos,after,guard⟩:=o;simp only at kd ai aj;subst kd;have uI:aG w F s (λt=>a.tmps.getD t undef) (s u) (a.tmps.getD u undef) (λ_=>False):=by
    have:=aR.cV u;revert aT this;cases s u with
    |h y p=>intro _ this;rw[aG]at this⊢;exact this
    |_=>intro aT;cases a7 s x<;>simp[lQ]at aT
   have uG:(s u).plain=true:=by
    revert aT;cases s u with
    |h y p=>intro _;rfl
    |_=>intro aT;cases a7 s x<;>simp[lQ]at aT
   obtain⟨aB,aO,ae,af,aF⟩:=Rj a9 aR (eg aR (λ_=>rfl) al).2 (eg aR (λ_=>rfl) a5).1 (eg aR (λ_=>rfl) a5).2 he (u:=u) aT uI;obtain⟨S2,aV,_⟩:=af.kc [(u,s u)] s1 aO (λp au=>by
    rw[mem_singleton]at au;subst au;exact⟨uG,aF⟩)
   have xe:Next C w0 F0 X (λt=>a.tmps.getD t undef) w (execOp a.eval ⟨dst,.store T cw jo,ty,pos,after,guard⟩) .hole (kc s1 [(u,s u)]):=
    ⟨.skip,aB,undef,F,S2,by simp[execOp,ae],.inr ⟨rfl,rfl⟩,aV,.inl ⟨rfl,by rw[aG];trivial⟩⟩
   obtain⟨r,adS,v,bC,s4,gj,fQ,gJ,gK⟩:=xe;unfold Oper.wp;rw[gj];rcases fQ with rfl|⟨rfl,rfl⟩
   .exact a4 _ _ _ aj (Rel.put hz cO gB gJ gK ai)
   .exact a4 _ _ _ aj (Rel.put hz cO gB gJ gK ai)
 |ic T x=>
  obtain⟨av,s1,he,aj⟩:=hw;rcases oU cb with U|U
  .cases U
  .obtain⟨cw,kd,al⟩:=Rw U;obtain⟨hz,cO,gB,F,S,aR⟩:=h;obtain⟨dst,op,ty,pos,after,guard⟩:=o;simp only at kd ai aj;subst kd;obtain⟨r,aB,v,bC,aO,ae,af,aF,a1⟩:Next C w0 F0 X (λt=>a.tmps.getD t undef) w (execOp a.eval ⟨dst,.box T cw,ty,pos,after,guard⟩) av s1:=(Py (T:=T) aR (eg aR (λ_=>rfl) al).2 he).next;unfold Oper.wp;rw[ae];rcases af with rfl|⟨rfl,rfl⟩
   .exact a4 _ _ _ aj (Rel.put hz cO gB aF a1 ai)
   .exact a4 _ _ _ aj (Rel.put hz cO gB aF a1 ai)
 |ext x k=>
  obtain⟨av,s1,he,aj⟩:=hw;rcases oU cb with U|U
  .cases U
  .obtain⟨cw,kd,al⟩:=Rp U;obtain⟨hz,cO,gB,F,S,aR⟩:=h;obtain⟨dst,op,ty,pos,after,guard⟩:=o;simp only at kd ai aj;subst kd;simp only[bE]at he;obtain⟨y,q,p,f1,f2,f3⟩:=Jc he;obtain⟨r,aB,v,bC,aO,ae,af,aF,a1⟩:Next C w0 F0 X (λt=>a.tmps.getD t undef) w (execOp a.eval ⟨dst,.extract cw k,ty,pos,after,guard⟩) av s1:=by
    obtain⟨v,aB,bC,aO,CZ,eH,mV⟩:=IC (C:=C) aR (eg aR (λ_=>rfl) al).2 f2;have Dm:aG aB bC s (λt=>a.tmps.getD t undef) (.h y p) v (λ_=>False):=by
     rcases mV with⟨_,ba⟩|⟨aV,_⟩
     .exact ba
     .cases aV
    obtain⟨S1,k0,bU,ch,Sn,dd,cW,ed,dn,h4,_⟩:=mW eH rfl Dm f3;exact⟨.value v,aB,v,bC,S1,by simp[execOp,CZ],.inl rfl,k0,.inr ⟨bU,ch,Sn,dd,cW,ed,dn,h4⟩⟩
   unfold Oper.wp;rw[ae];rcases af with rfl|⟨rfl,rfl⟩
   .exact a4 _ _ _ aj (Rel.put hz cO gB aF a1 ai)
   .exact a4 _ _ _ aj (Rel.put hz cO gB aF a1 ai)
 |i7 T bP x y=>
  obtain⟨av,s1,he,aj⟩:=hw;rcases oU cb with U|U
  .cases U
  .obtain⟨cw,jo,kd,al,a5⟩:=Rt U;obtain⟨hz,cO,gB,F,S,aR⟩:=h;simp only[bE,Option.map_eq_some_iff,Prod.mk.injEq]at he;obtain⟨d,gR,rfl,rfl⟩:=he;obtain⟨v,aB,bC,aO,ae,af,aF⟩:=Qn (ty:=o.type) a9 aR (eg aR (λ_=>rfl) al).2 (eg aR (λ_=>rfl) a5).2 gR;have qJ:execOp a.eval o=(do pure (.value (<-Builtin.append_ #[T,bP] o.type #[a.eval cw,a.eval jo]))):=by
    obtain⟨dst,op,ty,pos,after,guard⟩:=o;simp only at kd;subst kd;simp[execOp,resolve,invoke,builtin]
   unfold Oper.wp;rw[qJ];simp only[Sem.run_bind,ae,Result.andThen];exact a4 _ _ _ aj (Rel.put hz cO gB af aF ai)
 |_=>
  rcases oU cb with U|U
  .cases U
  .exact Rv a9 h U ai hw a4
end
end Go.c3
