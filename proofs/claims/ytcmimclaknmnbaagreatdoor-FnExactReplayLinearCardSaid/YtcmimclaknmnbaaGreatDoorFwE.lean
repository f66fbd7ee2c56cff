/- Part of a proof that a law returns true for every input. No condition. -/
import Derived.Test.YtcmimclaknmnbaaGreatDoorFwD
import Derived.Laws.Tables
namespace Go.cC
open List Go.IntKind Nat Or
section
variable {C:bx} {w0 w:World} {F0 X F:Nat->Prop} {S:Nat->Nat->Prop} {s s1:an} {au:Nat->Value} {av:I}
theorem Di (z:anX):∀n,(range (n*z.length)).map (λi=>z[i%z.length]!)=(replicate n z).flatten
 |0=>by simp
 |n+1=>by
  rw[Nat.add_mul,Nat.one_mul,range_add,map_append,Di z n,replicate_succ',flatten_append];congr 1;simp only[List.map_map,flatten_cons,flatten_nil,append_nil];apply ext_getElem
  .simp
  .intro i h1 ab;have ak:i<z.length:=ab;simp[mod_eq_of_lt ak,ak]
theorem aW.replicate {d:I} {cs:anX} (h:∀aJ,ar w F d cs aJ):∀n aJ,aW w F (replicate n d) (replicate n cs).flatten aJ
 |0,aJ=>by simp only[replicate_zero,flatten_nil];rw[aW]
 |n+1,aJ=>by
  rw[replicate_succ,replicate_succ,flatten_cons,aW];exact⟨cs,_,λ_=>False,λ_=>False,rfl,h _,aW.replicate h n _,λ_ h=>h.elim,λ_ h=>h.elim,λ_ h=>h.elim⟩
def eL (C:bx) (T:TypeId) (l c:I):Option I:=
 match(C.T T).k,l,c with
 | .slice e,.int .i64 n,.int .i64 m=>if n=m/\0<=n/\(C.T e).ok=true/\(C.T e).zero.wd=(C.T e).sz/\(flat (C.T e).zero).isSome=true/\(C.T e).sz≠0/\(C.T e).bytes*n<=140737488355328/\n<=9223372036854775807 then
   some (.ah (C.T e).sz (replicate n.toNat (C.T e).zero))else none
 |_,_,_=>none
theorem W8 (bb:C.Ok) (h:bq w0 F0 X F S s au w) {T:TypeId} {l c:I} {NC ND:Value} (hl:aF w F s au l NC (λ_=>False)) (ai:aF w F s au c ND (λ_=>False)) (he:eL C T l c=some av):
  Good C w0 F0 X au w (Instr.makeSlice T NC ND) av s:=by
 unfold eL at he;split at he
 .rename_i e n m hk;have:=oq hl;subst this;have:=oq ai;subst this;obtain⟨G5,d,G6,aI,aM,aP,bK,cg,bP,bL⟩:=bb.info (fQ hk (by simp));rw[hk]at bL;have:=mj bL;subst this;split at he
  .rename_i vh;obtain⟨rfl,aN,qn,ry,sB,dr,NF,tH⟩:=vh;simp only[Option.some.injEq]at he;subst he;obtain⟨i,G7,z,f1,f2,f3,f4,f5,f6,f7⟩:=bb.info qn;obtain⟨fa,ov⟩:=Option.isSome_iff_exists.1 sB;have sC:=f5 fa ov;have eC:∀aJ,ar w F (C.T e).zero fa aJ:=λaJ=>(ar.flat _).1 _ fa aJ (Nat.le_refl _) ov;have qp:fa.length=(C.T e).sz:=by rw[ar.length _ _ _ (eC (λ_=>False)),ry]
   obtain⟨n,rfl⟩:=Int.eq_ofNat_of_zero_le aN;simp only[Int.toNat_natCast];have xz:i64.wrap (n:Int)=n:=by
    rw[wrap_i64];omega
   have xw:∀k (w:World),(askRoom k).run C.P w= .ok () w:=by
    intro k w;unfold askRoom;split<;>rfl
   have qk:((Array.range (n*(C.T e).sz)).map (fa.toArray[·%fa.toArray.size]!)).toList=(replicate n fa).flatten:=by
    have:=Di fa n;rw[qp]at this;simpa [qp]using this
   have cp:¬(281474976710656<(i.bytes:Int)*n):=by
    rw[f3];omega
   have Dj:¬((n:Int)<0):=by omega
   have run:(Instr.makeSlice T (.int .i64 n) (.int .i64 n)).run C.P w= .ok (.slice (some ⟨w.heap.size,0,none⟩) n n)
     (w.alloc (.cells (if n*(C.T e).sz=0 then(Array.range (n*(C.T e).sz)).map (λ_=>default)else(Array.range (n*(C.T e).sz)).map (fa.toArray[·%fa.toArray.size]!)) e)):=by
    by_cases ba:n*(C.T e).sz=0
    .simp[Instr.makeSlice,run_underlying bP,asInt,asIntOf,ve f1,xz,cp,Dj,xw,kG f1,f2,ba,newRow]
    .simp only[ba,if_false];simp[Instr.makeSlice,run_underlying bP,asInt,asIntOf,ve f1,xz,cp,Dj,xw,kG f1,f2,ba,newRow,vf f1 f4,sC]
   have k5:(if n*(C.T e).sz=0 then(Array.range (n*(C.T e).sz)).map (λ_=>(default:Value))else(Array.range (n*(C.T e).sz)).map (fa.toArray[·%fa.toArray.size]!)).toList=(replicate n fa).flatten:=by
    split
    .rename_i ba;have:n=0:=by
      rcases mul_eq_zero.1 ba with h|h
      .exact h
      .exact(dr h).elim
     subst this;simp
    .exact qk
   generalize vw:(if n*(C.T e).sz=0 then(Array.range (n*(C.T e).sz)).map (λ_=>(default:Value))else(Array.range (n*(C.T e).sz)).map (fa.toArray[·%fa.toArray.size]!))=cur at run k5;have jv:(replicate n fa).flatten.length=n*(C.T e).sz:=by simp[qp]
   have fZ:cur.size=n*(C.T e).sz:=by
    have:cur.size=cur.toList.length:=by simp
    rw[this,k5,jv]
   have lK:=h.z1 (aq:=w.alloc (.cells cur e)) (sz:=(C.T e).sz) (cap:=n) (xs:=replicate n (C.T e).zero) (cur:=cur) (e:=e) (fr:=(0,0)) (Sn:=λ_=>False) rfl rfl rfl ⟨rfl,λ_=>Nat.le_refl _⟩
    (λo _ ⟨_,ab⟩=>absurd ab (not_lt_zero _)) (by simp) (by unfold maxLen;omega) fZ (by intro d ae;rw[eq_of_mem_replicate ae];exact ry)
    (by rw[k5,length_replicate,take_of_length_le (by rw[jv];exact Nat.le_refl _)];exact aW.replicate eC n _) (λ_ h=>h.elim) (λ_ h=>h.elim) (λ_ _ h=>h.elim) (λ_ h=>h.elim)
   rw[length_replicate]at lK;exact⟨_,_,F,S,run,lK.1,lK.2⟩
  .cases he
 .cases he
def iV (C:bx) (T b5:TypeId) (x y:I):Option I:=
 match(C.T T).k,(C.T b5).k,x,y with
 | .slice e,.int _,.bd,.int .i64 n=>if 0<=n/\(C.T e).ok=true/\(C.T e).zero.wd=(C.T e).sz/\(flat (C.T e).zero).isSome=true/\(C.T e).sz≠0/\(C.T e).bytes*n<=140737488355328/\n<=9223372036854775807 then
   some (.ah (C.T e).sz (replicate n.toNat (C.T e).zero))else none
 |_,_,_,_=>none
theorem W9 {P:Program} {T b5 ty e:TypeId} {k:IntKind} {i:TypeInfo} {z:Value} (aL:P.underlying T=some (.slice e)) (hu:P.underlying b5=some (.int k)) (ak:P.info? e=some i) (bC:i.zero=some z)
  (n:Nat) (ba:n≠0) (U:i.size≠0) (aN:n<=9223372036854775807) (R:n*i.bytes<=140737488355328):
  (Builtin.append_ #[T,b5] ty #[.slice none 0 0,.int .i64 n]).run P w= .ok (.slice (some ⟨w.heap.size,0,none⟩) n (grownCap w n 0 e))
   (w.drew.alloc (.cells (Builtin.zeroCells z.cells n++Builtin.zeroCells z.cells (grownCap w n 0 e-n)) e)):=by
 have xz:i64.wrap (n:Int)=n:=by rw[wrap_i64];omega
 have Dj:¬((n:Int)<0):=by omega
 have hmul:(n:Int)*(i.bytes:Int)=((n*i.bytes:Nat):Int):=by simp
 have cp:¬(281474976710656<(n:Int)*(i.bytes:Int)):=by rw[hmul];omega
 have h0:¬(281474976710656<Builtin.nextslicecap n 0*i.bytes):=by
  have:Builtin.nextslicecap n 0=n:=by unfold Builtin.nextslicecap;rw[if_pos (by omega)]
  rw[this];omega
 have xw:∀k (w:World),(askRoom k).run P w= .ok () w:=by
  intro k w;unfold askRoom;split<;>rfl
 have G2:¬(9223372036854775807<(n:Int)):=by omega
 have o0:n*i.size≠0:=Nat.mul_ne_zero ba U;simp[Builtin.append_,run_underlying aL,run_underlying hu,kG ak,ve ak,asInt,asIntOf,xz,Dj,cp,h0,ba,Question.forced,xw,G2,vf ak bC,newRow,grownCap,Builtin.firstCells];intro hN;exact(o0 hN).elim
theorem W_ (bb:C.Ok) (h:bq w0 F0 X F S s au w) {T b5 ty:TypeId} {x y:I} {el hs:Value} (ag:aF w F s au x el (λ_=>False)) (hy:aF w F s au y hs (λ_=>False)) (he:iV C T b5 x y=some av):
  Good C w0 F0 X au w (Builtin.append_ #[T,b5] ty #[el,hs]) av s:=by
 unfold iV at he;split at he
 .rename_i e aml n hk NG;have:=sv ag;subst this;have:=oq hy;subst this;obtain⟨G5,d,G6,aI,aM,aP,bK,cg,bP,bL⟩:=bb.info (fQ hk (by simp));rw[hk]at bL;have:=mj bL;subst this;obtain⟨amm,amn,amo,xA,NH,Xa,amp,amq,NI,NJ⟩:=bb.info (fQ NG (by simp));rw[NG]at NJ;have:=zU NJ;subst this;split at he
  .rename_i vh;obtain⟨aN,qn,ry,sB,dr,NF,tH⟩:=vh;simp only[Option.some.injEq]at he;subst he;obtain⟨i,G7,z,f1,f2,f3,f4,f5,f6,f7⟩:=bb.info qn;obtain⟨fa,ov⟩:=Option.isSome_iff_exists.1 sB;have sC:=f5 fa ov;have eC:∀aJ,ar w F (C.T e).zero fa aJ:=λaJ=>(ar.flat _).1 _ fa aJ (Nat.le_refl _) ov;have qp:fa.length=(C.T e).sz:=by rw[ar.length _ _ _ (eC (λ_=>False)),ry]
   obtain⟨n,rfl⟩:=Int.eq_ofNat_of_zero_le aN;simp only[Int.toNat_natCast];by_cases ba:n=0
   .subst ba;have run:(Builtin.append_ #[T,b5] ty #[.slice none 0 0,.int .i64 ((0:Nat):Int)]).run C.P w= .ok (.slice none 0 0) w:=by
     have xz:i64.wrap 0=0:=by decide
     simp[Builtin.append_,run_underlying bP,run_underlying NI,kG f1,ve f1,asInt,asIntOf,xz]
    exact⟨_,w,F,S,run,h,.inr ⟨rfl,rfl,λ_=>False,by simp only[bZ,gX];rw[ar];exact .inl ⟨rfl,_,rfl⟩,λ_ h=>h.elim,λ_ h=>h.elim,λ_ _ h=>h.elim,λ_ h=>h.elim⟩⟩
   .have run:=W9 (w:=w) (ty:=ty) bP NI f1 f4 n ba (by rw[f2];exact dr) (by omega) (by
     rw[f3];have:((C.T e).bytes:Int)*(n:Int)=(((C.T e).bytes*n:Nat):Int):=by simp
     rw[this]at NF;rw[Nat.mul_comm];omega)
    rw[sC]at run;have vn:=grownCap_ge w n 0 e;have z_:=grownCap_le_maxLen w n 0 e (by unfold maxLen;omega);have NK:∀m,(Builtin.zeroCells fa.toArray m).toList=(replicate m fa).flatten:=by
     intro m;have:=Di fa m;unfold Builtin.zeroCells;simpa [qp]using this
    have jv:∀m,(replicate m fa).flatten.length=m*(C.T e).sz:=by intro m;simp[qp]
    generalize vw:Builtin.zeroCells fa.toArray n++Builtin.zeroCells fa.toArray (grownCap w n 0 e-n)=cur at run;have k5:cur.toList=(replicate n fa).flatten++(replicate (grownCap w n 0 e-n) fa).flatten:=by rw[<-vw,Array.toList_append,NK,NK]
    have fZ:cur.size=grownCap w n 0 e*(C.T e).sz:=by
     have:cur.size=cur.toList.length:=by simp
     rw[this,k5,length_append,jv,jv,<-Nat.add_mul];congr 1;omega
    have lK:=h.z1 (aq:=w.drew.alloc (.cells cur e)) (sz:=(C.T e).sz) (cap:=grownCap w n 0 e) (xs:=replicate n (C.T e).zero) (cur:=cur) (e:=e) (fr:=(0,0)) (Sn:=λ_=>False) rfl rfl rfl ⟨rfl,λ_=>le_succ _⟩
     (λo _ ⟨_,ab⟩=>absurd ab (not_lt_zero _)) (by simpa using vn) z_ fZ (by intro d ae;rw[eq_of_mem_replicate ae];exact ry)
     (by rw[k5,length_replicate,take_left' (jv n)];exact aW.replicate eC n _) (λ_ h=>h.elim) (λ_ h=>h.elim) (λ_ _ h=>h.elim) (λ_ h=>h.elim)
    rw[length_replicate]at lK;exact⟨_,_,F,S,run,lK.1,lK.2⟩
  .cases he
 .cases he
def o1 (s:an) (f:FuncId) (cs:List aX):Option I:=some (.fn f (cs.map (a6 s)))
theorem Ab {a:Act} (h:bq w0 F0 X F S s au w) (dW:∀t,au t=a.tmps.getD t undef):∀(os:List Operand) (xs:List aX),os.map dz=xs.map some->cV w F s au (xs.map (a6 s)) (os.map a.eval)
 |[],[],_=>by simp only[map_nil];rw[cV]
 |[],x::xs,h=>by simp at h
 |o::os,[],h=>by simp at h
 |o::os,x::xs,bn=>by
  simp only[map_cons,cons.injEq]at bn⊢;rw[cV];exact⟨_,_,rfl,(e9 h dW bn.1).2,Ab h dW os xs bn.2⟩
theorem NL:∀(vs:anX) (k off:Nat) (A:Array Value) (l m r:anX),A.toList=l++(m++r)->l.length=off+k->m.length=vs.length->
  ((vs.zipIdx k).foldl (λcs (x:Value×Nat)=>cs.setIfInBounds (off+x.2) x.1) A).toList=l++(vs++r)
 |[],k,off,A,l,m,r,iS,hl,hm=>by
  have:m=[]:=by simpa using hm
  subst this;simpa using iS
 |v::vs,k,off,A,l,m,r,iS,hl,hm=>by
  obtain⟨x,m,rfl⟩:∃x kh,m=x::kh:=by
   cases m with
   |nil=>simp at hm
   |cons x m=>exact⟨x,m,rfl⟩
  rw[zipIdx_cons,foldl_cons];have:=NL vs (k+1) off (A.setIfInBounds (off+k) v) (l++[v]) m r (by
   rw[Array.toList_setIfInBounds,iS,<-hl,set_append_right _ _ (Nat.le_refl _)];simp) (by simp;omega) (by simpa using hm)
  simpa using this
def lL (os:List (Option Nat)) (a:I):I:=os.foldl (λa o=>k9 o a) a
def kJ (place:Nat->Option (Nat×Nat)):an->anZ->List (Option Nat)->anY->Option (anZ×an)
 |s,dX,_,[]=>some (dX,s)
 |s,dX,os,(k,a)::r=>match cy s (lL os a),place k,dX[k]? with
  |some (d,s1),some (off,n),some z=>match d with
   | .tuple _=>none
   |d=>if d.wd=n/\z.wd=n/\I.dR (dX.take k)=off then kJ place s1 (dX.set k d) (os++[(lL os a).owner]) r else none
  |_,_,_=>none
def pJ (w:World) (F:Nat->Prop) (s:an) (au:Nat->Value):anY->List (Nat×Value)->Prop
 |[],[]=>True
 |(k,a)::r,(da,v)::gj=>k=da/\a.plain=true/\aF w F s au a v (λ_=>False)/\pJ w F s au r gj
 |_,_=>False
theorem Xb (x:Nat):∀d:I,d.plain=true->(b4 x d).plain=true
 | .h y q,_=>by simp only[b4];split<;>(try split)<;>rfl
 | .al y q,_=>by simp only[b4];split<;>rfl
 | .R y q,_=>rfl
 | .fn f c,_=>by simp only[b4];rfl
 | .hole,h=>h
 | .bool _,h=>h
 | .fj,h=>h
 | .int _ _,h=>h
 | .str _,h=>h
 | .dq,h=>h
 | .bd,h=>h
 | .slice _,h=>h
 | .ah _ _,h=>h
 | .ref _,h=>h
 | .aV _,h=>h
 | .agg _,h=>h
 | .tuple _,h=>h
theorem Xc (o:Option Nat) (d:I) (h:d.plain=true):(k9 o d).plain=true:=by
 cases o with
 |none=>exact h
 |some x=>exact Xb x d h
theorem pJ.b4 {w:World} {F:Nat->Prop} {s s1:an} {au:Nat->Value} {o:Option Nat} (al:∀(bf:I) (ek:Value) (aJ:Nat->Prop),aF w F s au bf ek aJ->aF w F s1 au (k9 o bf) ek aJ):
  ∀(r:anY) (gj:List (Nat×Value)),pJ w F s au r gj->pJ w F s1 au (r.map λp=>(p.1,k9 o p.2)) gj
 |[],[],_=>trivial
 |(k,a)::r,(da,v)::gj,h=>by
  obtain⟨h1,ab,ay,aT⟩:=h;exact⟨h1,Xc _ _ ab,al _ _ _ ay,pJ.b4 al r gj aT⟩
 |[],_::_,h=>h.elim
 |_::_,[],h=>h.elim
theorem Hb {place:Nat->Option (Nat×Nat)}:∀(ps:anY) (vs:List (Nat×Value)) (os:List (Option Nat)) (s:an) (S:Nat->Nat->Prop) (dX:anZ) (A:Array Value) (hI:Nat->Prop),
  bq w0 F0 X F S s au w->pJ w F s au (ps.map λp=>(p.1,lL os p.2)) vs->aW w F dX A.toList hI->(∀b,hI b->b<w.heap.size)->(∀b,hI b->¬F b)->(∀u b,hI b->¬S u b)->(∀b,hI b->X b\/w0.heap.size<=b)->
  ∀ds s1,kJ place s dX os ps=some (ds,s1)->∃nB bR gI,Instr.fill place A vs=some nB/\bq w0 F0 X F bR s1 au w/\aW w F ds nB.toList gI/\(∀b,gI b->b<w.heap.size)/\(∀b,gI b->¬F b)/\(∀u b,gI b->¬bR u b)/\
   (∀b,gI b->X b\/w0.heap.size<=b)/\ds.length=dX.length/\I.dR ds=I.dR dX/\(∀n,(∀d∈dX,d.wd=n)->∀d∈ds,d.wd=n)
 |[],[],os,s,S,dX,A,hI,h,_,h1,ab,ay,aT,bp,ds,s1,he=>by
  simp only[kJ,Option.some.injEq,Prod.mk.injEq]at he;obtain⟨rfl,rfl⟩:=he;exact⟨A,S,hI,rfl,h,h1,ab,ay,aT,bp,rfl,rfl,λ_ h=>h⟩
 |(k,a)::ps,(da,v)::vs,os,s,S,dX,A,hI,h,al,h1,ab,ay,aT,bp,ds,s1,he=>by
  obtain⟨rfl,kK,qh,Ac⟩:=al;simp only[kJ]at he;split at he
  .rename_i d Ad off n z aL eA bC;have key:∀d:I,(∀aC,d≠.tuple aC)->cy s (lL os a)=some (d,Ad)->(if d.wd=n/\z.wd=n/\I.dR (dX.take k)=off then kJ place Ad (dX.set k d) (os++[(lL os a).owner]) ps else none)=some (ds,s1)->
     ∃nB bR gI,Instr.fill place A ((k,v)::vs)=some nB/\bq w0 F0 X F bR s1 au w/\aW w F ds nB.toList gI/\(∀b,gI b->b<w.heap.size)/\(∀b,gI b->¬F b)/\(∀u b,gI b->¬bR u b)/\
     (∀b,gI b->X b\/w0.heap.size<=b)/\ds.length=dX.length/\I.dR ds=I.dR dX/\(∀n,(∀d∈dX,d.wd=n)->∀d∈ds,d.wd=n):=by
    intro d ss aL he;split at he
    .rename_i ai;obtain⟨rB,oV,NM⟩:=ai;obtain⟨bR,g0,g1,g2,Sn,g3,g4,g5,g6,g7,g8,g9,g10⟩:=rj h kK qh aL;obtain⟨c1,fB,c2,Sx,hS,iS,hJ,eF,fk,hp,fX,nu⟩:=aW.pick dX _ _ k z h1 bC;have qk:=zV g2 ss;have jT:=ar.length _ _ _ g3;have NN:=ar.length _ _ _ fX;have qj:=nu w d (bZ v) Sn (λ_ _=>rfl) (λ_ _=>rfl) g3 (λb Hc NO=>by obtain⟨u,hu⟩:=g9 b Hc;exact aT u b (eF b NO) hu);have NP:=NL (bZ v) 0 off A c1 fB c2 iS (by rw[hJ,NM];rfl) (by rw[NN,jT,rB,oV]);generalize Ae:((bZ v).zipIdx 0).foldl (λcs (x:Value×Nat)=>cs.setIfInBounds (off+x.2) x.1) A=C8 at NP;obtain⟨nB,cH,gI,m1,m2,m3,m4,m5,m6,m7,m8,m9,m10⟩:=Hb (place:=place) ps vs (os++[(lL os a).owner]) Ad bR (dX.set k d) C8 (λb=>Sx b\/Sn b) g0 (by have:=pJ.b4 g10 _ _ Ac;simpa [lL,foldl_append,Function.comp_def]using this) (by rw[NP];exact qj)
      (by rintro b (R|R);exact ab b (eF b R);exact g4 b R) (by rintro b (R|R);exact ay b (eF b R);exact g5 b R)
      (by rintro u b (R|R);exact λhu=>aT u b (eF b R) (g8 u b hu);exact g6 u b R) (by rintro b (R|R);exact bp b (eF b R);exact g7 b R) ds s1 he
     refine⟨nB,cH,gI,?_,m2,m3,m4,m5,m6,m7,by rw[m8];simp,by rw[m9];exact Gq _ _ _ _ bC (by rw[rB,oV]),?_⟩
     .have Hd:off+n<=A.size:=by
       have:A.size=A.toList.length:=by simp
       rw[this,iS];simp[hJ,NM,NN,oV]
      simp only[Instr.fill,eA,qk,List.size_toArray,jT,rB];have iR:¬(n≠n\/A.size<off+n):=by omega
      have Xd:(bZ v).toArray.zipIdx.foldl (λcs (x:Value×Nat)=>cs.setIfInBounds (off+x.2) x.1) A=C8:=by
       rw[<-Ae,<-Array.foldl_toList];simp
      simp only[ne_eq,not_true_eq_false,decide_false,Bool.false_or,decide_eq_true_eq,gt_iff_lt];rw[if_neg (by simp;omega)];rw[show(bZ v).toArray.zipIdx.foldl (λcs x=>match x with|(c,j)=>cs.setIfInBounds (off+j) c) A=C8 from Xd];exact m1
     .intro pK rC;refine m10 pK (Gr rC ?_);rw[rB,<-oV];exact rC z (mem_of_getElem? bC)
    .cases he
   split at he
   .cases he
   .rename_i ss;exact key _ (λaC e=>ss aC e) aL he
  .cases he
 |[],_::_,_,_,_,_,_,_,_,al,_,_,_,_,_,_,_,_=>al.elim
 |_::_,[],_,_,_,_,_,_,_,al,_,_,_,_,_,_,_,_=>al.elim
def ij (C:bx) (s:an) (T:TypeId) (ps:anY):Option (I×an):=
 match(C.T T).k,(C.T T).zero with
 | .struct aC,.agg dX=>if(flat (.agg dX)).isSome=true/\(∀f∈aC,(C.T f.1).ok=true)then
   (match kJ (λk=>(aC[k]?).map λf=>(f.2,(C.T f.1).sz)) s dX [] ps with
   |some (ds,s1)=>some (.agg ds,s1)
   |none=>none)else none
 |_,_=>none
def ei (C:bx) (s:an) (T:TypeId) (n:Nat) (ps:anY):Option (I×an):=
 match(C.T T).k with
 | .slice e=>if(C.T e).ok=true/\(C.T e).zero.wd=(C.T e).sz/\(flat (C.T e).zero).isSome=true/\(C.T e).sz≠0/\n*(C.T e).sz<=16777216 then
   (match kJ (λk=>some (k*(C.T e).sz,(C.T e).sz)) s (replicate n (C.T e).zero) [] ps with
   |some (ds,s1)=>some (.ah (C.T e).sz ds,s1)
   |none=>none)else none
 |_=>none
theorem Xe (bb:C.Ok):∀(gs:List Field),(∀g∈gs,(C.T g.type).ok=true)->
  gs.mapM (λf=>(C.P.info? f.type).map λi=>(f.offset,i.size))=some (gs.map λg=>(g.offset,(C.T g.type).sz)):=by
 intro gs;induction gs with
 |nil=>intro _;simp
 |cons g gs ih=>
  intro hg;obtain⟨i,d,z,f1,f2,f3,f4,f5,f6,f7⟩:=bb.info (hg g (by simp));have:=ih (λg hc=>hg g (by simp[hc]));simp[mapM_cons,f1,f2,this]
theorem Xf (bb:C.Ok) (h:bq w0 F0 X F S s au w) {T:TypeId} {ps:anY} {vs:List (Nat×Value)} (al:pJ w F s au ps vs) (he:ij C s T ps=some (av,s1)):
  Good C w0 F0 X au w (Instr.build T vs.toArray) av s1:=by
 unfold ij at he;split at he
 .rename_i aC dX hk bC;split at he
  .rename_i ai;obtain⟨sB,Xg⟩:=ai;split at he
   .rename_i ds s2 jv;simp only[Option.some.injEq,Prod.mk.injEq]at he;obtain⟨rfl,rfl⟩:=he;obtain⟨i,d,z,aI,aM,aP,bK,cg,bP,bL⟩:=bb.info (fQ hk (by simp));rw[hk]at bL;obtain⟨gs,rfl,NQ⟩:=zT bL;obtain⟨fa,ov⟩:=Option.isSome_iff_exists.1 sB;have sC:=cg fa (by rw[bC];exact ov);have eC:aW w F dX fa.toArray.toList (λ_=>False):=by
     have:=(ar.flat (w:=w) (F:=F) _).1 (.agg dX) fa (λ_=>False) (Nat.le_refl _) ov;rw[ar]at this;simpa using this
    have eg:pJ w F s au (ps.map λp=>(p.1,lL [] p.2)) vs:=by simpa [lL]using al
    obtain⟨nB,bR,gI,m1,m2,m3,m4,m5,m6,m7,m8,m9,m10⟩:=Hb ps vs [] s S dX fa.toArray (λ_=>False) h eg eC (λ_ h=>h.elim) (λ_ h=>h.elim) (λ_ _ h=>h.elim) (λ_ h=>h.elim) ds s2 jv;have eA:=Xe bb gs.toList (λg hg=>Xg (g.type,g.offset) (by rw[<-NQ];exact List.mem_map_of_mem hg));have Xh:(λ(k:Nat)=>(aC[k]?).map λ(f:TypeId×Nat)=>(f.2,(C.T f.1).sz))=λ(k:Nat)=>((gs.toList.map λg=>(g.offset,(C.T g.type).sz)).toArray)[k]? :=by
     funext k;rw[<-NQ];simp only[getElem?_map,getElem?_toArray,Option.map_map];rfl
    rw[Xh]at m1;refine⟨.agg nB,w,F,bR,run_build w T vs.toArray nB ?_,m2,.inr ⟨rfl,⟨_,rfl⟩,gI,by simp only[bZ,gX];rw[ar];exact m3,m4,m5,m6,m7⟩⟩;unfold Program.built;simp only[aI,bP,bK,eA,sC];exact m1
   .cases he
  .cases he
 .cases he
theorem Xi (bb:C.Ok) (h:bq w0 F0 X F S s au w) {T:TypeId} {n:Nat} {ps:anY} {vs:List (Nat×Value)} (al:pJ w F s au ps vs) (he:ei C s T n ps=some (av,s1)):
  Good C w0 F0 X au w (Instr.buildSlice T n vs.toArray) av s1:=by
 unfold ei at he;split at he
 .rename_i e hk;split at he
  .rename_i ai;obtain⟨qn,ry,sB,dr,amr⟩:=ai;split at he
   .rename_i ds s2 jv;simp only[Option.some.injEq,Prod.mk.injEq]at he;obtain⟨rfl,rfl⟩:=he;obtain⟨G5,d,G6,aI,aM,aP,bK,cg,bP,bL⟩:=bb.info (fQ hk (by simp));rw[hk]at bL;have:=mj bL;subst this;obtain⟨i,G7,z,f1,f2,f3,f4,f5,f6,f7⟩:=bb.info qn;obtain⟨fa,ov⟩:=Option.isSome_iff_exists.1 sB;have sC:=f5 fa ov;have eC:∀aJ,ar w F (C.T e).zero fa aJ:=λaJ=>(ar.flat _).1 _ fa aJ (Nat.le_refl _) ov;have qp:fa.length=(C.T e).sz:=by rw[ar.length _ _ _ (eC (λ_=>False)),ry]
    generalize iS:((Array.range (n*(C.T e).sz)).map ((if n*(C.T e).sz=0 then #[]else fa.toArray)[·%(if n*(C.T e).sz=0 then(#[]:Array Value)else fa.toArray).size]!))=A;have Hd:A.toList=(replicate n fa).flatten:=by
     rw[<-iS];by_cases ba:n*(C.T e).sz=0
     .have:n=0:=by
       rcases mul_eq_zero.1 ba with h|h
       .exact h
       .exact(dr h).elim
      subst this;simp
     .simp only[ba,if_false];have:=Di fa n;rw[qp]at this;simpa [qp]using this
    have eg:pJ w F s au (ps.map λp=>(p.1,lL [] p.2)) vs:=by simpa [lL]using al
    obtain⟨nB,bR,gI,m1,m2,m3,m4,m5,m6,m7,m8,m9,m10⟩:=Hb ps vs [] s S (replicate n (C.T e).zero) A (λ_=>False) h eg (by rw[Hd];exact aW.replicate eC n _) (λ_ h=>h.elim) (λ_ h=>h.elim) (λ_ _ h=>h.elim) (λ_ h=>h.elim) ds s2 jv;have hlen:ds.length=n:=by rw[m8];simp
    have NR:=m10 (C.T e).sz (by intro d ae;rw[eq_of_mem_replicate ae];exact ry);have Xj:nB.toList.length=n*(C.T e).sz:=by rw[aW.vr m3 NR,hlen]
    have Xk:nB.size=n*(C.T e).sz:=by rw[<-Xj];simp
    have ams:n<=16777216:=by
     have:n*1<=n*(C.T e).sz:=mul_le_mul_left _ (by omega);omega
    have lK:=m2.z1 (aq:=w.alloc (.cells nB e)) (sz:=(C.T e).sz) (cap:=n) (xs:=ds) (cur:=nB) (e:=e) (fr:=(0,0)) (Sn:=gI) rfl rfl rfl ⟨rfl,λ_=>Nat.le_refl _⟩
     (λo _ ⟨_,ab⟩=>absurd ab (not_lt_zero _)) (by omega) (by unfold maxLen;omega) Xk NR (by rw[hlen,take_of_length_le (by omega)];exact m3) m4 m5 m6 m7
    rw[hlen]at lK;refine⟨_,_,F,bR,?_,lK.1,lK.2⟩;by_cases ba:n*(C.T e).sz=0
    .simp only[ba,if_true]at iS;have xB:(Array.map (λ_=>(default:Value)) (Array.range 0))=A:=by
      have:n=0:=by
       rcases mul_eq_zero.1 ba with h|h
       .exact h
       .exact(dr h).elim
      apply Array.ext';rw[Hd,this];simp
     simp[Instr.buildSlice,run_underlying bP,kG f1,f2,ba,newRow];rw[xB,m1];simp
    .simp only[ba,if_false]at iS;have iR:¬(16777216<n*(C.T e).sz):=by omega
     simp[Instr.buildSlice,run_underlying bP,kG f1,f2,ba,iR,vf f1 f4,sC,newRow];have xB:(Array.map (λx=>fa[x%fa.length]?.getD default) (Array.range (n*(C.T e).sz)))=A:=by
      rw[<-iS];simp
     rw[xB,m1];simp
   .cases he
  .cases he
 .cases he
end
inductive dK where
 |fC (x:aX)
 |iB (x:aX)
 |pick (c a b:aX)
 |nw (T:TypeId)
 |h2 (T:TypeId) (x:aX)
 |ij (T:TypeId) (ps:List (Nat×aX))
 |ei (T:TypeId) (n:Nat) (ps:List (Nat×aX))
 |ld (T:TypeId) (x:aX)
 |ki (T:TypeId) (x y:aX)
 |jx (x:aX)
 |ef (op:BinOp) (T:TypeId) (x y:aX)
 |un (op:UnOp) (x:aX)
 |je (A B:TypeId) (x:aX)
 |o1 (f:FuncId) (cs:List aX)
 |eL (T:TypeId) (l c:aX)
 |fR (T:TypeId) (x:aX) (eK ak:Option aX)
 |hq (T:TypeId) (x:aX) (k:Nat)
 |jb (T:TypeId) (x i:aX)
 |idx (T:TypeId) (x i:aX)
 |ex (x:aX) (k:Nat)
 |ny (T:TypeId) (x:aX) (k:Nat)
 |call (f:aX) (args:List aX)
 |len (T:TypeId) (x:aX)
 |app (T b5:TypeId) (x y:aX)
 |shr (bz:dK)
 |iV (T b5:TypeId) (x y:aX)
 |cap (T:TypeId) (x:aX)
 |jf (eI:Bool) (x y:aX)
 |bad
 |mo (f:aX) (args:List aX) (us:anU)
 |jR (T:TypeId) (x:aX)
 |rD
 |il (T:TypeId) (x i:aX)
 |jz (T:TypeId) (x i v:aX)
def dK.base:dK->dK
 | .shr bz=>bz
 | .iV T b5 x y=>.app T b5 x y
 | .mo f args _=>.call f args
 | .jR T x=>.h2 T x
 |bz=>bz
def xC:List Operand->Option (List aX)
 |[]=>some []
 |o::os=>match dz o,xC os with
  |some x,some xs=>some (x::xs)
  |_,_=>none
def xD:List (Nat×Operand)->Option (List (Nat×aX))
 |[]=>some []
 |(k,o)::os=>match dz o,xD os with
  |some x,some xs=>some ((k,x)::xs)
  |_,_=>none
def Af:Option Operand->Option (Option aX)
 |none=>some none
 |some o=>(dz o).map some
def cP:Op->Option dK
 | .move x=>(dz x).map .fC
 | .assign x=>(dz x).map .iB
 | .pick c a b=>match dz c,dz a,dz b with
   |some c,some a,some b=>some (.pick c a b)
   |_,_,_=>none
 | .alloc T=>some (.nw T)
 | .box T x=>(dz x).map (.h2 T)
 | .build T ps=>(xD ps.toList).map (.ij T)
 | .buildSlice T n ps=>(xD ps.toList).map (.ei T n)
 | .load T x=>(dz x).map (.ld T)
 | .store T x y=>match dz x,dz y with
   |some x,some y=>some (.ki T x y)
   |_,_=>none
 | .nilCheck x=>(dz x).map .jx
 | .binOp op T x y _=>match dz x,dz y with
   |some x,some y=>some (.ef op T x y)
   |_,_=>none
 | .unOp op _ x=>(dz x).map (.un op)
 | .convert A B x=>(dz x).map (.je A B)
 | .makeFunc (.func f) first cs=>if first.isEmpty then(xC cs.toList).map (.o1 f)else none
 | .makeSlice T l c=>match dz l,dz c with
   |some l,some c=>some (.eL T l c)
   |_,_=>none
 | .slice T x eK ak none=>match dz x,Af eK,Af ak with
   |some x,some eK,some ak=>some (.fR T x eK ak)
   |_,_,_=>none
 | .fieldAddr T x k=>(dz x).map λx=>.hq T x k
 | .indexAddr T x i=>match dz x,dz i with
   |some x,some i=>some (.jb T x i)
   |_,_=>none
 | .index T x i=>match dz x,dz i with
   |some x,some i=>some (.idx T x i)
   |_,_=>none
 | .extract x k=>(dz x).map λx=>.ex x k
 | .field T x k=>(dz x).map λx=>.ny T x k
 | .makeMap _ none=>some .rD
 | .lookup T x i false=>match dz x,dz i with
   |some x,some i=>some (.il T x i)
   |_,_=>none
 | .mapUpdate T x i v=>match dz x,dz i,dz v with
   |some x,some i,some v=>some (.jz T x i v)
   |_,_,_=>none
 | .call c=>match c.callee with
   | .value f=>match dz f,xC c.args.toList with
     |some f,some xs=>some (.call f xs)
     |_,_=>none
   | .builtin .len=>match c.args.toList,c.argTypes.toList with
     |[x],[T]=>(dz x).map (.len T)
     |_,_=>none
   | .builtin .cap=>match c.args.toList,c.argTypes.toList with
     |[x],[T]=>(dz x).map (.cap T)
     |_,_=>none
   | .builtin .min=>match c.args.toList with
     |[x,y]=>match dz x,dz y with
      |some x,some y=>some (.jf false x y)
      |_,_=>none
     |_=>none
   | .builtin .max=>match c.args.toList with
     |[x,y]=>match dz x,dz y with
      |some x,some y=>some (.jf true x y)
      |_,_=>none
     |_=>none
   | .builtin .append=>match c.args.toList,c.argTypes.toList with
     |[x,y],[T,b5]=>match dz x,dz y with
      |some x,some y=>some (.app T b5 x y)
      |_,_=>none
     |_,_=>none
   |_=>none
 |_=>none
def jf (eI:Bool):I->I->Option I
 | .str a,.str b=>some (.str (CS eI a b))
 | .int k a,.int da b=>if k=da then some (.int k (i_ eI a b))else none
 |_,_=>none
def Ag (s:an):I->Option (I×an)
 | .h y q=>cy s (.h y q)
 |d=>some (d,s)
def bJ (C:bx) (s:an):dK->Option (I×an)
 | .fC x=>some (a6 s x,s)
 | .iB x=>match a6 s x with
   | .h y q=>cy s (.h y q)
   |d=>some (d,s)
 | .pick c a b=>match a6 s c with
   | .bool e8=>some (if e8 then a6 s a else a6 s b,s)
   |_=>none
 | .nw T=>(nw C T).map λd=>(d,s)
 | .h2 _ x=>h2 s (a6 s x)
 | .ij T ps=>ij C s T (ps.map λp=>(p.1,a6 s p.2))
 | .ei T n ps=>ei C s T n (ps.map λp=>(p.1,a6 s p.2))
 | .ld T x=>(ld C s T (a6 s x)).map λd=>(d,s)
 | .ki T x y=>(ki C s T (a6 s x) (a6 s y)).map λs1=>(.hole,s1)
 | .jx x=>(jx s (a6 s x)).map λd=>(d,s)
 | .ef op T x y=>(ef C s op T (a6 s x) (a6 s y)).map λd=>(d,s)
 | .un op x=>(un op (a6 s x)).map λd=>(d,s)
 | .je A B x=>(je C s A B (a6 s x)).map λd=>(d,s)
 | .o1 f cs=>some (.fn f (cs.map (a6 s)),s)
 | .eL T l c=>(eL C T (a6 s l) (a6 s c)).map λd=>(d,s)
 | .fR T x eK ak=>fR C s T (a6 s x) (eK.map (a6 s)) (ak.map (a6 s))
 | .hq T x k=>(hq C s T (a6 s x) k).map λd=>(d,s)
 | .jb T x i=>(jb C s T (a6 s x) (a6 s i)).map λd=>(d,s)
 | .idx T x i=>(idx C T (a6 s x) (a6 s i)).map λd=>(d,s)
 | .ex x k=>(ex s (a6 s x) k).map λd=>(d,s)
 | .ny T x k=>(ny C s T (a6 s x) k).bind (Ag s)
 | .call _ _=>none
 | .len T x=>(sw C s T (a6 s x)).map λd=>(d,s)
 | .app T b5 x y=>sA C s T b5 (a6 s x) (a6 s y)
 | .shr _=>none
 | .mo _ _ _=>none
 | .jR _ x=>jR s (a6 s x)
 | .rD=>some (.cc (.mp []),s)
 | .il T x i=>(il C s T (a6 s x) (a6 s i)).map λd=>(d,s)
 | .jz T x i v=>(jz C s T (a6 s x) (a6 s i) (a6 s v)).map λs1=>(.hole,s1)
 | .iV T b5 x y=>(iV C T b5 (a6 s x) (a6 s y)).map λd=>(d,s)
 | .cap T x=>match(C.T T).k,a6 s x with
   | .slice _,.bd=>some (.int .i64 0,s)
   |_,_=>none
 | .jf eI x y=>(jf eI (a6 s x) (a6 s y)).map λd=>(d,s)
 | .bad=>none
section
variable {C:bx} {w0 w:World} {F0 X F:Nat->Prop} {S:Nat->Nat->Prop} {s s1:an} {a:Act} {av:I}
theorem sE:∀{os:List Operand} {xs:List aX},xC os=some xs->os.map dz=xs.map some
 |[],xs,h=>by simp[xC]at h;subst h;rfl
 |o::os,xs,h=>by
  simp only[xC]at h;split at h
  .rename_i x Xl h1 ab;simp at h;subst h;simp[h1,sE ab]
  .cases h
theorem He {au:Nat->Value} (h:bq w0 F0 X F S s au w) (dW:∀t,au t=a.tmps.getD t undef):∀{ps:List (Nat×Operand)} {xs:List (Nat×aX)},xD ps=some xs->
  pJ w F s au (xs.map λp=>(p.1,a6 s p.2)) (ps.map λp=>(p.1,a.eval p.2))
 |[],xs,h=>by simp[xD]at h;subst h;trivial
 |(k,o)::ps,xs,bn=>by
  simp only[xD]at bn;split at bn
  .rename_i x Xl h1 ab;simp at bn;subst bn;obtain⟨g1,g2⟩:=e9 h dW h1;exact⟨rfl,g1,g2,He h dW ab⟩
  .cases bn
def Next (C:bx) (w0:World) (F0 X:Nat->Prop) (au:Nat->Value) (w:World) (m:Sem Go.Next) (av:I) (s1:an):Prop:=
 ∃r aq v br aJ,m.run C.P w= .ok r aq/\(r= .value v\/r= .skip/\v=undef)/\bq w0 F0 X br aJ s1 au aq/\j5 w0 X br aJ s1 au aq av v
theorem Good.next {au:Nat->Value} {m:Sem Value} (h:Good C w0 F0 X au w m av s1):Next C w0 F0 X au w (do pure (.value (<-m))) av s1:=by
 obtain⟨v,aq,br,aJ,h1,ab,ay⟩:=h;exact⟨.value v,aq,v,br,aJ,by simp[h1],.inl rfl,ab,ay⟩
theorem NS {au:Nat->Value} (h:bq w0 F0 X F S s au w) {eI:Bool} {x y:I} {el hs:Value} {m:Sem Go.Next} (h1:aF w F s au x el (λ_=>False)) (ab:aF w F s au y hs (λ_=>False))
  (he:(jf eI x y).map (λd=>(d,s))=some (av,s1)) (hm:m=(do pure (.value (<-if eI then Builtin.max2 el hs else Builtin.min2 el hs)))):Next C w0 F0 X au w m av s1:=by
 simp only[Option.map_eq_some_iff,Prod.mk.injEq]at he;obtain⟨d,ae,rfl,rfl⟩:=he;unfold jf at ae;split at ae
 .rename_i a b;simp only[Option.some.injEq]at ae;subst ae;have aI:=nx h1;have aM:=nx ab;subst aI aM;subst hm;refine⟨.value (.string ⟨⟨CS eI a b⟩⟩),w,_,F,S,?_,.inl rfl,h,.inl ⟨rfl,ql _⟩⟩;cases eI
  .simp only[Builtin.min2,Op.stringOp,zW,CS,Bool.false_eq_true,if_false];cases R:(Op.bytesLess a b||a==b)<;>simp[asBool]
  .simp only[Builtin.max2,Op.stringOp,zW,CS,if_true];cases R:Op.bytesLess a b<;>simp[asBool]
 .rename_i k a da b;split at ae
  .rename_i hk;subst hk;simp only[Option.some.injEq]at ae;subst ae;have aI:=oq h1;have aM:=oq ab;subst aI aM;subst hm;refine⟨.value (.int k (i_ eI a b)),w,_,F,S,?_,.inl rfl,h,.inl ⟨rfl,of_int _ _⟩⟩;cases eI<;>simp[Builtin.min2,Builtin.max2,i_]
  .cases ae
 .cases ae
theorem NT (bb:C.Ok) {au:Nat->Value} (h:bq w0 F0 X F S s au w) (dW:∀t,au t=a.tmps.getD t undef) {o:Oper} {bz:dK} (U:cP o.op=some bz) (he:bJ C s bz=some (av,s1)):
  Next C w0 F0 X au w (execOp a.eval o) av s1:=by
 obtain⟨dst,op,ty,pos,after,guard⟩:=o;simp only at U;cases op with
 |move x=>
  simp only[cP,Option.map_eq_some_iff]at U;obtain⟨cF,ag,rfl⟩:=U;obtain⟨g1,g2⟩:=e9 h dW ag;simp only[bJ,Option.some.injEq,Prod.mk.injEq]at he;obtain⟨rfl,rfl⟩:=he;exact⟨_,w,_,F,S,rfl,.inl rfl,h,.inl ⟨g1,g2⟩⟩
 |assign x=>
  simp only[cP,Option.map_eq_some_iff]at U;obtain⟨cF,ag,rfl⟩:=U;obtain⟨g1,g2⟩:=e9 h dW ag;simp only[bJ]at he;split at he
  .rename_i y q hy;rw[hy]at g1 g2;obtain⟨bR,k0,bT,b2,Sn,dm,de,e5,dJ,jy,_⟩:=rj h g1 g2 he;exact⟨_,w,_,F,bR,rfl,.inl rfl,k0,.inr ⟨bT,b2,Sn,dm,de,e5,dJ,jy⟩⟩
  .simp only[Option.some.injEq,Prod.mk.injEq]at he;obtain⟨rfl,rfl⟩:=he;exact⟨_,w,_,F,S,rfl,.inl rfl,h,.inl ⟨g1,g2⟩⟩
 |pick c x y=>
  simp only[cP]at U;split at U
  .rename_i jU cF lJ ai ag hy;simp only[Option.some.injEq]at U;subst U;simp only[bJ]at he;split at he
   .rename_i b R;simp only[Option.some.injEq,Prod.mk.injEq]at he;obtain⟨rfl,rfl⟩:=he;have vw:=(e9 h dW ai).2;rw[R]at vw;have vw:=tF vw;obtain⟨af,aw⟩:=e9 h dW ag;obtain⟨f_,iW⟩:=e9 h dW hy;refine⟨.value (if b then a.eval x else a.eval y),w,_,F,S,?_,.inl rfl,h,.inl ?_⟩
    .simp[execOp,vw,asBool]
    .cases b
     .exact⟨f_,iW⟩
     .exact⟨af,aw⟩
   .cases he
  .cases U
 |alloc T=>
  simp only[cP,Option.some.injEq]at U;subst U;simp only[bJ,Option.map_eq_some_iff,Prod.mk.injEq]at he;obtain⟨d,ae,rfl,rfl⟩:=he;exact(Wj bb h ae).next
 |box T x=>
  simp only[cP,Option.map_eq_some_iff]at U;obtain⟨cF,ag,rfl⟩:=U;obtain⟨g1,g2⟩:=e9 h dW ag;exact(Wn h g1 g2 he).next
 |build T ps=>
  simp only[cP,Option.map_eq_some_iff]at U;obtain⟨Xm,al,rfl⟩:=U;obtain⟨ps⟩:=ps;have:=(Xf bb h (He h dW al) he).next;simpa [execOp]using this
 |buildSlice T n ps=>
  simp only[cP,Option.map_eq_some_iff]at U;obtain⟨Xm,al,rfl⟩:=U;obtain⟨ps⟩:=ps;have:=(Xi bb h (He h dW al) he).next;simpa [execOp]using this
 |load T x=>
  simp only[cP,Option.map_eq_some_iff]at U;obtain⟨cF,ag,rfl⟩:=U;obtain⟨g1,g2⟩:=e9 h dW ag;simp only[bJ,Option.map_eq_some_iff,Prod.mk.injEq]at he;obtain⟨d,ae,rfl,rfl⟩:=he;exact(Wd bb h g2 ae).next
 |store T x y=>
  simp only[cP]at U;split at U
  .rename_i cF lJ ag hy;simp only[Option.some.injEq]at U;subst U;simp only[bJ,Option.map_eq_some_iff,Prod.mk.injEq]at he;obtain⟨s2,ae,rfl,rfl⟩:=he;obtain⟨aq,aJ,h1,ab⟩:=Wh bb h (e9 h dW ag).2 (e9 h dW hy).1 (e9 h dW hy).2 ae;exact⟨.skip,aq,undef,F,aJ,by simp[execOp,h1],.inr ⟨rfl,rfl⟩,ab,.inl ⟨rfl,by rw[aF];trivial⟩⟩
  .cases U
 |nilCheck x=>
  simp only[cP,Option.map_eq_some_iff]at U;obtain⟨cF,ag,rfl⟩:=U;obtain⟨g1,g2⟩:=e9 h dW ag;simp only[bJ,Option.map_eq_some_iff,Prod.mk.injEq]at he;obtain⟨d,ae,rfl,rfl⟩:=he;obtain⟨rfl,al,aD⟩:=Wz h g2 ae;refine⟨.value (a.eval x),w,_,F,S,?_,.inl rfl,h,.inl ⟨al,g2⟩⟩;rcases aD with⟨b,R⟩|⟨f,c,R⟩<;>simp[execOp,R]
 |binOp op T x y amt=>
  simp only[cP]at U;split at U
  .rename_i cF lJ ag hy;simp only[Option.some.injEq]at U;subst U;simp only[bJ,Option.map_eq_some_iff,Prod.mk.injEq]at he;obtain⟨d,ae,rfl,rfl⟩:=he;exact(Ww bb h x y (e9 h dW ag).2 (e9 h dW hy).2 ae).next
  .cases U
 |unOp op T x=>
  simp only[cP,Option.map_eq_some_iff]at U;obtain⟨cF,ag,rfl⟩:=U;simp only[bJ,Option.map_eq_some_iff,Prod.mk.injEq]at he;obtain⟨d,ae,rfl,rfl⟩:=he;exact(Wx h (e9 h dW ag).2 ae).next
 |convert A B x=>
  simp only[cP,Option.map_eq_some_iff]at U;obtain⟨cF,ag,rfl⟩:=U;simp only[bJ,Option.map_eq_some_iff,Prod.mk.injEq]at he;obtain⟨d,ae,rfl,rfl⟩:=he;exact(WJ bb h (e9 h dW ag).2 ae).next
 |makeFunc fn first cs=>
  cases fn with
  |func f=>
   simp only[cP]at U;split at U
   .rename_i Xn;simp only[Option.map_eq_some_iff]at U;obtain⟨tM,fZ,rfl⟩:=U;simp only[bJ,Option.some.injEq,Prod.mk.injEq]at he;obtain⟨rfl,rfl⟩:=he;have Xo:first= #[]:=by simpa using Xn
    subst Xo;refine⟨_,w,_,F,S,rfl,.inl rfl,h,.inl ⟨rfl,?_⟩⟩;rw[aF];refine⟨cs.map a.eval,by simp,?_⟩;simpa using Ab h dW _ _ (sE fZ)
   .cases U
  |_=>simp[cP]at U
 |makeSlice T l c=>
  simp only[cP]at U;split at U
  .rename_i cF lJ ag hy;simp only[Option.some.injEq]at U;subst U;simp only[bJ,Option.map_eq_some_iff,Prod.mk.injEq]at he;obtain⟨d,ae,rfl,rfl⟩:=he;exact(W8 bb h (e9 h dW ag).2 (e9 h dW hy).2 ae).next
  .cases U
 |slice T x eK ak eI=>
  cases eI with
  |some m=>simp[cP]at U
  |none=>
   simp only[cP]at U;split at U
   .rename_i cF amu xE ag lb nz;simp only[Option.some.injEq]at U;subst U;obtain⟨g1,g2⟩:=e9 h dW ag;have opt:∀{o:Option Operand} {kj:Option aX},Af o=some kj->sx w F s au (kj.map (a6 s)) (o.map a.eval):=by
     intro o kj a1;cases o with
     |none=>simp[Af]at a1;subst a1;trivial
     |some o=>
      simp only[Af,Option.map_eq_some_iff]at a1;obtain⟨x,ag,rfl⟩:=a1;exact(e9 h dW ag).2
    exact(WL bb h g1 g2 (opt lb) (opt nz) he).next
   .cases U
 |fieldAddr T x k=>
  simp only[cP,Option.map_eq_some_iff]at U;obtain⟨cF,ag,rfl⟩:=U;obtain⟨g1,g2⟩:=e9 h dW ag;simp only[bJ,Option.map_eq_some_iff,Prod.mk.injEq]at he;obtain⟨d,ae,rfl,rfl⟩:=he;exact(V8 bb h g1 g2 ae).next
 |indexAddr T x i=>
  simp only[cP]at U;split at U
  .rename_i cF lJ ag hy;simp only[Option.some.injEq]at U;subst U;simp only[bJ,Option.map_eq_some_iff,Prod.mk.injEq]at he;obtain⟨d,ae,rfl,rfl⟩:=he;exact(V9 bb h (e9 h dW ag).2 (e9 h dW hy).2 ae).next
  .cases U
 |index T x i=>
  simp only[cP]at U;split at U
  .rename_i cF lJ ag hy;simp only[Option.some.injEq]at U;subst U;simp only[bJ,Option.map_eq_some_iff,Prod.mk.injEq]at he;obtain⟨d,ae,rfl,rfl⟩:=he;exact(WG bb h (e9 h dW ag).2 (e9 h dW hy).2 ae).next
  .cases U
 |makeMap t r=>
  cases r with
  |none=>
   simp only[cP,Option.some.injEq]at U;subst U;simp only[bJ,Option.some.injEq,Prod.mk.injEq]at he;obtain⟨rfl,rfl⟩:=he;exact(W7 h t).next
  |some r=>simp[cP]at U
 |lookup T x i c=>
  cases c with
  |true=>simp[cP]at U
  |false=>
   simp only[cP]at U;split at U
   .rename_i cF rl ag ak;simp only[Option.some.injEq]at U;subst U;simp only[bJ,Option.map_eq_some_iff,Prod.mk.injEq]at he;obtain⟨d,ae,rfl,rfl⟩:=he;exact(W4 bb h (e9 h dW ag).2 (e9 h dW ak).2 ae).next
   .cases U
 |mapUpdate T x i v=>
  simp only[cP]at U;split at U
  .rename_i cF rl ek ag ak aD;simp only[Option.some.injEq]at U;subst U;simp only[bJ,Option.map_eq_some_iff,Prod.mk.injEq]at he;obtain⟨s2,ae,rfl,rfl⟩:=he;obtain⟨aq,aJ,h1,ab⟩:=W5 bb h (e9 h dW ag).2 (e9 h dW ak).2 (e9 h dW aD).2 ae;exact⟨.skip,aq,undef,F,aJ,by simp[execOp,h1],.inr ⟨rfl,rfl⟩,ab,.inl ⟨rfl,by rw[aF];trivial⟩⟩
  .cases U
 |extract x k=>
  simp only[cP,Option.map_eq_some_iff]at U;obtain⟨cF,ag,rfl⟩:=U;simp only[bJ,Option.map_eq_some_iff,Prod.mk.injEq]at he;obtain⟨d,ae,rfl,rfl⟩:=he;exact(WC h (e9 h dW ag).2 ae).next
 |field T x k=>
  simp only[cP,Option.map_eq_some_iff]at U;obtain⟨cF,ag,rfl⟩:=U;simp only[bJ,Option.bind_eq_some_iff]at he;obtain⟨d,ae,he⟩:=he;obtain⟨v,aq,br,aJ,ax,fO,qg⟩:=WD bb h (e9 h dW ag).2 ae;unfold Ag at he;split at he
  .rename_i y q;have Xp:aF aq br s au (.h y q) v (λ_=>False):=by
    rcases qg with⟨_,g2⟩|⟨g1,_⟩
    .exact g2
    .cases g1
   obtain⟨bR,k0,bT,b2,Sn,dm,de,e5,dJ,jy,_⟩:=rj fO rfl Xp he;exact⟨.value v,aq,v,br,bR,by simp[execOp,ax],.inl rfl,k0,.inr ⟨bT,b2,Sn,dm,de,e5,dJ,jy⟩⟩
  .simp only[Option.some.injEq,Prod.mk.injEq]at he;obtain⟨rfl,rfl⟩:=he;exact⟨.value v,aq,v,br,aJ,by simp[execOp,ax],.inl rfl,fO,qg⟩
 |call c=>
  obtain⟨callee,args,argTypes⟩:=c;simp only[cP]at U;split at U
  .split at U
   .simp only[Option.some.injEq]at U;subst U;simp[bJ]at he
   .cases U
  .split at U
   .rename_i x T lf vx;simp only[Option.map_eq_some_iff]at U;obtain⟨cF,ag,rfl⟩:=U;simp only[bJ,Option.map_eq_some_iff,Prod.mk.injEq]at he;obtain⟨d,ae,rfl,rfl⟩:=he;have:=(WH (ty:=ty) bb h (e9 h dW ag).2 ae).next;have aI:args= #[x]:=by apply Array.ext';exact lf
    have aM:argTypes= #[T]:=by apply Array.ext';exact vx
    subst aI aM;simpa [execOp,resolve,invoke,builtin]using this
   .cases U
  .split at U
   .rename_i x T lf vx;simp only[Option.map_eq_some_iff]at U;obtain⟨cF,ag,rfl⟩:=U;simp only[bJ]at he;split at he
    .rename_i e hk Xq;simp only[Option.some.injEq,Prod.mk.injEq]at he;obtain⟨rfl,rfl⟩:=he;have aD:=(e9 h dW ag).2;rw[Xq]at aD;have:=sv aD;obtain⟨i,d,z,aI,aM,aP,bK,cg,bP,bL⟩:=bb.info (fQ hk (by simp));rw[hk]at bL;have ae:=mj bL;subst ae;have Xr:args= #[x]:=by apply Array.ext';exact lf
     have Dk:argTypes= #[T]:=by apply Array.ext';exact vx
     subst Xr Dk;have ax:(Builtin.cap_ #[T] ty #[a.eval x]).run C.P w= .ok (.int .i64 0) w:=by
      rw[this];simp[Builtin.cap_,run_underlying bP,goInt]
     have:=(Good.same (av:=.int .i64 0) h ax rfl (of_int _ _)).next;simpa [execOp,resolve,invoke,builtin]using this
    .cases he
   .cases U
  .split at U
   .rename_i x y lf;split at U
    .rename_i cF lJ ag hy;simp only[Option.some.injEq]at U;subst U;have aI:args= #[x,y]:=by apply Array.ext';exact lf
     subst aI;exact NS h (e9 h dW ag).2 (e9 h dW hy).2 he (by simp[execOp,resolve,invoke,builtin,Builtin.min_])
    .cases U
   .cases U
  .split at U
   .rename_i x y lf;split at U
    .rename_i cF lJ ag hy;simp only[Option.some.injEq]at U;subst U;have aI:args= #[x,y]:=by apply Array.ext';exact lf
     subst aI;exact NS h (e9 h dW ag).2 (e9 h dW hy).2 he (by simp[execOp,resolve,invoke,builtin,Builtin.max_])
    .cases U
   .cases U
  .split at U
   .rename_i x y T b5 lf vx;split at U
    .rename_i cF lJ ag hy;simp only[Option.some.injEq]at U;subst U;have:=(WW (ty:=ty) bb h (e9 h dW ag).2 (e9 h dW hy).2 he).next;have aI:args= #[x,y]:=by apply Array.ext';exact lf
     have aM:argTypes= #[T,b5]:=by apply Array.ext';exact vx
     subst aI aM;simpa [execOp,resolve,invoke,builtin]using this
    .cases U
   .cases U
  .cases U
 |_=>simp[cP]at U
end
mutual
def I.U:I->anU
 | .h x _=>[x]
 | .al x _=>[x]
 | .R x _=>[x]
 | .fn _ cap=>I.dL cap
 |_=>[]
def I.dL:anZ->anU
 |[]=>[]
 |d::ds=>d.U++I.dL ds
end
inductive rE where
 |no
 |b4
 |cu
structure gL where
 k:rE
 x:Nat
 d:I
def rE.app (k:rE) (x:Nat) (a:I):I:=match k with
 | .no=>a
 | .b4=>cC.b4 x a
 | .cu=>cC.cu x a
def gL.at (m:gL) (u:Nat) (a:I):I:=if u=m.x then m.d else m.k.app m.x a
def kk:List gL->Nat->I->I
 |[],_,a=>a
 |m::ms,u,a=>kk ms u (m.at u a)
def dB (ms:List gL) (s:an):an:=λu=>kk ms u (s u)
theorem NU:∀(ms lM:List gL) (u:Nat) (a:I),kk (ms++lM) u a=kk lM u (kk ms u a)
 |[],_,_,_=>rfl
 |m::ms,lM,u,a=>by simp only[cons_append,kk];exact NU ms lM u _
theorem nC (ms lM:List gL) (s:an):dB (ms++lM) s=dB lM (dB ms s):=by
 funext u;simp[dB,NU]
theorem Xs {ms:List gL} {s aA:an} {u:Nat} (h:aA u=s u):dB ms aA u=dB ms s u:=by simp[dB,h]
theorem vy (s:an) (x:Nat) (d:I):cK (hM x s) x d=dB [⟨.b4,x,d⟩] s:=by
 funext u;simp only[dB,kk,gL.at,cK,hM,rE.app]
theorem NV (s:an) (x:Nat) (d:I):cK (k8 x s) x d=dB [⟨.cu,x,d⟩] s:=by
 funext u;simp only[dB,kk,gL.at,cK,k8,rE.app]
theorem NW (s:an) (x:Nat) (d:I):cK s x d=dB [⟨.no,x,d⟩] s:=by
 funext u;simp only[dB,kk,gL.at,cK,rE.app]
mutual
theorem Ah {x:Nat}:∀a:I,x∉a.U->b4 x a=a
 | .h y q,h=>by
   simp only[I.U,mem_singleton]at h;simp only[b4];rw[if_neg (λe=>h e.symm)]
 | .al y q,h=>by
   simp only[I.U,mem_singleton]at h;simp only[b4];rw[if_neg (λe=>h e.symm)]
 | .R y q,h=>rfl
 | .fn f cap,h=>by simp only[b4];rw[NX cap (by simpa [I.U]using h)]
 | .hole,_=>rfl
 | .bool _,_=>rfl
 | .fj,_=>rfl
 | .int _ _,_=>rfl
 | .str _,_=>rfl
 | .dq,_=>rfl
 | .bd,_=>rfl
 | .slice _,_=>rfl
 | .ah _ _,_=>rfl
 | .ref _,_=>rfl
 | .aV _,_=>rfl
 | .agg _,_=>rfl
 | .tuple _,_=>rfl
 | .cc _,_=>rfl
 | .bm _ _,_=>rfl
 | .cX _,_=>rfl
theorem NX {x:Nat}:∀ds:anZ,x∉I.dL ds->iP x ds=ds
 |[],_=>rfl
 |d::ds,h=>by
  simp only[I.dL,mem_append,not_or]at h;simp only[iP];rw[Ah d h.1,NX ds h.2]
end
mutual
theorem Hf {x:Nat}:∀a:I,x∉a.U->cu x a=a
 | .h y q,h=>by
   simp only[I.U,mem_singleton]at h;simp only[cu];rw[if_neg (λe=>h e.symm)]
 | .al y q,h=>by
   simp only[I.U,mem_singleton]at h;simp only[cu];rw[if_neg (λe=>h e.symm)]
 | .R y q,h=>by
   simp only[I.U,mem_singleton]at h;simp only[cu];rw[if_neg (λe=>h e.symm)]
 | .fn f cap,h=>by simp only[cu];rw[NY cap (by simpa [I.U]using h)]
 | .hole,_=>rfl
 | .bool _,_=>rfl
 | .fj,_=>rfl
 | .int _ _,_=>rfl
 | .str _,_=>rfl
 | .dq,_=>rfl
 | .bd,_=>rfl
 | .slice _,_=>rfl
 | .ah _ _,_=>rfl
 | .ref _,_=>rfl
 | .aV _,_=>rfl
 | .agg _,_=>rfl
 | .tuple _,_=>rfl
 | .cc _,_=>rfl
 | .bm _ _,_=>rfl
 | .cX _,_=>rfl
theorem NY {x:Nat}:∀ds:anZ,x∉I.dL ds->jt x ds=ds
 |[],_=>rfl
 |d::ds,h=>by
  simp only[I.dL,mem_append,not_or]at h;simp only[jt];rw[Hf d h.1,NY ds h.2]
end
theorem Ai {k:rE} {x:Nat} {a:I} (h:k= .no\/x∉a.U):k.app x a=a:=by
 cases k with
 |no=>rfl
 |b4=>exact Ah a (by simpa using h)
 |cu=>exact Hf a (by simpa using h)
mutual
theorem NZ (x y:Nat):∀a:I,b4 x (b4 y a)=b4 y (b4 x a)
 | .h z q=>by simp only[b4];by_cases h1:z=x<;>by_cases ab:z=y<;>by_cases ay:q=[]<;>simp[h1,ab,ay,b4]<;>(subst_vars;simp_all [b4])
 | .al z q=>by simp only[b4];by_cases h1:z=x<;>by_cases ab:z=y<;>simp[h1,ab,b4]<;>(subst_vars;simp_all [b4])
 | .R z q=>rfl
 | .fn f cap=>by simp only[b4];rw[N0 x y cap]
 | .hole=>rfl
 | .bool _=>rfl
 | .fj=>rfl
 | .int _ _=>rfl
 | .str _=>rfl
 | .dq=>rfl
 | .bd=>rfl
 | .slice _=>rfl
 | .ah _ _=>rfl
 | .ref _=>rfl
 | .aV _=>rfl
 | .agg _=>rfl
 | .tuple _=>rfl
 | .cc _=>rfl
 | .bm _ _=>rfl
 | .cX _=>rfl
theorem N0 (x y:Nat):∀ds:anZ,iP x (iP y ds)=iP y (iP x ds)
 |[]=>rfl
 |d::ds=>by simp only[iP];rw[NZ x y d,N0 x y ds]
end
mutual
theorem N1 (x y:Nat):∀a:I,cu x (cu y a)=cu y (cu x a)
 | .h z q=>by simp only[cu];by_cases h1:z=x<;>by_cases ab:z=y<;>simp[h1,ab,cu]<;>(subst_vars;simp_all [cu])
 | .al z q=>by simp only[cu];by_cases h1:z=x<;>by_cases ab:z=y<;>simp[h1,ab,cu]<;>(subst_vars;simp_all [cu])
 | .R z q=>by simp only[cu];by_cases h1:z=x<;>by_cases ab:z=y<;>simp[h1,ab,cu]<;>(subst_vars;simp_all [cu])
 | .fn f cap=>by simp only[cu];rw[N2 x y cap]
 | .hole=>rfl
 | .bool _=>rfl
 | .fj=>rfl
 | .int _ _=>rfl
 | .str _=>rfl
 | .dq=>rfl
 | .bd=>rfl
 | .slice _=>rfl
 | .ah _ _=>rfl
 | .ref _=>rfl
 | .aV _=>rfl
 | .agg _=>rfl
 | .tuple _=>rfl
 | .cc _=>rfl
 | .bm _ _=>rfl
 | .cX _=>rfl
theorem N2 (x y:Nat):∀ds:anZ,jt x (jt y ds)=jt y (jt x ds)
 |[]=>rfl
 |d::ds=>by simp only[jt];rw[N1 x y d,N2 x y ds]
end
mutual
theorem Hg (x y:Nat):∀a:I,b4 x (cu y a)=cu y (b4 x a)
 | .h z q=>by simp only[cu,b4];by_cases h1:z=x<;>by_cases ab:z=y<;>by_cases ay:q=[]<;>simp[h1,ab,ay,cu,b4]<;>(subst_vars;simp_all [cu,b4])
 | .al z q=>by simp only[cu,b4];by_cases h1:z=x<;>by_cases ab:z=y<;>simp[h1,ab,cu,b4]<;>(subst_vars;simp_all [cu,b4])
 | .R z q=>by simp only[cu,b4];by_cases ab:z=y<;>simp[ab,b4]
 | .fn f cap=>by simp only[cu,b4];rw[N3 x y cap]
 | .hole=>rfl
 | .bool _=>rfl
 | .fj=>rfl
 | .int _ _=>rfl
 | .str _=>rfl
 | .dq=>rfl
 | .bd=>rfl
 | .slice _=>rfl
 | .ah _ _=>rfl
 | .ref _=>rfl
 | .aV _=>rfl
 | .agg _=>rfl
 | .tuple _=>rfl
 | .cc _=>rfl
 | .bm _ _=>rfl
 | .cX _=>rfl
theorem N3 (x y:Nat):∀ds:anZ,iP x (jt y ds)=jt y (iP x ds)
 |[]=>rfl
 |d::ds=>by simp only[jt,iP];rw[Hg x y d,N3 x y ds]
end
theorem Xt (k l:rE) (x y:Nat) (a:I):k.app x (l.app y a)=l.app y (k.app x a):=by
 cases k<;>cases l<;>simp only[rE.app]<;>first|rfl|exact NZ .. |exact N1 .. |exact Hg .. |exact(Hg ..).symm
def aX.use (s:an):aX->anU
 | .t n=>n::(s n).U
 | .c av=>av.U
 | .f _=>[]
def aX.qs (s:an):List aX->anU
 |[]=>[]
 |x::xs=>x.use s++aX.qs s xs
def Hh (s:an):Option aX->anU
 |none=>[]
 |some x=>x.use s
def use (s:an):dK->anU
 | .fC x=>x.use s
 | .iB x=>x.use s
 | .pick c a b=>c.use s++(a.use s++b.use s)
 | .nw _=>[]
 | .h2 _ x=>x.use s
 | .ij _ ps=>aX.qs s (ps.map (·.2))
 | .ei _ _ ps=>aX.qs s (ps.map (·.2))
 | .ld _ x=>x.use s
 | .ki _ x y=>x.use s++y.use s
 | .jx x=>x.use s
 | .ef _ _ x y=>x.use s++y.use s
 | .un _ x=>x.use s
 | .je _ _ x=>x.use s
 | .o1 _ cs=>aX.qs s cs
 | .eL _ l c=>l.use s++c.use s
 | .fR _ x eK ak=>x.use s++(Hh s eK++Hh s ak)
 | .hq _ x _=>x.use s
 | .jb _ x i=>x.use s++i.use s
 | .idx _ x i=>x.use s++i.use s
 | .ex x _=>x.use s
 | .ny _ x _=>x.use s
 | .call f args=>f.use s++aX.qs s args
 | .len _ x=>x.use s
 | .app _ _ x y=>x.use s++y.use s
 | .shr bz=>use s bz
 | .mo f args us=>us.flatMap (λu=>u::(s u).U)++(f.use s++aX.qs s args)
 | .jR _ x=>x.use s
 | .rD=>[]
 | .il _ x i=>x.use s++i.use s
 | .jz _ x i v=>x.use s++(i.use s++v.use s)
 | .iV _ _ x y=>x.use s++y.use s
 | .cap _ x=>x.use s
 | .jf _ x y=>x.use s++y.use s
 | .bad=>[]
def kl (s:an):dK->anU
 | .iB x=>(a6 s x).U
 | .h2 _ x=>(a6 s x).U
 | .ij _ ps=>I.dL (ps.map λp=>a6 s p.2)
 | .ei _ _ ps=>I.dL (ps.map λp=>a6 s p.2)
 | .ki _ x y=>(a6 s x).U++(a6 s y).U
 | .ny _ x _=>(a6 s x).U
 | .jz _ x _ _=>(a6 s x).U
 | .fR _ x _ _=>(a6 s x).U
 | .app _ _ x y=>(a6 s x).U++(a6 s y).U
 | .shr bz=>kl s bz
 |_=>[]
def du (b5:anU) (aA s:an):Prop:=∀u∈b5,aA u=s u
theorem du.left {b5 V:anU} {aA s:an} (h:du (b5++V) aA s):du b5 aA s:=λu hu=>h u (mem_append_left _ hu)
theorem du.right {b5 V:anU} {aA s:an} (h:du (b5++V) aA s):du V aA s:=λu hu=>h u (mem_append_right _ hu)
theorem du.dB {b5:anU} {aA s:an} (h:du b5 aA s) (ms:List gL):du b5 (dB ms aA) (dB ms s):=λu hu=>Xs (h u hu)
theorem du.sub {b5 V:anU} {aA s:an} (h:du b5 aA s) (U:∀u∈V,u∈b5):du V aA s:=λu hu=>h u (U u hu)
theorem aX.vz {s:an} {x:aX}:∀u∈(a6 s x).U,u∈x.use s:=by
 intro u hu;cases x with
 |t n=>
  simp only[a6,mi]at hu;split at hu
  .simp[aX.use,hu]
  .simp only[I.U,mem_singleton]at hu;simp[aX.use,hu]
 |c av=>exact hu
 |f g=>simp[a6,I.U,I.dL]at hu
theorem aX.fD {s aA:an} {x:aX} (h:du (x.use s) aA s):a6 aA x=a6 s x:=by
 cases x with
 |t n=>simp only[a6];rw[h n (by simp[aX.use])]
 |c av=>rfl
 |f g=>rfl
theorem du.a6 {s aA:an} {x:aX} (h:du (x.use s) aA s):du (a6 s x).U aA s:=h.sub aX.vz
theorem N4 {s aA:an} {x:Option aX} (h:du (Hh s x) aA s):x.map (a6 aA)=x.map (a6 s):=by
 cases x with
 |none=>rfl
 |some x=>simp only[Option.map_some];rw[aX.fD h]
theorem aX.Hi {s aA:an}:∀{xs:List aX},du (aX.qs s xs) aA s->xs.map (a6 aA)=xs.map (a6 s)
 |[],_=>rfl
 |x::xs,h=>by
  simp only[map_cons];rw[aX.fD (h.left),aX.Hi (h.right)]
theorem aX.Hj {s aA:an}:∀{ps:List (Nat×aX)},du (aX.qs s (ps.map (·.2))) aA s->(ps.map λp=>(p.1,a6 aA p.2))=ps.map λp=>(p.1,a6 s p.2)
 |[],_=>rfl
 |x::xs,h=>by
  simp only[map_cons]at h⊢;rw[aX.fD (h.left),aX.Hj (h.right)]
theorem aX.Dl {s:an}:∀{xs:List aX},∀u∈I.dL (xs.map (a6 s)),u∈aX.qs s xs
 |[],u,h=>by simp[I.dL]at h
 |x::xs,u,h=>by
  simp only[map_cons,I.dL,mem_append]at h;simp only[aX.qs,mem_append];exact h.imp (aX.vz u) (aX.Dl u)
section
variable {C:bx} {s aA:an} {x y i:I} {T A B:TypeId}
theorem Hk (h:du x.U aA s):loc aA x=loc s x:=by
 cases x<;>first
  |rfl
  |(simp only[loc];rw[h _ (by simp[I.U])])
theorem Hl {z:Nat} {q:anU} (h:loc s x=some (z,q)):z∈x.U:=by
 cases x with
 |h y p=>
  simp only[loc]at h;split at h
  .simp only[Option.some.injEq,Prod.mk.injEq]at h;simp[I.U,h.1]
  .cases h
 |al y p=>
  simp only[loc]at h;split at h
  .simp only[Option.some.injEq,Prod.mk.injEq]at h;simp[I.U,h.1]
  .cases h
 |_=>simp[loc]at h
theorem Xu (h:du x.U aA s):ld C aA T x=ld C s T x:=by
 have hl:=Hk h;unfold ld;split
 .rfl
 .rw[h _ (by simp[I.U])]
 .rw[hl];split
  .rename_i e;rw[h _ (Hl e)]
  .rfl
theorem Xv {k:Nat} (h:du x.U aA s):hq C aA T x k=hq C s T x k:=by
 have hl:=Hk h;unfold hq;split
 .split
  .split
   .split
    .rfl
    .rw[h _ (by simp[I.U])]
    .rw[hl];split
     .rename_i e;rw[h _ (Hl e)]
     .rfl
   .rfl
  .rfl
 .rfl
theorem Xw (h:du x.U aA s):jb C aA T x i=jb C s T x i:=by
 cases x<;>first
  |rfl
  |(simp only[jb];rw[h _ (by simp[I.U])])
theorem Xx (h:du x.U aA s):sw C aA T x=sw C s T x:=by
 unfold sw;cases(C.T T).k<;>cases x<;>first
  |rfl
  |(simp only;rw[h _ (by simp[I.U])])
theorem Xy (h:du x.U aA s):je C aA A B x=je C s A B x:=by
 unfold je;cases(C.T B).k<;>cases x<;>first
  |rfl
  |(simp only;rw[h _ (by simp[I.U])])
theorem Xz (h:du x.U aA s):j7 aA x=j7 s x:=by
 cases x<;>first
  |rfl
  |(simp only[j7];rw[h _ (by simp[I.U])])
theorem XA (h:du x.U aA s):mm aA x=mm s x:=by
 cases x<;>first
  |rfl
  |(simp only[mm];rw[h _ (by simp[I.U])])
theorem XB {op:BinOp} (h:du x.U aA s):ef C aA op T x y=ef C s op T x y:=by
 have h1:=Xz h;have ab:=XA h;unfold ef;split<;>first|rfl|simp only[h1,ab]
theorem XC (h:du x.U aA s):jx aA x=jx s x:=by
 cases x<;>first
  |rfl
  |(simp only[jx];rw[h _ (by simp[I.U])])
theorem XD {k y:Nat} {q:anU} (h:ny C s T x k=some (.h y q)):x.U=[y]:=by
 unfold ny at h;split at h<;>try (cases h;done)
 split at h<;>try (cases h;done)
 split at h
 .split at h<;>try (cases h;done)
  split at h
  .rename_i ai;simp only[Option.some.injEq]at h;rw[h]at ai;exact absurd ai.2.2.2 (by simp[I.tree])
  .cases h
 .split at h<;>try (cases h;done)
  split at h<;>try (cases h;done)
  split at h<;>try (cases h;done)
  rename_i d ae ai;by_cases al:d.plain=true
  .simp only[al,if_true,Option.some.injEq]at h;rw[h]at ai;exact absurd ai.2.2.2 (by simp[I.tree])
  .simp only[al,Option.some.injEq]at h;injection h with h1 ab;subst h1;rfl
 .cases h
theorem N5 {k:Nat} (h:du x.U aA s):ny C aA T x k=ny C s T x k:=by
 unfold ny;split<;>try rfl
 split<;>try rfl
 cases x<;>first
  |rfl
  |(simp only[];rw[h _ (by simp[I.U])])
theorem XE {k:Nat} (h:du x.U aA s):ex aA x k=ex s x k:=by
 cases x<;>first
  |rfl
  |(simp only[ex];rw[h _ (by simp[I.U])])
theorem xF:∀(q:anU) (a d e:I),I.sub q a=some d->(d.plain=false\/q≠[])->(q=[]->e.U=[])->(I.put q e a).U=[]:=by
 intro q a d e h al he;cases q with
 |nil=>rw[I.put];exact he rfl
 |cons k q=>
  cases a<;>first
   |(simp[I.sub]at h;done)
   |skip
  all_goals
   unfold I.put
   repeat' split
   all_goals first|rfl|(simp_all;done)
end
def Loc {α:Type} (b5 xG:anU) (f:an->Option (α×an)) (s:an) (av:α) (s1:an):Prop:=
 ∃ms,s1=dB ms s/\(∀m∈ms,m.x∈xG/\m.d.U=[])/\∀aA,du b5 aA s->f aA=some (av,dB ms aA)
theorem Loc.pure {α:Type} {b5 xG:anU} {f:an->Option (α×an)} {s:an} {av:α} (h:∀aA,du b5 aA s->f aA=some (av,aA)):Loc b5 xG f s av s:=
 ⟨[],rfl,by simp,λaA U=>h aA U⟩
theorem Loc.mono {α:Type} {b5 xG Dm N6:anU} {f:an->Option (α×an)} {s s1:an} {av:α} (h:Loc b5 xG f s av s1) (rz:∀u∈b5,u∈Dm) (fK:∀u∈xG,u∈N6):Loc Dm N6 f s av s1:=by
 obtain⟨ms,h1,ab,ay⟩:=h;exact⟨ms,h1,λm hm=>⟨fK _ (ab m hm).1,(ab m hm).2⟩,λaA U=>ay aA (U.sub rz)⟩
section
variable {C:bx} {s s1:an} {x y d:I} {T A B:TypeId}
theorem tN (h:cy s x=some (d,s1)):Loc x.U x.U (λs=>cy s x) s d s1:=by
 cases x with
 |h y q=>
  simp only[cy]at h;split at h
  .rename_i e he;split at h
   .cases h
   .rename_i al;simp only[Option.some.injEq,Prod.mk.injEq]at h;obtain⟨rfl,rfl⟩:=h;have al:e.plain=false:=by simpa using al
    refine⟨[⟨.b4,y,I.put q e.cJ (s y)⟩],vy _ _ _,?_,?_⟩
    .intro m hm;simp only[mem_singleton]at hm;subst hm;refine⟨by simp[I.U],xF q _ _ _ he (.inl al) λca=>?_⟩;subst ca;cases e<;>first|(simp[I.plain]at al;done)|rfl
    .intro aA U;have aI:aA y=s y:=U y (by simp[I.U]);simp only[cy,aI,he,al];rw[<-vy];rfl
  .cases h
 |al y q=>simp[cy]at h
 |R y q=>simp[cy]at h
 |fn f c=>simp[cy]at h
 |hole=>simp[cy]at h
 |_=>
  simp only[cy,Option.some.injEq,Prod.mk.injEq]at h;obtain⟨rfl,rfl⟩:=h;exact .pure λaA _=>rfl
mutual
theorem N7 (x:Nat):∀a:I,∀u∈(b4 x a).U,u∈a.U
 | .h y q,u,h=>by
   simp only[b4]at h;split at h
   .split at h
    .exact h
    .simp[I.U]at h
   .exact h
 | .al y q,u,h=>by
   simp only[b4]at h;split at h
   .simp[I.U]at h
   .exact h
 | .R y q,u,h=>h
 | .fn f cap,u,h=>by simp only[b4,I.U]at h⊢;exact N8 x cap u h
 | .hole,u,h=>h
 | .bool _,u,h=>h
 | .fj,u,h=>h
 | .int _ _,u,h=>h
 | .str _,u,h=>h
 | .dq,u,h=>h
 | .bd,u,h=>h
 | .slice _,u,h=>h
 | .ah _ _,u,h=>h
 | .ref _,u,h=>h
 | .aV _,u,h=>h
 | .agg _,u,h=>h
 | .tuple _,u,h=>h
theorem N8 (x:Nat):∀ds:anZ,∀u∈I.dL (iP x ds),u∈I.dL ds
 |[],u,h=>h
 |d::ds,u,h=>by
  simp only[iP,I.dL,mem_append]at h⊢;exact h.imp (N7 x d u) (N8 x ds u)
end
theorem Hm (o:Option Nat) (a:I):∀u∈(k9 o a).U,u∈a.U:=by
 intro u h;cases o with
 |none=>exact h
 |some x=>exact N7 x a u h
theorem N9:∀(os:List (Option Nat)) (a:I),∀u∈(lL os a).U,u∈a.U:=by
 intro os;induction os with
 |nil=>intro a u h;exact h
 |cons o os ih=>intro a u h;exact Hm o a u (ih (k9 o a) u h)
theorem N_ {place:Nat->Option (Nat×Nat)}:∀{ps:anY} {s s1:an} {dX ds:anZ} {os:List (Option Nat)},kJ place s dX os ps=some (ds,s1)->
  Loc (I.dL (ps.map (·.2))) (I.dL (ps.map (·.2))) (λs=>kJ place s dX os ps) s ds s1:=by
 intro ps;induction ps with
 |nil=>
  intro s s1 dX ds os h;simp only[kJ,Option.some.injEq,Prod.mk.injEq]at h;obtain⟨rfl,rfl⟩:=h;exact .pure λaA _=>rfl
 |cons p ps ih=>
  intro s s1 dX ds os h;obtain⟨k,a⟩:=p;simp only[kJ]at h;split at h
  .rename_i d s2 off n z aL eA bC;split at h
   .cases h
   .rename_i bf ow;split at h
    .rename_i ai;obtain⟨qt,rfl,ab,ay⟩:=tN aL;obtain⟨tL,rfl,bp,bX⟩:=ih h;refine⟨qt++tL,(nC _ _ _).symm,?_,?_⟩
     .intro m hm;simp only[map_cons,I.dL,mem_append]at hm⊢;rcases hm with hm|hm
      .exact⟨.inl (N9 _ _ _ (ab m hm).1),(ab m hm).2⟩
      .exact⟨.inr (bp m hm).1,(bp m hm).2⟩
     .intro aA U;simp only[map_cons,I.dL]at U;have aI:=ay aA (U.left.sub (N9 _ _));have aM:=bX (dB qt aA) (U.right.dB qt);simp only at aI aM;simp only[kJ,aI,eA,bC,nC];rw[if_pos ai];exact aM
    .cases h
  .cases h
theorem XF {ps:anY} {av:I} (h:ij C s T ps=some (av,s1)):Loc (I.dL (ps.map (·.2))) (I.dL (ps.map (·.2))) (λs=>ij C s T ps) s av s1:=by
 unfold ij at h;split at h
 .rename_i aC dX hk bC;split at h
  .rename_i ai;split at h
   .rename_i ds s2 bc;simp only[Option.some.injEq,Prod.mk.injEq]at h;obtain⟨rfl,rfl⟩:=h;obtain⟨ms,h1,ab,ay⟩:=N_ bc;refine⟨ms,h1,ab,λaA U=>?_⟩;have:=ay aA U;simp only at this;simp only[ij,hk,bC,if_pos ai,this]
   .cases h
  .cases h
 .cases h
theorem XG {n:Nat} {ps:anY} {av:I} (h:ei C s T n ps=some (av,s1)):Loc (I.dL (ps.map (·.2))) (I.dL (ps.map (·.2))) (λs=>ei C s T n ps) s av s1:=by
 unfold ei at h;split at h
 .rename_i e hk;split at h
  .rename_i ai;split at h
   .rename_i ds s2 bc;simp only[Option.some.injEq,Prod.mk.injEq]at h;obtain⟨rfl,rfl⟩:=h;obtain⟨ms,h1,ab,ay⟩:=N_ bc;refine⟨ms,h1,ab,λaA U=>?_⟩;have:=ay aA U;simp only at this;simp only[ei,hk,if_pos ai,this]
   .cases h
  .cases h
 .cases h
theorem XH {av:I} (h:h2 s x=some (av,s1)):Loc x.U x.U (λs=>h2 s x) s av s1:=by
 unfold h2 at h;split at h
 .cases h
 .rename_i d s2 ow aL;simp only[Option.some.injEq,Prod.mk.injEq]at h;obtain⟨rfl,rfl⟩:=h;obtain⟨ms,h1,ab,ay⟩:=tN aL;refine⟨ms,h1,ab,λaA U=>?_⟩;have:=ay aA U;simp only at this;simp only[h2,this]
 .cases h
theorem XI {av:I} (h:jR s x=some (av,s1)):Loc x.U [] (λs=>jR s x) s av s1:=by
 unfold jR at h;split at h
 .rename_i y q;split at h
  .rename_i rq;simp only[Option.some.injEq,Prod.mk.injEq]at h;obtain⟨rfl,rfl⟩:=h;refine .pure λaA U=>?_;have e:aA y=s y:=U y (by simp[I.U]);simp only[jR,e,if_pos rq]
  .cases h
 .split at h
  .rename_i ai;simp only[Option.some.injEq,Prod.mk.injEq]at h;obtain⟨rfl,rfl⟩:=h;exact .pure λaA U=>by simp only[jR,ai,if_true]
  .cases h
 .cases h
theorem XJ {s2:an} (h:ki C s T x y=some s2):Loc (x.U++y.U) (x.U++y.U) (λs=>(ki C s T x y).map λs1=>(I.hole,s1)) s .hole s2:=by
 unfold ki at h;split at h
 .rename_i d s1 z q aL hl;obtain⟨ms,h1,ab,ay⟩:=tN aL;have bC:=Hl hl;have ca:q≠[]:=by
   cases x with
   |h y p=>
    simp only[loc]at hl;split at hl
    .simp only[Option.some.injEq,Prod.mk.injEq]at hl;simp[<-hl.2]
    .cases hl
   |al y p=>
    simp only[loc]at hl;split at hl
    .rename_i qi;simp only[Option.some.injEq,Prod.mk.injEq]at hl;obtain⟨rfl,rfl⟩:=hl;intro e;subst e;simp[I.fy]at qi
    .cases hl
   |_=>simp[loc]at hl
  split at h
  .cases h
  .rename_i bf ow;split at h
   .rename_i d0 om;split at h
    .rename_i ai;simp only[Option.some.injEq]at h;subst h;refine⟨ms++[⟨.b4,z,I.put q d (s z)⟩],?_,?_,?_⟩
     .rw[nC,<-h1,vy]
     .intro m hm;simp only[mem_append,mem_singleton]at hm⊢;rcases hm with hm|rfl
      .exact⟨.inr (ab m hm).1,(ab m hm).2⟩
      .exact⟨.inl bC,xF q _ _ _ om (.inr ca) λe=>(ca e).elim⟩
     .intro aA U;have aI:=ay aA U.right;simp only at aI;simp only[ki,aI,Hk U.left,hl,U.left z bC,om];cases d<;>first|(simp only[if_pos ai,Option.map_some,nC,vy];done)|exact(ow _ rfl).elim
    .cases h
   .cases h
 .cases h
theorem XK {eK ak:Option I} {av:I} (h:fR C s T x eK ak=some (av,s1)):Loc x.U x.U (λs=>fR C s T x eK ak) s av s1:=by
 cases x with
 |h y q=>
  unfold fR at h;split at h<;>first|(cases h;done)|skip
  all_goals (rename_i ag;try cases ag)
  rename_i e hk;split at h
  .rename_i sz xs eV;split at h
   .rename_i b lb nz;split at h
    .rename_i ai;split at h
     .rename_i d s2 aL;simp only[Option.some.injEq,Prod.mk.injEq]at h;obtain⟨rfl,rfl⟩:=h;obtain⟨ms,h1,ab,ay⟩:=tN aL;refine⟨ms,h1,ab,λaA U=>?_⟩;have:=ay aA U;simp only at this;have aI:aA y=s y:=U y (by simp[I.U]);simp only[fR,hk,aI,eV,lb,nz,if_pos ai,this]
     .cases h
    .cases h
   .cases h
  .cases h
 |_=>
  have rF:s1=s:=by
   unfold fR at h
   repeat' split at h
   all_goals first|(cases h;done)|(simp only[Option.some.injEq,Prod.mk.injEq]at h;exact h.2.symm)|simp_all
  subst rF;refine .pure λaA _=>?_;unfold fR at h⊢
  repeat' split at h
  all_goals first
   |(cases h;done)
   |(simp only[Option.some.injEq,Prod.mk.injEq]at h
     obtain⟨rfl,_⟩:=h;simp_all)
def rG (C:bx) (e:TypeId) (s:an):I->Option (I×an)
 | .bd=>some (I.ah (C.T e).sz [],s)
 | .h a q=>cy s (.h a q)
 |_=>none
def mq (s1:an):I->Option (anZ×an)
 | .bd=>some ([],s1)
 | .slice ys=>some (ys,s1)
 | .str l=>some (l.map hv,s1)
 | .h a q=>match cy s1 (.h a q)with
   |some (.ah _ ys,s2)=>some (ys,s2)
   |_=>none
 |_=>none
theorem Hn (C:bx) (s:an) (T b5:TypeId) (x y:I):sA C s T b5 x y=(match(C.T T).k with
 | .slice e=>if(C.T e).ok=true/\(C.T e).zero.wd=(C.T e).sz/\(flat (C.T e).zero).isSome=true/\Dc C e b5=true then
   match rG C e s x with
   |some (.ah sz xs,s1)=>if sz=(C.T e).sz then
     match mq s1 (k9 x.owner y)with
     |some (ys,s2)=>if(∀d∈ys,d.wd=(C.T e).sz)/\(xs.length+ys.length)*(C.T e).bytes<=140737488355328/\xs.length+ys.length<=9223372036854775807 then some (.ah sz (xs++ys),s2)else none
     |none=>none
    else none
   |_=>none
   else none
 |_=>none):=by
 unfold sA;generalize k9 x.owner y=lJ;cases(C.T T).k<;>first
  |rfl
  |(cases x<;>cases lJ<;>rfl)
theorem XL {e:TypeId} {d:I} (h1:rG C e s x=some (d,s1)):Loc x.U x.U (λs=>rG C e s x) s d s1:=by
 cases x with
 |bd=>
  simp only[rG,Option.some.injEq,Prod.mk.injEq]at h1;obtain⟨h1,rfl⟩:=h1;exact .pure λaA _=>by simp only[rG,h1]
 |h a q=>exact tN h1
 |_=>simp[rG]at h1
theorem XM {ys:anZ} (ab:mq s y=some (ys,s1)):Loc y.U y.U (λs=>mq s y) s ys s1:=by
 cases y with
 |bd=>
  simp only[mq,Option.some.injEq,Prod.mk.injEq]at ab;obtain⟨rfl,rfl⟩:=ab;exact .pure λaA _=>rfl
 |slice ys=>
  simp only[mq,Option.some.injEq,Prod.mk.injEq]at ab;obtain⟨rfl,rfl⟩:=ab;exact .pure λaA _=>rfl
 |str l=>
  simp only[mq,Option.some.injEq,Prod.mk.injEq]at ab;obtain⟨rfl,rfl⟩:=ab;exact .pure λaA _=>rfl
 |h a q=>
  simp only[mq]at ab;split at ab
  .rename_i WY amv mQ aL;simp only[Option.some.injEq,Prod.mk.injEq]at ab;obtain⟨rfl,rfl⟩:=ab;obtain⟨ms,g1,g2,g3⟩:=tN aL;refine⟨ms,g1,g2,λaA U=>?_⟩;have:=g3 aA U;simp only at this;simp only[mq,this]
  .cases ab
 |_=>simp[mq]at ab
theorem XN {av:I} (h:sA C s T A x y=some (av,s1)):Loc (x.U++y.U) (x.U++y.U) (λs=>sA C s T A x y) s av s1:=by
 rw[Hn]at h;split at h
 .rename_i e hk;split at h
  .rename_i ai;split at h
   .rename_i sz xs s2 h1;split at h
    .rename_i dr;split at h
     .rename_i ys gz ab;split at h
      .rename_i oV;simp only[Option.some.injEq,Prod.mk.injEq]at h;obtain⟨rfl,rfl⟩:=h;obtain⟨qt,rfl,a2,a3⟩:=XL h1;obtain⟨tL,rfl,gJ,iT⟩:=(XM ab).mono (Hm _ _) (Hm _ _);refine⟨qt++tL,(nC _ _ _).symm,?_,?_⟩
       .intro m hm;simp only[mem_append]at hm⊢;rcases hm with hm|hm
        .exact⟨.inl (a2 m hm).1,(a2 m hm).2⟩
        .exact⟨.inr (gJ m hm).1,(gJ m hm).2⟩
       .intro aA U;have aI:=a3 aA U.left;have aM:=iT (dB qt aA) (U.right.dB qt);simp only at aI aM;simp only[Hn,hk,if_pos ai,aI,if_pos dr,aM,if_pos oV,nC]
      .cases h
     .cases h
    .cases h
   .cases h
  .cases h
 .cases h
theorem XO {aA:an} {i:I} (h:du x.U aA s):il C aA T x i=il C s T x i:=by
 cases x with
 |h y q=>cases i<;>simp only[il,h y (by simp[I.U])]
 |_=>rfl
theorem XP {i v:I} {s2:an} (h:jz C s T x i v=some s2):Loc x.U x.U (λs=>(jz C s T x i v).map λs1=>(I.hole,s1)) s .hole s2:=by
 unfold jz at h;split at h
 .rename_i y q k b;split at h
  .rename_i m ae;split at h
   .rename_i fK;simp only[Option.some.injEq]at h;subst h;refine⟨[⟨.b4,y,I.put q (.cc (.mp (kF k b m))) (s y)⟩],vy _ _ _,?_,λaA U=>?_⟩
    .intro n aN;simp only[mem_singleton]at aN;subst aN;exact⟨by simp[I.U],xF q _ _ _ ae (.inl rfl) λ_=>rfl⟩
    .have aI:aA y=s y:=U y (by simp[I.U]);simp only[jz,aI,ae,fK,if_true,Option.map_some];rw[<-vy]
   .cases h
  .cases h
 .cases h
theorem Oa {bz:dK} {av:I} (h:bJ C s bz=some (av,s1)):Loc (use s bz) (kl s bz) (λs=>bJ C s bz) s av s1:=by
 cases bz with
 |shr bz=>simp[bJ]at h
 |mo f args L=>simp[bJ]at h
 |jR T x=>
  obtain⟨ms,h1,ab,ay⟩:=XI h;refine⟨ms,h1,ab,λaA U=>?_⟩;simp only[bJ,aX.fD (x:=x) U];exact ay aA (du.a6 U)
 |iV T b5 x y=>
  simp only[bJ,Option.map_eq_some_iff,Prod.mk.injEq]at h;obtain⟨d,ae,rfl,rfl⟩:=h;exact .pure λaA U=>by
   simp only[use]at U;simp only[bJ,aX.fD (x:=x) U.left,aX.fD (x:=y) U.right,ae,Option.map_some]
 |bad=>simp[bJ]at h
 |jf eI x y=>
  simp only[bJ,Option.map_eq_some_iff,Prod.mk.injEq]at h;obtain⟨d,ae,rfl,rfl⟩:=h;exact .pure λaA U=>by
   simp only[use]at U;simp only[bJ,aX.fD (x:=x) U.left,aX.fD (x:=y) U.right,ae,Option.map_some]
 |cap T x=>
  simp only[bJ]at h;split at h
  .rename_i e hk ag;simp only[Option.some.injEq,Prod.mk.injEq]at h;obtain⟨rfl,rfl⟩:=h;exact .pure λaA U=>by simp only[bJ,aX.fD (x:=x) U,hk,ag]
  .cases h
 |fC x=>
  simp only[bJ,Option.some.injEq,Prod.mk.injEq]at h;obtain⟨rfl,rfl⟩:=h;exact .pure λaA U=>by simp only[bJ,aX.fD (x:=x) U]
 |iB x=>
  simp only[bJ]at h;split at h
  .rename_i y q ag;obtain⟨ms,h1,ab,ay⟩:=tN h;refine⟨ms,h1,by simpa only[kl,ag]using ab,λaA U=>?_⟩;have e:=aX.fD (x:=x) U;have aM:=ay aA (by rw[<-ag];exact du.a6 U);simp only[bJ,e,ag];exact aM
  .rename_i XQ;simp only[Option.some.injEq,Prod.mk.injEq]at h;obtain⟨rfl,rfl⟩:=h;refine .pure λaA U=>?_;have e:=aX.fD (x:=x) U;simp only[bJ,e]
 |pick c a b=>
  simp only[bJ]at h;split at h
  .rename_i e8 R;simp only[Option.some.injEq,Prod.mk.injEq]at h;obtain⟨rfl,rfl⟩:=h;refine .pure λaA U=>?_;simp only[use]at U;simp only[bJ,aX.fD (x:=c) U.left,aX.fD (x:=a) U.right.left,aX.fD (x:=b) U.right.right,R]
  .cases h
 |nw T=>
  simp only[bJ,Option.map_eq_some_iff,Prod.mk.injEq]at h;obtain⟨d,ae,rfl,rfl⟩:=h;exact .pure λaA U=>by simp only[bJ,ae,Option.map_some]
 |h2 T x=>
  obtain⟨ms,h1,ab,ay⟩:=XH h;refine⟨ms,h1,ab,λaA U=>?_⟩;simp only[bJ,aX.fD (x:=x) U];exact ay aA (du.a6 U)
 |ij T ps=>
  obtain⟨ms,h1,ab,ay⟩:=XF h;simp only[List.map_map,Function.comp_def]at ab ay;refine⟨ms,h1,ab,λaA U=>?_⟩;simp only[bJ,aX.Hj (ps:=ps) U];refine ay aA (U.sub λu hu=>?_);simp only[use];exact aX.Dl u (by simpa [List.map_map,Function.comp_def]using hu)
 |ei T n ps=>
  obtain⟨ms,h1,ab,ay⟩:=XG h;simp only[List.map_map,Function.comp_def]at ab ay;refine⟨ms,h1,ab,λaA U=>?_⟩;simp only[bJ,aX.Hj (ps:=ps) U];refine ay aA (U.sub λu hu=>?_);simp only[use];exact aX.Dl u (by simpa [List.map_map,Function.comp_def]using hu)
 |ld T x=>
  simp only[bJ,Option.map_eq_some_iff,Prod.mk.injEq]at h;obtain⟨d,ae,rfl,rfl⟩:=h;exact .pure λaA U=>by simp only[bJ,aX.fD (x:=x) U,Xu (du.a6 U),ae,Option.map_some]
 |ki T x y=>
  simp only[bJ,Option.map_eq_some_iff,Prod.mk.injEq]at h;obtain⟨s2,ae,rfl,rfl⟩:=h;obtain⟨ms,h1,ab,ay⟩:=XJ ae;refine⟨ms,h1,ab,λaA U=>?_⟩;simp only[use]at U;simp only[bJ,aX.fD (x:=x) U.left,aX.fD (x:=y) U.right];exact ay aA (U.sub λu hu=>by simp only[mem_append]at hu⊢;exact hu.imp (aX.vz u) (aX.vz u))
 |jx x=>
  simp only[bJ,Option.map_eq_some_iff,Prod.mk.injEq]at h;obtain⟨d,ae,rfl,rfl⟩:=h;exact .pure λaA U=>by simp only[bJ,aX.fD (x:=x) U,XC (du.a6 U),ae,Option.map_some]
 |ef op T x y=>
  simp only[bJ,Option.map_eq_some_iff,Prod.mk.injEq]at h;obtain⟨d,ae,rfl,rfl⟩:=h;refine .pure λaA U=>?_;simp only[use]at U;simp only[bJ,aX.fD (x:=x) U.left,aX.fD (x:=y) U.right,XB (du.a6 U.left),ae,Option.map_some]
 |un op x=>
  simp only[bJ,Option.map_eq_some_iff,Prod.mk.injEq]at h;obtain⟨d,ae,rfl,rfl⟩:=h;exact .pure λaA U=>by simp only[bJ,aX.fD (x:=x) U,ae,Option.map_some]
 |je A B x=>
  simp only[bJ,Option.map_eq_some_iff,Prod.mk.injEq]at h;obtain⟨d,ae,rfl,rfl⟩:=h;exact .pure λaA U=>by simp only[bJ,aX.fD (x:=x) U,Xy (du.a6 U),ae,Option.map_some]
 |o1 f cs=>
  simp only[bJ,Option.some.injEq,Prod.mk.injEq]at h;obtain⟨rfl,rfl⟩:=h;exact .pure λaA U=>by simp only[bJ,aX.Hi (xs:=cs) U]
 |eL T l c=>
  simp only[bJ,Option.map_eq_some_iff,Prod.mk.injEq]at h;obtain⟨d,ae,rfl,rfl⟩:=h;refine .pure λaA U=>?_;simp only[use]at U;simp only[bJ,aX.fD (x:=l) U.left,aX.fD (x:=c) U.right,ae,Option.map_some]
 |fR T x eK ak=>
  simp only[bJ]at h;obtain⟨ms,h1,ab,ay⟩:=XK h;refine⟨ms,h1,ab,λaA U=>?_⟩;simp only[use]at U;simp only[bJ,aX.fD (x:=x) U.left,N4 U.right.left,N4 U.right.right];exact ay aA (du.a6 U.left)
 |hq T x k=>
  simp only[bJ,Option.map_eq_some_iff,Prod.mk.injEq]at h;obtain⟨d,ae,rfl,rfl⟩:=h;exact .pure λaA U=>by simp only[bJ,aX.fD (x:=x) U,Xv (du.a6 U),ae,Option.map_some]
 |jb T x i=>
  simp only[bJ,Option.map_eq_some_iff,Prod.mk.injEq]at h;obtain⟨d,ae,rfl,rfl⟩:=h;refine .pure λaA U=>?_;simp only[use]at U;simp only[bJ,aX.fD (x:=x) U.left,aX.fD (x:=i) U.right,Xw (du.a6 U.left),ae,Option.map_some]
 |idx T x i=>
  simp only[bJ,Option.map_eq_some_iff,Prod.mk.injEq]at h;obtain⟨d,ae,rfl,rfl⟩:=h;refine .pure λaA U=>?_;simp only[use]at U;simp only[bJ,aX.fD (x:=x) U.left,aX.fD (x:=i) U.right,ae,Option.map_some]
 |ex x k=>
  simp only[bJ,Option.map_eq_some_iff,Prod.mk.injEq]at h;obtain⟨d,ae,rfl,rfl⟩:=h;exact .pure λaA U=>by simp only[bJ,aX.fD (x:=x) U,XE (du.a6 U),ae,Option.map_some]
 |rD=>
  simp only[bJ,Option.some.injEq,Prod.mk.injEq]at h;obtain⟨rfl,rfl⟩:=h;exact .pure λaA U=>rfl
 |il T x i=>
  simp only[bJ,Option.map_eq_some_iff,Prod.mk.injEq]at h;obtain⟨d,ae,rfl,rfl⟩:=h;refine .pure λaA U=>?_;simp only[use]at U;simp only[bJ,aX.fD (x:=x) U.left,aX.fD (x:=i) U.right,XO (du.a6 U.left),ae,Option.map_some]
 |jz T x i v=>
  simp only[bJ,Option.map_eq_some_iff,Prod.mk.injEq]at h;obtain⟨s2,ae,rfl,rfl⟩:=h;obtain⟨ms,h1,ab,ay⟩:=XP ae;refine⟨ms,h1,ab,λaA U=>?_⟩;simp only[use]at U;simp only[bJ,aX.fD (x:=x) U.left,aX.fD (x:=i) U.right.left,aX.fD (x:=v) U.right.right];exact ay aA (du.a6 U.left)
 |ny T x k=>
  simp only[bJ,Option.bind_eq_some_iff]at h;obtain⟨d,ae,h⟩:=h;unfold Ag at h;split at h
  .rename_i y q;have ag:=XD ae;obtain⟨ms,h1,ab,ay⟩:=tN h;refine⟨ms,h1,by simpa only[kl,ag,I.U]using ab,λaA U=>?_⟩;have aM:=ay aA (by rw[show(I.h y q).U=(a6 s x).U from ag.symm];exact du.a6 U);simp only[bJ,aX.fD (x:=x) U,N5 (du.a6 U),ae,Option.bind_some,Ag];exact aM
  .rename_i XQ;simp only[Option.some.injEq,Prod.mk.injEq]at h;obtain⟨rfl,rfl⟩:=h;refine .pure λaA U=>?_;simp only[bJ,aX.fD (x:=x) U,N5 (du.a6 U),ae,Option.bind_some,Ag]
 |call f args=>simp[bJ]at h
 |len T x=>
  simp only[bJ,Option.map_eq_some_iff,Prod.mk.injEq]at h;obtain⟨d,ae,rfl,rfl⟩:=h;exact .pure λaA U=>by simp only[bJ,aX.fD (x:=x) U,Xx (du.a6 U),ae,Option.map_some]
 |app T b5 x y=>
  obtain⟨ms,h1,ab,ay⟩:=XN h;refine⟨ms,h1,ab,λaA U=>?_⟩;simp only[use]at U;simp only[bJ,aX.fD (x:=x) U.left,aX.fD (x:=y) U.right];exact ay aA (U.sub λu hu=>by simp only[mem_append]at hu⊢;exact hu.imp (aX.vz u) (aX.vz u))
end
mutual
def view (s:an):I->Option I
 | .h x q=>match I.sub q (s x)with
   |some d=>(match d with| .tuple _=>none| .cc _=>none| .bm _ _=>none| .cX _=>none|d=>if d.plain then none else some d.share)
   |none=>none
 | .al x q=>if I.fy q (s x)then(match I.sub q (s x)with
   |some d=>(match d with| .tuple _=>none|d=>some (.ref d.share))
   |none=>none)else none
 | .R _ _=>none
 | .fn f cap=>(views s cap).map (.fn f)
 | .hole=>none
 |d=>some d
def views (s:an):anZ->Option anZ
 |[]=>some []
 |d::ds=>match view s d,views s ds with
  |some a,some b=>some (a::b)
  |_,_=>none
end
mutual
theorem Ho:∀d:I,d.share.plain=true
 | .hole=>rfl
 | .bool _=>rfl
 | .fj=>rfl
 | .int _ _=>rfl
 | .str _=>rfl
 | .dq=>rfl
 | .bd=>rfl
 | .slice _=>rfl
 | .ah _ _=>rfl
 | .ref _=>rfl
 | .aV _=>rfl
 | .agg aC=>by simp only[I.share,I.plain];exact Hp aC
 | .tuple aC=>by simp only[I.share,I.plain];exact Hp aC
 | .fn _ _=>rfl
 | .h _ _=>rfl
 | .al _ _=>rfl
 | .R _ _=>rfl
 | .cc _=>rfl
 | .bm _ _=>rfl
 | .cX _=>rfl
theorem Hp:∀ds:anZ,I.dS (I.shares ds)=true
 |[]=>rfl
 |d::ds=>by simp only[I.shares,I.dS];rw[Ho d,Hp ds];rfl
end
theorem Ob {s:an} {a d:I} (h:a.plain=true) (he:view s a=some d):d.plain=true:=by
 cases a with
 |h x q=>
  simp only[view]at he;split at he
  .rename_i e eV;cases e<;>simp only at he<;>first
    |(cases he;done)
    |(split at he
      .cases he
      .simp only[Option.some.injEq]at he;subst he;exact Ho _)
  .cases he
 |al x q=>
  simp only[view]at he;split at he
  .split at he
   .rename_i e eV;cases e<;>simp only at he<;>first
     |(cases he;done)
     |(simp only[Option.some.injEq]at he;subst he;rfl)
   .cases he
  .cases he
 |fn f cap=>
  simp only[view,Option.map_eq_some_iff]at he;obtain⟨ds,_,rfl⟩:=he;rfl
 |hole=>simp[view]at he
 |R y q=>simp[view]at he
 |_=>simp only[view,Option.some.injEq]at he;subst he;exact h
theorem Hq {d:I} {v:Value} (h1:∀vs,d≠.tuple vs) (h:c7 d v):c7 d.share v:=by
 cases d<;>first|exact h|exact(h1 _ rfl).elim
theorem XR (w:World):∀(q:anU) (av d bf:I) (cs cx:anX) (a bN:Option (Nat×Nat)),I.sub q av=some d->bf.wd=d.wd->c6 w q av cs a=some (d,cx,bN)->
  c6 w q (I.put q bf av) cs a=some (bf,cx,bN):=by
 intro q;induction q with
 |nil=>
  intro av d bf cs cx a bN ae hw h;simp only[c6,Option.some.injEq,Prod.mk.injEq]at h;obtain⟨rfl,rfl,rfl⟩:=h;simp only[I.put,c6]
 |cons k q ih=>
  intro av d bf cs cx a bN ae hw h;cases av with
  |agg aC=>
   simp only[I.sub]at ae;split at ae
   .rename_i x ag;have hk:k<aC.length:=(List.getElem?_eq_some_iff.1 ag).1;simp only[c6,ag]at h;simp only[I.put,ag,c6];rw[getElem?_set_self hk];simp only[take_set_of_le (Nat.le_refl k),I.xl q x d bf ae hw];exact ih _ _ _ _ _ _ _ ae hw h
   .cases ae
  |tuple aC=>
   simp only[I.sub]at ae;split at ae
   .rename_i x ag;have hk:k<aC.length:=(List.getElem?_eq_some_iff.1 ag).1;simp only[c6,ag]at h;simp only[I.put,ag,c6];rw[getElem?_set_self hk];simp only[take_set_of_le (Nat.le_refl k),I.xl q x d bf ae hw];exact ih _ _ _ _ _ _ _ ae hw h
   .cases ae
  |ah sz aC=>
   simp only[I.sub]at ae;split at ae
   .rename_i x ag;have hk:k<aC.length:=(List.getElem?_eq_some_iff.1 ag).1;have j8:(aC.set k (I.put q bf x))[k]? =some (I.put q bf x):=getElem?_set_self hk;simp only[I.put,ag];rw[c6.eq_def]at h⊢;simp only[ag]at h;simp only;rw[j8];split at h
    .rename_i aI;simp only[Option.some.injEq]at aI;subst aI;exact ih _ _ _ _ _ _ _ ae hw h
    .cases h
   .cases ae
  |aV x=>
   cases k with
   |zero=>
    simp only[I.sub]at ae;rw[c6.eq_def]at h⊢;simp only at h;simp only[I.put];split at h
    .rw[I.xl q x d bf ae hw];exact ih _ _ _ _ _ _ _ ae hw h
    .cases h
   |succ k=>simp[I.sub]at ae
  |_=>simp[I.sub]at ae
section
variable {w0 w aq:World} {F0 X F Fc:Nat->Prop} {S:Nat->Nat->Prop} {s aA:an} {au fJ:Nat->Value}
theorem Oc (h:bq w0 F0 X F S s au w) (a8:∀b,F b->Fc b):∀n,
  (∀(a:I) (v:Value) (d:I),SizeOf.sizeOf a<=n->(∀t∈a.U,∀b,S t b->Fc b)->view s a=some d->aF w F s au a v (λ_=>False)->aF w Fc aA fJ d v (λ_=>False))/\
  (∀(as:anZ) (vs:anX) (ds:anZ),SizeOf.sizeOf as<=n->(∀t∈I.dL as,∀b,S t b->Fc b)->views s as=some ds->cV w F s au as vs->cV w Fc aA fJ ds vs):=by
 intro n;induction n with
 |zero=>exact⟨λa _ _ bC=>by cases a<;>simp at bC<;>omega,λas _ _ bC=>by cases as<;>simp at bC<;>omega⟩
 |succ n ih=>
  refine⟨λa v d bC bE he aD=>?_,λas vs ds bC bE he aD=>?_⟩
  .cases a with
   |h x q=>
    simp only[view]at he;split at he
    .rename_i e eV;have key:(∀aC,e≠.tuple aC)/\e.plain=false/\d=e.share/\(∀o,e≠.cc o)/\(∀f c,e≠.bm f c)/\∀c,e≠.cX c:=by
      cases e<;>simp only at he<;>first
       |(cases he;done)
       |(split at he
         .cases he
         .rename_i eA;simp only[Option.some.injEq]at he;exact⟨(λ_ h=>by cases h),by simpa using eA,he.symm,(λ_ h=>by cases h),(λ_ _ h=>by cases h),λ_ h=>by cases h⟩)
     obtain⟨ow,eA,rfl,iR,Hr,Hs⟩:=key;rw[aF]at aD;obtain⟨cx,bN,g1,g2,g3⟩:=aD e eV eA;have aL:=hL eV (.inl eA);have ag:=(aF.b_ aL).1 (h.cD x);obtain⟨fI,a2,dI,fg,k0,bT,b2,dm,de,e5⟩:=ctx q (s x) (bZ (au x)) (S x) none e ag.2 eV;rw[g1]at k0;simp only[Option.some.injEq,Prod.mk.injEq,true_and]at k0;obtain⟨rfl,rfl⟩:=k0;have GJ:e.share.tree=true:=by cases e<;>first|rfl|(simp[I.plain]at eA;done)|exact(iR _ rfl).elim|exact(Hr _ _ rfl).elim|exact(Hs _ rfl).elim
     have ax:=ar.shared a8 e cx fg (λb R=>bE x (by simp[I.U]) b (b2 b R)) de;exact(aF.b_ GJ).2 ⟨Hq ow g3,by rw[g2];exact ax⟩
    .cases he
   |al x q=>
    simp only[view]at he;split at he
    .rename_i qi;split at he
     .rename_i e eV;have key:(∀aC,e≠.tuple aC)/\d= .ref e.share:=by
       cases e<;>simp only at he<;>first
        |(cases he;done)
        |(simp only[Option.some.injEq]at he;exact⟨(λ_ h=>by cases h),he.symm⟩)
      obtain⟨ow,rfl⟩:=key;rw[aF]at aD;obtain⟨cx,b,o,g1,rfl⟩:=aD e eV qi;have aL:=hL eV (.inr qi);have ag:=(aF.b_ aL).1 (h.cD x);obtain⟨fI,a2,dI,fg,k0,bT,b2,dm,de,e5⟩:=ctx q (s x) (bZ (au x)) (S x) none e ag.2 eV;rw[g1]at k0;simp only[Option.some.injEq,Prod.mk.injEq,true_and]at k0;obtain⟨rfl,rfl⟩:=k0;have ax:=ar.shared a8 e cx fg (λb R=>bE x (by simp[I.U]) b (b2 b R)) de;rcases e5 with⟨l,r,_,aM,_⟩|⟨e8,cur,ty,fr,l,r,aI,aM,aP,bK,cg,_⟩
      .simp at aM
      .simp only[Option.some.injEq,Prod.mk.injEq]at aI;obtain⟨rfl,rfl⟩:=aI;refine(aF.b_ rfl).2 ⟨rfl,?_⟩;rw[ar];refine⟨b,l.length,cx,rfl,bE x (by simp[I.U]) b (bT b aM),?_,ax⟩;intro j c bo;simp only[World.cell?,aP];have ai:cur[l.length+j]? =some c:=by
        rw[<-Array.getElem?_toList,cg,getElem?_append_right (by omega),getElem?_append_left (by
         have:=(List.getElem?_eq_some_iff.1 bo).1;omega)]
        rw[<-bo];congr 1;omega
       simpa using ai
     .cases he
    .cases he
   |fn f cap=>
    simp only[view,Option.map_eq_some_iff]at he;obtain⟨ds,gA,rfl⟩:=he;rw[aF]at aD;obtain⟨arr,rfl,ai⟩:=aD;rw[aF];exact⟨arr,rfl,ih.2 cap _ _ (by simp at bC;omega) (by simpa [I.U]using bE) gA ai⟩
   |hole=>simp[view]at he
   |R y q=>simp[view]at he
   |_=>
    simp only[view,Option.some.injEq]at he;subst he;have ml:=(aF.b_ rfl).1 aD;exact(aF.b_ rfl).2 ⟨ml.1,ar.mono a8 _ _ _ _ (λ_ h=>h) ml.2⟩
  .cases as with
   |nil=>
    simp only[views,Option.some.injEq]at he;subst he;rw[cV]at aD⊢;exact aD
   |cons a as=>
    simp only[views]at he;split at he
    .rename_i d ds h1 ab;simp only[Option.some.injEq]at he;subst he;rw[cV]at aD⊢;obtain⟨v,eW,rfl,g1,g2⟩:=aD;simp at bC;simp only[I.dL,mem_append]at bE;exact⟨v,eW,rfl,ih.1 a v d (by omega) (λt aL=>bE t (.inl aL)) h1 g1,ih.2 as eW ds (by omega) (λt aL=>bE t (.inr aL)) ab g2⟩
    .cases he
theorem bq.im (h:bq w0 F0 X F S s au w) {x:Nat} {q:anU} {d0 bf:I} {cx:anX} {a:Option (Nat×Nat)} {Sn:Nat->Prop}
  (ae:I.sub q (s x)=some d0) (bc:c6 w q (s x) (bZ (au x)) none=some (d0,cx,a)) (ab:∀vs,bf≠.tuple vs) (aL:q=[]->bf.tree=true/\c7 bf (au x))
  (ay:∀k p,q=k::p->(s x).tree=true/\(∀v,ie d0 v->ie bf v)) (hw:bf.wd=d0.wd)
  (aD:ar w F bf cx Sn) (cp:∀b,Sn b->b<w.heap.size) (a8:∀b,Sn b->¬F b) (bE:∀u b,Sn b->¬S u b) (ba:∀b,Sn b->X b\/w0.heap.size<=b):
  bq w0 F0 X F (fY S x (λb=>S x b\/Sn b)) (cK (k8 x s) x (I.put q bf (s x))) au w:=by
 have dW:cK au x (au x)=au:=by funext u;simp only[cK];split<;>simp_all
 have main:(I.put q bf (s x)).tree=true/\c7 (I.put q bf (s x)) (au x)/\ar w F (I.put q bf (s x)) (bZ (au x)) (λb=>S x b\/Sn b):=by
  cases q with
  |nil=>
   simp only[c6,Option.some.injEq,Prod.mk.injEq]at bc;obtain⟨aI,aM,aP⟩:=bc;obtain⟨g1,g2⟩:=aL rfl;simp only[I.put];refine⟨g1,?_,?_⟩
   .exact g2
   .rw[aM];exact ar.mono (λ_ h=>h) _ _ _ _ (λb R=>.inr R) aD
  |cons k p=>
   obtain⟨g1,g2⟩:=ay k p rfl;have ag:=(aF.b_ g1).1 (h.cD x);obtain⟨fI,a2,dI,fg,k0,bT,b2,dm,de,e5⟩:=ctx (k::p) (s x) (bZ (au x)) (S x) none d0 ag.2 ae;rw[bc]at k0;simp only[Option.some.injEq,Prod.mk.injEq,true_and]at k0;obtain⟨rfl,rfl⟩:=k0;refine⟨?_,?_,?_⟩
   .rcases tC k p bf (s x)with⟨aC,gs,aI,e⟩|⟨aC,gs,aI,e⟩|⟨sz,xs,ys,aI,e⟩|⟨y,z,aI,e⟩|e<;>rw[e]<;>first|rfl|exact g1
   .refine zO ag.1 ae g2 (λ_ vs e=>(ab vs e).elim) hw
   .have mono:∀b,(dI b\/Sn b)->(S x b\/Sn b):=λb R=>R.imp (bT b) id;rcases e5 with⟨l,r,aI,aM,aP⟩|⟨b,cur,ty,fr,l,r,aI,aM,aP,bK,cg,bP⟩
    .rw[aI];exact ar.mono (λ_ h=>h) _ _ _ _ mono (aP w bf cx Sn (λ_ _=>rfl) (λ_ _=>rfl) hw aD (λb R ai=>bE x b R (bT b ai)))
    .refine ar.mono (λ_ h=>h) _ _ _ _ mono (bP w bf cx Sn (λ_ _=>rfl) (λ_ _ _=>rfl) ?_ hw aD (λb R ai=>bE x b R (bT b ai)));rw[aP,<-cg]
 have:=h.C0 (t:=x) main.1 main.2.1 main.2.2 (by rintro b (R|R);exact h.dh x b R;exact cp b R) (by rintro b (R|R);exact h.ep x b R;exact a8 b R)
  (by rintro u b cI (R|R);exact λhu=>h.ev u x b cI hu R;exact bE u b R) (by rintro b (R|R);exact h.cR x b R;exact ba b R)
 rwa [dW]at this
end
mutual
def I.ch:I->Bool
 | .slice _=>false
 | .ref _=>false
 | .fn _ _=>false
 | .h _ _=>false
 | .al _ _=>false
 | .R _ _=>false
 | .ah _ xs=>I.gM xs
 | .aV d=>d.ch
 | .agg aC=>I.gM aC
 | .tuple aC=>I.gM aC
 | .bm _ aC=>I.gM aC
 | .cX _=>false
 |_=>true
def I.gM:anZ->Bool
 |[]=>true
 |d::ds=>d.ch&&I.gM ds
end
mutual
theorem ar.ch {w:World} {F br:Nat->Prop}:∀(d:I) (cs:anX) (S:Nat->Prop),d.ch=true->ar w F d cs S->ar w br d cs S
 | .hole,_,_,_,h=>h
 | .bool _,_,_,_,h=>h
 | .fj,_,_,_,h=>h
 | .int _ _,_,_,_,h=>h
 | .str _,_,_,_,h=>h
 | .dq,_,_,_,h=>h
 | .bd,_,_,_,h=>h
 | .slice xs,cs,S,aN,h=>by simp[I.ch]at aN
 | .ref d,cs,S,aN,h=>by simp[I.ch]at aN
 | .ah sz xs,cs,S,aN,h=>by
   rw[ar]at h⊢;rcases h with h|⟨b,cap,cur,e,fr,aJ,h1,ab,ay,aT,bp,bX,bM,dy,hG,gW,lI⟩
   .exact .inl h
   .exact .inr ⟨b,cap,cur,e,fr,aJ,h1,ab,ay,aT,bp,bX,bM,dy,aW.ch xs _ _ aN hG,gW,lI⟩
 | .aV d,cs,S,aN,h=>by
   rw[ar]at h⊢;obtain⟨b,cur,e,fr,aJ,h1,ab,ay,aT,bp,bX,bM⟩:=h;exact⟨b,cur,e,fr,aJ,h1,ab,ay,aT,ar.ch d _ _ aN bp,bX,bM⟩
 | .agg aC,cs,S,aN,h=>by rw[ar]at h⊢;exact aW.ch aC _ _ aN h
 | .tuple aC,cs,S,aN,h=>by rw[ar]at h⊢;exact aW.ch aC _ _ aN h
 | .fn _ _,_,_,aN,h=>by simp[I.ch]at aN
 | .h _ _,_,_,_,h=>h
 | .al _ _,_,_,_,h=>h
 | .R _ _,_,_,_,h=>h
 | .cc _,_,_,_,h=>h
 | .bm _ caps,cs,S,aN,h=>by
   rw[ar]at h⊢;obtain⟨arr,h1,ab,ay⟩:=h;exact⟨arr,h1,ab,aW.ch caps _ _ aN ay⟩
 | .cX _,_,_,aN,h=>by simp[I.ch]at aN
theorem aW.ch {w:World} {F br:Nat->Prop}:∀(ds:anZ) (cs:anX) (S:Nat->Prop),I.gM ds=true->aW w F ds cs S->aW w br ds cs S
 |[],_,_,_,h=>h
 |d::ds,cs,S,aN,h=>by
  simp only[I.gM,Bool.and_eq_true]at aN;rw[aW]at h⊢;obtain⟨c1,c2,bR,cH,h1,ab,ay,aT,bp,bX⟩:=h;exact⟨c1,c2,bR,cH,h1,ar.ch d _ _ aN.1 ab,aW.ch ds _ _ aN.2 ay,aT,bp,bX⟩
end
theorem Od:∀(q:anU) (av d e:I),I.sub q av=some d->I.sub q (I.put q e av)=some e:=by
 intro q;induction q with
 |nil=>intro av d e _;simp[I.put,I.sub]
 |cons k q ih=>
  intro av d e h;cases av with
  |agg aC=>
   simp only[I.sub]at h;split at h
   .rename_i x ag;have hk:k<aC.length:=(List.getElem?_eq_some_iff.1 ag).1;simp only[I.put,ag,I.sub,getElem?_set_self hk];exact ih _ _ _ h
   .cases h
  |tuple aC=>
   simp only[I.sub]at h;split at h
   .rename_i x ag;have hk:k<aC.length:=(List.getElem?_eq_some_iff.1 ag).1;simp only[I.put,ag,I.sub,getElem?_set_self hk];exact ih _ _ _ h
   .cases h
  |ah sz aC=>
   simp only[I.sub]at h;split at h
   .rename_i x ag;have hk:k<aC.length:=(List.getElem?_eq_some_iff.1 ag).1;simp only[I.put,ag,I.sub,getElem?_set_self hk];exact ih _ _ _ h
   .cases h
  |aV x=>
   cases k with
   |zero=>simp only[I.sub]at h;simp only[I.put,I.sub];exact ih _ _ _ h
   |succ k=>simp[I.sub]at h
  |_=>simp[I.sub]at h
structure b6 where
 a:I
 g:Bool
 d:I
 o:I
def I.own:I->Bool
 | .ah _ _=>true
 | .aV _=>true
 |_=>false
def I.ga:I->Bool
 | .ah _ _=>true
 | .aV _=>true
 | .cc _=>true
 | .bm _ _=>true
 | .cX _=>true
 | .agg aC=> !I.dS aC
 |_=>false
def rH (d o:I):Bool:=match d,o with
 | .agg a,.agg b=>I.dR a==I.dR b
 | .agg _,_=>false
 |_,.agg _=>false
 |_,_=>true
theorem sF {d:I} (h:d.ga=true):d.plain=false/\d.tree=true/\∀vs,d≠.tuple vs:=by
 cases d<;>simp[I.ga]at h<;>first|exact⟨rfl,rfl,λvs e=>by cases e⟩|exact⟨by simp only[I.plain];exact h,rfl,λvs e=>by cases e⟩
theorem XS {d o:I} (h:d.ga=true) (a1:o.ga=true) (hl:rH d o=true):o.wd=d.wd/\(∀v,c7 d v->c7 o v)/\∀v,ie d.cJ v->ie o v:=by
 cases d<;>simp[I.ga]at h<;>cases o<;>simp[I.ga]at a1<;>simp[rH]at hl<;>first
  |exact⟨rfl,λ_ h=>h,λ_ h=>h⟩
  |exact⟨by simp only[I.wd];exact hl.symm,λ_ h=>h,λ_ h=>h⟩
def b6.ok (s:an) (p:b6):Prop:=
 if p.g then(match p.a with| .h x q=>I.sub q (s x)=some p.d/\p.d.ga=true/\(p.o= .hole\/(p.o.ga=true/\rH p.d p.o=true))|_=>False)
 else view s p.a=some p.d
def gE:List b6->Bool
 |[]=>true
 |p::r=>(r.all λct=> !(p.g||ct.g)||(p.a.U.all λu=> !ct.a.U.contains u))&&gE r
def b6.take (s:an) (p:b6):an:=
 if p.g then(match p.a with| .h x q=>cK (hM x s) x (I.put q p.d.cJ (s x))|_=>s)else s
def b6.im (s:an) (p:b6):an:=
 if p.g then(match p.a,p.o with|_,.hole=>s| .h x q,o=>cK (k8 x s) x (I.put q o (s x))|_,_=>s)else s
def ea (s:an) (ps:List b6):an:=ps.foldl b6.take s
def fE (s:an) (ps:List b6):an:=ps.foldl b6.im s
section
variable {w0 w aq:World} {F0 X F Fc:Nat->Prop} {S:Nat->Nat->Prop} {s aA:an} {au fJ:Nat->Value}
def XT (w:World) (F:Nat->Prop) (s1:an) (au:Nat->Value) (p:b6) (v:Value) (Sn:Nat->Prop):Prop:=
 ∃x q a0,p.a= .h x q/\I.sub q (s1 x)=some p.d.cJ/\c6 w q (s1 x) (bZ (au x)) none=some (p.d.cJ,bZ v,a0)/\(s1 x).U=[]/\(q=[]->c7 p.d (au x))/\(q≠[]->(s1 x).tree=true)/\
  c7 p.d v/\ar w F p.d (bZ v) Sn
theorem XU {p:b6} {x:Nat} (h:(s x).U=[]) (al:p.g=true->x∉p.a.U):b6.take s p x=s x:=by
 unfold b6.take;split
 .rename_i hg;cases bg:p.a with
  |h y q=>
   have:x≠y:=by
    have:=al hg;rw[bg]at this;simpa [I.U]using this
   simp only;rw[ju _ _ this];exact Ah _ (by rw[h];simp)
  |_=>rfl
 .rfl
theorem Ht:∀{ps:List b6} {s:an} {x:Nat},(s x).U=[]->(∀p∈ps,p.g=true->x∉p.a.U)->ea s ps x=s x:=by
 intro ps;induction ps with
 |nil=>intros;rfl
 |cons p ps ih=>
  intro s x h al;have e:=XU (s:=s) (p:=p) h (al p (by simp));show ea (b6.take s p) ps x=s x;rw[ih (by rw[e];exact h) (λct eg=>al ct (by simp[eg])),e]
theorem vA {d:I} (h:d.own=true):d.plain=false/\d.tree=true/\d.cJ= .hole/\d.one=true/\d.wd=1/\(∀v,c7 d v↔Value.eJ v=true):=by
 cases d<;>simp[I.own]at h<;>exact⟨rfl,rfl,rfl,rfl,rfl,λv=>Iff.rfl⟩
theorem XV:∀(ps:List b6) (vs:anX) (s:an) (S:Nat->Nat->Prop),bq w0 F0 X F S s au w->ps.length=vs.length->
  (∀(i:Nat) (p:b6) (v:Value),ps[i]? =some p->vs[i]? =some v->p.a.plain=true/\aF w F s au p.a v (λ_=>False)/\(p.g=true->p.ok s))->gE ps=true->
  ∃(Sn bR:Nat->Nat->Prop),bq w0 F0 X F bR (ea s ps) au w/\(∀u b,bR u b->S u b)/\
   (∀(i:Nat) (p:b6) (v:Value),ps[i]? =some p->vs[i]? =some v->p.g=true->XT w F (ea s ps) au p v (Sn i))/\
   (∀i b,Sn i b->∃p,ps[i]? =some p/\p.g=true)/\
   (∀i b,Sn i b->∃u,S u b)/\(∀i u b,Sn i b->¬bR u b)/\(∀i j b,i≠j->Sn i b->¬Sn j b)/\
   (∀(bf:I) (ek:Value) (aJ:Nat->Prop),(∀p∈ps,p.g=true->∀u∈p.a.U,u∉bf.U)->aF w F s au bf ek aJ->aF w F (ea s ps) au bf ek aJ):=by
 intro ps;induction ps with
 |nil=>
  intro vs s S h hl _ _;exact⟨λ_ _=>False,S,h,λ_ _ h=>h,λi p v al=>by simp at al,λ_ _ h=>h.elim,λ_ _ h=>h.elim,λ_ _ _ h=>h.elim,λ_ _ _ _ h=>h.elim,λ_ _ _ _ h=>h⟩
 |cons p ps ih=>
  intro vs s S h hl Ac kK;cases vs with
  |nil=>simp at hl
  |cons v vs=>
   simp only[length_cons,Nat.add_right_cancel_iff]at hl;simp only[gE,Bool.and_eq_true,List.all_eq_true,Bool.or_eq_true,Bool.not_eq_true']at kK;obtain⟨qu,pL⟩:=kK;have xH:∀ct∈ps,(p.g=true\/ct.g=true)->∀u∈p.a.U,u∉ct.a.U:=by
    intro ct eg hg u hu;rcases qu ct eg with e|e
    .rcases hg with hg|hg<;>simp[hg]at e
    .simpa using e u hu
   obtain⟨f1,f2,f3⟩:=Ac 0 p v rfl rfl;cases hg:p.g with
   |false=>
    have fA:b6.take s p=s:=by simp[b6.take,hg]
    obtain⟨Sn,bR,g1,g2,g3,g4,g5,g6,g7,g8⟩:=ih vs s S h hl (λi ct ek al aD=>Ac (i+1) ct ek (by simpa using al) (by simpa using aD)) pL;have aI:ea s (p::ps)=ea s ps:=by show ea (b6.take s p) ps=_;rw[fA]
    rw[aI];refine⟨λi=>match i with|0=>λ_=>False|i+1=>Sn i,bR,g1,g2,?_,?_,?_,?_,?_,λbf ek aJ ae=>g8 bf ek aJ λct eg=>ae ct (by simp[eg])⟩
    .intro i ct ek al aD hc;cases i with
     |zero=>simp at al;subst al;rw[hg]at hc;cases hc
     |succ i=>exact g3 i ct ek (by simpa using al) (by simpa using aD) hc
    .intro i b R;cases i with
     |zero=>exact R.elim
     |succ i=>simpa using g4 i b R
    .intro i b R;cases i with
     |zero=>exact R.elim
     |succ i=>exact g5 i b R
    .intro i u b R;cases i with
     |zero=>exact R.elim
     |succ i=>exact g6 i u b R
    .intro i j b cI ak bo;cases i with
     |zero=>exact ak.elim
     |succ i=>
      cases j with
      |zero=>exact bo.elim
      |succ j=>exact g7 i j b (by omega) ak bo
   |true=>
    have eZ:=f3 hg;simp only[b6.ok,hg,if_true]at eZ;split at eZ
    .rename_i x q bg;obtain⟨eV,Aj,vb⟩:=eZ;obtain⟨lg,mR,Dn⟩:=sF Aj;have XW:cy s p.a=some (p.d,cK (hM x s) x (I.put q p.d.cJ (s x))):=by
      rw[bg];simp only[cy,eV,lg];rfl
     obtain⟨bR,t1,t2,t3,XX,t4,t5,t6,t7,t8,t9,t10,t11⟩:=rj h f1 f2 XW;have fA:b6.take s p=cK (hM x s) x (I.put q p.d.cJ (s x)):=by simp[b6.take,hg,bg]
     have km:∀ct∈ps,x∉ct.a.U:=λct eg=>xH ct eg (.inl hg) x (by rw[bg];simp[I.U]);have tO:b6.take s p x=I.put q p.d.cJ (s x):=by rw[fA,nv]
     have Dp:(b6.take s p x).U=[]:=by
      rw[tO];exact xF q _ _ _ eV (.inl lg) (λ_=>by cases ae:p.d<;>first|rfl|(rw[ae]at Aj;simp[I.ga]at Aj))
     obtain⟨Sn,cH,g1,g2,g3,g4,g5,g6,g7,g8⟩:=ih vs (b6.take s p) bR (by rw[fA];exact t1) hl (by
      intro i ct ek al aD;obtain⟨bT,b2,dm⟩:=Ac (i+1) ct ek (by simpa using al) (by simpa using aD);have hm:ct∈ps:=mem_of_getElem? al;refine⟨bT,?_,?_⟩
      .have:=t11 _ _ _ b2;rw[bg]at this;rw[fA];simp only[I.owner,k9]at this
       rwa [Ah _ (km ct hm)]at this
      .intro hc;have:=dm hc;simp only[b6.ok,hc,if_true]at this⊢;split at this
       .rename_i y ig sG;have cI:y≠x:=λe=>km ct hm (by rw[sG,e];simp[I.U]);rw[fA,ju _ _ cI];have aL:=hL this.1 (.inl (sF this.2.1).1);simp only[hM,Gz aL];exact this
       .exact this.elim) pL
     have aI:ea s (p::ps)=ea (b6.take s p) ps:=rfl;have pM:ea (b6.take s p) ps x=I.put q p.d.cJ (s x):=by
      rw[Ht Dp (λct eg _=>km ct eg),tO]
     rw[aI];refine⟨λi=>match i with|0=>XX|i+1=>Sn i,cH,g1,λu b R=>t9 u b (g2 u b R),?_,?_,?_,?_,?_,?_⟩
     rotate_left 5
     .intro bf ek aJ ae hP;refine g8 bf ek aJ (λct eg=>ae ct (by simp[eg])) ?_;have:=t11 _ _ _ hP;rw[bg]at this;rw[fA];simp only[I.owner,k9]at this
      rwa [Ah _ (ae p (by simp) hg x (by rw[bg];simp[I.U]))]at this
     .intro i ct ek al aD hc;cases i with
      |zero=>
       simp at al aD;subst al aD;have Dq:=f2;rw[bg,aF]at Dq;obtain⟨cx,a0,c1,c2,c3⟩:=Dq _ eV lg;refine⟨x,q,a0,bg,?_,?_,?_,?_,?_,t3,t4⟩
       .rw[pM];exact Od q _ _ _ eV
       .rw[pM,c2];exact XR w q _ _ _ _ _ _ _ eV (I.tA _) c1
       .rw[pM,<-tO];exact Dp
       .intro ca;subst ca;simp only[I.sub,Option.some.injEq]at eV;have:=(aF.b_ (by rw[eV];exact mR)).1 (h.cD x);rw[eV]at this;exact this.1
       .intro ca;have aL:=hL eV (.inl lg);rw[pM];cases q with
        |nil=>exact(ca rfl).elim
        |cons k q=>rcases tC k q p.d.cJ (s x)with⟨aC,gs,aI,e⟩|⟨aC,gs,aI,e⟩|⟨sz,xs,ys,aI,e⟩|⟨y,z,aI,e⟩|e<;>rw[e]<;>first|rfl|exact aL
      |succ i=>exact g3 i ct ek (by simpa using al) (by simpa using aD) hc
     .intro i b R;cases i with
      |zero=>exact⟨p,rfl,hg⟩
      |succ i=>simpa using g4 i b R
     .intro i b R;cases i with
      |zero=>exact t10 b R
      |succ i=>obtain⟨u,hu⟩:=g5 i b R;exact⟨u,t9 u b hu⟩
     .intro i u b R;cases i with
      |zero=>exact λhu=>t7 u b R (g2 u b hu)
      |succ i=>exact g6 i u b R
     .intro i j b cI ak bo;cases i with
      |zero=>
       cases j with
       |zero=>exact cI rfl
       |succ j=>obtain⟨u,hu⟩:=g5 j b bo;exact t7 u b ak hu
      |succ i=>
       cases j with
       |zero=>obtain⟨u,hu⟩:=g5 i b ak;exact t7 u b bo hu
       |succ j=>exact g7 i j b (by omega) ak bo
    .exact eZ.elim
end
def jA:anZ->anZ->anZ
 |d::ds,.hole::us=>(if d.plain=true then d else .hole)::jA ds us
 |_::ds,u::us=>u::jA ds us
 |_,us=>us
def kL:I->I->I
 | .bm _ ds,.bm g us=>.bm g (jA ds us)
 |_,o=>o
theorem XY {d o:I} (h:(kL d o).tree=true):o.tree=true:=by
 cases d<;>cases o<;>first|exact h|rfl
theorem Dr {d:I} (h:d.one=true):d.wd=1:=by cases d<;>first|rfl|(simp[I.one]at h)
theorem Oe {w aq:World} {F mr:Nat->Prop} (a8:∀b,F b->mr b) (hw:∀b,F b->aq.heap[b]? =w.heap[b]?):∀(ds us:anZ) (cs:anX) (S aJ:Nat->Prop),(∀d∈ds,d.one=true)->(∀d∈us,d.one=true)->
  aW w F ds cs S->aW aq mr us cs aJ->aW aq mr (jA ds us) cs aJ/\∀d∈jA ds us,d.one=true
 |[],us,cs,S,aJ,_,h1,_,ay=>by
  have e:jA [] us=us:=by cases us<;>rfl
  rw[e];exact⟨ay,h1⟩
 |d::ds,[],cs,S,aJ,_,_,_,ay=>by
  have e:jA (d::ds) []=[]:=rfl;rw[e];exact⟨ay,λd h=>by cases h⟩
 |d::ds,u::us,cs,S,aJ,ba,h1,ab,ay=>by
  rw[aW]at ab ay;obtain⟨c1,c2,bR,cH,aI,J,a2,a3,a4,a5⟩:=ab;obtain⟨ik,gJ,e0,fb,aM,bT,b2,dm,de,e5⟩:=ay;have en:=ar.length _ _ _ J;have l2:=ar.length _ _ _ bT;rw[Dr (ba d (by simp))]at en;rw[Dr (h1 u (by simp))]at l2;have aP:c1=ik/\c2=gJ:=append_inj (aI.symm.trans aM) (by rw[en,l2]);obtain⟨rfl,rfl⟩:=aP;obtain⟨cY,bl⟩:=Oe a8 hw ds us c2 cH fb (λd ae=>ba d (by simp[ae])) (λd ae=>h1 d (by simp[ae])) a2 b2;have key:∀y:I,ar aq mr y c1 e0->y.one=true->aW aq mr (y::jA ds us) cs aJ/\∀d∈y::jA ds us,d.one=true:=by
   intro y hy GW;rw[aW];exact⟨⟨c1,c2,e0,fb,aM,hy,cY,dm,de,e5⟩,λd ae=>by
    rcases mem_cons.1 ae with rfl|ae
    .exact GW
    .exact bl d ae⟩
  by_cases hu:u= .hole
  .subst hu;simp only[jA];by_cases al:d.plain=true
   .rw[if_pos al];exact key d (ar.plain _ _ _ _ al (ar.mono a8 _ _ _ _ (λ_ h=>h) (ar.frame hw _ _ (λ_=>False) (λ_ h=>h.elim) (ar.plain _ _ _ _ al J)))) (ba d (by simp))
   .rw[if_neg al];exact key .hole bT rfl
  .have e:jA (d::ds) (u::us)=u::jA ds us:=by cases u<;>first|rfl|exact(hu rfl).elim
   rw[e];exact key u bT (h1 u (by simp))
theorem XZ {w aq:World} {F mr:Nat->Prop} {d o:I} {cs:anX} {S aJ:Nat->Prop} (a8:∀b,F b->mr b) (hw:∀b,F b->aq.heap[b]? =w.heap[b]?) (h1:ar w F d cs S) (ab:ar aq mr o cs aJ):ar aq mr (kL d o) cs aJ:=by
 cases d with
 |bm f ds=>
  cases o with
  |bm g us=>
   simp only[kL];rw[ar]at h1 ab⊢;obtain⟨arr,rfl,a2,a3⟩:=h1;obtain⟨Of,e,gJ,iT⟩:=ab;simp only[cons.injEq,Value.func.injEq,and_true]at e;obtain⟨aI,aM,aP⟩:=e;subst aP;obtain⟨cY,bl⟩:=Oe a8 hw ds us _ _ _ a2 gJ a3 iT;exact⟨arr,by simp_all,bl,cY⟩
  |_=>exact ab
 |_=>cases o<;>exact ab
def eb (l:anZ):an:=λi=>l.getD i .hole
def fs (l:anX):Nat->Value:=λi=>l.getD i undef
def kn (P:Program) (f:FuncId) (args:Array Value) (w:World) (er:Value->World->Prop):Prop:=
 ((callFunc f args).run P w= .ok (.enter f args) w/\Calls P f args w (λe aq=>∃v,e= .returned v/\er v aq))\/
 ∃v aq,(callFunc f args).run P w= .ok (.value v) aq/\er v aq
theorem kn.mono {P:Program} {f:FuncId} {args:Array Value} {w:World} {er Og:Value->World->Prop} (h:kn P f args w er) (ax:∀v aq,er v aq->Og v aq):kn P f args w Og:=by
 rcases h with⟨h1,ab⟩|⟨v,aq,h1,ab⟩
 .exact .inl ⟨h1,Calls.mono ab λe aq ⟨v,e,h⟩=>⟨v,e,ax v aq h⟩⟩
 .exact .inr ⟨v,aq,h1,ax v aq ab⟩
def aY (C:bx) (f:FuncId) (as:anZ) (r:I) (outs:anZ):Prop:=
 ∀(w:World) (F X:Nat->Prop) (S:Nat->Nat->Prop) (vs:anX),vs.length=as.length->bq w F X F S (eb as) (fs vs) w->
  kn C.P f vs.toArray w λv aq=>∃br aJ,bq w F X br aJ (eb (r::outs)) (fs (v::vs)) aq
def I.res:I->Bool
 | .h _ _=>false
 | .al _ _=>false
 | .R _ _=>false
 | .fn _ _=>false
 |_=>true
theorem Hu {d:I} (h:d.tree=true):d.U=[]:=by cases d<;>first|rfl|(simp[I.tree]at h)
mutual
theorem Hv {s aA:an}:∀(a:I) (d:I),(∀u∈a.U,(s u).tree=true->aA u=s u)->view s a=some d->view aA a=some d
 | .h x q,d,hu,h=>by
   have aL:(s x).tree=true:=by
    simp only[view]at h;split at h
    .rename_i e eV;cases e<;>simp only at h<;>first
      |(cases h;done)
      |(split at h
        .cases h
        .rename_i al;exact hL eV (.inl (by simpa using al)))
    .cases h
   simp only[view]at h⊢;rw[hu x (by simp[I.U]) aL];exact h
 | .al x q,d,hu,h=>by
   have aL:(s x).tree=true:=by
    simp only[view]at h;split at h
    .rename_i ai;split at h
     .rename_i e eV;exact hL eV (.inr ai)
     .cases h
    .cases h
   simp only[view]at h⊢;rw[hu x (by simp[I.U]) aL];exact h
 | .R x q,d,hu,h=>by simp[view]at h
 | .fn f cap,d,hu,h=>by
   simp only[view,Option.map_eq_some_iff]at h⊢;obtain⟨ds,h1,ab⟩:=h;exact⟨ds,Oh cap ds (by simpa [I.U]using hu) h1,ab⟩
 | .hole,d,hu,h=>h
 | .bool _,d,hu,h=>h
 | .fj,d,hu,h=>h
 | .int _ _,d,hu,h=>h
 | .str _,d,hu,h=>h
 | .dq,d,hu,h=>h
 | .bd,d,hu,h=>h
 | .slice _,d,hu,h=>h
 | .ah _ _,d,hu,h=>h
 | .ref _,d,hu,h=>h
 | .aV _,d,hu,h=>h
 | .agg _,d,hu,h=>h
 | .tuple _,d,hu,h=>h
 | .cc _,d,hu,h=>h
 | .bm _ _,d,hu,h=>h
 | .cX _,d,hu,h=>h
theorem Oh {s aA:an}:∀(as:anZ) (ds:anZ),(∀u∈I.dL as,(s u).tree=true->aA u=s u)->views s as=some ds->views aA as=some ds
 |[],ds,hu,h=>h
 |a::as,ds,hu,h=>by
  simp only[I.dL,mem_append]at hu;simp only[views]at h⊢;split at h
  .rename_i x y h1 ab;rw[Hv a x (λu hm=>hu u (.inl hm)) h1,Oh as y (λu hm=>hu u (.inr hm)) ab];exact h
  .cases h
end
section
variable {C:bx} {w0 w aq:World} {F0 X F Fc:Nat->Prop} {S:Nat->Nat->Prop} {s aA:an} {au fJ:Nat->Value}
def X0 (w:World) (F:Nat->Prop) (s:an) (au:Nat->Value) (p:b6) (v:Value) (So:Nat->Prop):Prop:=
 p.g=true->p.o= .hole\/∃x q a0 d0,p.a= .h x q/\I.sub q (s x)=some d0/\c6 w q (s x) (bZ (au x)) none=some (d0,bZ v,a0)/\(s x).U=[]/\
  (q=[]->c7 p.o (au x))/\(q≠[]->(s x).tree=true)/\p.o.ga=true/\ar w F p.o (bZ v) So/\p.o.wd=d0.wd/\∀v,ie d0 v->ie p.o v
theorem X1:∀(ps:List b6) (vs:anX) (s:an) (S So:Nat->Nat->Prop),bq w0 F0 X F S s au w->ps.length=vs.length->
  (∀(i:Nat) (p:b6) (v:Value),ps[i]? =some p->vs[i]? =some v->X0 w F s au p v (So i))->
  (∀i b,So i b->b<w.heap.size/\¬F b/\(X b\/w0.heap.size<=b)/\∀u,¬S u b)->(∀i j b,i≠j->So i b->¬So j b)->gE ps=true->
  ∃cH,bq w0 F0 X F cH (fE s ps) au w/\∀u b,cH u b->S u b\/∃i,So i b:=by
 intro ps;induction ps with
 |nil=>intro vs s S So h _ _ _ _ _;exact⟨S,h,λu b R=>.inl R⟩
 |cons p ps ih=>
  intro vs s S So h hl Hw R ae kK;cases vs with
  |nil=>simp at hl
  |cons v vs=>
   simp only[length_cons,Nat.add_right_cancel_iff]at hl;simp only[gE,Bool.and_eq_true,List.all_eq_true,Bool.or_eq_true,Bool.not_eq_true']at kK;obtain⟨qu,pL⟩:=kK;have xH:∀ct∈ps,(p.g=true\/ct.g=true)->∀u∈p.a.U,u∉ct.a.U:=by
    intro ct eg hg u hu;rcases qu ct eg with e|e
    .rcases hg with hg|hg<;>simp[hg]at e
    .simpa using e u hu
   have skip:b6.im s p=s->∃cH,bq w0 F0 X F cH (fE s (p::ps)) au w/\∀u b,cH u b->S u b\/∃i,So i b:=by
    intro fA;obtain⟨cH,g1,g2⟩:=ih vs s S (λi=>So (i+1)) h hl (λi ct ek al aD=>Hw (i+1) ct ek (by simpa using al) (by simpa using aD)) (λi b h=>R (i+1) b h)
     (λi j b cI=>ae (i+1) (j+1) b (by omega)) pL
    refine⟨cH,?_,λu b hu=>(g2 u b hu).imp id λ⟨i,ak⟩=>⟨i+1,ak⟩⟩;show bq _ _ _ _ _ (fE (b6.im s p) ps) _ _;rw[fA];exact g1
   cases hg:p.g with
   |false=>exact skip (by simp[b6.im,hg])
   |true=>
    rcases Hw 0 p v rfl rfl hg with a1|⟨x,q,a0,d0,bg,c1,c2,c3,c4,c5,eM,rI,h4,c9⟩
    .exact skip (by simp only[b6.im,hg,a1,if_true])
    .obtain⟨lg,mR,X2⟩:=sF eM;have fA:b6.im s p=cK (k8 x s) x (I.put q p.o (s x)):=by
      simp only[b6.im,hg,if_true,bg];cases X3:p.o<;>first|rfl|(rw[X3]at eM;simp[I.ga]at eM)
     have step:=h.im (x:=x) (q:=q) (bf:=p.o) c1 c2 X2 (λca=>⟨mR,c4 ca⟩) (λk r ca=>⟨c5 (by rw[ca];simp),c9⟩) h4 rI
      (λb h=>(R 0 b h).1) (λb h=>(R 0 b h).2.1) (λu b h=>(R 0 b h).2.2.2 u) (λb h=>(R 0 b h).2.2.1)
     rw[<-fA]at step;obtain⟨cH,g1,g2⟩:=ih vs (b6.im s p) _ (λi=>So (i+1)) step hl (by
      intro i ct ek al aD hc;have hm:ct∈ps:=mem_of_getElem? al;rcases Hw (i+1) ct ek (by simpa using al) (by simpa using aD) hc with a1|⟨y,ig,J,d1,bT,b2,dm,de,e5,dJ,jy,cM,nA⟩
      .exact .inl a1
      .have cI:y≠x:=λe=>xH ct hm (.inl hg) x (by rw[bg];simp[I.U]) (by rw[bT,e];simp[I.U]);have tE:b6.im s p y=s y:=by
        rw[fA,ju _ _ cI];exact Hf _ (by rw[de];simp)
       exact .inr ⟨y,ig,J,d1,bT,by rw[tE];exact b2,by rw[tE];exact dm,by rw[tE];exact de,e5,by rw[tE];exact dJ,jy,cM,nA⟩)
      (by
       intro i b ak;obtain⟨ik,gJ,iT,cw⟩:=R (i+1) b ak;refine⟨ik,gJ,iT,λu hu=>?_⟩;simp only[fY]at hu;split at hu
       .rcases hu with hu|hu
        .exact cw _ hu
        .exact ae 0 (i+1) b (by omega) hu ak
       .exact cw _ hu)
      (λi j b cI=>ae (i+1) (j+1) b (by omega)) pL
     refine⟨cH,g1,λu b hu=>?_⟩;rcases g2 u b hu with hu|⟨i,ak⟩
     .simp only[fY]at hu;split at hu
      .rename_i e;subst e;exact hu.imp id λh=>⟨0,h⟩
      .exact .inl hu
     .exact .inr ⟨i+1,ak⟩
def hx (ps:List b6):Bool:=ps.any λp=> !p.g&& !p.a.U.isEmpty
theorem Ds (h:bq w0 F0 X F S s au w) {ps:List b6} {vs vm:anX} {os:anZ} {f:FuncId} {r:I} (hl:ps.length=vs.length) (Oi:∀(i:Nat) (p:b6),ps[i]? =some p->∃o,os[i]? =some o/\(p.o=o\/p.o=kL p.d o))
  (hP:∀(i:Nat) (p:b6) (v:Value),ps[i]? =some p->vs[i]? =some v->p.a.plain=true/\aF w F s au p.a v (λ_=>False))
  (eZ:∀p∈ps,p.ok s) (kK:gE ps=true) (bc:∀(Fc jg:Nat->Prop) (dI:Nat->Nat->Prop),(∀b,F b->Fc b)->(∀b,jg b->∃u,S u b)->bq w Fc jg Fc dI (eb (ps.map (·.d))) (fs vs) w->
   kn C.P f vm.toArray w λv aq=>∃br aJ,bq w Fc jg br aJ (eb (r::os)) (fs (v::vs)) aq) (ax:r.res=true)
  (aN:hx ps=true->r.ch=true/\∀(i:Nat) (p:b6) (o:I),ps[i]? =some p->os[i]? =some o->p.g=true->o.ch=true):
  kn C.P f vm.toArray w λv aq=>∃br aJ,bq w0 F0 X br aJ (fE (ea s ps) ps) au aq/\j5 w0 X br aJ (fE (ea s ps) ps) au aq r v/\∀b,F b->br b/\aq.heap[b]? =w.heap[b]? :=by
 obtain⟨Sn,bR,g1,g2,g3,g4,g5,g6,g7,g8⟩:=XV ps vs s S h hl (λi p v al aD=>⟨(hP i p v al aD).1,(hP i p v al aD).2,λ_=>eZ p (mem_of_getElem? al)⟩) kK;have apart:∀(i j:Nat) (p ct:b6),ps[i]? =some p->ps[j]? =some ct->i≠j->(p.g=true\/ct.g=true)->∀u∈p.a.U,u∉ct.a.U:=by
  clear hP eZ bc aN g1 g3 g4 g8 hl Oi;induction ps with
  |nil=>intro i j p ct al;simp at al
  |cons hJ ps ih=>
   simp only[gE,Bool.and_eq_true,List.all_eq_true,Bool.or_eq_true,Bool.not_eq_true']at kK;obtain⟨qu,pL⟩:=kK;have xH:∀ct∈ps,(hJ.g=true\/ct.g=true)->∀u∈hJ.a.U,u∉ct.a.U:=by
    intro ct eg hg u hu;rcases qu ct eg with e|e
    .rcases hg with hg|hg<;>simp[hg]at e
    .simpa using e u hu
   intro i j p ct al eg cI hg u hu;cases i with
   |zero=>
    simp at al;subst al;cases j with
    |zero=>exact(cI rfl).elim
    |succ j=>exact xH ct (mem_of_getElem? (by simpa using eg)) hg u hu
   |succ i=>
    cases j with
    |zero=>
     simp at eg;subst eg;exact λAk=>xH p (mem_of_getElem? (by simpa using al)) hg.symm u Ak hu
    |succ j=>exact ih pL i j p ct (by simpa using al) (by simpa using eg) (by omega) hg u hu
 let Fc:Nat->Prop:=λb=>F b\/(hx ps=true/\∃u,bR u b)
 let jg:Nat->Prop:=λb=>∃i,Sn i b
 have Dt:∀b,F b->¬jg b:=λb a8 ⟨i,ak⟩=>by obtain⟨u,hu⟩:=g5 i b ak;exact h.ep u b hu a8
 have Al:∀u b,bR u b->¬jg b:=λu b hu ⟨i,ak⟩=>g6 i u b ak hu;have aQ:∀b,jg b->(X b\/w0.heap.size<=b)/\b<w.heap.size:=λb ⟨i,ak⟩=>by obtain⟨u,hu⟩:=g5 i b ak;exact⟨h.cR u b hu,h.dh u b hu⟩
 have pre:bq w Fc jg Fc Sn (eb (ps.map (·.d))) (fs vs) w:=by
  refine⟨λ_ h=>h,λ_ h=>.inl h,?_,λi b ak=>(aQ b ⟨i,ak⟩).2,?_,λi j b cI=>g7 i j b cI,λi b ak=>.inl ⟨i,ak⟩,?_,λ_ _ _=>rfl,Nat.le_refl _,rfl,rfl,Out.refl _,h.e4.next h.size h.old λb R=>(aQ b R).1⟩
  .rintro b (R|⟨_,u,hu⟩)
   .exact h.dV b R
   .exact g1.dh u b hu
  .rintro i b ak (R|⟨_,u,hu⟩)
   .exact Dt b R ⟨i,ak⟩
   .exact g6 i u b ak hu
  .intro t;cases al:ps[t]? with
   |none=>
    have:eb (ps.map (·.d)) t= .hole:=by simp[eb,List.getD,al]
    rw[this,aF];trivial
   |some p=>
    have cp:t<vs.length:=by rw[<-hl];exact(List.getElem?_eq_some_iff.1 al).1
    have aD:vs[t]? =some vs[t]:=getElem?_eq_getElem cp;have aI:eb (ps.map (·.d)) t=p.d:=by simp[eb,List.getD,al]
    have aM:fs vs t=vs[t]:=by simp[fs,List.getD,aD]
    rw[aI,aM];have hm:p∈ps:=mem_of_getElem? al;have hk:=eZ p hm;cases hg:p.g with
    |true=>
     obtain⟨x,q,a0,bT,b2,dm,de,e5,dJ,jy,cM⟩:=g3 t p _ al aD hg;simp only[b6.ok,hg,if_true,bT]at hk;exact(aF.b_ (sF hk.2.1).2.1).2 ⟨jy,ar.mono (λb R=>.inl R) _ _ _ _ (λ_ h=>h) cM⟩
    |false=>
     simp only[b6.ok,hg]at hk;obtain⟨f1,f2⟩:=hP t p _ al aD;have Oj:∀ct∈ps,ct.g=true->∀u∈ct.a.U,u∉p.a.U:=by
      intro ct eg hc u hu;obtain⟨j,bo⟩:=getElem?_of_mem eg;refine apart j t ct p bo al (λe=>?_) (.inl hc) u hu;subst e;rw[al]at bo;simp only[Option.some.injEq]at bo;rw[bo,hc]at hg;cases hg
     have Dq:=g8 _ _ _ Oj f2;have j8:view (ea s ps) p.a=some p.d:=Hv _ _ (λu hu aL=>Ht (Hu aL) (λct eg hc Ak=>Oj ct eg hc u Ak hu)) (by simpa using hk);refine aF.nothing (Ob f1 j8) ((Oc g1 (Fc:=Fc) (λb R=>.inl R) (SizeOf.sizeOf p.a)).1 p.a _ p.d (Nat.le_refl _) ?_ j8 Dq);intro u hu b R;refine .inr ⟨?_,u,R⟩;simp only[hx,List.any_eq_true];refine⟨p,hm,?_⟩;cases hN:p.a.U with
     |nil=>rw[hN]at hu;cases hu
     |cons _ _=>simp[hg]
 refine kn.mono (bc Fc jg Sn (λb R=>.inl R) (λb ⟨i,ak⟩=>g5 i b ak) pre) ?_;rintro v aq ⟨br,aJ,ai⟩;have keep:∀b,b<w.heap.size->¬jg b->aq.heap[b]? =w.heap[b]? :=ai.old;let qv:Nat->Prop:=λb=>if hx ps=true then F b else br b
 have Ol:∀b,F b->br b:=λb R=>ai.fl b (.inl R);have tP:∀b,F b->qv b:=λb R=>by
  simp only[qv];split
  .exact R
  .exact Ol b R
 have mr:∀b,qv b->br b:=λb R=>by
  simp only[qv]at R;split at R
  .exact Ol b R
  .exact R
 have Am:∀b,qv b->F b\/jg b\/w.heap.size<=b:=λb R=>by
  simp only[qv]at R;split at R
  .exact .inl R
  .rename_i tJ;rcases ai.fL b R with(R|⟨h1,_⟩)|R|R
   .exact .inl R
   .exact(tJ h1).elim
   .exact .inr (.inl R)
   .exact .inr (.inr R)
 have mid:bq w0 F0 X qv bR (ea s ps) au aq:=by
  refine⟨λb R=>tP b (g1.fl b R),?_,λb R=>ai.dV b (mr b R),λt b R=>Nat.lt_of_lt_of_le (g1.dh t b R) ai.size,?_,g1.ev,g1.cR,?_,?_,Nat.le_trans g1.size ai.size,ai.os.trans g1.os,ai.tape.trans g1.tape,ai.output.trans g1.output,g1.e4⟩
  .intro b R;rcases Am b R with R|R|R
   .exact g1.fL b R
   .rcases(aQ b R).1 with h|h
    .exact .inr (.inl h)
    .exact .inr (.inr h)
   .exact .inr (.inr (Nat.le_trans g1.size R))
  .intro t b aL R;rcases Am b R with R|R|R
   .exact g1.ep t b aL R
   .exact Al t b aL R
   .exact absurd (g1.dh t b aL) (by omega)
  .intro t;exact aF.frame (Sx:=bR) (λb R=>keep b (h.dV b R) (Dt b R)) tP (λx b R=>keep b (g1.dh x b R) (Al x b R)) g1.cD _ _ _ (λb R=>keep b (g1.dh t b R) (Al t b R)) (g1.cD t)
  .intro b R iQ;refine(keep b (Nat.lt_of_lt_of_le R g1.size) λag=>?_).trans (g1.old b R iQ);rcases(aQ b ag).1 with h|h
   .exact iQ h
   .omega
 have Om:∀(d:I) (cs:anX) (cR:Nat->Prop),(hx ps=true->d.ch=true)->ar aq br d cs cR->ar aq qv d cs cR:=by
  intro d cs cR o0 eC;by_cases hle:hx ps=true
  .exact ar.ch d cs cR (o0 hle) eC
  .exact ar.mono (λb R=>by simp only[qv];rw[if_neg hle];exact R) _ _ _ _ (λ_ h=>h) eC
 have bound:∀i b,aJ i b->b<aq.heap.size/\¬qv b/\(X b\/w0.heap.size<=b)/\∀u,¬bR u b:=by
  intro i b R;refine⟨ai.dh i b R,λa8=>ai.ep i b R (mr b a8),?_,λu hu=>?_⟩
  .rcases ai.cR i b R with ag|ag
   .exact(aQ b ag).1
   .exact .inr (Nat.le_trans g1.size ag)
  .rcases ai.cR i b R with ag|ag
   .exact Al u b hu ag
   .exact absurd (g1.dh u b hu) (by omega)
 obtain⟨cH,bT,b2⟩:=X1 ps vs (ea s ps) bR (λi=>aJ (i+1)) mid hl (by
  intro i p ek al aD hg;have hm:p∈ps:=mem_of_getElem? al;have hk:=eZ p hm;obtain⟨x,q,a0,aI,aM,aP,bK,cg,bP,bL,hr⟩:=g3 i p ek al aD hg;simp only[b6.ok,hg,if_true,aI]at hk;rcases hk.2.2 with a1|a1
  .exact .inl a1
  .obtain⟨en,l2,Hx⟩:=XS hk.2.1 a1.1 a1.2;refine .inr ⟨x,q,a0,p.d.cJ,aI,aM,?_,bK,λca=>l2 _ (cg ca),bP,a1.1,?_,en.trans (I.tA _).symm,Hx⟩
   .cases q with
    |nil=>simpa only[c6]using aP
    |cons k q=>
     have aL:=bP (by simp);rw[CW (k::q) _ _ (bR x) none _ ((aF.b_ aL).1 (g1.cD x)).2 aM (λb R=>keep b (g1.dh x b R) (Al x b R))];exact aP
   .have:=ai.cD (i+1);obtain⟨o,lg,mR⟩:=Oi i p al;have gi:eb (r::os) (i+1)=o:=by simp[eb,List.getD,lg]
    have jd:fs (v::vs) (i+1)=ek:=by simp[fs,List.getD,aD]
    rw[gi,jd]at this;have Hy:o.tree=true:=by
     rcases mR with e|e
     .rw[<-e];exact(sF a1.1).2.1
     .exact XY (d:=p.d) (by rw[<-e];exact(sF a1.1).2.1)
    have h1:=Om _ _ _ (λhle=>(aN hle).2 i p o al lg hg) ((aF.b_ Hy).1 this).2;rcases mR with e|e
    .rw[e];exact h1
    .rw[e];exact XZ tP (λb R=>keep b (h.dV b R) (Dt b R)) hr h1)
  (λi b R=>bound (i+1) b R) (λi j b cI=>ai.ev (i+1) (j+1) b (by omega)) kK
 refine⟨qv,cH,bT,?_,λb R=>⟨tP b R,keep b (h.dV b R) (Dt b R)⟩⟩;have ba:=ai.cD 0;have gi:eb (r::os) 0=r:=rfl;have jd:fs (v::vs) 0=v:=rfl;rw[gi,jd]at ba;cases aL:r.tree with
 |false=>
  cases r<;>first
   |(simp[I.tree]at aL;done)
   |(simp[I.res]at ax;done)
   |exact .inl ⟨rfl,by rw[aF];trivial⟩
 |true=>
  obtain⟨s1,s2⟩:=(aF.b_ aL).1 ba;have gz:=Om _ _ _ (λhle=>(aN hle).1) s2;refine .inr ⟨aL,s1,aJ 0,gz,λb R=>(bound 0 b R).1,λb R=>(bound 0 b R).2.1,λu b R hu=>?_,λb R=>(bound 0 b R).2.2.1⟩;rcases b2 u b hu with hu|⟨i,ak⟩
  .exact(bound 0 b R).2.2.2 u hu
  .exact ai.ev 0 (i+1) b (by omega) R ak
theorem On (h:bq w0 F0 X F S s au w) {ps:List b6} {vs:anX} {f:FuncId} {r:I} (hl:ps.length=vs.length)
  (hP:∀(i:Nat) (p:b6) (v:Value),ps[i]? =some p->vs[i]? =some v->p.a.plain=true/\aF w F s au p.a v (λ_=>False))
  (eZ:∀p∈ps,p.ok s) (kK:gE ps=true) (bc:∀(Fc jg:Nat->Prop) (dI:Nat->Nat->Prop),(∀b,F b->Fc b)->(∀b,jg b->∃u,S u b)->bq w Fc jg Fc dI (eb (ps.map (·.d))) (fs vs) w->
   kn C.P f vs.toArray w λv aq=>∃br aJ,bq w Fc jg br aJ (eb (r::ps.map (·.o))) (fs (v::vs)) aq) (ax:r.res=true)
  (aN:hx ps=true->r.ch=true/\∀p∈ps,p.o.ch=true):
  kn C.P f vs.toArray w λv aq=>∃br aJ,bq w0 F0 X br aJ (fE (ea s ps) ps) au aq/\j5 w0 X br aJ (fE (ea s ps) ps) au aq r v/\∀b,F b->br b/\aq.heap[b]? =w.heap[b]? :=
 Ds h hl (λi p al=>⟨p.o,by simp[al],.inl rfl⟩) hP eZ kK bc ax λhle=>⟨(aN hle).1,λi p o al a1 _=>by
  rw[getElem?_map,al]at a1;have:=Option.some.inj a1;subst this;exact(aN hle).2 p (mem_of_getElem? al)⟩
theorem X4 (h:bq w0 F0 X F S s au w) {ps:List b6} {vs:anX} {f:FuncId} {r:I} (hl:ps.length=vs.length)
  (hP:∀(i:Nat) (p:b6) (v:Value),ps[i]? =some p->vs[i]? =some v->p.a.plain=true/\aF w F s au p.a v (λ_=>False))
  (eZ:∀p∈ps,p.ok s) (kK:gE ps=true) (bc:aY C f (ps.map (·.d)) r (ps.map (·.o))) (ax:r.res=true)
  (aN:hx ps=true->r.ch=true/\∀p∈ps,p.o.ch=true):
  kn C.P f vs.toArray w λv aq=>∃br aJ,bq w0 F0 X br aJ (fE (ea s ps) ps) au aq/\j5 w0 X br aJ (fE (ea s ps) ps) au aq r v/\∀b,F b->br b/\aq.heap[b]? =w.heap[b]? :=
 On h hl hP eZ kK (λFc jg dI _ _ al=>bc w Fc jg dI vs (by simp[hl]) al) ax aN
end
structure bt where
 dst:Option Nat
 bz:dK
 guard:Option (Nat×Bool)
def An (ops:Array Oper):Option (Nat×Bool)->Option (Option (Nat×Bool))
 |none=>some none
 |some (j,b)=>match(ops[j]?).bind (·.dst)with
  |some t=>some (some (t,b))
  |none=>none
structure Fr where
 n:Nat
 fx:anU
def kM (n:Fr):Option Nat->Bool
 |none=>true
 |some t=>decide (t<n.n)&& !n.fx.contains t
def qw (op:Op):dK:=match cP op with
 |some bz=>bz
 |none=>.bad
def lh (n:Fr) (ops:Array Oper) (o:Oper):Option bt:=
 if kM n o.dst=true then match An ops o.guard with
  |some g=>some ⟨o.dst,qw o.op,g⟩
  |none=>none
 else none
def kN (n:Fr) (ops:Array Oper):List Oper->Option (List bt)
 |[]=>some []
 |o::os=>match lh n ops o,kN n ops os with
  |some r,some rs=>some (r::rs)
  |_,_=>none
def Hz (C:bx) (s:an) (f:aX) (args:List aX) (K:I->an->Prop):Prop:=
 ∃(g:FuncId) (caps:anZ) (ps:List b6) (r:I),a6 s f= .fn g caps/\I.dS caps=true/\ps.map (·.a)=args.map (a6 s)++caps/\(∀p∈ps,p.ok s)/\gE ps=true/\
   aY C g (ps.map (·.d)) r (ps.map (·.o))/\r.res=true/\(hx ps=true->r.ch=true/\∀p∈ps,p.o.ch=true)/\K r (fE (ea s ps) ps)
mutual
def I.fm (s:an):I->Bool
 | .h x q=>q.isEmpty&&(s x).own
 | .R x _=> !(s x).plain
 | .al _ _=>false
 | .hole=>true
 | .fn _ cap=>I.pN s cap
 |d=>d.plain
def I.pN (s:an):anZ->Bool
 |[]=>true
 |d::ds=>d.fm s&&I.pN s ds
end
def ox (s:an):anY->an
 |[]=>s
 |p::L=>ox (cK s p.1 p.2) L
def mu (s:an):anY->Bool
 |[]=>true
 |p::L=>p.2.fm s&&mu s L
def jB (s:an) (us:anU):anY:=us.map λu=>(u,s u)
def pO (C:bx) (s:an) (bz:dK) (K:I->an->Prop):Prop:=
 match bz with
 | .call f args=>∃(g:FuncId) (caps:anZ) (ps:List b6) (r:I),a6 s f= .fn g caps/\I.dS caps=true/\ps.map (·.a)=args.map (a6 s)++caps/\(∀p∈ps,p.ok s)/\gE ps=true/\
   aY C g (ps.map (·.d)) r (ps.map (·.o))/\r.res=true/\(hx ps=true->r.ch=true/\∀p∈ps,p.o.ch=true)/\K r (fE (ea s ps) ps)
 | .shr bz=>∃av s1,bJ C s bz=some (av,s1)/\av.tree=true/\(∀vs,av≠.tuple vs)/\K av.share s1
 | .mo f args us=>mu s (jB s us)=true/\Hz C s f args λav s1=>mu s1 (jB s us)=true/\K av (ox s1 (jB s us))
 |bz=>∃av s1,bJ C s bz=some (av,s1)/\K av s1
theorem Du {C:bx} {s:an} {bz:dK} {K c8:I->an->Prop} (h:pO C s bz K) (hk:∀av s,K av s->c8 av s):pO C s bz c8:=by
 cases bz with
 |call f args=>
  obtain⟨g,caps,ps,r,h1,gS,ab,ay,aT,bp,bX,bM,dy⟩:=h;exact⟨g,caps,ps,r,h1,gS,ab,ay,aT,bp,bX,bM,hk _ _ dy⟩
 |shr bz=>
  obtain⟨av,s1,h1,ab,ay,aT⟩:=h;exact⟨av,s1,h1,ab,ay,hk _ _ aT⟩
 |mo f args us=>
  obtain⟨b2,g,caps,ps,r,h1,gS,ab,ay,aT,bp,bX,bM,dy,hG⟩:=h;exact⟨b2,g,caps,ps,r,h1,gS,ab,ay,aT,bp,bX,bM,dy,hk _ _ hG⟩
 |_=>
  obtain⟨av,s1,h1,ab⟩:=h;exact⟨av,s1,h1,hk _ _ ab⟩
def mS (C:bx) (s:an) (o:bt) (K:an->Prop):Prop:=
 match o.guard with
 |none=>pO C s o.bz λav s1=>K (fin s1 o.dst av)
 |some (t,b)=>match s t with
  | .bool e8=>if e8=b then pO C s o.bz (λav s1=>K (fin s1 o.dst av))else K (fin s o.dst (.tuple []))
  | .tuple []=>K (fin s o.dst (.tuple []))
  |_=>False
def iq (C:bx) (s:an):List bt->(an->Prop)->Prop
 |[],K=>K s
 |o::os,K=>mS C s o λs1=>iq C s1 os K
def ko (C:bx) (ros:List bt) (s:an):anU->(an->Prop)->Prop
 |[],K=>K s
 |i::l,K=>match ros[i]? with
  |none=>ko C ros s l K
  |some o=>mS C s o λs1=>ko C ros s1 l K
theorem X5 (C:bx) (K:an->Prop):∀(rs pre:List bt) (s:an),iq C s rs K->ko C (pre++rs) s ((range rs.length).map (·+pre.length)) K:=by
 intro rs;induction rs with
 |nil=>intro pre s h;exact h
 |cons r rs ih=>
  intro pre s h;rw[length_cons,range_succ_eq_map,map_cons,List.map_map];simp only[ko,Nat.zero_add];rw[getElem?_append_right (Nat.le_refl _)];simp only[Nat.sub_self,getElem?_cons_zero];have key:∀s1,iq C s1 rs K->ko C (pre++r::rs) s1 ((range rs.length).map ((λx=>x+pre.length)∘succ)) K:=by
   intro s1 h1;have:=ih (pre++[r]) s1 h1;simp only[append_assoc,singleton_append,length_append,length_singleton]at this;have e:((λx=>x+pre.length)∘succ)=λx=>x+(pre.length+1):=by funext x;simp;omega
   rw[e];exact this
  simp only[iq]at h;unfold mS at h⊢;split
  .rename_i hg;rw[hg]at h;exact Du h λav s1=>key _
  .rename_i t b hg;rw[hg]at h;simp only at h;split
   .rename_i e8 U;rw[U]at h;simp only at h;split
    .rename_i R;rw[if_pos R]at h;exact Du h λav s1=>key _
    .rename_i R;rw[if_neg R]at h;exact key _ h
   .rename_i U;rw[U]at h;exact key _ h
   .rename_i h1 ab;split at h
    .exact h1 _ (by assumption)
    .exact ab (by assumption)
    .exact h
structure Rel (w0:World) (F0 X:Nat->Prop) (n:Fr) (ρ:Nat->Value) (s:an) (a:Act) (w:World):Prop where
 defers:a.defers=[]
 size:a.tmps.size=n.n
 fixed:∀i∈n.fx,a.tmps.getD i undef=ρ i
 rel:∃F S,bq w0 F0 X F S s (λt=>a.tmps.getD t undef) w
section
variable {C:bx} {w0 w:World} {F0 X:Nat->Prop} {n:Fr} {ρ:Nat->Value} {s s1:an} {a:Act} {av:I} {Q:Exit->Act->World->Prop}
theorem Dv {dst:Option Nat} (v:Value) (U:a.tmps.size=n.n) (ae:kM n dst=true):
  (λt=>(a.put dst v).tmps.getD t undef)=oi (λt=>a.tmps.getD t undef) dst v/\(a.put dst v).tmps.size=n.n/\(a.put dst v).defers=a.defers:=by
 cases dst with
 |none=>exact⟨rfl,U,rfl⟩
 |some d=>
  simp only[kM,Bool.and_eq_true,decide_eq_true_eq]at ae;refine⟨?_,by simp[Act.put,U],rfl⟩;funext t;simp only[Act.put,oi,cK,Array.getD_eq_getD_getElem?];by_cases h:t=d
  .subst h;rw[if_pos rfl,Array.getElem?_setIfInBounds_self_of_lt (by omega)];rfl
  .rw[if_neg h,Array.getElem?_setIfInBounds_ne (λe=>h e.symm)]
theorem Rel.put {F S} (ae:a.defers=[]) (U:a.tmps.size=n.n) (bc:∀i∈n.fx,a.tmps.getD i undef=ρ i) {aq:World} (ax:bq w0 F0 X F S s (λt=>a.tmps.getD t undef) aq) {v:Value} (aD:j5 w0 X F S s (λt=>a.tmps.getD t undef) aq av v)
  {dst:Option Nat} (eZ:kM n dst=true):Rel w0 F0 X n ρ (fin s dst av) (a.put dst v) aq:=by
 obtain⟨aI,aM,aP⟩:=Dv (n:=n) (dst:=dst) v U eZ;obtain⟨aJ,bn⟩:=ax.fin aD dst;refine⟨aP.trans ae,aM,λi ak=>?_,F,aJ,by rw[aI];exact bn⟩;rw[congrFun aI i];cases dst with
 |none=>exact bc i ak
 |some d=>
  simp only[kM,Bool.and_eq_true,Bool.not_eq_true',contains_eq_mem,decide_eq_false_iff_not]at eZ;have cI:i≠d:=λe=>eZ.2 (by rw[<-e];exact ak);simp only[oi];rw[ju _ _ cI];exact bc i ak
theorem Rel.skip (h:Rel w0 F0 X n ρ s a w) {dst:Option Nat} (eZ:kM n dst=true):Rel w0 F0 X n ρ (fin s dst (.tuple [])) (a.put dst undef) w:=by
 obtain⟨ae,U,bc,F,S,ax⟩:=h;refine Rel.put (av:=.tuple []) ae U bc ax (.inl ⟨rfl,(aF.b_ (d:=.tuple []) rfl).2 ⟨?_,?_⟩⟩) eZ
 .exact⟨#[],rfl,rfl,λk d x hk=>by simp at hk⟩
 .rw[ar,aW];rfl
theorem Ao {F:Nat->Prop} {au:Nat->Value} {w:World}:∀{ds es:anZ} {vs us:anX},cV w F s au ds vs->cV w F s au es us->cV w F s au (ds++es) (vs++us):=by
 intro ds;induction ds with
 |nil=>intro es vs us h1 ab;rw[cV]at h1;subst h1;exact ab
 |cons d ds ih=>
  intro es vs us h1 ab;rw[cV]at h1;obtain⟨v,eW,rfl,g1,g2⟩:=h1;rw[cons_append,cons_append,cV];exact⟨v,_,rfl,g1,ih g2 ab⟩
theorem xI {F:Nat->Prop} {au:Nat->Value} {w:World}:∀{ds:anZ} {vs:anX},cV w F s au ds vs->ds.length=vs.length/\∀(i:Nat) (d:I) (v:Value),ds[i]? =some d->vs[i]? =some v->aF w F s au d v (λ_=>False):=by
 intro ds;induction ds with
 |nil=>intro vs h;rw[cV]at h;subst h;exact⟨rfl,λi d v h=>by simp at h⟩
 |cons d ds ih=>
  intro vs h;rw[cV]at h;obtain⟨v,eW,rfl,g1,g2⟩:=h;obtain⟨bT,b2⟩:=ih g2;refine⟨by simp[bT],λi bf ek ae aD=>?_⟩;cases i with
  |zero=>simp at ae aD;subst ae aD;exact g1
  |succ i=>exact b2 i bf ek (by simpa using ae) (by simpa using aD)
theorem rJ {op:Op} {bz:dK} (h:qw op=bz):bz= .bad\/cP op=some bz:=by
 unfold qw at h;split at h
 .subst h;right;assumption
 .exact .inl h.symm
theorem X6 {op:Op} {bz:dK}:cP op≠some (.shr bz):=by
 intro h;unfold cP at h;split at h<;>(try split at h)<;>(try split at h)<;>(try split at h)<;>(try simp[Option.map_eq_some_iff]at h)
theorem X7 {op:Op} {f:aX} {args:List aX} {us:anU}:cP op≠some (.mo f args us):=by
 intro h;unfold cP at h;split at h<;>(try split at h)<;>(try split at h)<;>(try split at h)<;>(try simp[Option.map_eq_some_iff]at h)
theorem X8 {op:Op} {T:TypeId} {x:aX}:cP op≠some (.jR T x):=by
 intro h;unfold cP at h;split at h<;>(try split at h)<;>(try split at h)<;>(try split at h)<;>(try simp[Option.map_eq_some_iff]at h)
theorem X9 {op:Op} {T b5:TypeId} {x y:aX}:cP op≠some (.iV T b5 x y):=by
 intro h;unfold cP at h;split at h<;>(try split at h)<;>(try split at h)<;>(try split at h)<;>(try simp[Option.map_eq_some_iff]at h)
theorem X_ {op:Op} {T b5:TypeId} {x y:aX} (h:cP op=some (.app T b5 x y)):∃a b,op= .call ⟨.builtin .append,#[a,b],#[T,b5]⟩/\dz a=some x/\dz b=some y:=by
 cases op with
 |call c=>
  obtain⟨callee,args,argTypes⟩:=c;simp only[cP]at h;split at h
  .split at h<;>simp at h
  .split at h<;>simp at h
  .split at h<;>simp at h
  ·(split at h<;>try split at h)<;>simp at h
  ·(split at h<;>try split at h)<;>simp at h
  .split at h
   .rename_i a b xJ Dm lf vx;split at h
    .rename_i cF lJ ag hy;simp only[Option.some.injEq,dK.app.injEq]at h;obtain⟨rfl,rfl,rfl,rfl⟩:=h;refine⟨a,b,?_,ag,hy⟩;have aI:args= #[a,b]:=by apply Array.ext';exact lf
     have aM:argTypes= #[xJ,Dm]:=by apply Array.ext';exact vx
     subst aI aM;rfl
    .cases h
   .cases h
  .cases h
 |makeFunc fn first cs=>
  cases fn<;>simp only[cP]at h<;>first|(cases h;done)|(split at h<;>simp at h)
 |slice T x eK ak eI=>
  cases eI<;>simp only[cP]at h<;>first|(cases h;done)|(split at h<;>simp at h)
 |makeMap T r=>cases r<;>simp only[cP]at h<;>simp at h
 |lookup T x i c=>cases c<;>simp only[cP]at h<;>first|(cases h;done)|(split at h<;>simp at h)
 |_=>simp only[cP]at h<;>first|(cases h;done)|(simp at h;done)|(split at h<;>simp at h)
theorem bq.alias {F:Nat->Prop} {S:Nat->Nat->Prop} {au:Nat->Value} {u x:Nat} (h:bq w0 F0 X F S s au w) (hu:s u= .hole) (ag:(s x).own=true) (aD:bZ (au u)=bZ (au x)) (h1:Value.eJ (au u)=true):
  bq w0 F0 X F (fY S u (λ_=>False)) (cK s u (.h x [])) au w:=by
 have dW:cK au u (au u)=au:=by funext y;simp only[cK];split<;>simp_all
 have:=h.tB (t:=u) (d:=.h x []) (v:=au u) rfl (by
  rw[aF];intro d ae al;simp only[I.sub,Option.some.injEq]at ae;subst ae;exact⟨bZ (au x),none,rfl,aD,((vA ag).2.2.2.2.2 _).2 h1⟩)
 rwa [dW]at this
theorem j5.less {F:Nat->Prop} {S aJ:Nat->Nat->Prop} {au:Nat->Value} {s1:an} {v:Value} (bE:∀u b,aJ u b->S u b) (ax:av.res=true) (h:j5 w0 X F S s au w av v):j5 w0 X F aJ s1 au w av v:=by
 rcases h with⟨h1,ab⟩|⟨h1,ab,Sn,ay,aT,bp,bX,bM⟩
 .refine .inl ⟨h1,?_⟩;cases av<;>first
   |(simp[I.res]at ax;done)
   |(rw[aF];trivial)
   |(rw[aF]at ab⊢;exact ab)
 .exact .inr ⟨h1,ab,Sn,ay,aT,bp,λu b R hu=>bX u b R (bE u b hu),bM⟩
theorem Oo (bb:C.Ok) (h:Rel w0 F0 X n ρ s a w) {o:Oper} {f:aX} {args:List aX} (bH:cP o.op=some (.call f args)) (ae:kM n o.dst=true) {K:I->an->Prop} {L:an->Prop} {next:Act->World->Prop}
  (hw:Hz C s f args K) (jC:∀F S br aJ w aq av s1 v,bq w0 F0 X F S s (λt=>a.tmps.getD t undef) w->K av s1->av.res=true->bq w0 F0 X br aJ s1 (λt=>a.tmps.getD t undef) aq->j5 w0 X br aJ s1 (λt=>a.tmps.getD t undef) aq av v->(∀b,F b->br b/\aq.heap[b]? =w.heap[b]?)->
   ∃s2 cH,L (fin s2 o.dst av)/\bq w0 F0 X br cH s2 (λt=>a.tmps.getD t undef) aq/\j5 w0 X br cH s2 (λt=>a.tmps.getD t undef) aq av v)
  (aN:∀aA bN aq,L aA->Rel w0 F0 X n ρ aA bN aq->next bN aq):o.wp C.P a w next Q:=by
 have hrel:=h;obtain⟨iX,dr,hz,F,S,ax⟩:=h;obtain⟨g,caps,ps,r,h1,gS,ab,ay,aT,bp,bX,bM,dy⟩:=hw;obtain⟨dst,op,ty,pos,after,guard⟩:=o;simp only at bH ae jC;cases op with
 |call c=>
  obtain⟨callee,mT,argTypes⟩:=c;simp only[cP]at bH;split at bH
  .split at bH
   .rename_i sH _ _ Oq xs bc km;simp only[Option.some.injEq,dK.call.injEq]at bH;obtain⟨rfl,rfl⟩:=bH;obtain⟨f1,f2⟩:=e9 ax (λ_=>rfl) bc;rw[h1,aF]at f2;obtain⟨arr,f3,f4⟩:=f2;have qx:execOp a.eval {dst,op:=.call {callee:=.value sH,args:=mT,argTypes},type:=ty,pos,after,guard}=callFunc g ((mT.toList.map a.eval++arr.toList).toArray):=by
     have:a.eval sH= .func (.func g) #[] arr:=f3;simp only[execOp,resolve,this,Deferred.ofValue,pure_bind,invoke];congr 1;apply Array.ext';simp
    unfold Oper.wp;rw[qx];have Ap:cV w F s (λt=>a.tmps.getD t undef) (xs.map (a6 s)++caps) (mT.toList.map a.eval++arr.toList):=Ao (Ab ax (λ_=>rfl) _ _ (sE km)) f4;rw[<-ab]at Ap;obtain⟨en,l2⟩:=xI Ap;have eA:∀d∈xs.map (a6 s)++caps,d.plain=true:=by
     intro d ae;rcases mem_append.1 ae with ae|ae
     .obtain⟨x,ag,rfl⟩:=mem_map.1 ae;exact MV s x λav e=>by
       subst e;have hm:=sE km;have:some (aX.c av)∈xs.map some:=mem_map.2 ⟨_,ag,rfl⟩;rw[<-hm]at this;obtain⟨o,_,a1⟩:=mem_map.1 this;cases o with
       |const v=>simp only[dz,Option.map_eq_some_iff]at a1;obtain⟨c,ai,e⟩:=a1;cases e;exact GI ai
       |tmp n=>simp[dz]at a1
       |func g=>simp[dz]at a1
       |global g=>simp[dz]at a1
     .obtain⟨k,hk⟩:=getElem?_of_mem ae;exact CV gS hk
    have xK:=X4 (C:=C) ax (ps:=ps) (vs:=mT.toList.map a.eval++arr.toList) (f:=g) (r:=r) (by simpa using en)
     (λi p v al aD=>⟨eA p.a (by rw[<-ab];exact mem_map.2 ⟨p,mem_of_getElem? al,rfl⟩),l2 i p.a v (by simp[al]) aD⟩) ay aT bp bX bM
    rcases xK with⟨cY,bl⟩|⟨v,aq,cY,br,aJ,bl,cz,b0⟩
    .rw[cY,Oper.upon_enter];refine Calls.mono bl ?_;rintro e aq ⟨v,rfl,br,aJ,bT,b2,dm⟩;obtain⟨s2,cH,m1,m2,m3⟩:=jC _ _ _ _ _ _ _ _ _ ax dy bX bT b2 dm;exact aN _ _ _ m1 (Rel.put iX dr hz m2 m3 ae)
    .rw[cY,Oper.upon_value];obtain⟨s2,cH,m1,m2,m3⟩:=jC _ _ _ _ _ _ _ _ _ ax dy bX bl cz b0;exact aN _ _ _ m1 (Rel.put iX dr hz m2 m3 ae)
   .cases bH
  .split at bH
   .simp only[Option.map_eq_some_iff]at bH;obtain⟨_,_,bH⟩:=bH;cases bH
   .cases bH
  .split at bH
   .simp only[Option.map_eq_some_iff]at bH;obtain⟨_,_,bH⟩:=bH;cases bH
   .cases bH
  iterate 3
   .split at bH
    .split at bH<;>cases bH
    .cases bH
  .cases bH
 |makeFunc fn first cs=>
  cases fn<;>simp only[cP]at bH<;>first|(cases bH;done)|(split at bH<;>simp at bH)
 |slice T x eK ak eI=>
  cases eI<;>simp only[cP]at bH<;>first|(cases bH;done)|(split at bH<;>simp at bH)
 |makeMap T r=>cases r<;>simp only[cP]at bH<;>simp at bH
 |lookup T x i c=>cases c<;>simp only[cP]at bH<;>first|(cases bH;done)|(split at bH<;>simp at bH)
 |_=>simp only[cP]at bH<;>first|(cases bH;done)|(simp at bH;done)|(split at bH<;>simp at bH)
theorem Ya (bb:C.Ok) (h:Rel w0 F0 X n ρ s a w) {o:Oper} {bz:dK} (bH:cP o.op=some bz) (ae:kM n o.dst=true) {K:an->Prop} {next:Act->World->Prop}
  (hw:pO C s bz λav s1=>K (fin s1 o.dst av)) (aN:∀aA bN aq,K aA->Rel w0 F0 X n ρ aA bN aq->next bN aq):o.wp C.P a w next Q:=by
 have hrel:=h;obtain⟨iX,dr,hz,F,S,ax⟩:=h;have plain:∀av s1,bJ C s bz=some (av,s1)->K (fin s1 o.dst av)->o.wp C.P a w next Q:=by
  intro av s1 he hk;obtain⟨r,aq,v,br,aJ,h1,ab,ay,aT⟩:=NT (a:=a) bb ax (λ_=>rfl) bH he;unfold Oper.wp;rw[h1];rcases ab with rfl|⟨rfl,rfl⟩
  .exact aN _ _ _ hk (Rel.put iX dr hz ay aT ae)
  .exact aN _ _ _ hk (Rel.put iX dr hz ay aT ae)
 cases bz with
 |shr bz=>exact(X6 bH).elim
 |iV T b5 x y=>exact(X9 bH).elim
 |call f args=>exact Oo bb ⟨iX,dr,hz,F,S,ax⟩ bH ae (K:=λav s1=>K (fin s1 o.dst av)) hw (λ_ _ _ aJ _ _ _ s1 _ _ ab _ ay aT _=>⟨s1,aJ,ab,ay,aT⟩) aN
 |mo f args L=>exact(X7 bH).elim
 |jR T x=>exact(X8 bH).elim
 |_=>
  obtain⟨av,s1,he,hk⟩:=hw;exact plain av s1 he hk
theorem j5.share {F:Nat->Prop} {S:Nat->Nat->Prop} {au:Nat->Value} {v:Value} (h:bq w0 F0 X F S s au w) (aD:j5 w0 X F S s au w av v) (aL:av.tree=true) (aN:∀vs,av≠.tuple vs):
  ∃br,bq w0 F0 X br S s au w/\j5 w0 X br S s au w av.share v:=by
 obtain⟨Sn,eH,eB,gD,gK,xp,Aq⟩:∃Sn:Nat->Prop,c7 av v/\ar w F av (bZ v) Sn/\(∀b,Sn b->b<w.heap.size)/\(∀b,Sn b->¬F b)/\(∀u b,Sn b->¬S u b)/\(∀b,Sn b->X b\/w0.heap.size<=b):=by
  rcases aD with⟨h1,ab⟩|⟨_,ab,Sn,ay,aT,bp,bX,bM⟩
  .rw[aF.b_ aL]at ab;exact⟨λ_=>False,ab.1,ab.2,λ_ h=>h.elim,λ_ h=>h.elim,λ_ _ h=>h.elim,λ_ h=>h.elim⟩
  .exact⟨Sn,ab,ay,aT,bp,bX,bM⟩
 refine⟨λb=>F b\/Sn b,?_,.inl ⟨Ho av,?_⟩⟩
 .exact {
   fl:=λb R=>.inl (h.fl b R)
   fL:=λb R=>by
    rcases R with R|R
    .exact h.fL b R
    .exact .inr (Aq b R)
   dV:=λb R=>R.elim (h.dV b) (gD b)
   dh:=h.dh
   ep:=λt b R bc=>bc.elim (h.ep t b R) (λU=>xp t b U R)
   ev:=h.ev
   cR:=h.cR
   cD:=λt=>aF.frame (λ_ _=>rfl) (λb R=>.inl R) (λ_ _ _=>rfl) h.cD _ _ _ (λ_ _=>rfl) (h.cD t)
   old:=h.old
   size:=h.size
   os:=h.os
   tape:=h.tape
   output:=h.output
   e4:=h.e4}
 .by_cases a1:∃o,av= .cc o
  .obtain⟨o,rfl⟩:=a1;rw[I.share,aF];trivial
  by_cases Dw:∃f c,av= .bm f c
  .obtain⟨f,c,rfl⟩:=Dw;rw[I.share,aF];trivial
  by_cases Ot:∃c,av= .cX c
  .obtain⟨c,rfl⟩:=Ot;rw[I.share,aF];trivial
  have Yb:av.share.tree=true:=by cases av<;>first|exact aL|rfl|exact(a1 ⟨_,rfl⟩).elim|exact(Dw ⟨_,_,rfl⟩).elim|exact(Ot ⟨_,rfl⟩).elim
  rw[aF.b_ Yb];exact⟨Hq aN eH,ar.shared (λb R=>.inl R) av _ Sn (λb R=>.inr R) eB⟩
theorem Yc {op:Op} {T:TypeId} {x:aX} (h:cP op=some (.h2 T x)):∃a,op= .box T a/\dz a=some x:=by
 cases op with
 |box xJ a=>
  simp only[cP,Option.map_eq_some_iff,dK.h2.injEq]at h;obtain⟨y,hy,rfl,rfl⟩:=h;exact⟨a,rfl,hy⟩
 |_=>
  exfalso;unfold cP at h;split at h<;>(try split at h)<;>(try split at h)<;>(try split at h)<;>(try simp[Option.map_eq_some_iff]at h)<;>contradiction
theorem Yd {aq:World} {F br:Nat->Prop} {s s1:an} {au:Nat->Value} (a8:∀b,F b->br b/\aq.heap[b]? =w.heap[b]?):∀(n:Nat),
  (∀(d:I) (v:Value) (S:Nat->Prop),SizeOf.sizeOf d<=n->d.fm s=true->d.fm s1=true->aF w F s au d v S->aF aq br s1 au d v (λ_=>False))/\
  (∀(ds:anZ) (vs:anX),SizeOf.sizeOf ds<=n->I.pN s ds=true->I.pN s1 ds=true->cV w F s au ds vs->cV aq br s1 au ds vs):=by
 intro n;induction n with
 |zero=>
  refine⟨λd v S bC=>?_,λds vs bC=>?_⟩
  .cases d<;>simp at bC<;>omega
  .cases ds<;>simp at bC<;>omega
 |succ n ih=>
  refine⟨λd v S bC bT b2 h=>?_,λds vs bC bT b2 h=>?_⟩
  .cases d with
   |hole=>rw[aF];trivial
   |h x q=>
    simp only[I.fm,Bool.and_eq_true,isEmpty_iff]at bT b2;obtain⟨rfl,bT⟩:=bT;rw[aF]at h⊢;obtain⟨cx,a,eF,fk,hp⟩:=h (s x) (by simp only[I.sub]) (vA bT).1;simp only[c6,Option.some.injEq,Prod.mk.injEq,true_and]at eF;intro d ae _;simp only[I.sub,Option.some.injEq]at ae;subst ae;exact⟨bZ (au x),none,by simp only[c6],by rw[fk,<-eF.1],((vA b2.2).2.2.2.2.2 _).2 (((vA bT).2.2.2.2.2 _).1 hp)⟩
   |al x q=>simp[I.fm]at bT
   |R x k=>
    simp only[I.fm,Bool.not_eq_true']at bT;rw[aF]at h⊢;obtain⟨b,cur,e,fr,h1,ab,ay,aT⟩:=h bT;exact λ_=>⟨b,cur,e,fr,h1,(a8 b ab).1,(a8 b ab).2.trans ay,aT⟩
   |fn f cap=>
    simp only[I.fm]at bT b2;rw[aF]at h⊢;obtain⟨arr,rfl,ai⟩:=h;exact⟨arr,rfl,ih.2 _ _ (by simp at bC;omega) bT b2 ai⟩
   |_=>
    simp only[I.fm]at bT;have bn:=(aF.b_ rfl).1 h;exact(aF.b_ rfl).2 ⟨bn.1,ar.mono (λb R=>(a8 b R).1) _ _ _ _ (λ_ h=>h) (ar.frame (λb R=>(a8 b R).2) _ _ _ (λ_ h=>h.elim) (ar.plain _ _ _ _ bT bn.2))⟩
  .cases ds with
   |nil=>rw[cV]at h⊢;exact h
   |cons d ds=>
    simp only[I.pN,Bool.and_eq_true]at bT b2;rw[cV]at h⊢;obtain⟨v,eW,rfl,h1,ab⟩:=h;simp at bC;exact⟨v,eW,rfl,ih.1 _ _ _ (by omega) bT.1 b2.1 h1,ih.2 _ _ (by omega) bT.2 b2.2 ab⟩
theorem Ye {s:an} {d:I} (h:d.fm s=true):d.plain=true:=by
 cases d<;>first|rfl|(simpa [I.fm]using h)
theorem bq.ox {F:Nat->Prop} {au:Nat->Value}:∀(L:anY) (s:an) (S:Nat->Nat->Prop),bq w0 F0 X F S s au w->(∀p∈L,p.2.plain=true/\aF w F s au p.2 (au p.1) (λ_=>False))->
  ∃aJ,bq w0 F0 X F aJ (cC.ox s L) au w/\∀u b,aJ u b->S u b:=by
 intro L;induction L with
 |nil=>intro s S h _;exact⟨S,h,λ_ _ h=>h⟩
 |cons p L ih=>
  intro s S h jC;obtain⟨h1,ab⟩:=jC p (by simp);have dW:cK au p.1 (au p.1)=au:=by funext u;simp only[cK];split<;>simp_all
  have ay:=h.tB (t:=p.1) h1 ab;rw[dW]at ay;have gY:∀x,x≠p.1->(cK s p.1 p.2 x).tree=true->cK s p.1 p.2 x=s x/\au x=au x:=λx ag _=>⟨ju _ _ ag,rfl⟩
  obtain⟨aJ,g1,g2⟩:=ih _ _ ay (λq ca=>⟨(jC q (by simp[ca])).1,(aF.void (t:=p.1) gY (by rw[nv];exact h1) _).1 _ _ _ (Nat.le_refl _) (jC q (by simp[ca])).2⟩);refine⟨aJ,g1,λu b R=>?_⟩;have:=g2 u b R;simp only[fY]at this;split at this
  .exact this.elim
  .exact this
theorem HA {s:an}:∀{L:anY},mu s L=true->∀p∈L,p.2.fm s=true
 |q::L,h1,p,al=>by
  simp only[mu,Bool.and_eq_true]at h1;rcases mem_cons.1 al with rfl|al
  .exact h1.1
  .exact HA h1.2 p al
theorem Yf {s:an} {us:anU} {p:Nat×I} (h:p∈jB s us):p.1∈us/\s p.1=p.2:=by
 obtain⟨u,hu,rfl⟩:=mem_map.1 h;exact⟨hu,rfl⟩
theorem Yg (bb:C.Ok) (h:Rel w0 F0 X n ρ s a w) {o:Oper} {bz:dK} (bH:qw o.op=bz.base) (ae:kM n o.dst=true) {K:an->Prop} {next:Act->World->Prop}
  (hw:pO C s bz λav s1=>K (fin s1 o.dst av)) (aN:∀aA bN aq,K aA->Rel w0 F0 X n ρ aA bN aq->next bN aq):o.wp C.P a w next Q:=by
 cases bz with
 |shr bz=>
  obtain⟨av,s1,he,aL,ow,hk⟩:=hw;rcases rJ bH with bH|bH
  .change bz= .bad at bH;subst bH;cases he
  obtain⟨iX,dr,hz,F,S,ax⟩:=h;obtain⟨r,aq,v,br,aJ,h1,ab,ay,aT⟩:=NT (a:=a) bb ax (λ_=>rfl) bH he;obtain⟨mr,g3,g4⟩:=j5.share ay aT aL ow;unfold Oper.wp;rw[h1];rcases ab with rfl|⟨rfl,rfl⟩
  .exact aN _ _ _ hk (Rel.put iX dr hz g3 g4 ae)
  .exact aN _ _ _ hk (Rel.put iX dr hz g3 g4 ae)
 |bad=>obtain⟨av,s1,he,_⟩:=hw;cases he
 |mo f args L=>
  obtain⟨aM,hw⟩:=hw;rcases rJ bH with R|R
  .cases R
  .refine Oo bb h R ae hw ?_ aN;rintro F S br aJ w aq av s1 v eH ⟨eB,gK⟩ xp Aq HB Yh;obtain⟨cH,g1,g2⟩:=Aq.ox (jB s L) s1 aJ (λp al=>by
    have cY:=(Yf al).2;have bl:=HA aM p al;have cz:=HA eB p al;refine⟨Ye bl,(Yd Yh _).1 _ _ (S p.1) (Nat.le_refl _) bl cz ?_⟩;have:=eH.cD p.1;rw[cY]at this;exact this)
   exact⟨_,cH,gK,g1,HB.less g2 xp⟩
 |jR T x=>
  obtain⟨av,s1,he,hk⟩:=hw;rcases rJ bH with R|R
  .cases R
  .obtain⟨cF,qy,ag⟩:=Yc R;obtain⟨iX,dr,hz,F,S,ax⟩:=h;obtain⟨dst,op,ty,pos,after,guard⟩:=o;simp only at qy ae hk;subst qy;obtain⟨r,aq,v,br,aJ,h1,ab,ay,aT⟩:Next C w0 F0 X (λt=>a.tmps.getD t undef) w (execOp a.eval ⟨dst,.box T cF,ty,pos,after,guard⟩) av s1:=(Wm (T:=T) ax (e9 ax (λ_=>rfl) ag).2 he).next;unfold Oper.wp;rw[h1];rcases ab with rfl|⟨rfl,rfl⟩
   .exact aN _ _ _ hk (Rel.put iX dr hz ay aT ae)
   .exact aN _ _ _ hk (Rel.put iX dr hz ay aT ae)
 |iV T b5 x y=>
  obtain⟨av,s1,he,hk⟩:=hw;rcases rJ bH with R|R
  .cases R
  .obtain⟨cF,lJ,qy,ag,hy⟩:=X_ R;obtain⟨iX,dr,hz,F,S,ax⟩:=h;simp only[bJ,Option.map_eq_some_iff,Prod.mk.injEq]at he;obtain⟨d,gq,rfl,rfl⟩:=he;obtain⟨v,aq,br,aJ,h1,ab,ay⟩:=W_ (ty:=o.type) bb ax (e9 ax (λ_=>rfl) ag).2 (e9 ax (λ_=>rfl) hy).2 gq;have qx:execOp a.eval o=(do pure (.value (<-Builtin.append_ #[T,b5] o.type #[a.eval cF,a.eval lJ]))):=by
    obtain⟨dst,op,ty,pos,after,guard⟩:=o;simp only at qy;subst qy;simp[execOp,resolve,invoke,builtin]
   unfold Oper.wp;rw[qx];simp only[Sem.run_bind,h1,Result.andThen];exact aN _ _ _ hk (Rel.put iX dr hz ab ay ae)
 |_=>
  rcases rJ bH with R|R
  .cases R
  .exact Ya bb h R ae hw aN
end
end Go.cC
