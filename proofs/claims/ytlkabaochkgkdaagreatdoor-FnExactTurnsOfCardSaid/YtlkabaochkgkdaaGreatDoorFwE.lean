/- Part of a proof that a law returns true for every input. No condition. -/
import Derived.Test.YtlkabaochkgkdaaGreatDoorFwD
import Derived.Laws.Tables
namespace Go.c_
section
variable {C:cl} {w0 w:World} {F0 X F:Nat->Prop} {S:Nat->Nat->Prop} {s s1:ar} {aC:Nat->Value} {av:I}
theorem Cg (z:List Value):∀n,(List.range (n*z.length)).map (λi=>z[i%z.length]!)=(List.replicate n z).flatten
 |0=>by simp
 |n+1=>by
  rw[Nat.add_mul,Nat.one_mul,List.range_add,List.map_append,Cg z n,List.replicate_succ',List.flatten_append];congr 1;simp only[List.map_map,List.flatten_cons,List.flatten_nil,List.append_nil];apply List.ext_getElem
  .simp
  .intro i ag ah;have an:i<z.length:=ah;simp[Nat.mod_eq_of_lt an,an]
theorem bm.replicate {d:I} {cs:List Value} (h:∀aW,ax w F d cs aW):∀n aW,bm w F (List.replicate n d) (List.replicate n cs).flatten aW
 |0,aW=>by simp only[List.replicate_zero,List.flatten_nil];rw[bm]
 |n+1,aW=>by
  rw[List.replicate_succ,List.replicate_succ,List.flatten_cons,bm];exact⟨cs,_,λ_=>False,λ_=>False,rfl,h _,bm.replicate h n _,λ_ h=>h.elim,λ_ h=>h.elim,λ_ h=>h.elim⟩
def eu (C:cl) (T:TypeId) (l c:I):Option I:=
 match(C.T T).k,l,c with
 | .slice e,.int .i64 n,.int .i64 m=>if n=m/\0<=n/\(C.T e).ok=true/\(C.T e).zero.wd=(C.T e).sz/\(flat (C.T e).zero).isSome=true/\(C.T e).sz≠0/\(C.T e).bytes*n<=140737488355328/\n<=9223372036854775807 then
   some (.ao (C.T e).sz (List.replicate n.toNat (C.T e).zero))else none
 |_,_,_=>none
theorem UF (bx:C.fc) (h:bU w0 F0 X F S s aC w) {T:TypeId} {l c:I} {LU LV:Value} (hl:aO w F s aC l LU (λ_=>False)) (aq:aO w F s aC c LV (λ_=>False)) (he:eu C T l c=some av):
  Good C w0 F0 X aC w (Instr.makeSlice T LU LV) av s:=by
 unfold eu at he;split at he
 .rename_i e n m ay;have:=nI hl;subst this;have:=nI aq;subst this;obtain⟨Hk,d,Hl,aX,a6,aQ,cC,cF,cc,b4⟩:=bx.info (gG ay (by simp));rw[ay]at b4;have:=mh b4;subst this;split at he
  .rename_i tW;obtain⟨rfl,a7,pN,qE,rD,eM,LW,sE⟩:=tW;simp only[Option.some.injEq]at he;subst he;obtain⟨i,Hm,z,f1,f2,f3,f4,f5,f6,f7⟩:=bx.info pN;obtain⟨fB,mG⟩:=Option.isSome_iff_exists.1 rD;have rE:=f5 fB mG;have hc:∀aW,ax w F (C.T e).zero fB aW:=λaW=>(ax.flat _).1 _ fB aW (Nat.le_refl _) mG;have pP:fB.length=(C.T e).sz:=by rw[ax.length _ _ _ (hc (λ_=>False)),qE]
   obtain⟨n,rfl⟩:=Int.eq_ofNat_of_zero_le a7;simp only[Int.toNat_natCast];have wA:IntKind.i64.wrap (n:Int)=n:=by
    rw[IntKind.wrap_i64];omega
   have wy:∀k (w:World),(askRoom k).run C.P w= .ok () w:=by
    intro k w;unfold askRoom;split<;>rfl
   have pL:((Array.range (n*(C.T e).sz)).map (fB.toArray[·%fB.toArray.size]!)).toList=(List.replicate n fB).flatten:=by
    have:=Cg fB n;rw[pP]at this;simpa [pP]using this
   have e6:¬(281474976710656<(i.bytes:Int)*n):=by
    rw[f3];omega
   have Ch:¬((n:Int)<0):=by omega
   have run:(Instr.makeSlice T (.int .i64 n) (.int .i64 n)).run C.P w= .ok (.slice (some ⟨w.heap.size,0,none⟩) n n)
     (w.alloc (.cells (if n*(C.T e).sz=0 then(Array.range (n*(C.T e).sz)).map (λ_=>default)else(Array.range (n*(C.T e).sz)).map (fB.toArray[·%fB.toArray.size]!)) e)):=by
    by_cases ba:n*(C.T e).sz=0
    .simp[Instr.makeSlice,run_underlying cc,asInt,asIntOf,tT f1,wA,e6,Ch,wy,kJ f1,f2,ba,newRow]
    .simp only[ba,if_false];simp[Instr.makeSlice,run_underlying cc,asInt,asIntOf,tT f1,wA,e6,Ch,wy,kJ f1,f2,ba,newRow,sA f1 f4,rE]
   have mc:(if n*(C.T e).sz=0 then(Array.range (n*(C.T e).sz)).map (λ_=>(default:Value))else(Array.range (n*(C.T e).sz)).map (fB.toArray[·%fB.toArray.size]!)).toList=(List.replicate n fB).flatten:=by
    split
    .rename_i ba;have:n=0:=by
      rcases Nat.mul_eq_zero.1 ba with h|h
      .exact h
      .exact(eM h).elim
     subst this;simp
    .exact pL
   generalize ue:(if n*(C.T e).sz=0 then(Array.range (n*(C.T e).sz)).map (λ_=>(default:Value))else(Array.range (n*(C.T e).sz)).map (fB.toArray[·%fB.toArray.size]!))=cur at run mc;have j2:(List.replicate n fB).flatten.length=n*(C.T e).sz:=by simp[pP]
   have hI:cur.size=n*(C.T e).sz:=by
    have:cur.size=cur.toList.length:=by simp
    rw[this,mc,j2]
   have la:=h.yV (aL:=w.alloc (.cells cur e)) (sz:=(C.T e).sz) (cap:=n) (xs:=List.replicate n (C.T e).zero) (cur:=cur) (e:=e) (fr:=(0,0)) (Sn:=λ_=>False) rfl rfl rfl ⟨rfl,λ_=>Nat.le_refl _⟩
    (λo _ ⟨_,ah⟩=>absurd ah (Nat.not_lt_zero _)) (by simp) (by unfold maxLen;omega) hI (by intro d aj;rw[List.eq_of_mem_replicate aj];exact qE)
    (by rw[mc,List.length_replicate,List.take_of_length_le (by rw[j2];exact Nat.le_refl _)];exact bm.replicate hc n _) (λ_ h=>h.elim) (λ_ h=>h.elim) (λ_ _ h=>h.elim) (λ_ h=>h.elim)
   rw[List.length_replicate]at la;exact⟨_,_,F,S,run,la.1,la.2⟩
  .cases he
 .cases he
def oY (C:cl) (T bZ:TypeId) (x y:I):Option I:=
 match(C.T T).k,(C.T bZ).k,x,y with
 | .slice e,.int _,.bz,.int .i64 n=>if 0<=n/\(C.T e).ok=true/\(C.T e).zero.wd=(C.T e).sz/\(flat (C.T e).zero).isSome=true/\(C.T e).sz≠0/\(C.T e).bytes*n<=140737488355328/\n<=9223372036854775807 then
   some (.ao (C.T e).sz (List.replicate n.toNat (C.T e).zero))else none
 |_,_,_,_=>none
theorem UG {P:Program} {T bZ ty e:TypeId} {k:IntKind} {i:TypeInfo} {z:Value} (bj:P.underlying T=some (.slice e)) (hu:P.underlying bZ=some (.int k)) (an:P.info? e=some i) (cg:i.zero=some z)
  (n:Nat) (ba:n≠0) (ae:i.size≠0) (a7:n<=9223372036854775807) (ad:n*i.bytes<=140737488355328):
  (Builtin.append_ #[T,bZ] ty #[.slice none 0 0,.int .i64 n]).run P w= .ok (.slice (some ⟨w.heap.size,0,none⟩) n (grownCap w n 0 e))
   (w.drew.alloc (.cells (Builtin.zeroCells z.cells n++Builtin.zeroCells z.cells (grownCap w n 0 e-n)) e)):=by
 have wA:IntKind.i64.wrap (n:Int)=n:=by rw[IntKind.wrap_i64];omega
 have Ch:¬((n:Int)<0):=by omega
 have hmul:(n:Int)*(i.bytes:Int)=((n*i.bytes:Nat):Int):=by simp
 have e6:¬(281474976710656<(n:Int)*(i.bytes:Int)):=by rw[hmul];omega
 have iP:¬(281474976710656<Builtin.nextslicecap n 0*i.bytes):=by
  have:Builtin.nextslicecap n 0=n:=by unfold Builtin.nextslicecap;rw[if_pos (by omega)]
  rw[this];omega
 have wy:∀k (w:World),(askRoom k).run P w= .ok () w:=by
  intro k w;unfold askRoom;split<;>rfl
 have Hh:¬(9223372036854775807<(n:Int)):=by omega
 have Ht:n*i.size≠0:=Nat.mul_ne_zero ba ae;simp[Builtin.append_,run_underlying bj,run_underlying hu,kJ an,tT an,asInt,asIntOf,wA,Ch,e6,iP,ba,Question.forced,wy,Hh,sA an cg,newRow,grownCap,Builtin.firstCells];intro gF;exact(Ht gF).elim
theorem UH (bx:C.fc) (h:bU w0 F0 X F S s aC w) {T bZ ty:TypeId} {x y:I} {iF jx:Value} (aw:aO w F s aC x iF (λ_=>False)) (hy:aO w F s aC y jx (λ_=>False)) (he:oY C T bZ x y=some av):
  Good C w0 F0 X aC w (Builtin.append_ #[T,bZ] ty #[iF,jx]) av s:=by
 unfold oY at he;split at he
 .rename_i e aG8 n ay LX;have:=rA aw;subst this;have:=nI hy;subst this;obtain⟨Hk,d,Hl,aX,a6,aQ,cC,cF,cc,b4⟩:=bx.info (gG ay (by simp));rw[ay]at b4;have:=mh b4;subst this;obtain⟨aG9,aG_,aHa,sJ,Ci,Hu,y3,aHb,Hv,LY⟩:=bx.info (gG LX (by simp));rw[LX]at LY;have:=yL LY;subst this;split at he
  .rename_i tW;obtain⟨a7,pN,qE,rD,eM,LW,sE⟩:=tW;simp only[Option.some.injEq]at he;subst he;obtain⟨i,Hm,z,f1,f2,f3,f4,f5,f6,f7⟩:=bx.info pN;obtain⟨fB,mG⟩:=Option.isSome_iff_exists.1 rD;have rE:=f5 fB mG;have hc:∀aW,ax w F (C.T e).zero fB aW:=λaW=>(ax.flat _).1 _ fB aW (Nat.le_refl _) mG;have pP:fB.length=(C.T e).sz:=by rw[ax.length _ _ _ (hc (λ_=>False)),qE]
   obtain⟨n,rfl⟩:=Int.eq_ofNat_of_zero_le a7;simp only[Int.toNat_natCast];by_cases ba:n=0
   .subst ba;have run:(Builtin.append_ #[T,bZ] ty #[.slice none 0 0,.int .i64 ((0:Nat):Int)]).run C.P w= .ok (.slice none 0 0) w:=by
     have wA:IntKind.i64.wrap 0=0:=by decide
     simp[Builtin.append_,run_underlying cc,run_underlying Hv,kJ f1,tT f1,asInt,asIntOf,wA]
    exact⟨_,w,F,S,run,h,.inr ⟨rfl,rfl,λ_=>False,by simp only[cz,iv];rw[ax];exact .inl ⟨rfl,_,rfl⟩,λ_ h=>h.elim,λ_ h=>h.elim,λ_ _ h=>h.elim,λ_ h=>h.elim⟩⟩
   .have run:=UG (w:=w) (ty:=ty) cc Hv f1 f4 n ba (by rw[f2];exact eM) (by omega) (by
     rw[f3];have:((C.T e).bytes:Int)*(n:Int)=(((C.T e).bytes*n:Nat):Int):=by simp
     rw[this]at LW;rw[Nat.mul_comm];omega)
    rw[rE]at run;have yY:=grownCap_ge w n 0 e;have yZ:=grownCap_le_maxLen w n 0 e (by unfold maxLen;omega);have LZ:∀m,(Builtin.zeroCells fB.toArray m).toList=(List.replicate m fB).flatten:=by
     intro m;have:=Cg fB m;unfold Builtin.zeroCells;simpa [pP]using this
    have j2:∀m,(List.replicate m fB).flatten.length=m*(C.T e).sz:=by intro m;simp[pP]
    generalize ue:Builtin.zeroCells fB.toArray n++Builtin.zeroCells fB.toArray (grownCap w n 0 e-n)=cur at run;have mc:cur.toList=(List.replicate n fB).flatten++(List.replicate (grownCap w n 0 e-n) fB).flatten:=by rw[<-ue,Array.toList_append,LZ,LZ]
    have hI:cur.size=grownCap w n 0 e*(C.T e).sz:=by
     have:cur.size=cur.toList.length:=by simp
     rw[this,mc,List.length_append,j2,j2,<-Nat.add_mul];congr 1;omega
    have la:=h.yV (aL:=w.drew.alloc (.cells cur e)) (sz:=(C.T e).sz) (cap:=grownCap w n 0 e) (xs:=List.replicate n (C.T e).zero) (cur:=cur) (e:=e) (fr:=(0,0)) (Sn:=λ_=>False) rfl rfl rfl ⟨rfl,λ_=>Nat.le_succ _⟩
     (λo _ ⟨_,ah⟩=>absurd ah (Nat.not_lt_zero _)) (by simpa using yY) yZ hI (by intro d aj;rw[List.eq_of_mem_replicate aj];exact qE)
     (by rw[mc,List.length_replicate,List.take_left' (j2 n)];exact bm.replicate hc n _) (λ_ h=>h.elim) (λ_ h=>h.elim) (λ_ _ h=>h.elim) (λ_ h=>h.elim)
    rw[List.length_replicate]at la;exact⟨_,_,F,S,run,la.1,la.2⟩
  .cases he
 .cases he
def i_ (s:ar) (f:FuncId) (cs:List aI):Option I:=some (.fn f (cs.map (aP s)))
theorem Cj {a:Act} (h:bU w0 F0 X F S s aC w) (eN:∀t,aC t=a.tmps.getD t undef):∀(os:List Operand) (xs:List aI),os.map d_=xs.map some->eH w F s aC (xs.map (aP s)) (os.map a.eval)
 |[],[],_=>by simp only[List.map_nil];rw[eH]
 |[],x::xs,h=>by simp at h
 |o::os,[],h=>by simp at h
 |o::os,x::xs,bt=>by
  simp only[List.map_cons,List.cons.injEq]at bt⊢;rw[eH];exact⟨_,_,rfl,(fL h eN bt.1).2,Cj h eN os xs bt.2⟩
theorem L0:∀(vs:List Value) (k off:Nat) (A:Array Value) (l m r:List Value),A.toList=l++(m++r)->l.length=off+k->m.length=vs.length->
  ((vs.zipIdx k).foldl (λcs (x:Value×Nat)=>cs.setIfInBounds (off+x.2) x.1) A).toList=l++(vs++r)
 |[],k,off,A,l,m,r,jR,hl,hm=>by
  have:m=[]:=by simpa using hm
  subst this;simpa using jR
 |v::vs,k,off,A,l,m,r,jR,hl,hm=>by
  obtain⟨x,m,rfl⟩:∃x iQ,m=x::iQ:=by
   cases m with
   |nil=>simp at hm
   |cons x m=>exact⟨x,m,rfl⟩
  rw[List.zipIdx_cons,List.foldl_cons];have:=L0 vs (k+1) off (A.setIfInBounds (off+k) v) (l++[v]) m r (by
   rw[Array.toList_setIfInBounds,jR,<-hl,List.set_append_right _ _ (Nat.le_refl _)];simp) (by simp;omega) (by simpa using hm)
  simpa using this
def oZ (os:List (Option Nat)) (a:I):I:=os.foldl (λa o=>lV o a) a
def fm (place:Nat->Option (Nat×Nat)):ar->List I->List (Option Nat)->List (Nat×I)->Option (List I×ar)
 |s,hn,_,[]=>some (hn,s)
 |s,hn,os,(k,a)::r=>match db s (oZ os a),place k,hn[k]? with
  |some (d,s1),some (off,n),some z=>match d with
   | .tuple _=>none
   |d=>if d.wd=n/\z.wd=n/\I.eJ (hn.take k)=off then fm place s1 (hn.set k d) (os++[(oZ os a).owner]) r else none
  |_,_,_=>none
def o0 (w:World) (F:Nat->Prop) (s:ar) (aC:Nat->Value):List (Nat×I)->List (Nat×Value)->Prop
 |[],[]=>True
 |(k,a)::r,(di,v)::ik=>k=di/\a.plain=true/\aO w F s aC a v (λ_=>False)/\o0 w F s aC r ik
 |_,_=>False
theorem UI (x:Nat):∀d:I,d.plain=true->(ct x d).plain=true
 | .h y q,_=>by simp only[ct];split<;>(try split)<;>rfl
 | .au y q,_=>by simp only[ct];split<;>rfl
 | .ad y q,_=>rfl
 | .fn f c,_=>by simp only[ct];rfl
 | .hole,h=>h
 | .bool _,h=>h
 | .fs,h=>h
 | .int _ _,h=>h
 | .str _,h=>h
 | .dS,h=>h
 | .bz,h=>h
 | .slice _,h=>h
 | .ao _ _,h=>h
 | .ref _,h=>h
 | .bh _,h=>h
 | .agg _,h=>h
 | .tuple _,h=>h
theorem UJ (o:Option Nat) (d:I) (h:d.plain=true):(lV o d).plain=true:=by
 cases o with
 |none=>exact h
 |some x=>exact UI x d h
theorem o0.ct {w:World} {F:Nat->Prop} {s s1:ar} {aC:Nat->Value} {o:Option Nat} (au:∀(bE:I) (gQ:Value) (aW:Nat->Prop),aO w F s aC bE gQ aW->aO w F s1 aC (lV o bE) gQ aW):
  ∀(r:List (Nat×I)) (ik:List (Nat×Value)),o0 w F s aC r ik->o0 w F s1 aC (r.map λp=>(p.1,lV o p.2)) ik
 |[],[],_=>trivial
 |(k,a)::r,(di,v)::ik,h=>by
  obtain⟨ag,ah,aN,bg⟩:=h;exact⟨ag,UJ _ _ ah,au _ _ _ aN,o0.ct au r ik bg⟩
 |[],_::_,h=>h.elim
 |_::_,[],h=>h.elim
theorem Hw {place:Nat->Option (Nat×Nat)}:∀(ps:List (Nat×I)) (vs:List (Nat×Value)) (os:List (Option Nat)) (s:ar) (S:Nat->Nat->Prop) (hn:List I) (A:Array Value) (ir:Nat->Prop),
  bU w0 F0 X F S s aC w->o0 w F s aC (ps.map λp=>(p.1,oZ os p.2)) vs->bm w F hn A.toList ir->(∀b,ir b->b<w.heap.size)->(∀b,ir b->¬F b)->(∀u b,ir b->¬S u b)->(∀b,ir b->X b\/w0.heap.size<=b)->
  ∀ds s1,fm place s hn os ps=some (ds,s1)->∃nf ck hF,Instr.fill place A vs=some nf/\bU w0 F0 X F ck s1 aC w/\bm w F ds nf.toList hF/\(∀b,hF b->b<w.heap.size)/\(∀b,hF b->¬F b)/\(∀u b,hF b->¬ck u b)/\
   (∀b,hF b->X b\/w0.heap.size<=b)/\ds.length=hn.length/\I.eJ ds=I.eJ hn/\(∀n,(∀d∈hn,d.wd=n)->∀d∈ds,d.wd=n)
 |[],[],os,s,S,hn,A,ir,h,_,ag,ah,aN,bg,bR,ds,s1,he=>by
  simp only[fm,Option.some.injEq,Prod.mk.injEq]at he;obtain⟨rfl,rfl⟩:=he;exact⟨A,S,ir,rfl,h,ag,ah,aN,bg,bR,rfl,rfl,λ_ h=>h⟩
 |(k,a)::ps,(di,v)::vs,os,s,S,hn,A,ir,h,au,ag,ah,aN,bg,bR,ds,s1,he=>by
  obtain⟨rfl,lY,pH,y4⟩:=au;simp only[fm]at he;split at he
  .rename_i d wB off n z bj gE cg;have key:∀d:I,(∀az,d≠.tuple az)->db s (oZ os a)=some (d,wB)->(if d.wd=n/\z.wd=n/\I.eJ (hn.take k)=off then fm place wB (hn.set k d) (os++[(oZ os a).owner]) ps else none)=some (ds,s1)->
     ∃nf ck hF,Instr.fill place A ((k,v)::vs)=some nf/\bU w0 F0 X F ck s1 aC w/\bm w F ds nf.toList hF/\(∀b,hF b->b<w.heap.size)/\(∀b,hF b->¬F b)/\(∀u b,hF b->¬ck u b)/\
     (∀b,hF b->X b\/w0.heap.size<=b)/\ds.length=hn.length/\I.eJ ds=I.eJ hn/\(∀n,(∀d∈hn,d.wd=n)->∀d∈ds,d.wd=n):=by
    intro d ry bj he;split at he
    .rename_i aq;obtain⟨om,nF,L1⟩:=aq;obtain⟨ck,g0,g1,g2,Sn,g3,g4,g5,g6,g7,g8,g9,g10⟩:=pI h lY pH bj;obtain⟨cv,gC,c2,Sx,iC,jR,iu,fY,hU,iD,gO,mW⟩:=bm.pick hn _ _ k z ag cg;have pL:=yO g2 ry;have oo:=ax.length _ _ _ g3;have L2:=ax.length _ _ _ gO;have sB:=mW w d (cz v) Sn (λ_ _=>rfl) (λ_ _=>rfl) g3 (λb UK UL=>by obtain⟨u,hu⟩:=g9 b UK;exact bg u b (fY b UL) hu);have L3:=L0 (cz v) 0 off A cv gC c2 jR (by rw[iu,L1];rfl) (by rw[L2,oo,om,nF]);generalize y5:((cz v).zipIdx 0).foldl (λcs (x:Value×Nat)=>cs.setIfInBounds (off+x.2) x.1) A=B6 at L3;obtain⟨nf,eo,hF,m1,m2,m3,m4,m5,m6,m7,m8,m9,m10⟩:=Hw (place:=place) ps vs (os++[(oZ os a).owner]) wB ck (hn.set k d) B6 (λb=>Sx b\/Sn b) g0 (by have:=o0.ct g10 _ _ y4;simpa [oZ,List.foldl_append,Function.comp_def]using this) (by rw[L3];exact sB)
      (by rintro b (ad|ad);exact ah b (fY b ad);exact g4 b ad) (by rintro b (ad|ad);exact aN b (fY b ad);exact g5 b ad)
      (by rintro u b (ad|ad);exact λhu=>bg u b (fY b ad) (g8 u b hu);exact g6 u b ad) (by rintro b (ad|ad);exact bR b (fY b ad);exact g7 b ad) ds s1 he
     refine⟨nf,eo,hF,?_,m2,m3,m4,m5,m6,m7,by rw[m8];simp,by rw[m9];exact GF _ _ _ _ cg (by rw[om,nF]),?_⟩
     .have Hx:off+n<=A.size:=by
       have:A.size=A.toList.length:=by simp
       rw[this,jR];simp[iu,L1,L2,nF]
      simp only[Instr.fill,gE,pL,List.size_toArray,oo,om];have lU:¬(n≠n\/A.size<off+n):=by omega
      have UM:(cz v).toArray.zipIdx.foldl (λcs (x:Value×Nat)=>cs.setIfInBounds (off+x.2) x.1) A=B6:=by
       rw[<-y5,<-Array.foldl_toList];simp
      simp only[ne_eq,not_true_eq_false,decide_false,Bool.false_or,decide_eq_true_eq,gt_iff_lt];rw[if_neg (by simp;omega)];rw[show(cz v).toArray.zipIdx.foldl (λcs x=>match x with|(c,j)=>cs.setIfInBounds (off+j) c) A=B6 from UM];exact m1
     .intro Hy qH;refine m10 Hy (GG qH ?_);rw[om,<-nF];exact qH z (List.mem_of_getElem? cg)
    .cases he
   split at he
   .cases he
   .rename_i ry;exact key _ (λaz e=>ry az e) bj he
  .cases he
 |[],_::_,_,_,_,_,_,_,_,au,_,_,_,_,_,_,_,_=>au.elim
 |_::_,[],_,_,_,_,_,_,_,au,_,_,_,_,_,_,_,_=>au.elim
def fA (C:cl) (s:ar) (T:TypeId) (ps:List (Nat×I)):Option (I×ar):=
 match(C.T T).k,(C.T T).zero with
 | .struct az,.agg hn=>if(flat (.agg hn)).isSome=true/\(∀f∈az,(C.T f.1).ok=true)then
   (match fm (λk=>(az[k]?).map λf=>(f.2,(C.T f.1).sz)) s hn [] ps with
   |some (ds,s1)=>some (.agg ds,s1)
   |none=>none)else none
 |_,_=>none
def eQ (C:cl) (s:ar) (T:TypeId) (n:Nat) (ps:List (Nat×I)):Option (I×ar):=
 match(C.T T).k with
 | .slice e=>if(C.T e).ok=true/\(C.T e).zero.wd=(C.T e).sz/\(flat (C.T e).zero).isSome=true/\(C.T e).sz≠0/\n*(C.T e).sz<=16777216 then
   (match fm (λk=>some (k*(C.T e).sz,(C.T e).sz)) s (List.replicate n (C.T e).zero) [] ps with
   |some (ds,s1)=>some (.ao (C.T e).sz ds,s1)
   |none=>none)else none
 |_=>none
theorem UN (bx:C.fc):∀(gs:List Field),(∀g∈gs,(C.T g.type).ok=true)->
  gs.mapM (λf=>(C.P.info? f.type).map λi=>(f.offset,i.size))=some (gs.map λg=>(g.offset,(C.T g.type).sz)):=by
 intro gs;induction gs with
 |nil=>intro _;simp
 |cons g gs ih=>
  intro hg;obtain⟨i,d,z,f1,f2,f3,f4,f5,f6,f7⟩:=bx.info (hg g (by simp));have:=ih (λg h_=>hg g (by simp[h_]));simp[List.mapM_cons,f1,f2,this]
theorem UO (bx:C.fc) (h:bU w0 F0 X F S s aC w) {T:TypeId} {ps:List (Nat×I)} {vs:List (Nat×Value)} (au:o0 w F s aC ps vs) (he:fA C s T ps=some (av,s1)):
  Good C w0 F0 X aC w (Instr.build T vs.toArray) av s1:=by
 unfold fA at he;split at he
 .rename_i az hn ay cg;split at he
  .rename_i aq;obtain⟨rD,UP⟩:=aq;split at he
   .rename_i ds s2 j2;simp only[Option.some.injEq,Prod.mk.injEq]at he;obtain⟨rfl,rfl⟩:=he;obtain⟨i,d,z,aX,a6,aQ,cC,cF,cc,b4⟩:=bx.info (gG ay (by simp));rw[ay]at b4;obtain⟨gs,rfl,L4⟩:=yK b4;obtain⟨fB,mG⟩:=Option.isSome_iff_exists.1 rD;have rE:=cF fB (by rw[cg];exact mG);have hc:bm w F hn fB.toArray.toList (λ_=>False):=by
     have:=(ax.flat (w:=w) (F:=F) _).1 (.agg hn) fB (λ_=>False) (Nat.le_refl _) mG;rw[ax]at this;simpa using this
    have e_:o0 w F s aC (ps.map λp=>(p.1,oZ [] p.2)) vs:=by simpa [oZ]using au
    obtain⟨nf,ck,hF,m1,m2,m3,m4,m5,m6,m7,m8,m9,m10⟩:=Hw ps vs [] s S hn fB.toArray (λ_=>False) h e_ hc (λ_ h=>h.elim) (λ_ h=>h.elim) (λ_ _ h=>h.elim) (λ_ h=>h.elim) ds s2 j2;have gE:=UN bx gs.toList (λg hg=>UP (g.type,g.offset) (by rw[<-L4];exact List.mem_map_of_mem hg));have UQ:(λ(k:Nat)=>(az[k]?).map λ(f:TypeId×Nat)=>(f.2,(C.T f.1).sz))=λ(k:Nat)=>((gs.toList.map λg=>(g.offset,(C.T g.type).sz)).toArray)[k]? :=by
     funext k;rw[<-L4];simp only[List.getElem?_map,List.getElem?_toArray,Option.map_map];rfl
    rw[UQ]at m1;refine⟨.agg nf,w,F,ck,run_build w T vs.toArray nf ?_,m2,.inr ⟨rfl,⟨_,rfl⟩,hF,by simp only[cz,iv];rw[ax];exact m3,m4,m5,m6,m7⟩⟩;unfold Program.built;simp only[aX,cc,cC,gE,rE];exact m1
   .cases he
  .cases he
 .cases he
theorem UR (bx:C.fc) (h:bU w0 F0 X F S s aC w) {T:TypeId} {n:Nat} {ps:List (Nat×I)} {vs:List (Nat×Value)} (au:o0 w F s aC ps vs) (he:eQ C s T n ps=some (av,s1)):
  Good C w0 F0 X aC w (Instr.buildSlice T n vs.toArray) av s1:=by
 unfold eQ at he;split at he
 .rename_i e ay;split at he
  .rename_i aq;obtain⟨pN,qE,rD,eM,aHc⟩:=aq;split at he
   .rename_i ds s2 j2;simp only[Option.some.injEq,Prod.mk.injEq]at he;obtain⟨rfl,rfl⟩:=he;obtain⟨Hk,d,Hl,aX,a6,aQ,cC,cF,cc,b4⟩:=bx.info (gG ay (by simp));rw[ay]at b4;have:=mh b4;subst this;obtain⟨i,Hm,z,f1,f2,f3,f4,f5,f6,f7⟩:=bx.info pN;obtain⟨fB,mG⟩:=Option.isSome_iff_exists.1 rD;have rE:=f5 fB mG;have hc:∀aW,ax w F (C.T e).zero fB aW:=λaW=>(ax.flat _).1 _ fB aW (Nat.le_refl _) mG;have pP:fB.length=(C.T e).sz:=by rw[ax.length _ _ _ (hc (λ_=>False)),qE]
    generalize jR:((Array.range (n*(C.T e).sz)).map ((if n*(C.T e).sz=0 then #[]else fB.toArray)[·%(if n*(C.T e).sz=0 then(#[]:Array Value)else fB.toArray).size]!))=A;have Hx:A.toList=(List.replicate n fB).flatten:=by
     rw[<-jR];by_cases ba:n*(C.T e).sz=0
     .have:n=0:=by
       rcases Nat.mul_eq_zero.1 ba with h|h
       .exact h
       .exact(eM h).elim
      subst this;simp
     .simp only[ba,if_false];have:=Cg fB n;rw[pP]at this;simpa [pP]using this
    have e_:o0 w F s aC (ps.map λp=>(p.1,oZ [] p.2)) vs:=by simpa [oZ]using au
    obtain⟨nf,ck,hF,m1,m2,m3,m4,m5,m6,m7,m8,m9,m10⟩:=Hw ps vs [] s S (List.replicate n (C.T e).zero) A (λ_=>False) h e_ (by rw[Hx];exact bm.replicate hc n _) (λ_ h=>h.elim) (λ_ h=>h.elim) (λ_ _ h=>h.elim) (λ_ h=>h.elim) ds s2 j2;have hlen:ds.length=n:=by rw[m8];simp
    have L5:=m10 (C.T e).sz (by intro d aj;rw[List.eq_of_mem_replicate aj];exact qE);have US:nf.toList.length=n*(C.T e).sz:=by rw[bm.ub m3 L5,hlen]
    have UT:nf.size=n*(C.T e).sz:=by rw[<-US];simp
    have aHd:n<=16777216:=by
     have:n*1<=n*(C.T e).sz:=Nat.mul_le_mul_left _ (by omega);omega
    have la:=m2.yV (aL:=w.alloc (.cells nf e)) (sz:=(C.T e).sz) (cap:=n) (xs:=ds) (cur:=nf) (e:=e) (fr:=(0,0)) (Sn:=hF) rfl rfl rfl ⟨rfl,λ_=>Nat.le_refl _⟩
     (λo _ ⟨_,ah⟩=>absurd ah (Nat.not_lt_zero _)) (by omega) (by unfold maxLen;omega) UT L5 (by rw[hlen,List.take_of_length_le (by omega)];exact m3) m4 m5 m6 m7
    rw[hlen]at la;refine⟨_,_,F,ck,?_,la.1,la.2⟩;by_cases ba:n*(C.T e).sz=0
    .simp only[ba,if_true]at jR;have wC:(Array.map (λ_=>(default:Value)) (Array.range 0))=A:=by
      have:n=0:=by
       rcases Nat.mul_eq_zero.1 ba with h|h
       .exact h
       .exact(eM h).elim
      apply Array.ext';rw[Hx,this];simp
     simp[Instr.buildSlice,run_underlying cc,kJ f1,f2,ba,newRow];rw[wC,m1];simp
    .simp only[ba,if_false]at jR;have lU:¬(16777216<n*(C.T e).sz):=by omega
     simp[Instr.buildSlice,run_underlying cc,kJ f1,f2,ba,lU,sA f1 f4,rE,newRow];have wC:(Array.map (λx=>fB[x%fB.length]?.getD default) (Array.range (n*(C.T e).sz)))=A:=by
      rw[<-jR];simp
     rw[wC,m1];simp
   .cases he
  .cases he
 .cases he
end
inductive gr where
 |bS (x:aI)
 |gz (x:aI)
 |pick (c a b:aI)
 |hx (T:TypeId)
 |dm (T:TypeId) (x:aI)
 |fA (T:TypeId) (ps:List (Nat×aI))
 |eQ (T:TypeId) (n:Nat) (ps:List (Nat×aI))
 |cp (T:TypeId) (x:aI)
 |gH (T:TypeId) (x y:aI)
 |gg (x:aI)
 |bV (op:BinOp) (T:TypeId) (x y:aI)
 |un (op:UnOp) (x:aI)
 |gI (A B:TypeId) (x:aI)
 |i_ (f:FuncId) (cs:List aI)
 |eu (T:TypeId) (l c:aI)
 |eE (T:TypeId) (x:aI) (dv an:Option aI)
 |cY (T:TypeId) (x:aI) (k:Nat)
 |fp (T:TypeId) (x i:aI)
 |idx (T:TypeId) (x i:aI)
 |ex (x:aI) (k:Nat)
 |na (T:TypeId) (x:aI) (k:Nat)
 |call (f:aI) (args:List aI)
 |len (T:TypeId) (x:aI)
 |app (T bZ:TypeId) (x y:aI)
 |shr (b0:gr)
 |oY (T bZ:TypeId) (x y:aI)
 |cap (T:TypeId) (x:aI)
 |jB (e2:Bool) (x y:aI)
 |bad
 |nL (f:aI) (args:List aI) (u x:Nat)
 |lb (f:aI) (args:List aI) (us:List Nat)
 |kr (T:TypeId) (x:aI)
 |sK (x:aI)
 |rF (x:aI)
 |y6
 |oX (T:TypeId) (x i:aI)
 |nK (T:TypeId) (x i v:aI)
def gr.base:gr->gr
 | .shr b0=>b0
 | .oY T bZ x y=>.app T bZ x y
 | .nL f args _ _=>.call f args
 | .lb f args _=>.call f args
 | .kr T x=>.dm T x
 | .sK x=>.gz x
 | .rF x=>.bS x
 |b0=>b0
def pS:List Operand->Option (List aI)
 |[]=>some []
 |o::os=>match d_ o,pS os with
  |some x,some xs=>some (x::xs)
  |_,_=>none
def wD:List (Nat×Operand)->Option (List (Nat×aI))
 |[]=>some []
 |(k,o)::os=>match d_ o,wD os with
  |some x,some xs=>some ((k,x)::xs)
  |_,_=>none
def y7:Option Operand->Option (Option aI)
 |none=>some none
 |some o=>(d_ o).map some
def cJ:Op->Option gr
 | .move x=>(d_ x).map .bS
 | .assign x=>(d_ x).map .gz
 | .pick c a b=>match d_ c,d_ a,d_ b with
   |some c,some a,some b=>some (.pick c a b)
   |_,_,_=>none
 | .alloc T=>some (.hx T)
 | .box T x=>(d_ x).map (.dm T)
 | .build T ps=>(wD ps.toList).map (.fA T)
 | .buildSlice T n ps=>(wD ps.toList).map (.eQ T n)
 | .load T x=>(d_ x).map (.cp T)
 | .store T x y=>match d_ x,d_ y with
   |some x,some y=>some (.gH T x y)
   |_,_=>none
 | .nilCheck x=>(d_ x).map .gg
 | .binOp op T x y _=>match d_ x,d_ y with
   |some x,some y=>some (.bV op T x y)
   |_,_=>none
 | .unOp op _ x=>(d_ x).map (.un op)
 | .convert A B x=>(d_ x).map (.gI A B)
 | .makeFunc (.func f) first cs=>if first.isEmpty then(pS cs.toList).map (.i_ f)else none
 | .makeSlice T l c=>match d_ l,d_ c with
   |some l,some c=>some (.eu T l c)
   |_,_=>none
 | .slice T x dv an none=>match d_ x,y7 dv,y7 an with
   |some x,some dv,some an=>some (.eE T x dv an)
   |_,_,_=>none
 | .fieldAddr T x k=>(d_ x).map λx=>.cY T x k
 | .indexAddr T x i=>match d_ x,d_ i with
   |some x,some i=>some (.fp T x i)
   |_,_=>none
 | .index T x i=>match d_ x,d_ i with
   |some x,some i=>some (.idx T x i)
   |_,_=>none
 | .extract x k=>(d_ x).map λx=>.ex x k
 | .field T x k=>(d_ x).map λx=>.na T x k
 | .makeMap _ none=>some .y6
 | .lookup T x i false=>match d_ x,d_ i with
   |some x,some i=>some (.oX T x i)
   |_,_=>none
 | .mapUpdate T x i v=>match d_ x,d_ i,d_ v with
   |some x,some i,some v=>some (.nK T x i v)
   |_,_,_=>none
 | .call c=>match c.callee with
   | .value f=>match d_ f,pS c.args.toList with
     |some f,some xs=>some (.call f xs)
     |_,_=>none
   | .builtin .len=>match c.args.toList,c.argTypes.toList with
     |[x],[T]=>(d_ x).map (.len T)
     |_,_=>none
   | .builtin .cap=>match c.args.toList,c.argTypes.toList with
     |[x],[T]=>(d_ x).map (.cap T)
     |_,_=>none
   | .builtin .min=>match c.args.toList with
     |[x,y]=>match d_ x,d_ y with
      |some x,some y=>some (.jB false x y)
      |_,_=>none
     |_=>none
   | .builtin .max=>match c.args.toList with
     |[x,y]=>match d_ x,d_ y with
      |some x,some y=>some (.jB true x y)
      |_,_=>none
     |_=>none
   | .builtin .append=>match c.args.toList,c.argTypes.toList with
     |[x,y],[T,bZ]=>match d_ x,d_ y with
      |some x,some y=>some (.app T bZ x y)
      |_,_=>none
     |_,_=>none
   |_=>none
 |_=>none
def jB (e2:Bool):I->I->Option I
 | .str a,.str b=>some (.str (BR e2 a b))
 | .int k a,.int di b=>if k=di then some (.int k (ju e2 a b))else none
 |_,_=>none
def qI (s:ar):I->Option (I×ar)
 | .h y q=>db s (.h y q)
 |d=>some (d,s)
def bT (C:cl) (s:ar):gr->Option (I×ar)
 | .bS x=>some (aP s x,s)
 | .gz x=>match aP s x with
   | .h y q=>db s (.h y q)
   |d=>some (d,s)
 | .pick c a b=>match aP s c with
   | .bool gp=>some (if gp then aP s a else aP s b,s)
   |_=>none
 | .hx T=>(hx C T).map λd=>(d,s)
 | .dm _ x=>dm s (aP s x)
 | .fA T ps=>fA C s T (ps.map λp=>(p.1,aP s p.2))
 | .eQ T n ps=>eQ C s T n (ps.map λp=>(p.1,aP s p.2))
 | .cp T x=>(cp C s T (aP s x)).map λd=>(d,s)
 | .gH T x y=>(gH C s T (aP s x) (aP s y)).map λs1=>(.hole,s1)
 | .gg x=>(gg s (aP s x)).map λd=>(d,s)
 | .bV op T x y=>(bV C s op T (aP s x) (aP s y)).map λd=>(d,s)
 | .un op x=>(un op (aP s x)).map λd=>(d,s)
 | .gI A B x=>(gI C s A B (aP s x)).map λd=>(d,s)
 | .i_ f cs=>some (.fn f (cs.map (aP s)),s)
 | .eu T l c=>(eu C T (aP s l) (aP s c)).map λd=>(d,s)
 | .eE T x dv an=>eE C s T (aP s x) (dv.map (aP s)) (an.map (aP s))
 | .cY T x k=>(cY C s T (aP s x) k).map λd=>(d,s)
 | .fp T x i=>(fp C s T (aP s x) (aP s i)).map λd=>(d,s)
 | .idx T x i=>(idx C T (aP s x) (aP s i)).map λd=>(d,s)
 | .ex x k=>(ex s (aP s x) k).map λd=>(d,s)
 | .na T x k=>(na C s T (aP s x) k).bind (qI s)
 | .call _ _=>none
 | .len T x=>(nb C s T (aP s x)).map λd=>(d,s)
 | .app T bZ x y=>nd C s T bZ (aP s x) (aP s y)
 | .shr _=>none
 | .nL _ _ _ _=>none
 | .lb _ _ _=>none
 | .kr _ x=>kr s (aP s x)
 | .sK x=>some (aP s x,s)
 | .rF x=>qI s (aP s x)
 | .y6=>some (.eD (.mp []),s)
 | .oX T x i=>(oX C s T (aP s x) (aP s i)).map λd=>(d,s)
 | .nK T x i v=>(nK C s T (aP s x) (aP s i) (aP s v)).map λs1=>(.hole,s1)
 | .oY T bZ x y=>(oY C T bZ (aP s x) (aP s y)).map λd=>(d,s)
 | .cap T x=>match(C.T T).k,aP s x with
   | .slice _,.bz=>some (.int .i64 0,s)
   |_,_=>none
 | .jB e2 x y=>(jB e2 (aP s x) (aP s y)).map λd=>(d,s)
 | .bad=>none
section
variable {C:cl} {w0 w:World} {F0 X F:Nat->Prop} {S:Nat->Nat->Prop} {s s1:ar} {a:Act} {av:I}
theorem uf:∀{os:List Operand} {xs:List aI},pS os=some xs->os.map d_=xs.map some
 |[],xs,h=>by simp[pS]at h;subst h;rfl
 |o::os,xs,h=>by
  simp only[pS]at h;split at h
  .rename_i x L6 ag ah;simp at h;subst h;simp[ag,uf ah]
  .cases h
theorem Hz {aC:Nat->Value} (h:bU w0 F0 X F S s aC w) (eN:∀t,aC t=a.tmps.getD t undef):∀{ps:List (Nat×Operand)} {xs:List (Nat×aI)},wD ps=some xs->
  o0 w F s aC (xs.map λp=>(p.1,aP s p.2)) (ps.map λp=>(p.1,a.eval p.2))
 |[],xs,h=>by simp[wD]at h;subst h;trivial
 |(k,o)::ps,xs,bt=>by
  simp only[wD]at bt;split at bt
  .rename_i x L6 ag ah;simp at bt;subst bt;obtain⟨g1,g2⟩:=fL h eN ag;exact⟨rfl,g1,g2,Hz h eN ah⟩
  .cases bt
def Next (C:cl) (w0:World) (F0 X:Nat->Prop) (aC:Nat->Value) (w:World) (m:Sem Go.Next) (av:I) (s1:ar):Prop:=
 ∃r aL v b3 aW,m.run C.P w= .ok r aL/\(r= .value v\/r= .skip/\v=undef)/\bU w0 F0 X b3 aW s1 aC aL/\mg w0 X b3 aW s1 aC aL av v
theorem Good.next {aC:Nat->Value} {m:Sem Value} (h:Good C w0 F0 X aC w m av s1):Next C w0 F0 X aC w (do pure (.value (<-m))) av s1:=by
 obtain⟨v,aL,b3,aW,ag,ah,aN⟩:=h;exact⟨.value v,aL,v,b3,aW,by simp[ag],.inl rfl,ah,aN⟩
theorem L7 {aC:Nat->Value} (h:bU w0 F0 X F S s aC w) {e2:Bool} {x y:I} {iF jx:Value} {m:Sem Go.Next} (ag:aO w F s aC x iF (λ_=>False)) (ah:aO w F s aC y jx (λ_=>False))
  (he:(jB e2 x y).map (λd=>(d,s))=some (av,s1)) (hm:m=(do pure (.value (<-if e2 then Builtin.max2 iF jx else Builtin.min2 iF jx)))):Next C w0 F0 X aC w m av s1:=by
 simp only[Option.map_eq_some_iff,Prod.mk.injEq]at he;obtain⟨d,aj,rfl,rfl⟩:=he;unfold jB at aj;split at aj
 .rename_i a b;simp only[Option.some.injEq]at aj;subst aj;have aX:=mZ ag;have a6:=mZ ah;subst aX a6;subst hm;refine⟨.value (.string ⟨⟨BR e2 a b⟩⟩),w,_,F,S,?_,.inl rfl,h,.inl ⟨rfl,pM _⟩⟩;cases e2
  .simp only[Builtin.min2,Op.stringOp,yQ,BR,Bool.false_eq_true,if_false];cases ad:(Op.bytesLess a b||a==b)<;>simp[asBool]
  .simp only[Builtin.max2,Op.stringOp,yQ,BR,if_true];cases ad:Op.bytesLess a b<;>simp[asBool]
 .rename_i k a di b;split at aj
  .rename_i ay;subst ay;simp only[Option.some.injEq]at aj;subst aj;have aX:=nI ag;have a6:=nI ah;subst aX a6;subst hm;refine⟨.value (.int k (ju e2 a b)),w,_,F,S,?_,.inl rfl,h,.inl ⟨rfl,of_int _ _⟩⟩;cases e2<;>simp[Builtin.min2,Builtin.max2,ju]
  .cases aj
 .cases aj
theorem L8 (bx:C.fc) {aC:Nat->Value} (h:bU w0 F0 X F S s aC w) (eN:∀t,aC t=a.tmps.getD t undef) {o:Oper} {b0:gr} (ae:cJ o.op=some b0) (he:bT C s b0=some (av,s1)):
  Next C w0 F0 X aC w (execOp a.eval o) av s1:=by
 obtain⟨dst,op,ty,pos,after,guard⟩:=o;simp only at ae;cases op with
 |move x=>
  simp only[cJ,Option.map_eq_some_iff]at ae;obtain⟨cA,aw,rfl⟩:=ae;obtain⟨g1,g2⟩:=fL h eN aw;simp only[bT,Option.some.injEq,Prod.mk.injEq]at he;obtain⟨rfl,rfl⟩:=he;exact⟨_,w,_,F,S,rfl,.inl rfl,h,.inl ⟨g1,g2⟩⟩
 |assign x=>
  simp only[cJ,Option.map_eq_some_iff]at ae;obtain⟨cA,aw,rfl⟩:=ae;obtain⟨g1,g2⟩:=fL h eN aw;simp only[bT]at he;split at he
  .rename_i y q hy;rw[hy]at g1 g2;obtain⟨ck,k0,b7,cw,Sn,fi,ep,fQ,dM,jz,_⟩:=pI h g1 g2 he;exact⟨_,w,_,F,ck,rfl,.inl rfl,k0,.inr ⟨b7,cw,Sn,fi,ep,fQ,dM,jz⟩⟩
  .simp only[Option.some.injEq,Prod.mk.injEq]at he;obtain⟨rfl,rfl⟩:=he;exact⟨_,w,_,F,S,rfl,.inl rfl,h,.inl ⟨g1,g2⟩⟩
 |pick c x y=>
  simp only[cJ]at ae;split at ae
  .rename_i sL cA k_ aq aw hy;simp only[Option.some.injEq]at ae;subst ae;simp only[bT]at he;split at he
   .rename_i b ad;simp only[Option.some.injEq,Prod.mk.injEq]at he;obtain⟨rfl,rfl⟩:=he;have ue:=(fL h eN aq).2;rw[ad]at ue;have ue:=sC ue;obtain⟨af,ak⟩:=fL h eN aw;obtain⟨e0,hd⟩:=fL h eN hy;refine⟨.value (if b then a.eval x else a.eval y),w,_,F,S,?_,.inl rfl,h,.inl ?_⟩
    .simp[execOp,ue,asBool]
    .cases b
     .exact⟨e0,hd⟩
     .exact⟨af,ak⟩
   .cases he
  .cases ae
 |alloc T=>
  simp only[cJ,Option.some.injEq]at ae;subst ae;simp only[bT,Option.map_eq_some_iff,Prod.mk.injEq]at he;obtain⟨d,aj,rfl,rfl⟩:=he;exact(TP bx h aj).next
 |box T x=>
  simp only[cJ,Option.map_eq_some_iff]at ae;obtain⟨cA,aw,rfl⟩:=ae;obtain⟨g1,g2⟩:=fL h eN aw;exact(TT h g1 g2 he).next
 |build T ps=>
  simp only[cJ,Option.map_eq_some_iff]at ae;obtain⟨UU,au,rfl⟩:=ae;obtain⟨ps⟩:=ps;have:=(UO bx h (Hz h eN au) he).next;simpa [execOp]using this
 |buildSlice T n ps=>
  simp only[cJ,Option.map_eq_some_iff]at ae;obtain⟨UU,au,rfl⟩:=ae;obtain⟨ps⟩:=ps;have:=(UR bx h (Hz h eN au) he).next;simpa [execOp]using this
 |load T x=>
  simp only[cJ,Option.map_eq_some_iff]at ae;obtain⟨cA,aw,rfl⟩:=ae;obtain⟨g1,g2⟩:=fL h eN aw;simp only[bT,Option.map_eq_some_iff,Prod.mk.injEq]at he;obtain⟨d,aj,rfl,rfl⟩:=he;exact(TK bx h g2 aj).next
 |store T x y=>
  simp only[cJ]at ae;split at ae
  .rename_i cA k_ aw hy;simp only[Option.some.injEq]at ae;subst ae;simp only[bT,Option.map_eq_some_iff,Prod.mk.injEq]at he;obtain⟨s2,aj,rfl,rfl⟩:=he;obtain⟨aL,aW,ag,ah⟩:=TN bx h (fL h eN aw).2 (fL h eN hy).1 (fL h eN hy).2 aj;exact⟨.skip,aL,undef,F,aW,by simp[execOp,ag],.inr ⟨rfl,rfl⟩,ah,.inl ⟨rfl,by rw[aO];trivial⟩⟩
  .cases ae
 |nilCheck x=>
  simp only[cJ,Option.map_eq_some_iff]at ae;obtain⟨cA,aw,rfl⟩:=ae;obtain⟨g1,g2⟩:=fL h eN aw;simp only[bT,Option.map_eq_some_iff,Prod.mk.injEq]at he;obtain⟨d,aj,rfl,rfl⟩:=he;obtain⟨rfl,au,aT⟩:=T8 h g2 aj;refine⟨.value (a.eval x),w,_,F,S,?_,.inl rfl,h,.inl ⟨au,g2⟩⟩;rcases aT with⟨b,ad⟩|⟨f,c,ad⟩<;>simp[execOp,ad]
 |binOp op T x y aHe=>
  simp only[cJ]at ae;split at ae
  .rename_i cA k_ aw hy;simp only[Option.some.injEq]at ae;subst ae;simp only[bT,Option.map_eq_some_iff,Prod.mk.injEq]at he;obtain⟨d,aj,rfl,rfl⟩:=he;exact(T5 bx h x y (fL h eN aw).2 (fL h eN hy).2 aj).next
  .cases ae
 |unOp op T x=>
  simp only[cJ,Option.map_eq_some_iff]at ae;obtain⟨cA,aw,rfl⟩:=ae;simp only[bT,Option.map_eq_some_iff,Prod.mk.injEq]at he;obtain⟨d,aj,rfl,rfl⟩:=he;exact(T6 h (fL h eN aw).2 aj).next
 |convert A B x=>
  simp only[cJ,Option.map_eq_some_iff]at ae;obtain⟨cA,aw,rfl⟩:=ae;simp only[bT,Option.map_eq_some_iff,Prod.mk.injEq]at he;obtain⟨d,aj,rfl,rfl⟩:=he;exact(Ug bx h (fL h eN aw).2 aj).next
 |makeFunc fn first cs=>
  cases fn with
  |func f=>
   simp only[cJ]at ae;split at ae
   .rename_i HA;simp only[Option.map_eq_some_iff]at ae;obtain⟨o1,hI,rfl⟩:=ae;simp only[bT,Option.some.injEq,Prod.mk.injEq]at he;obtain⟨rfl,rfl⟩:=he;have HB:first= #[]:=by simpa using HA
    subst HB;refine⟨_,w,_,F,S,rfl,.inl rfl,h,.inl ⟨rfl,?_⟩⟩;rw[aO];refine⟨cs.map a.eval,by simp,?_⟩;simpa using Cj h eN _ _ (uf hI)
   .cases ae
  |_=>simp[cJ]at ae
 |makeSlice T l c=>
  simp only[cJ]at ae;split at ae
  .rename_i cA k_ aw hy;simp only[Option.some.injEq]at ae;subst ae;simp only[bT,Option.map_eq_some_iff,Prod.mk.injEq]at he;obtain⟨d,aj,rfl,rfl⟩:=he;exact(UF bx h (fL h eN aw).2 (fL h eN hy).2 aj).next
  .cases ae
 |slice T x dv an e2=>
  cases e2 with
  |some m=>simp[cJ]at ae
  |none=>
   simp only[cJ]at ae;split at ae
   .rename_i cA aHf L9 aw oS oT;simp only[Option.some.injEq]at ae;subst ae;obtain⟨g1,g2⟩:=fL h eN aw;have opt:∀{o:Option Operand} {oq:Option aI},y7 o=some oq->rB w F s aC (oq.map (aP s)) (o.map a.eval):=by
     intro o oq cy;cases o with
     |none=>simp[y7]at cy;subst cy;trivial
     |some o=>
      simp only[y7,Option.map_eq_some_iff]at cy;obtain⟨x,aw,rfl⟩:=cy;exact(fL h eN aw).2
    exact(Uj bx h g1 g2 (opt oS) (opt oT) he).next
   .cases ae
 |fieldAddr T x k=>
  simp only[cJ,Option.map_eq_some_iff]at ae;obtain⟨cA,aw,rfl⟩:=ae;obtain⟨g1,g2⟩:=fL h eN aw;simp only[bT,Option.map_eq_some_iff,Prod.mk.injEq]at he;obtain⟨d,aj,rfl,rfl⟩:=he;exact(TE bx h g1 g2 aj).next
 |indexAddr T x i=>
  simp only[cJ]at ae;split at ae
  .rename_i cA k_ aw hy;simp only[Option.some.injEq]at ae;subst ae;simp only[bT,Option.map_eq_some_iff,Prod.mk.injEq]at he;obtain⟨d,aj,rfl,rfl⟩:=he;exact(TF bx h (fL h eN aw).2 (fL h eN hy).2 aj).next
  .cases ae
 |index T x i=>
  simp only[cJ]at ae;split at ae
  .rename_i cA k_ aw hy;simp only[Option.some.injEq]at ae;subst ae;simp only[bT,Option.map_eq_some_iff,Prod.mk.injEq]at he;obtain⟨d,aj,rfl,rfl⟩:=he;exact(Ud bx h (fL h eN aw).2 (fL h eN hy).2 aj).next
  .cases ae
 |makeMap t r=>
  cases r with
  |none=>
   simp only[cJ,Option.some.injEq]at ae;subst ae;simp only[bT,Option.some.injEq,Prod.mk.injEq]at he;obtain⟨rfl,rfl⟩:=he;exact(UE h t).next
  |some r=>simp[cJ]at ae
 |lookup T x i c=>
  cases c with
  |true=>simp[cJ]at ae
  |false=>
   simp only[cJ]at ae;split at ae
   .rename_i cA ru aw an;simp only[Option.some.injEq]at ae;subst ae;simp only[bT,Option.map_eq_some_iff,Prod.mk.injEq]at he;obtain⟨d,aj,rfl,rfl⟩:=he;exact(UB bx h (fL h eN aw).2 (fL h eN an).2 aj).next
   .cases ae
 |mapUpdate T x i v=>
  simp only[cJ]at ae;split at ae
  .rename_i cA ru gQ aw an aT;simp only[Option.some.injEq]at ae;subst ae;simp only[bT,Option.map_eq_some_iff,Prod.mk.injEq]at he;obtain⟨s2,aj,rfl,rfl⟩:=he;obtain⟨aL,aW,ag,ah⟩:=UC bx h (fL h eN aw).2 (fL h eN an).2 (fL h eN aT).2 aj;exact⟨.skip,aL,undef,F,aW,by simp[execOp,ag],.inr ⟨rfl,rfl⟩,ah,.inl ⟨rfl,by rw[aO];trivial⟩⟩
  .cases ae
 |extract x k=>
  simp only[cJ,Option.map_eq_some_iff]at ae;obtain⟨cA,aw,rfl⟩:=ae;simp only[bT,Option.map_eq_some_iff,Prod.mk.injEq]at he;obtain⟨d,aj,rfl,rfl⟩:=he;exact(Ua h (fL h eN aw).2 aj).next
 |field T x k=>
  simp only[cJ,Option.map_eq_some_iff]at ae;obtain⟨cA,aw,rfl⟩:=ae;simp only[bT,Option.bind_eq_some_iff]at he;obtain⟨d,aj,he⟩:=he;obtain⟨v,aL,b3,aW,aS,mY,pG⟩:=Ub bx h (fL h eN aw).2 aj;unfold qI at he;split at he
  .rename_i y q;have UW:aO aL b3 s aC (.h y q) v (λ_=>False):=by
    rcases pG with⟨_,g2⟩|⟨g1,_⟩
    .exact g2
    .cases g1
   obtain⟨ck,k0,b7,cw,Sn,fi,ep,fQ,dM,jz,_⟩:=pI mY rfl UW he;exact⟨.value v,aL,v,b3,ck,by simp[execOp,aS],.inl rfl,k0,.inr ⟨b7,cw,Sn,fi,ep,fQ,dM,jz⟩⟩
  .simp only[Option.some.injEq,Prod.mk.injEq]at he;obtain⟨rfl,rfl⟩:=he;exact⟨.value v,aL,v,b3,aW,by simp[execOp,aS],.inl rfl,mY,pG⟩
 |call c=>
  obtain⟨callee,args,argTypes⟩:=c;simp only[cJ]at ae;split at ae
  .split at ae
   .simp only[Option.some.injEq]at ae;subst ae;simp[bT]at he
   .cases ae
  .split at ae
   .rename_i x T nM ug;simp only[Option.map_eq_some_iff]at ae;obtain⟨cA,aw,rfl⟩:=ae;simp only[bT,Option.map_eq_some_iff,Prod.mk.injEq]at he;obtain⟨d,aj,rfl,rfl⟩:=he;have:=(Ue (ty:=ty) bx h (fL h eN aw).2 aj).next;have aX:args= #[x]:=by apply Array.ext';exact nM
    have a6:argTypes= #[T]:=by apply Array.ext';exact ug
    subst aX a6;simpa [execOp,resolve,invoke,builtin]using this
   .cases ae
  .split at ae
   .rename_i x T nM ug;simp only[Option.map_eq_some_iff]at ae;obtain⟨cA,aw,rfl⟩:=ae;simp only[bT]at he;split at he
    .rename_i e ay UX;simp only[Option.some.injEq,Prod.mk.injEq]at he;obtain⟨rfl,rfl⟩:=he;have aT:=(fL h eN aw).2;rw[UX]at aT;have:=rA aT;obtain⟨i,d,z,aX,a6,aQ,cC,cF,cc,b4⟩:=bx.info (gG ay (by simp));rw[ay]at b4;have aj:=mh b4;subst aj;have UY:args= #[x]:=by apply Array.ext';exact nM
     have UZ:argTypes= #[T]:=by apply Array.ext';exact ug
     subst UY UZ;have aS:(Builtin.cap_ #[T] ty #[a.eval x]).run C.P w= .ok (.int .i64 0) w:=by
      rw[this];simp[Builtin.cap_,run_underlying cc,goInt]
     have:=(Good.same (av:=.int .i64 0) h aS rfl (of_int _ _)).next;simpa [execOp,resolve,invoke,builtin]using this
    .cases he
   .cases ae
  .split at ae
   .rename_i x y nM;split at ae
    .rename_i cA k_ aw hy;simp only[Option.some.injEq]at ae;subst ae;have aX:args= #[x,y]:=by apply Array.ext';exact nM
     subst aX;exact L7 h (fL h eN aw).2 (fL h eN hy).2 he (by simp[execOp,resolve,invoke,builtin,Builtin.min_])
    .cases ae
   .cases ae
  .split at ae
   .rename_i x y nM;split at ae
    .rename_i cA k_ aw hy;simp only[Option.some.injEq]at ae;subst ae;have aX:args= #[x,y]:=by apply Array.ext';exact nM
     subst aX;exact L7 h (fL h eN aw).2 (fL h eN hy).2 he (by simp[execOp,resolve,invoke,builtin,Builtin.max_])
    .cases ae
   .cases ae
  .split at ae
   .rename_i x y T bZ nM ug;split at ae
    .rename_i cA k_ aw hy;simp only[Option.some.injEq]at ae;subst ae;have:=(Ut (ty:=ty) bx h (fL h eN aw).2 (fL h eN hy).2 he).next;have aX:args= #[x,y]:=by apply Array.ext';exact nM
     have a6:argTypes= #[T,bZ]:=by apply Array.ext';exact ug
     subst aX a6;simpa [execOp,resolve,invoke,builtin]using this
    .cases ae
   .cases ae
  .cases ae
 |_=>simp[cJ]at ae
end
mutual
def I.ae:I->List Nat
 | .h x _=>[x]
 | .au x _=>[x]
 | .ad x _=>[x]
 | .fn _ cap=>I.e1 cap
 |_=>[]
def I.e1:List I->List Nat
 |[]=>[]
 |d::ds=>d.ae++I.e1 ds
end
inductive qJ where
 |no
 |ct
 |da
structure hJ where
 k:qJ
 x:Nat
 d:I
def qJ.app (k:qJ) (x:Nat) (a:I):I:=match k with
 | .no=>a
 | .ct=>c_.ct x a
 | .da=>c_.da x a
def hJ.at (m:hJ) (u:Nat) (a:I):I:=if u=m.x then m.d else m.k.app m.x a
def kK:List hJ->Nat->I->I
 |[],_,a=>a
 |m::ms,u,a=>kK ms u (m.at u a)
def ea (ms:List hJ) (s:ar):ar:=λu=>kK ms u (s u)
theorem L_:∀(ms lZ:List hJ) (u:Nat) (a:I),kK (ms++lZ) u a=kK lZ u (kK ms u a)
 |[],_,_,_=>rfl
 |m::ms,lZ,u,a=>by simp only[List.cons_append,kK];exact L_ ms lZ u _
theorem mH (ms lZ:List hJ) (s:ar):ea (ms++lZ) s=ea lZ (ea ms s):=by
 funext u;simp[ea,L_]
theorem U0 {ms:List hJ} {s aB:ar} {u:Nat} (h:aB u=s u):ea ms aB u=ea ms s u:=by simp[ea,h]
theorem uh (s:ar) (x:Nat) (d:I):dD (iO x s) x d=ea [⟨.ct,x,d⟩] s:=by
 funext u;simp only[ea,kK,hJ.at,dD,iO,qJ.app]
theorem Ma (s:ar) (x:Nat) (d:I):dD (mD x s) x d=ea [⟨.da,x,d⟩] s:=by
 funext u;simp only[ea,kK,hJ.at,dD,mD,qJ.app]
theorem HC (s:ar) (x:Nat) (d:I):dD s x d=ea [⟨.no,x,d⟩] s:=by
 funext u;simp only[ea,kK,hJ.at,dD,qJ.app]
mutual
theorem y8 {x:Nat}:∀a:I,x∉a.ae->ct x a=a
 | .h y q,h=>by
   simp only[I.ae,List.mem_singleton]at h;simp only[ct];rw[if_neg (λe=>h e.symm)]
 | .au y q,h=>by
   simp only[I.ae,List.mem_singleton]at h;simp only[ct];rw[if_neg (λe=>h e.symm)]
 | .ad y q,h=>rfl
 | .fn f cap,h=>by simp only[ct];rw[Mb cap (by simpa [I.ae]using h)]
 | .hole,_=>rfl
 | .bool _,_=>rfl
 | .fs,_=>rfl
 | .int _ _,_=>rfl
 | .str _,_=>rfl
 | .dS,_=>rfl
 | .bz,_=>rfl
 | .slice _,_=>rfl
 | .ao _ _,_=>rfl
 | .ref _,_=>rfl
 | .bh _,_=>rfl
 | .agg _,_=>rfl
 | .tuple _,_=>rfl
 | .eD _,_=>rfl
theorem Mb {x:Nat}:∀ds:List I,x∉I.e1 ds->jv x ds=ds
 |[],_=>rfl
 |d::ds,h=>by
  simp only[I.e1,List.mem_append,not_or]at h;simp only[jv];rw[y8 d h.1,Mb ds h.2]
end
mutual
theorem HD {x:Nat}:∀a:I,x∉a.ae->da x a=a
 | .h y q,h=>by
   simp only[I.ae,List.mem_singleton]at h;simp only[da];rw[if_neg (λe=>h e.symm)]
 | .au y q,h=>by
   simp only[I.ae,List.mem_singleton]at h;simp only[da];rw[if_neg (λe=>h e.symm)]
 | .ad y q,h=>by
   simp only[I.ae,List.mem_singleton]at h;simp only[da];rw[if_neg (λe=>h e.symm)]
 | .fn f cap,h=>by simp only[da];rw[Mc cap (by simpa [I.ae]using h)]
 | .hole,_=>rfl
 | .bool _,_=>rfl
 | .fs,_=>rfl
 | .int _ _,_=>rfl
 | .str _,_=>rfl
 | .dS,_=>rfl
 | .bz,_=>rfl
 | .slice _,_=>rfl
 | .ao _ _,_=>rfl
 | .ref _,_=>rfl
 | .bh _,_=>rfl
 | .agg _,_=>rfl
 | .tuple _,_=>rfl
 | .eD _,_=>rfl
theorem Mc {x:Nat}:∀ds:List I,x∉I.e1 ds->j0 x ds=ds
 |[],_=>rfl
 |d::ds,h=>by
  simp only[I.e1,List.mem_append,not_or]at h;simp only[j0];rw[HD d h.1,Mc ds h.2]
end
theorem y9 {k:qJ} {x:Nat} {a:I} (h:k= .no\/x∉a.ae):k.app x a=a:=by
 cases k with
 |no=>rfl
 |ct=>exact y8 a (by simpa using h)
 |da=>exact HD a (by simpa using h)
mutual
theorem Md (x y:Nat):∀a:I,ct x (ct y a)=ct y (ct x a)
 | .h z q=>by simp only[ct];by_cases ag:z=x<;>by_cases ah:z=y<;>by_cases aN:q=[]<;>simp[ag,ah,aN,ct]<;>(subst_vars;simp_all [ct])
 | .au z q=>by simp only[ct];by_cases ag:z=x<;>by_cases ah:z=y<;>simp[ag,ah,ct]<;>(subst_vars;simp_all [ct])
 | .ad z q=>rfl
 | .fn f cap=>by simp only[ct];rw[Me x y cap]
 | .hole=>rfl
 | .bool _=>rfl
 | .fs=>rfl
 | .int _ _=>rfl
 | .str _=>rfl
 | .dS=>rfl
 | .bz=>rfl
 | .slice _=>rfl
 | .ao _ _=>rfl
 | .ref _=>rfl
 | .bh _=>rfl
 | .agg _=>rfl
 | .tuple _=>rfl
 | .eD _=>rfl
theorem Me (x y:Nat):∀ds:List I,jv x (jv y ds)=jv y (jv x ds)
 |[]=>rfl
 |d::ds=>by simp only[jv];rw[Md x y d,Me x y ds]
end
mutual
theorem Mf (x y:Nat):∀a:I,da x (da y a)=da y (da x a)
 | .h z q=>by simp only[da];by_cases ag:z=x<;>by_cases ah:z=y<;>simp[ag,ah,da]<;>(subst_vars;simp_all [da])
 | .au z q=>by simp only[da];by_cases ag:z=x<;>by_cases ah:z=y<;>simp[ag,ah,da]<;>(subst_vars;simp_all [da])
 | .ad z q=>by simp only[da];by_cases ag:z=x<;>by_cases ah:z=y<;>simp[ag,ah,da]<;>(subst_vars;simp_all [da])
 | .fn f cap=>by simp only[da];rw[Mg x y cap]
 | .hole=>rfl
 | .bool _=>rfl
 | .fs=>rfl
 | .int _ _=>rfl
 | .str _=>rfl
 | .dS=>rfl
 | .bz=>rfl
 | .slice _=>rfl
 | .ao _ _=>rfl
 | .ref _=>rfl
 | .bh _=>rfl
 | .agg _=>rfl
 | .tuple _=>rfl
 | .eD _=>rfl
theorem Mg (x y:Nat):∀ds:List I,j0 x (j0 y ds)=j0 y (j0 x ds)
 |[]=>rfl
 |d::ds=>by simp only[j0];rw[Mf x y d,Mg x y ds]
end
mutual
theorem HE (x y:Nat):∀a:I,ct x (da y a)=da y (ct x a)
 | .h z q=>by simp only[da,ct];by_cases ag:z=x<;>by_cases ah:z=y<;>by_cases aN:q=[]<;>simp[ag,ah,aN,da,ct]<;>(subst_vars;simp_all [da,ct])
 | .au z q=>by simp only[da,ct];by_cases ag:z=x<;>by_cases ah:z=y<;>simp[ag,ah,da,ct]<;>(subst_vars;simp_all [da,ct])
 | .ad z q=>by simp only[da,ct];by_cases ah:z=y<;>simp[ah,ct]
 | .fn f cap=>by simp only[da,ct];rw[Mh x y cap]
 | .hole=>rfl
 | .bool _=>rfl
 | .fs=>rfl
 | .int _ _=>rfl
 | .str _=>rfl
 | .dS=>rfl
 | .bz=>rfl
 | .slice _=>rfl
 | .ao _ _=>rfl
 | .ref _=>rfl
 | .bh _=>rfl
 | .agg _=>rfl
 | .tuple _=>rfl
 | .eD _=>rfl
theorem Mh (x y:Nat):∀ds:List I,jv x (j0 y ds)=j0 y (jv x ds)
 |[]=>rfl
 |d::ds=>by simp only[j0,jv];rw[HE x y d,Mh x y ds]
end
theorem U1 (k l:qJ) (x y:Nat) (a:I):k.app x (l.app y a)=l.app y (k.app x a):=by
 cases k<;>cases l<;>simp only[qJ.app]<;>first|rfl|exact Md .. |exact Mf .. |exact HE .. |exact(HE ..).symm
def aI.use (s:ar):aI->List Nat
 | .t n=>n::(s n).ae
 | .c av=>av.ae
 | .f _=>[]
def aI.o2 (s:ar):List aI->List Nat
 |[]=>[]
 |x::xs=>x.use s++aI.o2 s xs
def HF (s:ar):Option aI->List Nat
 |none=>[]
 |some x=>x.use s
def use (s:ar):gr->List Nat
 | .bS x=>x.use s
 | .gz x=>x.use s
 | .pick c a b=>c.use s++(a.use s++b.use s)
 | .hx _=>[]
 | .dm _ x=>x.use s
 | .fA _ ps=>aI.o2 s (ps.map (·.2))
 | .eQ _ _ ps=>aI.o2 s (ps.map (·.2))
 | .cp _ x=>x.use s
 | .gH _ x y=>x.use s++y.use s
 | .gg x=>x.use s
 | .bV _ _ x y=>x.use s++y.use s
 | .un _ x=>x.use s
 | .gI _ _ x=>x.use s
 | .i_ _ cs=>aI.o2 s cs
 | .eu _ l c=>l.use s++c.use s
 | .eE _ x dv an=>x.use s++(HF s dv++HF s an)
 | .cY _ x _=>x.use s
 | .fp _ x i=>x.use s++i.use s
 | .idx _ x i=>x.use s++i.use s
 | .ex x _=>x.use s
 | .na _ x _=>x.use s
 | .call f args=>f.use s++aI.o2 s args
 | .len _ x=>x.use s
 | .app _ _ x y=>x.use s++y.use s
 | .shr b0=>use s b0
 | .nL f args u x=>u::x::(f.use s++aI.o2 s args)
 | .lb f args us=>us.flatMap (λu=>u::(s u).ae)++(f.use s++aI.o2 s args)
 | .kr _ x=>x.use s
 | .sK x=>x.use s
 | .rF x=>x.use s
 | .y6=>[]
 | .oX _ x i=>x.use s++i.use s
 | .nK _ x i v=>x.use s++(i.use s++v.use s)
 | .oY _ _ x y=>x.use s++y.use s
 | .cap _ x=>x.use s
 | .jB _ x y=>x.use s++y.use s
 | .bad=>[]
def dR (s:ar):gr->List Nat
 | .gz x=>(aP s x).ae
 | .dm _ x=>(aP s x).ae
 | .fA _ ps=>I.e1 (ps.map λp=>aP s p.2)
 | .eQ _ _ ps=>I.e1 (ps.map λp=>aP s p.2)
 | .gH _ x y=>(aP s x).ae++(aP s y).ae
 | .na _ x _=>(aP s x).ae
 | .rF x=>(aP s x).ae
 | .nK _ x _ _=>(aP s x).ae
 | .eE _ x _ _=>(aP s x).ae
 | .app _ _ x y=>(aP s x).ae++(aP s y).ae
 | .shr b0=>dR s b0
 |_=>[]
def ed (bZ:List Nat) (aB s:ar):Prop:=∀u∈bZ,aB u=s u
theorem ed.left {bZ V:List Nat} {aB s:ar} (h:ed (bZ++V) aB s):ed bZ aB s:=λu hu=>h u (List.mem_append_left _ hu)
theorem ed.right {bZ V:List Nat} {aB s:ar} (h:ed (bZ++V) aB s):ed V aB s:=λu hu=>h u (List.mem_append_right _ hu)
theorem ed.ea {bZ:List Nat} {aB s:ar} (h:ed bZ aB s) (ms:List hJ):ed bZ (ea ms aB) (ea ms s):=λu hu=>U0 (h u hu)
theorem ed.sub {bZ V:List Nat} {aB s:ar} (h:ed bZ aB s) (ae:∀u∈V,u∈bZ):ed V aB s:=λu hu=>h u (ae u hu)
theorem aI.ui {s:ar} {x:aI}:∀u∈(aP s x).ae,u∈x.use s:=by
 intro u hu;cases x with
 |t n=>
  simp only[aP,jP]at hu;split at hu
  .simp[aI.use,hu]
  .simp only[I.ae,List.mem_singleton]at hu;simp[aI.use,hu]
 |c av=>exact hu
 |f g=>simp[aP,I.ae,I.e1]at hu
theorem aI.fR {s aB:ar} {x:aI} (h:ed (x.use s) aB s):aP aB x=aP s x:=by
 cases x with
 |t n=>simp only[aP];rw[h n (by simp[aI.use])]
 |c av=>rfl
 |f g=>rfl
theorem ed.aP {s aB:ar} {x:aI} (h:ed (x.use s) aB s):ed (aP s x).ae aB s:=h.sub aI.ui
theorem Mi {s aB:ar} {x:Option aI} (h:ed (HF s x) aB s):x.map (aP aB)=x.map (aP s):=by
 cases x with
 |none=>rfl
 |some x=>simp only[Option.map_some];rw[aI.fR h]
theorem aI.HG {s aB:ar}:∀{xs:List aI},ed (aI.o2 s xs) aB s->xs.map (aP aB)=xs.map (aP s)
 |[],_=>rfl
 |x::xs,h=>by
  simp only[List.map_cons];rw[aI.fR (h.left),aI.HG (h.right)]
theorem aI.HH {s aB:ar}:∀{ps:List (Nat×aI)},ed (aI.o2 s (ps.map (·.2))) aB s->(ps.map λp=>(p.1,aP aB p.2))=ps.map λp=>(p.1,aP s p.2)
 |[],_=>rfl
 |x::xs,h=>by
  simp only[List.map_cons]at h⊢;rw[aI.fR (h.left),aI.HH (h.right)]
theorem aI.Ck {s:ar}:∀{xs:List aI},∀u∈I.e1 (xs.map (aP s)),u∈aI.o2 s xs
 |[],u,h=>by simp[I.e1]at h
 |x::xs,u,h=>by
  simp only[List.map_cons,I.e1,List.mem_append]at h;simp only[aI.o2,List.mem_append];exact h.imp (aI.ui u) (aI.Ck u)
section
variable {C:cl} {s aB:ar} {x y i:I} {T A B:TypeId}
theorem HI (h:ed x.ae aB s):loc aB x=loc s x:=by
 cases x<;>first
  |rfl
  |(simp only[loc];rw[h _ (by simp[I.ae])])
theorem HJ {z:Nat} {q:List Nat} (h:loc s x=some (z,q)):z∈x.ae:=by
 cases x with
 |h y p=>
  simp only[loc]at h;split at h
  .simp only[Option.some.injEq,Prod.mk.injEq]at h;simp[I.ae,h.1]
  .cases h
 |au y p=>
  simp only[loc]at h;split at h
  .simp only[Option.some.injEq,Prod.mk.injEq]at h;simp[I.ae,h.1]
  .cases h
 |_=>simp[loc]at h
theorem U2 (h:ed x.ae aB s):cp C aB T x=cp C s T x:=by
 have hl:=HI h;unfold cp;split
 .rfl
 .rw[h _ (by simp[I.ae])]
 .rw[hl];split
  .rename_i e;rw[h _ (HJ e)]
  .rfl
theorem U3 {k:Nat} (h:ed x.ae aB s):cY C aB T x k=cY C s T x k:=by
 have hl:=HI h;unfold cY;split
 .split
  .split
   .split
    .rfl
    .rw[h _ (by simp[I.ae])]
    .rw[hl];split
     .rename_i e;rw[h _ (HJ e)]
     .rfl
   .rfl
  .rfl
 .rfl
theorem U4 (h:ed x.ae aB s):fp C aB T x i=fp C s T x i:=by
 cases x<;>first
  |rfl
  |(simp only[fp];rw[h _ (by simp[I.ae])])
theorem U5 (h:ed x.ae aB s):nb C aB T x=nb C s T x:=by
 unfold nb;cases(C.T T).k<;>cases x<;>first
  |rfl
  |(simp only;rw[h _ (by simp[I.ae])])
theorem U6 (h:ed x.ae aB s):gI C aB A B x=gI C s A B x:=by
 unfold gI;cases(C.T B).k<;>cases x<;>first
  |rfl
  |(simp only;rw[h _ (by simp[I.ae])])
theorem U7 (h:ed x.ae aB s):ml aB x=ml s x:=by
 cases x<;>first
  |rfl
  |(simp only[ml];rw[h _ (by simp[I.ae])])
theorem U8 (h:ed x.ae aB s):mm aB x=mm s x:=by
 cases x<;>first
  |rfl
  |(simp only[mm];rw[h _ (by simp[I.ae])])
theorem U9 {op:BinOp} (h:ed x.ae aB s):bV C aB op T x y=bV C s op T x y:=by
 have ag:=U7 h;have ah:=U8 h;unfold bV;split<;>first|rfl|simp only[ag,ah]
theorem U_ (h:ed x.ae aB s):gg aB x=gg s x:=by
 cases x<;>first
  |rfl
  |(simp only[gg];rw[h _ (by simp[I.ae])])
theorem Va {k y:Nat} {q:List Nat} (h:na C s T x k=some (.h y q)):x.ae=[y]:=by
 unfold na at h;split at h<;>try (cases h;done)
 split at h<;>try (cases h;done)
 split at h
 .split at h<;>try (cases h;done)
  split at h
  .rename_i aq;simp only[Option.some.injEq]at h;rw[h]at aq;exact absurd aq.2.2.2 (by simp[I.tree])
  .cases h
 .split at h<;>try (cases h;done)
  split at h<;>try (cases h;done)
  split at h<;>try (cases h;done)
  rename_i d aj aq;by_cases au:d.plain=true
  .simp only[au,if_true,Option.some.injEq]at h;rw[h]at aq;exact absurd aq.2.2.2 (by simp[I.tree])
  .simp only[au,Option.some.injEq]at h;injection h with ag ah;subst ag;rfl
 .cases h
theorem Mj {k:Nat} (h:ed x.ae aB s):na C aB T x k=na C s T x k:=by
 unfold na;split<;>try rfl
 split<;>try rfl
 cases x<;>first
  |rfl
  |(simp only[];rw[h _ (by simp[I.ae])])
theorem Vb {k:Nat} (h:ed x.ae aB s):ex aB x k=ex s x k:=by
 cases x<;>first
  |rfl
  |(simp only[ex];rw[h _ (by simp[I.ae])])
theorem wE:∀(q:List Nat) (a d e:I),I.sub q a=some d->(d.plain=false\/q≠[])->(q=[]->e.ae=[])->(I.put q e a).ae=[]:=by
 intro q a d e h au he;cases q with
 |nil=>rw[I.put];exact he rfl
 |cons k q=>
  cases a<;>first
   |(simp[I.sub]at h;done)
   |skip
  all_goals
   unfold I.put
   repeat' split
   all_goals first|rfl|(simp_all;done)
end
def Loc {α:Type} (bZ wF:List Nat) (f:ar->Option (α×ar)) (s:ar) (av:α) (s1:ar):Prop:=
 ∃ms,s1=ea ms s/\(∀m∈ms,m.x∈wF/\m.d.ae=[])/\∀aB,ed bZ aB s->f aB=some (av,ea ms aB)
theorem Loc.pure {α:Type} {bZ wF:List Nat} {f:ar->Option (α×ar)} {s:ar} {av:α} (h:∀aB,ed bZ aB s->f aB=some (av,aB)):Loc bZ wF f s av s:=
 ⟨[],rfl,by simp,λaB ae=>h aB ae⟩
theorem Loc.mono {α:Type} {bZ wF Cl Mk:List Nat} {f:ar->Option (α×ar)} {s s1:ar} {av:α} (h:Loc bZ wF f s av s1) (qF:∀u∈bZ,u∈Cl) (k8:∀u∈wF,u∈Mk):Loc Cl Mk f s av s1:=by
 obtain⟨ms,ag,ah,aN⟩:=h;exact⟨ms,ag,λm hm=>⟨k8 _ (ah m hm).1,(ah m hm).2⟩,λaB ae=>aN aB (ae.sub qF)⟩
section
variable {C:cl} {s s1:ar} {x y d:I} {T A B:TypeId}
theorem rG (h:db s x=some (d,s1)):Loc x.ae x.ae (λs=>db s x) s d s1:=by
 cases x with
 |h y q=>
  simp only[db]at h;split at h
  .rename_i e he;split at h
   .cases h
   .rename_i au;simp only[Option.some.injEq,Prod.mk.injEq]at h;obtain⟨rfl,rfl⟩:=h;have au:e.plain=false:=by simpa using au
    refine⟨[⟨.ct,y,I.put q e.dz (s y)⟩],uh _ _ _,?_,?_⟩
    .intro m hm;simp only[List.mem_singleton]at hm;subst hm;refine⟨by simp[I.ae],wE q _ _ _ he (.inl au) λcU=>?_⟩;subst cU;cases e<;>first|(simp[I.plain]at au;done)|rfl
    .intro aB ae;have aX:aB y=s y:=ae y (by simp[I.ae]);simp only[db,aX,he,au];rw[<-uh];rfl
  .cases h
 |au y q=>simp[db]at h
 |ad y q=>simp[db]at h
 |fn f c=>simp[db]at h
 |hole=>simp[db]at h
 |_=>
  simp only[db,Option.some.injEq,Prod.mk.injEq]at h;obtain⟨rfl,rfl⟩:=h;exact .pure λaB _=>rfl
mutual
theorem Ml (x:Nat):∀a:I,∀u∈(ct x a).ae,u∈a.ae
 | .h y q,u,h=>by
   simp only[ct]at h;split at h
   .split at h
    .exact h
    .simp[I.ae]at h
   .exact h
 | .au y q,u,h=>by
   simp only[ct]at h;split at h
   .simp[I.ae]at h
   .exact h
 | .ad y q,u,h=>h
 | .fn f cap,u,h=>by simp only[ct,I.ae]at h⊢;exact Mm x cap u h
 | .hole,u,h=>h
 | .bool _,u,h=>h
 | .fs,u,h=>h
 | .int _ _,u,h=>h
 | .str _,u,h=>h
 | .dS,u,h=>h
 | .bz,u,h=>h
 | .slice _,u,h=>h
 | .ao _ _,u,h=>h
 | .ref _,u,h=>h
 | .bh _,u,h=>h
 | .agg _,u,h=>h
 | .tuple _,u,h=>h
theorem Mm (x:Nat):∀ds:List I,∀u∈I.e1 (jv x ds),u∈I.e1 ds
 |[],u,h=>h
 |d::ds,u,h=>by
  simp only[jv,I.e1,List.mem_append]at h⊢;exact h.imp (Ml x d u) (Mm x ds u)
end
theorem HK (o:Option Nat) (a:I):∀u∈(lV o a).ae,u∈a.ae:=by
 intro u h;cases o with
 |none=>exact h
 |some x=>exact Ml x a u h
theorem Mn:∀(os:List (Option Nat)) (a:I),∀u∈(oZ os a).ae,u∈a.ae:=by
 intro os;induction os with
 |nil=>intro a u h;exact h
 |cons o os ih=>intro a u h;exact HK o a u (ih (lV o a) u h)
theorem Mo {place:Nat->Option (Nat×Nat)}:∀{ps:List (Nat×I)} {s s1:ar} {hn ds:List I} {os:List (Option Nat)},fm place s hn os ps=some (ds,s1)->
  Loc (I.e1 (ps.map (·.2))) (I.e1 (ps.map (·.2))) (λs=>fm place s hn os ps) s ds s1:=by
 intro ps;induction ps with
 |nil=>
  intro s s1 hn ds os h;simp only[fm,Option.some.injEq,Prod.mk.injEq]at h;obtain⟨rfl,rfl⟩:=h;exact .pure λaB _=>rfl
 |cons p ps ih=>
  intro s s1 hn ds os h;obtain⟨k,a⟩:=p;simp only[fm]at h;split at h
  .rename_i d s2 off n z bj gE cg;split at h
   .cases h
   .rename_i bE nN;split at h
    .rename_i aq;obtain⟨pT,rfl,ah,aN⟩:=rG bj;obtain⟨sI,rfl,bR,cW⟩:=ih h;refine⟨pT++sI,(mH _ _ _).symm,?_,?_⟩
     .intro m hm;simp only[List.map_cons,I.e1,List.mem_append]at hm⊢;rcases hm with hm|hm
      .exact⟨.inl (Mn _ _ _ (ah m hm).1),(ah m hm).2⟩
      .exact⟨.inr (bR m hm).1,(bR m hm).2⟩
     .intro aB ae;simp only[List.map_cons,I.e1]at ae;have aX:=aN aB (ae.left.sub (Mn _ _));have a6:=cW (ea pT aB) (ae.right.ea pT);simp only at aX a6;simp only[fm,aX,gE,cg,mH];rw[if_pos aq];exact a6
    .cases h
  .cases h
theorem Vc {ps:List (Nat×I)} {av:I} (h:fA C s T ps=some (av,s1)):Loc (I.e1 (ps.map (·.2))) (I.e1 (ps.map (·.2))) (λs=>fA C s T ps) s av s1:=by
 unfold fA at h;split at h
 .rename_i az hn ay cg;split at h
  .rename_i aq;split at h
   .rename_i ds s2 bw;simp only[Option.some.injEq,Prod.mk.injEq]at h;obtain⟨rfl,rfl⟩:=h;obtain⟨ms,ag,ah,aN⟩:=Mo bw;refine⟨ms,ag,ah,λaB ae=>?_⟩;have:=aN aB ae;simp only at this;simp only[fA,ay,cg,if_pos aq,this]
   .cases h
  .cases h
 .cases h
theorem Vd {n:Nat} {ps:List (Nat×I)} {av:I} (h:eQ C s T n ps=some (av,s1)):Loc (I.e1 (ps.map (·.2))) (I.e1 (ps.map (·.2))) (λs=>eQ C s T n ps) s av s1:=by
 unfold eQ at h;split at h
 .rename_i e ay;split at h
  .rename_i aq;split at h
   .rename_i ds s2 bw;simp only[Option.some.injEq,Prod.mk.injEq]at h;obtain⟨rfl,rfl⟩:=h;obtain⟨ms,ag,ah,aN⟩:=Mo bw;refine⟨ms,ag,ah,λaB ae=>?_⟩;have:=aN aB ae;simp only at this;simp only[eQ,ay,if_pos aq,this]
   .cases h
  .cases h
 .cases h
theorem Ve {av:I} (h:dm s x=some (av,s1)):Loc x.ae x.ae (λs=>dm s x) s av s1:=by
 unfold dm at h;split at h
 .cases h
 .rename_i d s2 nN bj;simp only[Option.some.injEq,Prod.mk.injEq]at h;obtain⟨rfl,rfl⟩:=h;obtain⟨ms,ag,ah,aN⟩:=rG bj;refine⟨ms,ag,ah,λaB ae=>?_⟩;have:=aN aB ae;simp only at this;simp only[dm,this]
 .cases h
theorem Vf {av:I} (h:kr s x=some (av,s1)):Loc x.ae [] (λs=>kr s x) s av s1:=by
 unfold kr at h;split at h
 .rename_i y q;split at h
  .rename_i ds og;split at h
   .cases h
   .rename_i yN;simp only[Option.some.injEq,Prod.mk.injEq]at h;obtain⟨rfl,rfl⟩:=h;refine .pure λaB ae=>?_;have e:aB y=s y:=ae y (by simp[I.ae]);simp only[kr,e,og,if_neg yN]
  .cases h
 .split at h
  .rename_i aq;simp only[Option.some.injEq,Prod.mk.injEq]at h;obtain⟨rfl,rfl⟩:=h;exact .pure λaB ae=>by simp only[kr,aq,if_true]
  .cases h
 .cases h
theorem Vg {s2:ar} (h:gH C s T x y=some s2):Loc (x.ae++y.ae) (x.ae++y.ae) (λs=>(gH C s T x y).map λs1=>(I.hole,s1)) s .hole s2:=by
 unfold gH at h;split at h
 .rename_i d s1 z q bj hl;obtain⟨ms,ag,ah,aN⟩:=rG bj;have cg:=HJ hl;have cU:q≠[]:=by
   cases x with
   |h y p=>
    simp only[loc]at hl;split at hl
    .simp only[Option.some.injEq,Prod.mk.injEq]at hl;simp[<-hl.2]
    .cases hl
   |au y p=>
    simp only[loc]at hl;split at hl
    .rename_i pK;simp only[Option.some.injEq,Prod.mk.injEq]at hl;obtain⟨rfl,rfl⟩:=hl;intro e;subst e;simp[I.gd]at pK
    .cases hl
   |_=>simp[loc]at hl
  split at h
  .cases h
  .rename_i bE nN;split at h
   .rename_i d0 lW;split at h
    .rename_i aq;simp only[Option.some.injEq]at h;subst h;refine⟨ms++[⟨.ct,z,I.put q d (s z)⟩],?_,?_,?_⟩
     .rw[mH,<-ag,uh]
     .intro m hm;simp only[List.mem_append,List.mem_singleton]at hm⊢;rcases hm with hm|rfl
      .exact⟨.inr (ah m hm).1,(ah m hm).2⟩
      .exact⟨.inl cg,wE q _ _ _ lW (.inr cU) λe=>(cU e).elim⟩
     .intro aB ae;have aX:=aN aB ae.right;simp only at aX;simp only[gH,aX,HI ae.left,hl,ae.left z cg,lW];cases d<;>first|(simp only[if_pos aq,Option.map_some,mH,uh];done)|exact(nN _ rfl).elim
    .cases h
   .cases h
 .cases h
theorem Vh {dv an:Option I} {av:I} (h:eE C s T x dv an=some (av,s1)):Loc x.ae x.ae (λs=>eE C s T x dv an) s av s1:=by
 cases x with
 |h y q=>
  unfold eE at h;split at h<;>first|(cases h;done)|skip
  all_goals (rename_i aw;try cases aw)
  rename_i e ay;split at h
  .rename_i sz xs fK;split at h
   .rename_i b oS oT;split at h
    .rename_i aq;split at h
     .rename_i d s2 bj;simp only[Option.some.injEq,Prod.mk.injEq]at h;obtain⟨rfl,rfl⟩:=h;obtain⟨ms,ag,ah,aN⟩:=rG bj;refine⟨ms,ag,ah,λaB ae=>?_⟩;have:=aN aB ae;simp only at this;have aX:aB y=s y:=ae y (by simp[I.ae]);simp only[eE,ay,aX,fK,oS,oT,if_pos aq,this]
     .cases h
    .cases h
   .cases h
  .cases h
 |_=>
  have rH:s1=s:=by
   unfold eE at h
   repeat' split at h
   all_goals first|(cases h;done)|(simp only[Option.some.injEq,Prod.mk.injEq]at h;exact h.2.symm)|simp_all
  subst rH;refine .pure λaB _=>?_;unfold eE at h⊢
  repeat' split at h
  all_goals first
   |(cases h;done)
   |(simp only[Option.some.injEq,Prod.mk.injEq]at h
     obtain⟨rfl,_⟩:=h;simp_all)
def qK (C:cl) (e:TypeId) (s:ar):I->Option (I×ar)
 | .bz=>some (I.ao (C.T e).sz [],s)
 | .h a q=>db s (.h a q)
 |_=>none
def mq (s1:ar):I->Option (List I×ar)
 | .bz=>some ([],s1)
 | .slice cK=>some (cK,s1)
 | .str l=>some (l.map lF,s1)
 | .h a q=>match db s1 (.h a q)with
   |some (.ao _ cK,s2)=>some (cK,s2)
   |_=>none
 |_=>none
theorem HL (C:cl) (s:ar) (T bZ:TypeId) (x y:I):nd C s T bZ x y=(match(C.T T).k with
 | .slice e=>if(C.T e).ok=true/\(C.T e).zero.wd=(C.T e).sz/\(flat (C.T e).zero).isSome=true/\Ca C e bZ=true then
   match qK C e s x with
   |some (.ao sz xs,s1)=>if sz=(C.T e).sz then
     match mq s1 (lV x.owner y)with
     |some (cK,s2)=>if(∀d∈cK,d.wd=(C.T e).sz)/\(xs.length+cK.length)*(C.T e).bytes<=140737488355328/\xs.length+cK.length<=9223372036854775807 then some (.ao sz (xs++cK),s2)else none
     |none=>none
    else none
   |_=>none
   else none
 |_=>none):=by
 unfold nd;generalize lV x.owner y=k_;cases(C.T T).k<;>first
  |rfl
  |(cases x<;>cases k_<;>rfl)
theorem Vi {e:TypeId} {d:I} (ag:qK C e s x=some (d,s1)):Loc x.ae x.ae (λs=>qK C e s x) s d s1:=by
 cases x with
 |bz=>
  simp only[qK,Option.some.injEq,Prod.mk.injEq]at ag;obtain⟨ag,rfl⟩:=ag;exact .pure λaB _=>by simp only[qK,ag]
 |h a q=>exact rG ag
 |_=>simp[qK]at ag
theorem Vj {cK:List I} (ah:mq s y=some (cK,s1)):Loc y.ae y.ae (λs=>mq s y) s cK s1:=by
 cases y with
 |bz=>
  simp only[mq,Option.some.injEq,Prod.mk.injEq]at ah;obtain⟨rfl,rfl⟩:=ah;exact .pure λaB _=>rfl
 |slice cK=>
  simp only[mq,Option.some.injEq,Prod.mk.injEq]at ah;obtain⟨rfl,rfl⟩:=ah;exact .pure λaB _=>rfl
 |str l=>
  simp only[mq,Option.some.injEq,Prod.mk.injEq]at ah;obtain⟨rfl,rfl⟩:=ah;exact .pure λaB _=>rfl
 |h a q=>
  simp only[mq]at ah;split at ah
  .rename_i Uv aHg ho bj;simp only[Option.some.injEq,Prod.mk.injEq]at ah;obtain⟨rfl,rfl⟩:=ah;obtain⟨ms,g1,g2,g3⟩:=rG bj;refine⟨ms,g1,g2,λaB ae=>?_⟩;have:=g3 aB ae;simp only at this;simp only[mq,this]
  .cases ah
 |_=>simp[mq]at ah
theorem Vk {av:I} (h:nd C s T A x y=some (av,s1)):Loc (x.ae++y.ae) (x.ae++y.ae) (λs=>nd C s T A x y) s av s1:=by
 rw[HL]at h;split at h
 .rename_i e ay;split at h
  .rename_i aq;split at h
   .rename_i sz xs s2 ag;split at h
    .rename_i eM;split at h
     .rename_i cK ff ah;split at h
      .rename_i nF;simp only[Option.some.injEq,Prod.mk.injEq]at h;obtain⟨rfl,rfl⟩:=h;obtain⟨pT,rfl,a2,a3⟩:=Vi ag;obtain⟨sI,rfl,jy,jA⟩:=(Vj ah).mono (HK _ _) (HK _ _);refine⟨pT++sI,(mH _ _ _).symm,?_,?_⟩
       .intro m hm;simp only[List.mem_append]at hm⊢;rcases hm with hm|hm
        .exact⟨.inl (a2 m hm).1,(a2 m hm).2⟩
        .exact⟨.inr (jy m hm).1,(jy m hm).2⟩
       .intro aB ae;have aX:=a3 aB ae.left;have a6:=jA (ea pT aB) (ae.right.ea pT);simp only at aX a6;simp only[HL,ay,if_pos aq,aX,if_pos eM,a6,if_pos nF,mH]
      .cases h
     .cases h
    .cases h
   .cases h
  .cases h
 .cases h
theorem Vl {aB:ar} {i:I} (h:ed x.ae aB s):oX C aB T x i=oX C s T x i:=by
 cases x with
 |h y q=>cases i<;>simp only[oX,h y (by simp[I.ae])]
 |_=>rfl
theorem Vm {i v:I} {s2:ar} (h:nK C s T x i v=some s2):Loc x.ae x.ae (λs=>(nK C s T x i v).map λs1=>(I.hole,s1)) s .hole s2:=by
 unfold nK at h;split at h
 .rename_i y q k b;split at h
  .rename_i m aj;split at h
   .rename_i k8;simp only[Option.some.injEq]at h;subst h;refine⟨[⟨.ct,y,I.put q (.eD (.mp (qv k b m))) (s y)⟩],uh _ _ _,?_,λaB ae=>?_⟩
    .intro n a7;simp only[List.mem_singleton]at a7;subst a7;exact⟨by simp[I.ae],wE q _ _ _ aj (.inl rfl) λ_=>rfl⟩
    .have aX:aB y=s y:=ae y (by simp[I.ae]);simp only[nK,aX,aj,k8,if_true,Option.map_some];rw[<-uh]
   .cases h
  .cases h
 .cases h
theorem Mp {b0:gr} {av:I} (h:bT C s b0=some (av,s1)):Loc (use s b0) (dR s b0) (λs=>bT C s b0) s av s1:=by
 cases b0 with
 |shr b0=>simp[bT]at h
 |nL f args u x=>simp[bT]at h
 |lb f args L=>simp[bT]at h
 |rF x=>
  simp only[bT]at h;unfold qI at h;split at h
  .rename_i y q aw;obtain⟨ms,ag,ah,aN⟩:=rG h;refine⟨ms,ag,by simpa only[dR,aw]using ah,λaB ae=>?_⟩;have e:=aI.fR (x:=x) ae;have a6:=aN aB (by rw[<-aw];exact ed.aP ae);simp only[bT,e,aw,qI];exact a6
  .rename_i Mq;simp only[Option.some.injEq,Prod.mk.injEq]at h;obtain⟨rfl,rfl⟩:=h;refine .pure λaB ae=>?_;have e:=aI.fR (x:=x) ae;simp only[bT,e,qI]
 |sK x=>
  simp only[bT,Option.some.injEq,Prod.mk.injEq]at h;obtain⟨rfl,rfl⟩:=h;exact .pure λaB ae=>by simp only[bT,aI.fR (x:=x) ae]
 |kr T x=>
  obtain⟨ms,ag,ah,aN⟩:=Vf h;refine⟨ms,ag,ah,λaB ae=>?_⟩;simp only[bT,aI.fR (x:=x) ae];exact aN aB (ed.aP ae)
 |oY T bZ x y=>
  simp only[bT,Option.map_eq_some_iff,Prod.mk.injEq]at h;obtain⟨d,aj,rfl,rfl⟩:=h;exact .pure λaB ae=>by
   simp only[use]at ae;simp only[bT,aI.fR (x:=x) ae.left,aI.fR (x:=y) ae.right,aj,Option.map_some]
 |bad=>simp[bT]at h
 |jB e2 x y=>
  simp only[bT,Option.map_eq_some_iff,Prod.mk.injEq]at h;obtain⟨d,aj,rfl,rfl⟩:=h;exact .pure λaB ae=>by
   simp only[use]at ae;simp only[bT,aI.fR (x:=x) ae.left,aI.fR (x:=y) ae.right,aj,Option.map_some]
 |cap T x=>
  simp only[bT]at h;split at h
  .rename_i e ay aw;simp only[Option.some.injEq,Prod.mk.injEq]at h;obtain⟨rfl,rfl⟩:=h;exact .pure λaB ae=>by simp only[bT,aI.fR (x:=x) ae,ay,aw]
  .cases h
 |bS x=>
  simp only[bT,Option.some.injEq,Prod.mk.injEq]at h;obtain⟨rfl,rfl⟩:=h;exact .pure λaB ae=>by simp only[bT,aI.fR (x:=x) ae]
 |gz x=>
  simp only[bT]at h;split at h
  .rename_i y q aw;obtain⟨ms,ag,ah,aN⟩:=rG h;refine⟨ms,ag,by simpa only[dR,aw]using ah,λaB ae=>?_⟩;have e:=aI.fR (x:=x) ae;have a6:=aN aB (by rw[<-aw];exact ed.aP ae);simp only[bT,e,aw];exact a6
  .rename_i Mq;simp only[Option.some.injEq,Prod.mk.injEq]at h;obtain⟨rfl,rfl⟩:=h;refine .pure λaB ae=>?_;have e:=aI.fR (x:=x) ae;simp only[bT,e]
 |pick c a b=>
  simp only[bT]at h;split at h
  .rename_i gp ad;simp only[Option.some.injEq,Prod.mk.injEq]at h;obtain⟨rfl,rfl⟩:=h;refine .pure λaB ae=>?_;simp only[use]at ae;simp only[bT,aI.fR (x:=c) ae.left,aI.fR (x:=a) ae.right.left,aI.fR (x:=b) ae.right.right,ad]
  .cases h
 |hx T=>
  simp only[bT,Option.map_eq_some_iff,Prod.mk.injEq]at h;obtain⟨d,aj,rfl,rfl⟩:=h;exact .pure λaB ae=>by simp only[bT,aj,Option.map_some]
 |dm T x=>
  obtain⟨ms,ag,ah,aN⟩:=Ve h;refine⟨ms,ag,ah,λaB ae=>?_⟩;simp only[bT,aI.fR (x:=x) ae];exact aN aB (ed.aP ae)
 |fA T ps=>
  obtain⟨ms,ag,ah,aN⟩:=Vc h;simp only[List.map_map,Function.comp_def]at ah aN;refine⟨ms,ag,ah,λaB ae=>?_⟩;simp only[bT,aI.HH (ps:=ps) ae];refine aN aB (ae.sub λu hu=>?_);simp only[use];exact aI.Ck u (by simpa [List.map_map,Function.comp_def]using hu)
 |eQ T n ps=>
  obtain⟨ms,ag,ah,aN⟩:=Vd h;simp only[List.map_map,Function.comp_def]at ah aN;refine⟨ms,ag,ah,λaB ae=>?_⟩;simp only[bT,aI.HH (ps:=ps) ae];refine aN aB (ae.sub λu hu=>?_);simp only[use];exact aI.Ck u (by simpa [List.map_map,Function.comp_def]using hu)
 |cp T x=>
  simp only[bT,Option.map_eq_some_iff,Prod.mk.injEq]at h;obtain⟨d,aj,rfl,rfl⟩:=h;exact .pure λaB ae=>by simp only[bT,aI.fR (x:=x) ae,U2 (ed.aP ae),aj,Option.map_some]
 |gH T x y=>
  simp only[bT,Option.map_eq_some_iff,Prod.mk.injEq]at h;obtain⟨s2,aj,rfl,rfl⟩:=h;obtain⟨ms,ag,ah,aN⟩:=Vg aj;refine⟨ms,ag,ah,λaB ae=>?_⟩;simp only[use]at ae;simp only[bT,aI.fR (x:=x) ae.left,aI.fR (x:=y) ae.right];exact aN aB (ae.sub λu hu=>by simp only[List.mem_append]at hu⊢;exact hu.imp (aI.ui u) (aI.ui u))
 |gg x=>
  simp only[bT,Option.map_eq_some_iff,Prod.mk.injEq]at h;obtain⟨d,aj,rfl,rfl⟩:=h;exact .pure λaB ae=>by simp only[bT,aI.fR (x:=x) ae,U_ (ed.aP ae),aj,Option.map_some]
 |bV op T x y=>
  simp only[bT,Option.map_eq_some_iff,Prod.mk.injEq]at h;obtain⟨d,aj,rfl,rfl⟩:=h;refine .pure λaB ae=>?_;simp only[use]at ae;simp only[bT,aI.fR (x:=x) ae.left,aI.fR (x:=y) ae.right,U9 (ed.aP ae.left),aj,Option.map_some]
 |un op x=>
  simp only[bT,Option.map_eq_some_iff,Prod.mk.injEq]at h;obtain⟨d,aj,rfl,rfl⟩:=h;exact .pure λaB ae=>by simp only[bT,aI.fR (x:=x) ae,aj,Option.map_some]
 |gI A B x=>
  simp only[bT,Option.map_eq_some_iff,Prod.mk.injEq]at h;obtain⟨d,aj,rfl,rfl⟩:=h;exact .pure λaB ae=>by simp only[bT,aI.fR (x:=x) ae,U6 (ed.aP ae),aj,Option.map_some]
 |i_ f cs=>
  simp only[bT,Option.some.injEq,Prod.mk.injEq]at h;obtain⟨rfl,rfl⟩:=h;exact .pure λaB ae=>by simp only[bT,aI.HG (xs:=cs) ae]
 |eu T l c=>
  simp only[bT,Option.map_eq_some_iff,Prod.mk.injEq]at h;obtain⟨d,aj,rfl,rfl⟩:=h;refine .pure λaB ae=>?_;simp only[use]at ae;simp only[bT,aI.fR (x:=l) ae.left,aI.fR (x:=c) ae.right,aj,Option.map_some]
 |eE T x dv an=>
  simp only[bT]at h;obtain⟨ms,ag,ah,aN⟩:=Vh h;refine⟨ms,ag,ah,λaB ae=>?_⟩;simp only[use]at ae;simp only[bT,aI.fR (x:=x) ae.left,Mi ae.right.left,Mi ae.right.right];exact aN aB (ed.aP ae.left)
 |cY T x k=>
  simp only[bT,Option.map_eq_some_iff,Prod.mk.injEq]at h;obtain⟨d,aj,rfl,rfl⟩:=h;exact .pure λaB ae=>by simp only[bT,aI.fR (x:=x) ae,U3 (ed.aP ae),aj,Option.map_some]
 |fp T x i=>
  simp only[bT,Option.map_eq_some_iff,Prod.mk.injEq]at h;obtain⟨d,aj,rfl,rfl⟩:=h;refine .pure λaB ae=>?_;simp only[use]at ae;simp only[bT,aI.fR (x:=x) ae.left,aI.fR (x:=i) ae.right,U4 (ed.aP ae.left),aj,Option.map_some]
 |idx T x i=>
  simp only[bT,Option.map_eq_some_iff,Prod.mk.injEq]at h;obtain⟨d,aj,rfl,rfl⟩:=h;refine .pure λaB ae=>?_;simp only[use]at ae;simp only[bT,aI.fR (x:=x) ae.left,aI.fR (x:=i) ae.right,aj,Option.map_some]
 |ex x k=>
  simp only[bT,Option.map_eq_some_iff,Prod.mk.injEq]at h;obtain⟨d,aj,rfl,rfl⟩:=h;exact .pure λaB ae=>by simp only[bT,aI.fR (x:=x) ae,Vb (ed.aP ae),aj,Option.map_some]
 |y6=>
  simp only[bT,Option.some.injEq,Prod.mk.injEq]at h;obtain⟨rfl,rfl⟩:=h;exact .pure λaB ae=>rfl
 |oX T x i=>
  simp only[bT,Option.map_eq_some_iff,Prod.mk.injEq]at h;obtain⟨d,aj,rfl,rfl⟩:=h;refine .pure λaB ae=>?_;simp only[use]at ae;simp only[bT,aI.fR (x:=x) ae.left,aI.fR (x:=i) ae.right,Vl (ed.aP ae.left),aj,Option.map_some]
 |nK T x i v=>
  simp only[bT,Option.map_eq_some_iff,Prod.mk.injEq]at h;obtain⟨s2,aj,rfl,rfl⟩:=h;obtain⟨ms,ag,ah,aN⟩:=Vm aj;refine⟨ms,ag,ah,λaB ae=>?_⟩;simp only[use]at ae;simp only[bT,aI.fR (x:=x) ae.left,aI.fR (x:=i) ae.right.left,aI.fR (x:=v) ae.right.right];exact aN aB (ed.aP ae.left)
 |na T x k=>
  simp only[bT,Option.bind_eq_some_iff]at h;obtain⟨d,aj,h⟩:=h;unfold qI at h;split at h
  .rename_i y q;have aw:=Va aj;obtain⟨ms,ag,ah,aN⟩:=rG h;refine⟨ms,ag,by simpa only[dR,aw,I.ae]using ah,λaB ae=>?_⟩;have a6:=aN aB (by rw[show(I.h y q).ae=(aP s x).ae from aw.symm];exact ed.aP ae);simp only[bT,aI.fR (x:=x) ae,Mj (ed.aP ae),aj,Option.bind_some,qI];exact a6
  .rename_i Mq;simp only[Option.some.injEq,Prod.mk.injEq]at h;obtain⟨rfl,rfl⟩:=h;refine .pure λaB ae=>?_;simp only[bT,aI.fR (x:=x) ae,Mj (ed.aP ae),aj,Option.bind_some,qI]
 |call f args=>simp[bT]at h
 |len T x=>
  simp only[bT,Option.map_eq_some_iff,Prod.mk.injEq]at h;obtain⟨d,aj,rfl,rfl⟩:=h;exact .pure λaB ae=>by simp only[bT,aI.fR (x:=x) ae,U5 (ed.aP ae),aj,Option.map_some]
 |app T bZ x y=>
  obtain⟨ms,ag,ah,aN⟩:=Vk h;refine⟨ms,ag,ah,λaB ae=>?_⟩;simp only[use]at ae;simp only[bT,aI.fR (x:=x) ae.left,aI.fR (x:=y) ae.right];exact aN aB (ae.sub λu hu=>by simp only[List.mem_append]at hu⊢;exact hu.imp (aI.ui u) (aI.ui u))
end
def I.one:I->Bool
 | .agg _=>false
 | .tuple _=>false
 |_=>true
mutual
def view (s:ar):I->Option I
 | .h x q=>match I.sub q (s x)with
   |some d=>(match d with| .tuple _=>none| .eD _=>none|d=>if d.plain then none else some d.share)
   |none=>none
 | .au x q=>if I.gd q (s x)then(match I.sub q (s x)with
   |some d=>(match d with| .tuple _=>none|d=>some (.ref d.share))
   |none=>none)else none
 | .ad _ _=>none
 | .fn f cap=>(views s cap).map (.fn f)
 | .hole=>none
 |d=>some d
def views (s:ar):List I->Option (List I)
 |[]=>some []
 |d::ds=>match view s d,views s ds with
  |some a,some b=>some (a::b)
  |_,_=>none
end
mutual
theorem HM:∀d:I,d.share.plain=true
 | .hole=>rfl
 | .bool _=>rfl
 | .fs=>rfl
 | .int _ _=>rfl
 | .str _=>rfl
 | .dS=>rfl
 | .bz=>rfl
 | .slice _=>rfl
 | .ao _ _=>rfl
 | .ref _=>rfl
 | .bh _=>rfl
 | .agg az=>by simp only[I.share,I.plain];exact HN az
 | .tuple az=>by simp only[I.share,I.plain];exact HN az
 | .fn _ _=>rfl
 | .h _ _=>rfl
 | .au _ _=>rfl
 | .ad _ _=>rfl
 | .eD _=>rfl
theorem HN:∀ds:List I,I.ef (I.shares ds)=true
 |[]=>rfl
 |d::ds=>by simp only[I.shares,I.ef];rw[HM d,HN ds];rfl
end
theorem Vn {s:ar} {a d:I} (h:a.plain=true) (he:view s a=some d):d.plain=true:=by
 cases a with
 |h x q=>
  simp only[view]at he;split at he
  .rename_i e fK;cases e<;>simp only at he<;>first
    |(cases he;done)
    |(split at he
      .cases he
      .simp only[Option.some.injEq]at he;subst he;exact HM _)
  .cases he
 |au x q=>
  simp only[view]at he;split at he
  .split at he
   .rename_i e fK;cases e<;>simp only at he<;>first
     |(cases he;done)
     |(simp only[Option.some.injEq]at he;subst he;rfl)
   .cases he
  .cases he
 |fn f cap=>
  simp only[view,Option.map_eq_some_iff]at he;obtain⟨ds,_,rfl⟩:=he;rfl
 |hole=>simp[view]at he
 |ad y q=>simp[view]at he
 |_=>simp only[view,Option.some.injEq]at he;subst he;exact h
theorem HO {d:I} {v:Value} (ag:∀vs,d≠.tuple vs) (h:eA d v):eA d.share v:=by
 cases d<;>first|exact h|exact(ag _ rfl).elim
theorem Vo (w:World):∀(q:List Nat) (av d bE:I) (cs c6:List Value) (a c7:Option (Nat×Nat)),I.sub q av=some d->bE.wd=d.wd->dP w q av cs a=some (d,c6,c7)->
  dP w q (I.put q bE av) cs a=some (bE,c6,c7):=by
 intro q;induction q with
 |nil=>
  intro av d bE cs c6 a c7 aj hw h;simp only[dP,Option.some.injEq,Prod.mk.injEq]at h;obtain⟨rfl,rfl,rfl⟩:=h;simp only[I.put,dP]
 |cons k q ih=>
  intro av d bE cs c6 a c7 aj hw h;cases av with
  |agg az=>
   simp only[I.sub]at aj;split at aj
   .rename_i x aw;have ay:k<az.length:=(List.getElem?_eq_some_iff.1 aw).1;simp only[dP,aw]at h;simp only[I.put,aw,dP];rw[List.getElem?_set_self ay];simp only[List.take_set_of_le (Nat.le_refl k),I.wi q x d bE aj hw];exact ih _ _ _ _ _ _ _ aj hw h
   .cases aj
  |tuple az=>
   simp only[I.sub]at aj;split at aj
   .rename_i x aw;have ay:k<az.length:=(List.getElem?_eq_some_iff.1 aw).1;simp only[dP,aw]at h;simp only[I.put,aw,dP];rw[List.getElem?_set_self ay];simp only[List.take_set_of_le (Nat.le_refl k),I.wi q x d bE aj hw];exact ih _ _ _ _ _ _ _ aj hw h
   .cases aj
  |ao sz az=>
   simp only[I.sub]at aj;split at aj
   .rename_i x aw;have ay:k<az.length:=(List.getElem?_eq_some_iff.1 aw).1;have lX:(az.set k (I.put q bE x))[k]? =some (I.put q bE x):=List.getElem?_set_self ay;simp only[I.put,aw];rw[dP.eq_def]at h⊢;simp only[aw]at h;simp only;rw[lX];split at h
    .rename_i aX;simp only[Option.some.injEq]at aX;subst aX;exact ih _ _ _ _ _ _ _ aj hw h
    .cases h
   .cases aj
  |bh x=>
   cases k with
   |zero=>
    simp only[I.sub]at aj;rw[dP.eq_def]at h⊢;simp only at h;simp only[I.put];split at h
    .rw[I.wi q x d bE aj hw];exact ih _ _ _ _ _ _ _ aj hw h
    .cases h
   |succ k=>simp[I.sub]at aj
  |_=>simp[I.sub]at aj
section
variable {w0 w aL:World} {F0 X F Fc:Nat->Prop} {S:Nat->Nat->Prop} {s aB:ar} {aC k7:Nat->Value}
theorem Vp (h:bU w0 F0 X F S s aC w) (bL:∀b,F b->Fc b):∀n,
  (∀(a:I) (v:Value) (d:I),SizeOf.sizeOf a<=n->(∀t∈a.ae,∀b,S t b->Fc b)->view s a=some d->aO w F s aC a v (λ_=>False)->aO w Fc aB k7 d v (λ_=>False))/\
  (∀(as:List I) (vs:List Value) (ds:List I),SizeOf.sizeOf as<=n->(∀t∈I.e1 as,∀b,S t b->Fc b)->views s as=some ds->eH w F s aC as vs->eH w Fc aB k7 ds vs):=by
 intro n;induction n with
 |zero=>exact⟨λa _ _ cg=>by cases a<;>simp at cg<;>omega,λas _ _ cg=>by cases as<;>simp at cg<;>omega⟩
 |succ n ih=>
  refine⟨λa v d cg b8 he aT=>?_,λas vs ds cg b8 he aT=>?_⟩
  .cases a with
   |h x q=>
    simp only[view]at he;split at he
    .rename_i e fK;have key:(∀az,e≠.tuple az)/\e.plain=false/\d=e.share/\∀o,e≠.eD o:=by
      cases e<;>simp only at he<;>first
       |(cases he;done)
       |(split at he
         .cases he
         .rename_i gE;simp only[Option.some.injEq]at he;exact⟨(λ_ h=>by cases h),by simpa using gE,he.symm,λ_ h=>by cases h⟩)
     obtain⟨nN,gE,rfl,lU⟩:=key;rw[aO]at aT;obtain⟨c6,c7,g1,g2,g3⟩:=aT e fK gE;have bj:=iE fK (.inl gE);have aw:=(aO.cT bj).1 (h.dF x);obtain⟨gD,a2,eP,fP,k0,b7,cw,fi,ep,fQ⟩:=ctx q (s x) (cz (aC x)) (S x) none e aw.2 fK;rw[g1]at k0;simp only[Option.some.injEq,Prod.mk.injEq,true_and]at k0;obtain⟨rfl,rfl⟩:=k0;have G3:e.share.tree=true:=by cases e<;>first|rfl|(simp[I.plain]at gE;done)|exact(lU _ rfl).elim
     have aS:=ax.shared bL e c6 fP (λb ad=>b8 x (by simp[I.ae]) b (cw b ad)) ep;exact(aO.cT G3).2 ⟨HO nN g3,by rw[g2];exact aS⟩
    .cases he
   |au x q=>
    simp only[view]at he;split at he
    .rename_i pK;split at he
     .rename_i e fK;have key:(∀az,e≠.tuple az)/\d= .ref e.share:=by
       cases e<;>simp only at he<;>first
        |(cases he;done)
        |(simp only[Option.some.injEq]at he;exact⟨(λ_ h=>by cases h),he.symm⟩)
      obtain⟨nN,rfl⟩:=key;rw[aO]at aT;obtain⟨c6,b,o,g1,rfl⟩:=aT e fK pK;have bj:=iE fK (.inr pK);have aw:=(aO.cT bj).1 (h.dF x);obtain⟨gD,a2,eP,fP,k0,b7,cw,fi,ep,fQ⟩:=ctx q (s x) (cz (aC x)) (S x) none e aw.2 fK;rw[g1]at k0;simp only[Option.some.injEq,Prod.mk.injEq,true_and]at k0;obtain⟨rfl,rfl⟩:=k0;have aS:=ax.shared bL e c6 fP (λb ad=>b8 x (by simp[I.ae]) b (cw b ad)) ep;rcases fQ with⟨l,r,_,a6,_⟩|⟨gp,cur,ty,fr,l,r,aX,a6,aQ,cC,cF,_⟩
      .simp at a6
      .simp only[Option.some.injEq,Prod.mk.injEq]at aX;obtain⟨rfl,rfl⟩:=aX;refine(aO.cT rfl).2 ⟨rfl,?_⟩;rw[ax];refine⟨b,l.length,c6,rfl,b8 x (by simp[I.ae]) b (b7 b a6),?_,aS⟩;intro j c cH;simp only[World.cell?,aQ];have aq:cur[l.length+j]? =some c:=by
        rw[<-Array.getElem?_toList,cF,List.getElem?_append_right (by omega),List.getElem?_append_left (by
         have:=(List.getElem?_eq_some_iff.1 cH).1;omega)]
        rw[<-cH];congr 1;omega
       simpa using aq
     .cases he
    .cases he
   |fn f cap=>
    simp only[view,Option.map_eq_some_iff]at he;obtain⟨ds,kd,rfl⟩:=he;rw[aO]at aT;obtain⟨arr,rfl,aq⟩:=aT;rw[aO];exact⟨arr,rfl,ih.2 cap _ _ (by simp at cg;omega) (by simpa [I.ae]using b8) kd aq⟩
   |hole=>simp[view]at he
   |ad y q=>simp[view]at he
   |_=>
    simp only[view,Option.some.injEq]at he;subst he;have mi:=(aO.cT rfl).1 aT;exact(aO.cT rfl).2 ⟨mi.1,ax.mono bL _ _ _ _ (λ_ h=>h) mi.2⟩
  .cases as with
   |nil=>
    simp only[views,Option.some.injEq]at he;subst he;rw[eH]at aT⊢;exact aT
   |cons a as=>
    simp only[views]at he;split at he
    .rename_i d ds ag ah;simp only[Option.some.injEq]at he;subst he;rw[eH]at aT⊢;obtain⟨v,kp,rfl,g1,g2⟩:=aT;simp at cg;simp only[I.e1,List.mem_append]at b8;exact⟨v,kp,rfl,ih.1 a v d (by omega) (λt bj=>b8 t (.inl bj)) ag g1,ih.2 as kp ds (by omega) (λt bj=>b8 t (.inr bj)) ah g2⟩
    .cases he
theorem bU.jC (h:bU w0 F0 X F S s aC w) {x:Nat} {q:List Nat} {d0 bE:I} {c6:List Value} {a:Option (Nat×Nat)} {Sn:Nat->Prop}
  (aj:I.sub q (s x)=some d0) (bw:dP w q (s x) (cz (aC x)) none=some (d0,c6,a)) (ah:∀vs,bE≠.tuple vs) (bj:q=[]->bE.tree=true/\eA bE (aC x))
  (aN:∀k p,q=k::p->(s x).tree=true/\(∀v,i7 d0 v->i7 bE v)) (hw:bE.wd=d0.wd)
  (aT:ax w F bE c6 Sn) (e6:∀b,Sn b->b<w.heap.size) (bL:∀b,Sn b->¬F b) (b8:∀u b,Sn b->¬S u b) (ba:∀b,Sn b->X b\/w0.heap.size<=b):
  bU w0 F0 X F (gq S x (λb=>S x b\/Sn b)) (dD (mD x s) x (I.put q bE (s x))) aC w:=by
 have eN:dD aC x (aC x)=aC:=by funext u;simp only[dD];split<;>simp_all
 have main:(I.put q bE (s x)).tree=true/\eA (I.put q bE (s x)) (aC x)/\ax w F (I.put q bE (s x)) (cz (aC x)) (λb=>S x b\/Sn b):=by
  cases q with
  |nil=>
   simp only[dP,Option.some.injEq,Prod.mk.injEq]at bw;obtain⟨aX,a6,aQ⟩:=bw;obtain⟨g1,g2⟩:=bj rfl;simp only[I.put];refine⟨g1,?_,?_⟩
   .exact g2
   .rw[a6];exact ax.mono (λ_ h=>h) _ _ _ _ (λb ad=>.inr ad) aT
  |cons k p=>
   obtain⟨g1,g2⟩:=aN k p rfl;have aw:=(aO.cT g1).1 (h.dF x);obtain⟨gD,a2,eP,fP,k0,b7,cw,fi,ep,fQ⟩:=ctx (k::p) (s x) (cz (aC x)) (S x) none d0 aw.2 aj;rw[bw]at k0;simp only[Option.some.injEq,Prod.mk.injEq,true_and]at k0;obtain⟨rfl,rfl⟩:=k0;refine⟨?_,?_,?_⟩
   .rcases sy k p bE (s x)with⟨az,gs,aX,e⟩|⟨az,gs,aX,e⟩|⟨sz,xs,cK,aX,e⟩|⟨y,z,aX,e⟩|e<;>rw[e]<;>first|rfl|exact g1
   .refine yD aw.1 aj g2 (λ_ vs e=>(ah vs e).elim) hw
   .have mono:∀b,(eP b\/Sn b)->(S x b\/Sn b):=λb ad=>ad.imp (b7 b) id;rcases fQ with⟨l,r,aX,a6,aQ⟩|⟨b,cur,ty,fr,l,r,aX,a6,aQ,cC,cF,cc⟩
    .rw[aX];exact ax.mono (λ_ h=>h) _ _ _ _ mono (aQ w bE c6 Sn (λ_ _=>rfl) (λ_ _=>rfl) hw aT (λb ad aq=>b8 x b ad (b7 b aq)))
    .refine ax.mono (λ_ h=>h) _ _ _ _ mono (cc w bE c6 Sn (λ_ _=>rfl) (λ_ _ _=>rfl) ?_ hw aT (λb ad aq=>b8 x b ad (b7 b aq)));rw[aQ,<-cF]
 have:=h.K_ (t:=x) main.1 main.2.1 main.2.2 (by rintro b (ad|ad);exact h.e7 x b ad;exact e6 b ad) (by rintro b (ad|ad);exact h.gf x b ad;exact bL b ad)
  (by rintro u b dL (ad|ad);exact λhu=>h.fz u x b dL hu ad;exact b8 u b ad) (by rintro b (ad|ad);exact h.ey x b ad;exact ba b ad)
 rwa [eN]at this
end
mutual
def I.dd:I->Bool
 | .slice _=>false
 | .ref _=>false
 | .fn _ _=>false
 | .h _ _=>false
 | .au _ _=>false
 | .ad _ _=>false
 | .ao _ xs=>I.hV xs
 | .bh d=>d.dd
 | .agg az=>I.hV az
 | .tuple az=>I.hV az
 |_=>true
def I.hV:List I->Bool
 |[]=>true
 |d::ds=>d.dd&&I.hV ds
end
mutual
theorem ax.dd {w:World} {F b3:Nat->Prop}:∀(d:I) (cs:List Value) (S:Nat->Prop),d.dd=true->ax w F d cs S->ax w b3 d cs S
 | .hole,_,_,_,h=>h
 | .bool _,_,_,_,h=>h
 | .fs,_,_,_,h=>h
 | .int _ _,_,_,_,h=>h
 | .str _,_,_,_,h=>h
 | .dS,_,_,_,h=>h
 | .bz,_,_,_,h=>h
 | .slice xs,cs,S,a7,h=>by simp[I.dd]at a7
 | .ref d,cs,S,a7,h=>by simp[I.dd]at a7
 | .ao sz xs,cs,S,a7,h=>by
   rw[ax]at h⊢;rcases h with h|⟨b,cap,cur,e,fr,aW,ag,ah,aN,bg,bR,cW,cE,fJ,hT,iB,mC⟩
   .exact .inl h
   .exact .inr ⟨b,cap,cur,e,fr,aW,ag,ah,aN,bg,bR,cW,cE,fJ,bm.dd xs _ _ a7 hT,iB,mC⟩
 | .bh d,cs,S,a7,h=>by
   rw[ax]at h⊢;obtain⟨b,cur,e,fr,aW,ag,ah,aN,bg,bR,cW,cE⟩:=h;exact⟨b,cur,e,fr,aW,ag,ah,aN,bg,ax.dd d _ _ a7 bR,cW,cE⟩
 | .agg az,cs,S,a7,h=>by rw[ax]at h⊢;exact bm.dd az _ _ a7 h
 | .tuple az,cs,S,a7,h=>by rw[ax]at h⊢;exact bm.dd az _ _ a7 h
 | .fn _ _,_,_,a7,h=>by simp[I.dd]at a7
 | .h _ _,_,_,_,h=>h
 | .au _ _,_,_,_,h=>h
 | .ad _ _,_,_,_,h=>h
 | .eD _,_,_,_,h=>h
theorem bm.dd {w:World} {F b3:Nat->Prop}:∀(ds:List I) (cs:List Value) (S:Nat->Prop),I.hV ds=true->bm w F ds cs S->bm w b3 ds cs S
 |[],_,_,_,h=>h
 |d::ds,cs,S,a7,h=>by
  simp only[I.hV,Bool.and_eq_true]at a7;rw[bm]at h⊢;obtain⟨cv,c2,ck,eo,ag,ah,aN,bg,bR,cW⟩:=h;exact⟨cv,c2,ck,eo,ag,ax.dd d _ _ a7.1 ah,bm.dd ds _ _ a7.2 aN,bg,bR,cW⟩
end
theorem Mr:∀(q:List Nat) (av d e:I),I.sub q av=some d->I.sub q (I.put q e av)=some e:=by
 intro q;induction q with
 |nil=>intro av d e _;simp[I.put,I.sub]
 |cons k q ih=>
  intro av d e h;cases av with
  |agg az=>
   simp only[I.sub]at h;split at h
   .rename_i x aw;have ay:k<az.length:=(List.getElem?_eq_some_iff.1 aw).1;simp only[I.put,aw,I.sub,List.getElem?_set_self ay];exact ih _ _ _ h
   .cases h
  |tuple az=>
   simp only[I.sub]at h;split at h
   .rename_i x aw;have ay:k<az.length:=(List.getElem?_eq_some_iff.1 aw).1;simp only[I.put,aw,I.sub,List.getElem?_set_self ay];exact ih _ _ _ h
   .cases h
  |ao sz az=>
   simp only[I.sub]at h;split at h
   .rename_i x aw;have ay:k<az.length:=(List.getElem?_eq_some_iff.1 aw).1;simp only[I.put,aw,I.sub,List.getElem?_set_self ay];exact ih _ _ _ h
   .cases h
  |bh x=>
   cases k with
   |zero=>simp only[I.sub]at h;simp only[I.put,I.sub];exact ih _ _ _ h
   |succ k=>simp[I.sub]at h
  |_=>simp[I.sub]at h
structure cZ where
 a:I
 g:Bool
 d:I
 o:I
def I.own:I->Bool
 | .ao _ _=>true
 | .bh _=>true
 |_=>false
def I.hf:I->Bool
 | .ao _ _=>true
 | .bh _=>true
 | .eD _=>true
 | .agg az=> !I.ef az
 |_=>false
def sM (d o:I):Bool:=match d,o with
 | .agg a,.agg b=>I.eJ a==I.eJ b
 | .agg _,_=>false
 |_,.agg _=>false
 |_,_=>true
theorem sN {d:I} (h:d.hf=true):d.plain=false/\d.tree=true/\∀vs,d≠.tuple vs:=by
 cases d<;>simp[I.hf]at h<;>first|exact⟨rfl,rfl,λvs e=>by cases e⟩|exact⟨by simp only[I.plain];exact h,rfl,λvs e=>by cases e⟩
theorem Vq {d o:I} (h:d.hf=true) (cy:o.hf=true) (hl:sM d o=true):o.wd=d.wd/\(∀v,eA d v->eA o v)/\∀v,i7 d.dz v->i7 o v:=by
 cases d<;>simp[I.hf]at h<;>cases o<;>simp[I.hf]at cy<;>simp[sM]at hl<;>first
  |exact⟨rfl,λ_ h=>h,λ_ h=>h⟩
  |exact⟨by simp only[I.wd];exact hl.symm,λ_ h=>h,λ_ h=>h⟩
def cZ.ok (s:ar) (p:cZ):Prop:=
 if p.g then(match p.a with| .h x q=>I.sub q (s x)=some p.d/\p.d.hf=true/\(p.o= .hole\/(p.o.hf=true/\sM p.d p.o=true))|_=>False)
 else view s p.a=some p.d
def ja:List cZ->Bool
 |[]=>true
 |p::r=>(r.all λc1=> !(p.g||c1.g)||(p.a.ae.all λu=> !c1.a.ae.contains u))&&ja r
def cZ.take (s:ar) (p:cZ):ar:=
 if p.g then(match p.a with| .h x q=>dD (iO x s) x (I.put q p.d.dz (s x))|_=>s)else s
def cZ.jC (s:ar) (p:cZ):ar:=
 if p.g then(match p.a,p.o with|_,.hole=>s| .h x q,o=>dD (mD x s) x (I.put q o (s x))|_,_=>s)else s
def ft (s:ar) (ps:List cZ):ar:=ps.foldl cZ.take s
def iy (s:ar) (ps:List cZ):ar:=ps.foldl cZ.jC s
section
variable {w0 w aL:World} {F0 X F Fc:Nat->Prop} {S:Nat->Nat->Prop} {s aB:ar} {aC k7:Nat->Value}
def Vr (w:World) (F:Nat->Prop) (s1:ar) (aC:Nat->Value) (p:cZ) (v:Value) (Sn:Nat->Prop):Prop:=
 ∃x q a0,p.a= .h x q/\I.sub q (s1 x)=some p.d.dz/\dP w q (s1 x) (cz (aC x)) none=some (p.d.dz,cz v,a0)/\(s1 x).ae=[]/\(q=[]->eA p.d (aC x))/\(q≠[]->(s1 x).tree=true)/\
  eA p.d v/\ax w F p.d (cz v) Sn
theorem Vs {p:cZ} {x:Nat} (h:(s x).ae=[]) (au:p.g=true->x∉p.a.ae):cZ.take s p x=s x:=by
 unfold cZ.take;split
 .rename_i hg;cases cf:p.a with
  |h y q=>
   have:x≠y:=by
    have:=au hg;rw[cf]at this;simpa [I.ae]using this
   simp only;rw[j1 _ _ this];exact y8 _ (by rw[h];simp)
  |_=>rfl
 .rfl
theorem HP:∀{ps:List cZ} {s:ar} {x:Nat},(s x).ae=[]->(∀p∈ps,p.g=true->x∉p.a.ae)->ft s ps x=s x:=by
 intro ps;induction ps with
 |nil=>intros;rfl
 |cons p ps ih=>
  intro s x h au;have e:=Vs (s:=s) (p:=p) h (au p (by simp));show ft (cZ.take s p) ps x=s x;rw[ih (by rw[e];exact h) (λc1 e_=>au c1 (by simp[e_])),e]
theorem rI {d:I} (h:d.own=true):d.plain=false/\d.tree=true/\d.dz= .hole/\d.one=true/\d.wd=1/\(∀v,eA d v↔Value.ha v=true):=by
 cases d<;>simp[I.own]at h<;>exact⟨rfl,rfl,rfl,rfl,rfl,λv=>Iff.rfl⟩
theorem Vt:∀(ps:List cZ) (vs:List Value) (s:ar) (S:Nat->Nat->Prop),bU w0 F0 X F S s aC w->ps.length=vs.length->
  (∀(i:Nat) (p:cZ) (v:Value),ps[i]? =some p->vs[i]? =some v->p.a.plain=true/\aO w F s aC p.a v (λ_=>False)/\(p.g=true->p.ok s))->ja ps=true->
  ∃(Sn ck:Nat->Nat->Prop),bU w0 F0 X F ck (ft s ps) aC w/\(∀u b,ck u b->S u b)/\
   (∀(i:Nat) (p:cZ) (v:Value),ps[i]? =some p->vs[i]? =some v->p.g=true->Vr w F (ft s ps) aC p v (Sn i))/\
   (∀i b,Sn i b->∃p,ps[i]? =some p/\p.g=true)/\
   (∀i b,Sn i b->∃u,S u b)/\(∀i u b,Sn i b->¬ck u b)/\(∀i j b,i≠j->Sn i b->¬Sn j b)/\
   (∀(bE:I) (gQ:Value) (aW:Nat->Prop),(∀p∈ps,p.g=true->∀u∈p.a.ae,u∉bE.ae)->aO w F s aC bE gQ aW->aO w F (ft s ps) aC bE gQ aW):=by
 intro ps;induction ps with
 |nil=>
  intro vs s S h hl _ _;exact⟨λ_ _=>False,S,h,λ_ _ h=>h,λi p v au=>by simp at au,λ_ _ h=>h.elim,λ_ _ h=>h.elim,λ_ _ _ h=>h.elim,λ_ _ _ _ h=>h.elim,λ_ _ _ _ h=>h⟩
 |cons p ps ih=>
  intro vs s S h hl y4 lY;cases vs with
  |nil=>simp at hl
  |cons v vs=>
   simp only[List.length_cons,Nat.add_right_cancel_iff]at hl;simp only[ja,Bool.and_eq_true,List.all_eq_true,Bool.or_eq_true,Bool.not_eq_true']at lY;obtain⟨pU,o3⟩:=lY;have wG:∀c1∈ps,(p.g=true\/c1.g=true)->∀u∈p.a.ae,u∉c1.a.ae:=by
    intro c1 e_ hg u hu;rcases pU c1 e_ with e|e
    .rcases hg with hg|hg<;>simp[hg]at e
    .simpa using e u hu
   obtain⟨f1,f2,f3⟩:=y4 0 p v rfl rfl;cases hg:p.g with
   |false=>
    have gx:cZ.take s p=s:=by simp[cZ.take,hg]
    obtain⟨Sn,ck,g1,g2,g3,g4,g5,g6,g7,g8⟩:=ih vs s S h hl (λi c1 gQ au aT=>y4 (i+1) c1 gQ (by simpa using au) (by simpa using aT)) o3;have aX:ft s (p::ps)=ft s ps:=by show ft (cZ.take s p) ps=_;rw[gx]
    rw[aX];refine⟨λi=>match i with|0=>λ_=>False|i+1=>Sn i,ck,g1,g2,?_,?_,?_,?_,?_,λbE gQ aW aj=>g8 bE gQ aW λc1 e_=>aj c1 (by simp[e_])⟩
    .intro i c1 gQ au aT h_;cases i with
     |zero=>simp at au;subst au;rw[hg]at h_;cases h_
     |succ i=>exact g3 i c1 gQ (by simpa using au) (by simpa using aT) h_
    .intro i b ad;cases i with
     |zero=>exact ad.elim
     |succ i=>simpa using g4 i b ad
    .intro i b ad;cases i with
     |zero=>exact ad.elim
     |succ i=>exact g5 i b ad
    .intro i u b ad;cases i with
     |zero=>exact ad.elim
     |succ i=>exact g6 i u b ad
    .intro i j b dL an cH;cases i with
     |zero=>exact an.elim
     |succ i=>
      cases j with
      |zero=>exact cH.elim
      |succ j=>exact g7 i j b (by omega) an cH
   |true=>
    have hp:=f3 hg;simp only[cZ.ok,hg,if_true]at hp;split at hp
    .rename_i x q cf;obtain⟨fK,HQ,tQ⟩:=hp;obtain⟨ot,l0,pV⟩:=sN HQ;have Vu:db s p.a=some (p.d,dD (iO x s) x (I.put q p.d.dz (s x))):=by
      rw[cf];simp only[db,fK,ot];rfl
     obtain⟨ck,t1,t2,t3,Vv,t4,t5,t6,t7,t8,t9,t10,t11⟩:=pI h f1 f2 Vu;have gx:cZ.take s p=dD (iO x s) x (I.put q p.d.dz (s x)):=by simp[cZ.take,hg,cf]
     have qL:∀c1∈ps,x∉c1.a.ae:=λc1 e_=>wG c1 e_ (.inl hg) x (by rw[cf];simp[I.ae]);have HR:cZ.take s p x=I.put q p.d.dz (s x):=by rw[gx,mE]
     have Ms:(cZ.take s p x).ae=[]:=by
      rw[HR];exact wE q _ _ _ fK (.inl ot) (λ_=>by cases aj:p.d<;>first|rfl|(rw[aj]at HQ;simp[I.hf]at HQ))
     obtain⟨Sn,eo,g1,g2,g3,g4,g5,g6,g7,g8⟩:=ih vs (cZ.take s p) ck (by rw[gx];exact t1) hl (by
      intro i c1 gQ au aT;obtain⟨b7,cw,fi⟩:=y4 (i+1) c1 gQ (by simpa using au) (by simpa using aT);have hm:c1∈ps:=List.mem_of_getElem? au;refine⟨b7,?_,?_⟩
      .have:=t11 _ _ _ cw;rw[cf]at this;rw[gx];simp only[I.owner,lV]at this
       rwa [y8 _ (qL c1 hm)]at this
      .intro h_;have:=fi h_;simp only[cZ.ok,h_,if_true]at this⊢;split at this
       .rename_i y jw rJ;have dL:y≠x:=λe=>qL c1 hm (by rw[rJ,e];simp[I.ae]);rw[gx,j1 _ _ dL];have bj:=iE this.1 (.inl (sN this.2.1).1);simp only[iO,GP bj];exact this
       .exact this.elim) o3
     have aX:ft s (p::ps)=ft (cZ.take s p) ps:=rfl;have sO:ft (cZ.take s p) ps x=I.put q p.d.dz (s x):=by
      rw[HP Ms (λc1 e_ _=>qL c1 e_),HR]
     rw[aX];refine⟨λi=>match i with|0=>Vv|i+1=>Sn i,eo,g1,λu b ad=>t9 u b (g2 u b ad),?_,?_,?_,?_,?_,?_⟩
     rotate_left 5
     .intro bE gQ aW aj j3;refine g8 bE gQ aW (λc1 e_=>aj c1 (by simp[e_])) ?_;have:=t11 _ _ _ j3;rw[cf]at this;rw[gx];simp only[I.owner,lV]at this
      rwa [y8 _ (aj p (by simp) hg x (by rw[cf];simp[I.ae]))]at this
     .intro i c1 gQ au aT h_;cases i with
      |zero=>
       simp at au aT;subst au aT;have Cm:=f2;rw[cf,aO]at Cm;obtain⟨c6,a0,cv,c2,c3⟩:=Cm _ fK ot;refine⟨x,q,a0,cf,?_,?_,?_,?_,?_,t3,t4⟩
       .rw[sO];exact Mr q _ _ _ fK
       .rw[sO,c2];exact Vo w q _ _ _ _ _ _ _ fK (I.sx _) cv
       .rw[sO,<-HR];exact Ms
       .intro cU;subst cU;simp only[I.sub,Option.some.injEq]at fK;have:=(aO.cT (by rw[fK];exact l0)).1 (h.dF x);rw[fK]at this;exact this.1
       .intro cU;have bj:=iE fK (.inl ot);rw[sO];cases q with
        |nil=>exact(cU rfl).elim
        |cons k q=>rcases sy k q p.d.dz (s x)with⟨az,gs,aX,e⟩|⟨az,gs,aX,e⟩|⟨sz,xs,cK,aX,e⟩|⟨y,z,aX,e⟩|e<;>rw[e]<;>first|rfl|exact bj
      |succ i=>exact g3 i c1 gQ (by simpa using au) (by simpa using aT) h_
     .intro i b ad;cases i with
      |zero=>exact⟨p,rfl,hg⟩
      |succ i=>simpa using g4 i b ad
     .intro i b ad;cases i with
      |zero=>exact t10 b ad
      |succ i=>obtain⟨u,hu⟩:=g5 i b ad;exact⟨u,t9 u b hu⟩
     .intro i u b ad;cases i with
      |zero=>exact λhu=>t7 u b ad (g2 u b hu)
      |succ i=>exact g6 i u b ad
     .intro i j b dL an cH;cases i with
      |zero=>
       cases j with
       |zero=>exact dL rfl
       |succ j=>obtain⟨u,hu⟩:=g5 j b cH;exact t7 u b an hu
      |succ i=>
       cases j with
       |zero=>obtain⟨u,hu⟩:=g5 i b an;exact t7 u b cH hu
       |succ j=>exact g7 i j b (by omega) an cH
    .exact hp.elim
end
def gu (l:List I):ar:=λi=>l.getD i .hole
def hW (l:List Value):Nat->Value:=λi=>l.getD i undef
def pW (P:Program) (f:FuncId) (args:Array Value) (w:World) (nO:Value->World->Prop):Prop:=
 ((callFunc f args).run P w= .ok (.enter f args) w/\Calls P f args w (λe aL=>∃v,e= .returned v/\nO v aL))\/
 ∃v aL,(callFunc f args).run P w= .ok (.value v) aL/\nO v aL
theorem pW.mono {P:Program} {f:FuncId} {args:Array Value} {w:World} {nO Mt:Value->World->Prop} (h:pW P f args w nO) (aS:∀v aL,nO v aL->Mt v aL):pW P f args w Mt:=by
 rcases h with⟨ag,ah⟩|⟨v,aL,ag,ah⟩
 .exact .inl ⟨ag,Calls.mono ah λe aL ⟨v,e,h⟩=>⟨v,e,aS v aL h⟩⟩
 .exact .inr ⟨v,aL,ag,aS v aL ah⟩
def bk (C:cl) (f:FuncId) (as:List I) (r:I) (outs:List I):Prop:=
 ∀(w:World) (F X:Nat->Prop) (S:Nat->Nat->Prop) (vs:List Value),vs.length=as.length->bU w F X F S (gu as) (hW vs) w->
  pW C.P f vs.toArray w λv aL=>∃b3 aW,bU w F X b3 aW (gu (r::outs)) (hW (v::vs)) aL
def I.res:I->Bool
 | .h _ _=>false
 | .au _ _=>false
 | .ad _ _=>false
 | .fn _ _=>false
 |_=>true
theorem Mu {d:I} (h:d.tree=true):d.ae=[]:=by cases d<;>first|rfl|(simp[I.tree]at h)
mutual
theorem HS {s aB:ar}:∀(a:I) (d:I),(∀u∈a.ae,(s u).tree=true->aB u=s u)->view s a=some d->view aB a=some d
 | .h x q,d,hu,h=>by
   have bj:(s x).tree=true:=by
    simp only[view]at h;split at h
    .rename_i e fK;cases e<;>simp only at h<;>first
      |(cases h;done)
      |(split at h
        .cases h
        .rename_i au;exact iE fK (.inl (by simpa using au)))
    .cases h
   simp only[view]at h⊢;rw[hu x (by simp[I.ae]) bj];exact h
 | .au x q,d,hu,h=>by
   have bj:(s x).tree=true:=by
    simp only[view]at h;split at h
    .rename_i aq;split at h
     .rename_i e fK;exact iE fK (.inr aq)
     .cases h
    .cases h
   simp only[view]at h⊢;rw[hu x (by simp[I.ae]) bj];exact h
 | .ad x q,d,hu,h=>by simp[view]at h
 | .fn f cap,d,hu,h=>by
   simp only[view,Option.map_eq_some_iff]at h⊢;obtain⟨ds,ag,ah⟩:=h;exact⟨ds,Mv cap ds (by simpa [I.ae]using hu) ag,ah⟩
 | .hole,d,hu,h=>h
 | .bool _,d,hu,h=>h
 | .fs,d,hu,h=>h
 | .int _ _,d,hu,h=>h
 | .str _,d,hu,h=>h
 | .dS,d,hu,h=>h
 | .bz,d,hu,h=>h
 | .slice _,d,hu,h=>h
 | .ao _ _,d,hu,h=>h
 | .ref _,d,hu,h=>h
 | .bh _,d,hu,h=>h
 | .agg _,d,hu,h=>h
 | .tuple _,d,hu,h=>h
 | .eD _,d,hu,h=>h
theorem Mv {s aB:ar}:∀(as:List I) (ds:List I),(∀u∈I.e1 as,(s u).tree=true->aB u=s u)->views s as=some ds->views aB as=some ds
 |[],ds,hu,h=>h
 |a::as,ds,hu,h=>by
  simp only[I.e1,List.mem_append]at hu;simp only[views]at h⊢;split at h
  .rename_i x y ag ah;rw[HS a x (λu hm=>hu u (.inl hm)) ag,Mv as y (λu hm=>hu u (.inr hm)) ah];exact h
  .cases h
end
section
variable {C:cl} {w0 w aL:World} {F0 X F Fc:Nat->Prop} {S:Nat->Nat->Prop} {s aB:ar} {aC k7:Nat->Value}
def Vw (w:World) (F:Nat->Prop) (s:ar) (aC:Nat->Value) (p:cZ) (v:Value) (o4:Nat->Prop):Prop:=
 p.g=true->p.o= .hole\/∃x q a0 d0,p.a= .h x q/\I.sub q (s x)=some d0/\dP w q (s x) (cz (aC x)) none=some (d0,cz v,a0)/\(s x).ae=[]/\
  (q=[]->eA p.o (aC x))/\(q≠[]->(s x).tree=true)/\p.o.hf=true/\ax w F p.o (cz v) o4/\p.o.wd=d0.wd/\∀v,i7 d0 v->i7 p.o v
theorem Vx:∀(ps:List cZ) (vs:List Value) (s:ar) (S o4:Nat->Nat->Prop),bU w0 F0 X F S s aC w->ps.length=vs.length->
  (∀(i:Nat) (p:cZ) (v:Value),ps[i]? =some p->vs[i]? =some v->Vw w F s aC p v (o4 i))->
  (∀i b,o4 i b->b<w.heap.size/\¬F b/\(X b\/w0.heap.size<=b)/\∀u,¬S u b)->(∀i j b,i≠j->o4 i b->¬o4 j b)->ja ps=true->
  ∃eo,bU w0 F0 X F eo (iy s ps) aC w/\∀u b,eo u b->S u b\/∃i,o4 i b:=by
 intro ps;induction ps with
 |nil=>intro vs s S o4 h _ _ _ _ _;exact⟨S,h,λu b ad=>.inl ad⟩
 |cons p ps ih=>
  intro vs s S o4 h hl HT ad aj lY;cases vs with
  |nil=>simp at hl
  |cons v vs=>
   simp only[List.length_cons,Nat.add_right_cancel_iff]at hl;simp only[ja,Bool.and_eq_true,List.all_eq_true,Bool.or_eq_true,Bool.not_eq_true']at lY;obtain⟨pU,o3⟩:=lY;have wG:∀c1∈ps,(p.g=true\/c1.g=true)->∀u∈p.a.ae,u∉c1.a.ae:=by
    intro c1 e_ hg u hu;rcases pU c1 e_ with e|e
    .rcases hg with hg|hg<;>simp[hg]at e
    .simpa using e u hu
   have skip:cZ.jC s p=s->∃eo,bU w0 F0 X F eo (iy s (p::ps)) aC w/\∀u b,eo u b->S u b\/∃i,o4 i b:=by
    intro gx;obtain⟨eo,g1,g2⟩:=ih vs s S (λi=>o4 (i+1)) h hl (λi c1 gQ au aT=>HT (i+1) c1 gQ (by simpa using au) (by simpa using aT)) (λi b h=>ad (i+1) b h)
     (λi j b dL=>aj (i+1) (j+1) b (by omega)) o3
    refine⟨eo,?_,λu b hu=>(g2 u b hu).imp id λ⟨i,an⟩=>⟨i+1,an⟩⟩;show bU _ _ _ _ _ (iy (cZ.jC s p) ps) _ _;rw[gx];exact g1
   cases hg:p.g with
   |false=>exact skip (by simp[cZ.jC,hg])
   |true=>
    rcases HT 0 p v rfl rfl hg with cy|⟨x,q,a0,d0,cf,cv,c2,c3,c4,c5,y_,HU,HV,c9⟩
    .exact skip (by simp only[cZ.jC,hg,cy,if_true])
    .obtain⟨ot,l0,sP⟩:=sN y_;have gx:cZ.jC s p=dD (mD x s) x (I.put q p.o (s x)):=by
      simp only[cZ.jC,hg,if_true,cf];cases Vy:p.o<;>first|rfl|(rw[Vy]at y_;simp[I.hf]at y_)
     have step:=h.jC (x:=x) (q:=q) (bE:=p.o) cv c2 sP (λcU=>⟨l0,c4 cU⟩) (λk r cU=>⟨c5 (by rw[cU];simp),c9⟩) HV HU
      (λb h=>(ad 0 b h).1) (λb h=>(ad 0 b h).2.1) (λu b h=>(ad 0 b h).2.2.2 u) (λb h=>(ad 0 b h).2.2.1)
     rw[<-gx]at step;obtain⟨eo,g1,g2⟩:=ih vs (cZ.jC s p) _ (λi=>o4 (i+1)) step hl (by
      intro i c1 gQ au aT h_;have hm:c1∈ps:=List.mem_of_getElem? au;rcases HT (i+1) c1 gQ (by simpa using au) (by simpa using aT) h_ with cy|⟨y,jw,R,d1,b7,cw,fi,ep,fQ,dM,jz,gy,nc⟩
      .exact .inl cy
      .have dL:y≠x:=λe=>wG c1 hm (.inl hg) x (by rw[cf];simp[I.ae]) (by rw[b7,e];simp[I.ae]);have og:cZ.jC s p y=s y:=by
        rw[gx,j1 _ _ dL];exact HD _ (by rw[ep];simp)
       exact .inr ⟨y,jw,R,d1,b7,by rw[og];exact cw,by rw[og];exact fi,by rw[og];exact ep,fQ,by rw[og];exact dM,jz,gy,nc⟩)
      (by
       intro i b an;obtain⟨mn,jy,jA,bD⟩:=ad (i+1) b an;refine⟨mn,jy,jA,λu hu=>?_⟩;simp only[gq]at hu;split at hu
       .rcases hu with hu|hu
        .exact bD _ hu
        .exact aj 0 (i+1) b (by omega) hu an
       .exact bD _ hu)
      (λi j b dL=>aj (i+1) (j+1) b (by omega)) o3
     refine⟨eo,g1,λu b hu=>?_⟩;rcases g2 u b hu with hu|⟨i,an⟩
     .simp only[gq]at hu;split at hu
      .rename_i e;subst e;exact hu.imp id λh=>⟨0,h⟩
      .exact .inl hu
     .exact .inr ⟨i+1,an⟩
def kL (ps:List cZ):Bool:=ps.any λp=> !p.g&& !p.a.ae.isEmpty
theorem Mw (h:bU w0 F0 X F S s aC w) {ps:List cZ} {vs:List Value} {f:FuncId} {r:I} (hl:ps.length=vs.length)
  (j3:∀(i:Nat) (p:cZ) (v:Value),ps[i]? =some p->vs[i]? =some v->p.a.plain=true/\aO w F s aC p.a v (λ_=>False))
  (hp:∀p∈ps,p.ok s) (lY:ja ps=true) (bw:∀(Fc ng:Nat->Prop) (eP:Nat->Nat->Prop),(∀b,F b->Fc b)->(∀b,ng b->∃u,S u b)->bU w Fc ng Fc eP (gu (ps.map (·.d))) (hW vs) w->
   pW C.P f vs.toArray w λv aL=>∃b3 aW,bU w Fc ng b3 aW (gu (r::ps.map (·.o))) (hW (v::vs)) aL) (aS:r.res=true)
  (a7:kL ps=true->r.dd=true/\∀p∈ps,p.o.dd=true):
  pW C.P f vs.toArray w λv aL=>∃b3 aW,bU w0 F0 X b3 aW (iy (ft s ps) ps) aC aL/\mg w0 X b3 aW (iy (ft s ps) ps) aC aL r v/\∀b,F b->b3 b/\aL.heap[b]? =w.heap[b]? :=by
 obtain⟨Sn,ck,g1,g2,g3,g4,g5,g6,g7,g8⟩:=Vt ps vs s S h hl (λi p v au aT=>⟨(j3 i p v au aT).1,(j3 i p v au aT).2,λ_=>hp p (List.mem_of_getElem? au)⟩) lY;have apart:∀(i j:Nat) (p c1:cZ),ps[i]? =some p->ps[j]? =some c1->i≠j->(p.g=true\/c1.g=true)->∀u∈p.a.ae,u∉c1.a.ae:=by
  clear j3 hp bw a7 g1 g3 g4 g8 hl;induction ps with
  |nil=>intro i j p c1 au;simp at au
  |cons iu ps ih=>
   simp only[ja,Bool.and_eq_true,List.all_eq_true,Bool.or_eq_true,Bool.not_eq_true']at lY;obtain⟨pU,o3⟩:=lY;have wG:∀c1∈ps,(iu.g=true\/c1.g=true)->∀u∈iu.a.ae,u∉c1.a.ae:=by
    intro c1 e_ hg u hu;rcases pU c1 e_ with e|e
    .rcases hg with hg|hg<;>simp[hg]at e
    .simpa using e u hu
   intro i j p c1 au e_ dL hg u hu;cases i with
   |zero=>
    simp at au;subst au;cases j with
    |zero=>exact(dL rfl).elim
    |succ j=>exact wG c1 (List.mem_of_getElem? (by simpa using e_)) hg u hu
   |succ i=>
    cases j with
    |zero=>
     simp at e_;subst e_;exact λza=>wG p (List.mem_of_getElem? (by simpa using au)) hg.symm u za hu
    |succ j=>exact ih o3 i j p c1 (by simpa using au) (by simpa using e_) (by omega) hg u hu
 let Fc:Nat->Prop:=λb=>F b\/(kL ps=true/\∃u,ck u b)
 let ng:Nat->Prop:=λb=>∃i,Sn i b
 have HW:∀b,F b->¬ng b:=λb bL ⟨i,an⟩=>by obtain⟨u,hu⟩:=g5 i b an;exact h.gf u b hu bL
 have zb:∀u b,ck u b->¬ng b:=λu b hu ⟨i,an⟩=>g6 i u b an hu;have zc:∀b,ng b->(X b\/w0.heap.size<=b)/\b<w.heap.size:=λb ⟨i,an⟩=>by obtain⟨u,hu⟩:=g5 i b an;exact⟨h.ey u b hu,h.e7 u b hu⟩
 have pre:bU w Fc ng Fc Sn (gu (ps.map (·.d))) (hW vs) w:=by
  refine⟨λ_ h=>h,λ_ h=>.inl h,?_,λi b an=>(zc b ⟨i,an⟩).2,?_,λi j b dL=>g7 i j b dL,λi b an=>.inl ⟨i,an⟩,?_,λ_ _ _=>rfl,Nat.le_refl _,rfl,rfl,Out.refl _,h.hj.next h.size h.old λb ad=>(zc b ad).1⟩
  .rintro b (ad|⟨_,u,hu⟩)
   .exact h.fy b ad
   .exact g1.e7 u b hu
  .rintro i b an (ad|⟨_,u,hu⟩)
   .exact HW b ad ⟨i,an⟩
   .exact g6 i u b an hu
  .intro t;cases au:ps[t]? with
   |none=>
    have:gu (ps.map (·.d)) t= .hole:=by simp[gu,List.getD,au]
    rw[this,aO];trivial
   |some p=>
    have e6:t<vs.length:=by rw[<-hl];exact(List.getElem?_eq_some_iff.1 au).1
    have aT:vs[t]? =some vs[t]:=List.getElem?_eq_getElem e6;have aX:gu (ps.map (·.d)) t=p.d:=by simp[gu,List.getD,au]
    have a6:hW vs t=vs[t]:=by simp[hW,List.getD,aT]
    rw[aX,a6];have hm:p∈ps:=List.mem_of_getElem? au;have ay:=hp p hm;cases hg:p.g with
    |true=>
     obtain⟨x,q,a0,b7,cw,fi,ep,fQ,dM,jz,gy⟩:=g3 t p _ au aT hg;simp only[cZ.ok,hg,if_true,b7]at ay;exact(aO.cT (sN ay.2.1).2.1).2 ⟨jz,ax.mono (λb ad=>.inl ad) _ _ _ _ (λ_ h=>h) gy⟩
    |false=>
     simp only[cZ.ok,hg]at ay;obtain⟨f1,f2⟩:=j3 t p _ au aT;have Mx:∀c1∈ps,c1.g=true->∀u∈c1.a.ae,u∉p.a.ae:=by
      intro c1 e_ h_ u hu;obtain⟨j,cH⟩:=List.getElem?_of_mem e_;refine apart j t c1 p cH au (λe=>?_) (.inl h_) u hu;subst e;rw[au]at cH;simp only[Option.some.injEq]at cH;rw[cH,h_]at hg;cases hg
     have Cm:=g8 _ _ _ Mx f2;have lX:view (ft s ps) p.a=some p.d:=HS _ _ (λu hu bj=>HP (Mu bj) (λc1 e_ h_ za=>Mx c1 e_ h_ u za hu)) (by simpa using ay);refine aO.nothing (Vn f1 lX) ((Vp g1 (Fc:=Fc) (λb ad=>.inl ad) (SizeOf.sizeOf p.a)).1 p.a _ p.d (Nat.le_refl _) ?_ lX Cm);intro u hu b ad;refine .inr ⟨?_,u,ad⟩;simp only[kL,List.any_eq_true];refine⟨p,hm,?_⟩;cases gF:p.a.ae with
     |nil=>rw[gF]at hu;cases hu
     |cons _ _=>simp[hg]
 refine pW.mono (bw Fc ng Sn (λb ad=>.inl ad) (λb ⟨i,an⟩=>g5 i b an) pre) ?_;rintro v aL ⟨b3,aW,aq⟩;have keep:∀b,b<w.heap.size->¬ng b->aL.heap[b]? =w.heap[b]? :=aq.old;let pX:Nat->Prop:=λb=>if kL ps=true then F b else b3 b
 have My:∀b,F b->b3 b:=λb ad=>aq.hG b (.inl ad);have wH:∀b,F b->pX b:=λb ad=>by
  simp only[pX];split
  .exact ad
  .exact My b ad
 have zd:∀b,pX b->b3 b:=λb ad=>by
  simp only[pX]at ad;split at ad
  .exact My b ad
  .exact ad
 have Mz:∀b,pX b->F b\/ng b\/w.heap.size<=b:=λb ad=>by
  simp only[pX]at ad;split at ad
  .exact .inl ad
  .rename_i sG;rcases aq.h4 b ad with(ad|⟨ag,_⟩)|ad|ad
   .exact .inl ad
   .exact(sG ag).elim
   .exact .inr (.inl ad)
   .exact .inr (.inr ad)
 have mid:bU w0 F0 X pX ck (ft s ps) aC aL:=by
  refine⟨λb ad=>wH b (g1.hG b ad),?_,λb ad=>aq.fy b (zd b ad),λt b ad=>Nat.lt_of_lt_of_le (g1.e7 t b ad) aq.size,?_,g1.fz,g1.ey,?_,?_,Nat.le_trans g1.size aq.size,aq.os.trans g1.os,aq.tape.trans g1.tape,aq.output.trans g1.output,g1.hj⟩
  .intro b ad;rcases Mz b ad with ad|ad|ad
   .exact g1.h4 b ad
   .rcases(zc b ad).1 with h|h
    .exact .inr (.inl h)
    .exact .inr (.inr h)
   .exact .inr (.inr (Nat.le_trans g1.size ad))
  .intro t b bj ad;rcases Mz b ad with ad|ad|ad
   .exact g1.gf t b bj ad
   .exact zb t b bj ad
   .exact absurd (g1.e7 t b bj) (by omega)
  .intro t;exact aO.frame (Sx:=ck) (λb ad=>keep b (h.fy b ad) (HW b ad)) wH (λx b ad=>keep b (g1.e7 x b ad) (zb x b ad)) g1.dF _ _ _ (λb ad=>keep b (g1.e7 t b ad) (zb t b ad)) (g1.dF t)
  .intro b ad k9;refine(keep b (Nat.lt_of_lt_of_le ad g1.size) λaw=>?_).trans (g1.old b ad k9);rcases(zc b aw).1 with h|h
   .exact k9 h
   .omega
 have MA:∀(d:I) (cs:List Value) (ey:Nat->Prop),(kL ps=true->d.dd=true)->ax aL b3 d cs ey->ax aL pX d cs ey:=by
  intro d cs ey Ht hc;by_cases hle:kL ps=true
  .exact ax.dd d cs ey (Ht hle) hc
  .exact ax.mono (λb ad=>by simp only[pX];rw[if_neg hle];exact ad) _ _ _ _ (λ_ h=>h) hc
 have bound:∀i b,aW i b->b<aL.heap.size/\¬pX b/\(X b\/w0.heap.size<=b)/\∀u,¬ck u b:=by
  intro i b ad;refine⟨aq.e7 i b ad,λbL=>aq.gf i b ad (zd b bL),?_,λu hu=>?_⟩
  .rcases aq.ey i b ad with aw|aw
   .exact(zc b aw).1
   .exact .inr (Nat.le_trans g1.size aw)
  .rcases aq.ey i b ad with aw|aw
   .exact zb u b hu aw
   .exact absurd (g1.e7 u b hu) (by omega)
 obtain⟨eo,b7,cw⟩:=Vx ps vs (ft s ps) ck (λi=>aW (i+1)) mid hl (by
  intro i p gQ au aT hg;have hm:p∈ps:=List.mem_of_getElem? au;have ay:=hp p hm;obtain⟨x,q,a0,aX,a6,aQ,cC,cF,cc,b4,h8⟩:=g3 i p gQ au aT hg;simp only[cZ.ok,hg,if_true,aX]at ay;rcases ay.2.2 with cy|cy
  .exact .inl cy
  .obtain⟨hk,l2,ze⟩:=Vq ay.2.1 cy.1 cy.2;refine .inr ⟨x,q,a0,p.d.dz,aX,a6,?_,cC,λcU=>l2 _ (cF cU),cc,cy.1,?_,hk.trans (I.sx _).symm,ze⟩
   .cases q with
    |nil=>simpa only[dP]using aQ
    |cons k q=>
     have bj:=cc (by simp);rw[BU (k::q) _ _ (ck x) none _ ((aO.cT bj).1 (g1.dF x)).2 a6 (λb ad=>keep b (g1.e7 x b ad) (zb x b ad))];exact aQ
   .have:=aq.dF (i+1);have h9:gu (r::ps.map (·.o)) (i+1)=p.o:=by simp[gu,List.getD,au]
    have mF:hW (v::vs) (i+1)=gQ:=by simp[hW,List.getD,aT]
    rw[h9,mF]at this;exact MA _ _ _ (λhle=>(a7 hle).2 p hm) ((aO.cT (sN cy.1).2.1).1 this).2)
  (λi b ad=>bound (i+1) b ad) (λi j b dL=>aq.fz (i+1) (j+1) b (by omega)) lY
 refine⟨pX,eo,b7,?_,λb ad=>⟨wH b ad,keep b (h.fy b ad) (HW b ad)⟩⟩;have ba:=aq.dF 0;have h9:gu (r::ps.map (·.o)) 0=r:=rfl;have mF:hW (v::vs) 0=v:=rfl;rw[h9,mF]at ba;cases bj:r.tree with
 |false=>
  cases r<;>first
   |(simp[I.tree]at bj;done)
   |(simp[I.res]at aS;done)
   |exact .inl ⟨rfl,by rw[aO];trivial⟩
 |true=>
  obtain⟨s1,s2⟩:=(aO.cT bj).1 ba;have ff:=MA _ _ _ (λhle=>(a7 hle).1) s2;refine .inr ⟨bj,s1,aW 0,ff,λb ad=>(bound 0 b ad).1,λb ad=>(bound 0 b ad).2.1,λu b ad hu=>?_,λb ad=>(bound 0 b ad).2.2.1⟩;rcases cw u b hu with hu|⟨i,an⟩
  .exact(bound 0 b ad).2.2.2 u hu
  .exact aq.fz 0 (i+1) b (by omega) ad an
theorem Vz (h:bU w0 F0 X F S s aC w) {ps:List cZ} {vs:List Value} {f:FuncId} {r:I} (hl:ps.length=vs.length)
  (j3:∀(i:Nat) (p:cZ) (v:Value),ps[i]? =some p->vs[i]? =some v->p.a.plain=true/\aO w F s aC p.a v (λ_=>False))
  (hp:∀p∈ps,p.ok s) (lY:ja ps=true) (bw:bk C f (ps.map (·.d)) r (ps.map (·.o))) (aS:r.res=true)
  (a7:kL ps=true->r.dd=true/\∀p∈ps,p.o.dd=true):
  pW C.P f vs.toArray w λv aL=>∃b3 aW,bU w0 F0 X b3 aW (iy (ft s ps) ps) aC aL/\mg w0 X b3 aW (iy (ft s ps) ps) aC aL r v/\∀b,F b->b3 b/\aL.heap[b]? =w.heap[b]? :=
 Mw h hl j3 hp lY (λFc ng eP _ _ au=>bw w Fc ng eP vs (by simp[hl]) au) aS a7
end
structure cb where
 dst:Option Nat
 b0:gr
 guard:Option (Nat×Bool)
def zf (ops:Array Oper):Option (Nat×Bool)->Option (Option (Nat×Bool))
 |none=>some none
 |some (j,b)=>match(ops[j]?).bind (·.dst)with
  |some t=>some (some (t,b))
  |none=>none
structure Fr where
 n:Nat
 fx:List Nat
def mr (n:Fr):Option Nat->Bool
 |none=>true
 |some t=>decide (t<n.n)&& !n.fx.contains t
def pY (op:Op):gr:=match cJ op with
 |some b0=>b0
 |none=>.bad
def qM (n:Fr) (ops:Array Oper) (o:Oper):Option cb:=
 if mr n o.dst=true then match zf ops o.guard with
  |some g=>some ⟨o.dst,pY o.op,g⟩
  |none=>none
 else none
def qN (n:Fr) (ops:Array Oper):List Oper->Option (List cb)
 |[]=>some []
 |o::os=>match qM n ops o,qN n ops os with
  |some r,some rs=>some (r::rs)
  |_,_=>none
def Cn (C:cl) (s:ar) (f:aI) (args:List aI) (K:I->ar->Prop):Prop:=
 ∃(g:FuncId) (caps:List I) (ps:List cZ) (r:I),aP s f= .fn g caps/\I.ef caps=true/\ps.map (·.a)=args.map (aP s)++caps/\(∀p∈ps,p.ok s)/\ja ps=true/\
   bk C g (ps.map (·.d)) r (ps.map (·.o))/\r.res=true/\(kL ps=true->r.dd=true/\∀p∈ps,p.o.dd=true)/\K r (iy (ft s ps) ps)
mutual
def I.gh (s:ar):I->Bool
 | .h x q=>q.isEmpty&&(s x).own
 | .ad x _=> !(s x).plain
 | .au _ _=>false
 | .hole=>true
 | .fn _ cap=>I.o5 s cap
 |d=>d.plain
def I.o5 (s:ar):List I->Bool
 |[]=>true
 |d::ds=>d.gh s&&I.o5 s ds
end
def nP (s:ar):List (Nat×I)->ar
 |[]=>s
 |p::L=>nP (dD s p.1 p.2) L
def mu (s:ar):List (Nat×I)->Bool
 |[]=>true
 |p::L=>p.2.gh s&&mu s L
def j4 (s:ar) (us:List Nat):List (Nat×I):=us.map λu=>(u,s u)
def o6 (C:cl) (s:ar) (b0:gr) (K:I->ar->Prop):Prop:=
 match b0 with
 | .call f args=>∃(g:FuncId) (caps:List I) (ps:List cZ) (r:I),aP s f= .fn g caps/\I.ef caps=true/\ps.map (·.a)=args.map (aP s)++caps/\(∀p∈ps,p.ok s)/\ja ps=true/\
   bk C g (ps.map (·.d)) r (ps.map (·.o))/\r.res=true/\(kL ps=true->r.dd=true/\∀p∈ps,p.o.dd=true)/\K r (iy (ft s ps) ps)
 | .shr b0=>∃av s1,bT C s b0=some (av,s1)/\av.tree=true/\(∀vs,av≠.tuple vs)/\K av.share s1
 | .nL f args u x=>s u= .h x []/\(s x).own=true/\Cn C s f args λav s1=>s1 u= .hole/\(s1 x).own=true/\K av (dD s1 u (.h x []))
 | .lb f args us=>mu s (j4 s us)=true/\Cn C s f args λav s1=>mu s1 (j4 s us)=true/\K av (nP s1 (j4 s us))
 |b0=>∃av s1,bT C s b0=some (av,s1)/\K av s1
theorem Co {C:cl} {s:ar} {b0:gr} {K dX:I->ar->Prop} (h:o6 C s b0 K) (ay:∀av s,K av s->dX av s):o6 C s b0 dX:=by
 cases b0 with
 |call f args=>
  obtain⟨g,caps,ps,r,ag,gR,ah,aN,bg,bR,cW,cE,fJ⟩:=h;exact⟨g,caps,ps,r,ag,gR,ah,aN,bg,bR,cW,cE,ay _ _ fJ⟩
 |shr b0=>
  obtain⟨av,s1,ag,ah,aN,bg⟩:=h;exact⟨av,s1,ag,ah,aN,ay _ _ bg⟩
 |nL f args u x=>
  obtain⟨b7,cw,g,caps,ps,r,ag,gR,ah,aN,bg,bR,cW,cE,fJ,hT,iB⟩:=h;exact⟨b7,cw,g,caps,ps,r,ag,gR,ah,aN,bg,bR,cW,cE,fJ,hT,ay _ _ iB⟩
 |lb f args us=>
  obtain⟨cw,g,caps,ps,r,ag,gR,ah,aN,bg,bR,cW,cE,fJ,hT⟩:=h;exact⟨cw,g,caps,ps,r,ag,gR,ah,aN,bg,bR,cW,cE,fJ,ay _ _ hT⟩
 |_=>
  obtain⟨av,s1,ag,ah⟩:=h;exact⟨av,s1,ag,ay _ _ ah⟩
def mI (C:cl) (s:ar) (o:cb) (K:ar->Prop):Prop:=
 match o.guard with
 |none=>o6 C s o.b0 λav s1=>K (fin s1 o.dst av)
 |some (t,b)=>match s t with
  | .bool gp=>if gp=b then o6 C s o.b0 (λav s1=>K (fin s1 o.dst av))else K (fin s o.dst (.tuple []))
  | .tuple []=>K (fin s o.dst (.tuple []))
  |_=>False
def mv (C:cl) (s:ar):List cb->(ar->Prop)->Prop
 |[],K=>K s
 |o::os,K=>mI C s o λs1=>mv C s1 os K
def kM (C:cl) (ros:List cb) (s:ar):List Nat->(ar->Prop)->Prop
 |[],K=>K s
 |i::l,K=>match ros[i]? with
  |none=>kM C ros s l K
  |some o=>mI C s o λs1=>kM C ros s1 l K
theorem VA (C:cl) (K:ar->Prop):∀(rs pre:List cb) (s:ar),mv C s rs K->kM C (pre++rs) s ((List.range rs.length).map (·+pre.length)) K:=by
 intro rs;induction rs with
 |nil=>intro pre s h;exact h
 |cons r rs ih=>
  intro pre s h;rw[List.length_cons,List.range_succ_eq_map,List.map_cons,List.map_map];simp only[kM,Nat.zero_add];rw[List.getElem?_append_right (Nat.le_refl _)];simp only[Nat.sub_self,List.getElem?_cons_zero];have key:∀s1,mv C s1 rs K->kM C (pre++r::rs) s1 ((List.range rs.length).map ((λx=>x+pre.length)∘Nat.succ)) K:=by
   intro s1 ag;have:=ih (pre++[r]) s1 ag;simp only[List.append_assoc,List.singleton_append,List.length_append,List.length_singleton]at this;have e:((λx=>x+pre.length)∘Nat.succ)=λx=>x+(pre.length+1):=by funext x;simp;omega
   rw[e];exact this
  simp only[mv]at h;unfold mI at h⊢;split
  .rename_i hg;rw[hg]at h;exact Co h λav s1=>key _
  .rename_i t b hg;rw[hg]at h;simp only at h;split
   .rename_i gp ae;rw[ae]at h;simp only at h;split
    .rename_i ad;rw[if_pos ad]at h;exact Co h λav s1=>key _
    .rename_i ad;rw[if_neg ad]at h;exact key _ h
   .rename_i ae;rw[ae]at h;exact key _ h
   .rename_i ag ah;split at h
    .exact ag _ (by assumption)
    .exact ah (by assumption)
    .exact h
structure Rel (w0:World) (F0 X:Nat->Prop) (n:Fr) (ρ:Nat->Value) (s:ar) (a:Act) (w:World):Prop where
 defers:a.defers=[]
 size:a.tmps.size=n.n
 fixed:∀i∈n.fx,a.tmps.getD i undef=ρ i
 rel:∃F S,bU w0 F0 X F S s (λt=>a.tmps.getD t undef) w
section
variable {C:cl} {w0 w:World} {F0 X:Nat->Prop} {n:Fr} {ρ:Nat->Value} {s s1:ar} {a:Act} {av:I} {Q:Exit->Act->World->Prop}
theorem zg {dst:Option Nat} (v:Value) (ae:a.tmps.size=n.n) (aj:mr n dst=true):
  (λt=>(a.put dst v).tmps.getD t undef)=oe (λt=>a.tmps.getD t undef) dst v/\(a.put dst v).tmps.size=n.n/\(a.put dst v).defers=a.defers:=by
 cases dst with
 |none=>exact⟨rfl,ae,rfl⟩
 |some d=>
  simp only[mr,Bool.and_eq_true,decide_eq_true_eq]at aj;refine⟨?_,by simp[Act.put,ae],rfl⟩;funext t;simp only[Act.put,oe,dD,Array.getD_eq_getD_getElem?];by_cases h:t=d
  .subst h;rw[if_pos rfl,Array.getElem?_setIfInBounds_self_of_lt (by omega)];rfl
  .rw[if_neg h,Array.getElem?_setIfInBounds_ne (λe=>h e.symm)]
theorem Rel.put {F S} (aj:a.defers=[]) (ae:a.tmps.size=n.n) (bw:∀i∈n.fx,a.tmps.getD i undef=ρ i) {aL:World} (aS:bU w0 F0 X F S s (λt=>a.tmps.getD t undef) aL) {v:Value} (aT:mg w0 X F S s (λt=>a.tmps.getD t undef) aL av v)
  {dst:Option Nat} (hp:mr n dst=true):Rel w0 F0 X n ρ (fin s dst av) (a.put dst v) aL:=by
 obtain⟨aX,a6,aQ⟩:=zg (n:=n) (dst:=dst) v ae hp;obtain⟨aW,bt⟩:=aS.fin aT dst;refine⟨aQ.trans aj,a6,λi an=>?_,F,aW,by rw[aX];exact bt⟩;rw[congrFun aX i];cases dst with
 |none=>exact bw i an
 |some d=>
  simp only[mr,Bool.and_eq_true,Bool.not_eq_true',List.contains_eq_mem,decide_eq_false_iff_not]at hp;have dL:i≠d:=λe=>hp.2 (by rw[<-e];exact an);simp only[oe];rw[j1 _ _ dL];exact bw i an
theorem Rel.skip (h:Rel w0 F0 X n ρ s a w) {dst:Option Nat} (hp:mr n dst=true):Rel w0 F0 X n ρ (fin s dst (.tuple [])) (a.put dst undef) w:=by
 obtain⟨aj,ae,bw,F,S,aS⟩:=h;refine Rel.put (av:=.tuple []) aj ae bw aS (.inl ⟨rfl,(aO.cT (d:=.tuple []) rfl).2 ⟨?_,?_⟩⟩) hp
 .exact⟨#[],rfl,rfl,λk d x ay=>by simp at ay⟩
 .rw[ax,bm];rfl
theorem MB {F:Nat->Prop} {aC:Nat->Value} {w:World}:∀{ds es:List I} {vs us:List Value},eH w F s aC ds vs->eH w F s aC es us->eH w F s aC (ds++es) (vs++us):=by
 intro ds;induction ds with
 |nil=>intro es vs us ag ah;rw[eH]at ag;subst ag;exact ah
 |cons d ds ih=>
  intro es vs us ag ah;rw[eH]at ag;obtain⟨v,kp,rfl,g1,g2⟩:=ag;rw[List.cons_append,List.cons_append,eH];exact⟨v,_,rfl,g1,ih g2 ah⟩
theorem MC {F:Nat->Prop} {aC:Nat->Value} {w:World}:∀{ds:List I} {vs:List Value},eH w F s aC ds vs->ds.length=vs.length/\∀(i:Nat) (d:I) (v:Value),ds[i]? =some d->vs[i]? =some v->aO w F s aC d v (λ_=>False):=by
 intro ds;induction ds with
 |nil=>intro vs h;rw[eH]at h;subst h;exact⟨rfl,λi d v h=>by simp at h⟩
 |cons d ds ih=>
  intro vs h;rw[eH]at h;obtain⟨v,kp,rfl,g1,g2⟩:=h;obtain⟨b7,cw⟩:=ih g2;refine⟨by simp[b7],λi bE gQ aj aT=>?_⟩;cases i with
  |zero=>simp at aj aT;subst aj aT;exact g1
  |succ i=>exact cw i bE gQ (by simpa using aj) (by simpa using aT)
theorem ou {op:Op} {b0:gr} (h:pY op=b0):b0= .bad\/cJ op=some b0:=by
 unfold pY at h;split at h
 .subst h;right;assumption
 .exact .inl h.symm
theorem VB {op:Op} {b0:gr}:cJ op≠some (.shr b0):=by
 intro h;unfold cJ at h;split at h<;>(try split at h)<;>(try split at h)<;>(try split at h)<;>(try simp[Option.map_eq_some_iff]at h)
theorem VC {op:Op} {f:aI} {args:List aI} {u x:Nat}:cJ op≠some (.nL f args u x):=by
 intro h;unfold cJ at h;split at h<;>(try split at h)<;>(try split at h)<;>(try split at h)<;>(try simp[Option.map_eq_some_iff]at h)
theorem VD {op:Op} {f:aI} {args:List aI} {us:List Nat}:cJ op≠some (.lb f args us):=by
 intro h;unfold cJ at h;split at h<;>(try split at h)<;>(try split at h)<;>(try split at h)<;>(try simp[Option.map_eq_some_iff]at h)
theorem VE {op:Op} {T:TypeId} {x:aI}:cJ op≠some (.kr T x):=by
 intro h;unfold cJ at h;split at h<;>(try split at h)<;>(try split at h)<;>(try split at h)<;>(try simp[Option.map_eq_some_iff]at h)
theorem VF {op:Op} {x:aI}:cJ op≠some (.sK x):=by
 intro h;unfold cJ at h;split at h<;>(try split at h)<;>(try split at h)<;>(try split at h)<;>(try simp[Option.map_eq_some_iff]at h)
theorem VG {op:Op} {x:aI}:cJ op≠some (.rF x):=by
 intro h;unfold cJ at h;split at h<;>(try split at h)<;>(try split at h)<;>(try split at h)<;>(try simp[Option.map_eq_some_iff]at h)
theorem VH {op:Op} {x:aI} (h:cJ op=some (.bS x)):∃cA,op= .move cA/\d_ cA=some x:=by
 unfold cJ at h;split at h<;>(try split at h)<;>(try split at h)<;>(try split at h)<;>(try simp[Option.map_eq_some_iff]at h)
 exact⟨_,rfl,h⟩
theorem VI {op:Op} {x:aI} (h:cJ op=some (.gz x)):∃cA,op= .assign cA/\d_ cA=some x:=by
 unfold cJ at h;split at h<;>(try split at h)<;>(try split at h)<;>(try split at h)<;>(try simp[Option.map_eq_some_iff]at h)
 exact⟨_,rfl,h⟩
theorem VJ {op:Op} {T bZ:TypeId} {x y:aI}:cJ op≠some (.oY T bZ x y):=by
 intro h;unfold cJ at h;split at h<;>(try split at h)<;>(try split at h)<;>(try split at h)<;>(try simp[Option.map_eq_some_iff]at h)
theorem VK {op:Op} {T bZ:TypeId} {x y:aI} (h:cJ op=some (.app T bZ x y)):∃a b,op= .call ⟨.builtin .append,#[a,b],#[T,bZ]⟩/\d_ a=some x/\d_ b=some y:=by
 cases op with
 |call c=>
  obtain⟨callee,args,argTypes⟩:=c;simp only[cJ]at h;split at h
  .split at h<;>simp at h
  .split at h<;>simp at h
  .split at h<;>simp at h
  ·(split at h<;>try split at h)<;>simp at h
  ·(split at h<;>try split at h)<;>simp at h
  .split at h
   .rename_i a b zh Cl nM ug;split at h
    .rename_i cA k_ aw hy;simp only[Option.some.injEq,gr.app.injEq]at h;obtain⟨rfl,rfl,rfl,rfl⟩:=h;refine⟨a,b,?_,aw,hy⟩;have aX:args= #[a,b]:=by apply Array.ext';exact nM
     have a6:argTypes= #[zh,Cl]:=by apply Array.ext';exact ug
     subst aX a6;rfl
    .cases h
   .cases h
  .cases h
 |makeFunc fn first cs=>
  cases fn<;>simp only[cJ]at h<;>first|(cases h;done)|(split at h<;>simp at h)
 |slice T x dv an e2=>
  cases e2<;>simp only[cJ]at h<;>first|(cases h;done)|(split at h<;>simp at h)
 |makeMap T r=>cases r<;>simp only[cJ]at h<;>simp at h
 |lookup T x i c=>cases c<;>simp only[cJ]at h<;>first|(cases h;done)|(split at h<;>simp at h)
 |_=>simp only[cJ]at h<;>first|(cases h;done)|(simp at h;done)|(split at h<;>simp at h)
theorem bU.alias {F:Nat->Prop} {S:Nat->Nat->Prop} {aC:Nat->Value} {u x:Nat} (h:bU w0 F0 X F S s aC w) (hu:s u= .hole) (aw:(s x).own=true) (aT:cz (aC u)=cz (aC x)) (ag:Value.ha (aC u)=true):
  bU w0 F0 X F (gq S u (λ_=>False)) (dD s u (.h x [])) aC w:=by
 have eN:dD aC u (aC u)=aC:=by funext y;simp only[dD];split<;>simp_all
 have:=h.wk (t:=u) (d:=.h x []) (v:=aC u) rfl (by
  rw[aO];intro d aj au;simp only[I.sub,Option.some.injEq]at aj;subst aj;exact⟨cz (aC x),none,rfl,aT,((rI aw).2.2.2.2.2 _).2 ag⟩)
 rwa [eN]at this
theorem mg.less {F:Nat->Prop} {S aW:Nat->Nat->Prop} {aC:Nat->Value} {s1:ar} {v:Value} (b8:∀u b,aW u b->S u b) (aS:av.res=true) (h:mg w0 X F S s aC w av v):mg w0 X F aW s1 aC w av v:=by
 rcases h with⟨ag,ah⟩|⟨ag,ah,Sn,aN,bg,bR,cW,cE⟩
 .refine .inl ⟨ag,?_⟩;cases av<;>first
   |(simp[I.res]at aS;done)
   |(rw[aO];trivial)
   |(rw[aO]at ah⊢;exact ah)
 .exact .inr ⟨ag,ah,Sn,aN,bg,bR,λu b ad hu=>cW u b ad (b8 u b hu),cE⟩
theorem HX (bx:C.fc) (h:Rel w0 F0 X n ρ s a w) {o:Oper} {f:aI} {args:List aI} (cD:cJ o.op=some (.call f args)) (aj:mr n o.dst=true) {K:I->ar->Prop} {L:ar->Prop} {next:Act->World->Prop}
  (hw:Cn C s f args K) (mJ:∀F S b3 aW w aL av s1 v,bU w0 F0 X F S s (λt=>a.tmps.getD t undef) w->K av s1->av.res=true->bU w0 F0 X b3 aW s1 (λt=>a.tmps.getD t undef) aL->mg w0 X b3 aW s1 (λt=>a.tmps.getD t undef) aL av v->(∀b,F b->b3 b/\aL.heap[b]? =w.heap[b]?)->
   ∃s2 eo,L (fin s2 o.dst av)/\bU w0 F0 X b3 eo s2 (λt=>a.tmps.getD t undef) aL/\mg w0 X b3 eo s2 (λt=>a.tmps.getD t undef) aL av v)
  (a7:∀aB c7 aL,L aB->Rel w0 F0 X n ρ aB c7 aL->next c7 aL):o.wp C.P a w next Q:=by
 have pZ:=h;obtain⟨jn,eM,ia,F,S,aS⟩:=h;obtain⟨g,caps,ps,r,ag,gR,ah,aN,bg,bR,cW,cE,fJ⟩:=hw;obtain⟨dst,op,ty,pos,after,guard⟩:=o;simp only at cD aj mJ;cases op with
 |call c=>
  obtain⟨callee,nQ,argTypes⟩:=c;simp only[cJ]at cD;split at cD
  .split at cD
   .rename_i zi _ _ VL xs bw qL;simp only[Option.some.injEq,gr.call.injEq]at cD;obtain⟨rfl,rfl⟩:=cD;obtain⟨f1,f2⟩:=fL aS (λ_=>rfl) bw;rw[ag,aO]at f2;obtain⟨arr,f3,f4⟩:=f2;have uj:execOp a.eval {dst,op:=.call {callee:=.value zi,args:=nQ,argTypes},type:=ty,pos,after,guard}=callFunc g ((nQ.toList.map a.eval++arr.toList).toArray):=by
     have:a.eval zi= .func (.func g) #[] arr:=f3;simp only[execOp,resolve,this,Deferred.ofValue,pure_bind,invoke];congr 1;apply Array.ext';simp
    unfold Oper.wp;rw[uj];have zj:eH w F s (λt=>a.tmps.getD t undef) (xs.map (aP s)++caps) (nQ.toList.map a.eval++arr.toList):=MB (Cj aS (λ_=>rfl) _ _ (uf qL)) f4;rw[<-ah]at zj;obtain⟨hk,l2⟩:=MC zj;have gE:∀d∈xs.map (aP s)++caps,d.plain=true:=by
     intro d aj;rcases List.mem_append.1 aj with aj|aj
     .obtain⟨x,aw,rfl⟩:=List.mem_map.1 aj;exact Lf s x λav e=>by
       subst e;have hm:=uf qL;have:some (aI.c av)∈xs.map some:=List.mem_map.2 ⟨_,aw,rfl⟩;rw[<-hm]at this;obtain⟨o,_,cy⟩:=List.mem_map.1 this;cases o with
       |const v=>simp only[d_,Option.map_eq_some_iff]at cy;obtain⟨c,aq,e⟩:=cy;cases e;exact G1 aq
       |tmp n=>simp[d_]at cy
       |func g=>simp[d_]at cy
       |global g=>simp[d_]at cy
     .obtain⟨k,ay⟩:=List.getElem?_of_mem aj;exact BT gR ay
    have HY:=Vz (C:=C) aS (ps:=ps) (vs:=nQ.toList.map a.eval++arr.toList) (f:=g) (r:=r) (by simpa using hk)
     (λi p v au aT=>⟨gE p.a (by rw[<-ah];exact List.mem_map.2 ⟨p,List.mem_of_getElem? au,rfl⟩),l2 i p.a v (by simp[au]) aT⟩) aN bg bR cW cE
    rcases HY with⟨ei,bp⟩|⟨v,aL,ei,b3,aW,bp,dk,b5⟩
    .rw[ei,Oper.upon_enter];refine Calls.mono bp ?_;rintro e aL ⟨v,rfl,b3,aW,b7,cw,fi⟩;obtain⟨s2,eo,m1,m2,m3⟩:=mJ _ _ _ _ _ _ _ _ _ aS fJ cW b7 cw fi;exact a7 _ _ _ m1 (Rel.put jn eM ia m2 m3 aj)
    .rw[ei,Oper.upon_value];obtain⟨s2,eo,m1,m2,m3⟩:=mJ _ _ _ _ _ _ _ _ _ aS fJ cW bp dk b5;exact a7 _ _ _ m1 (Rel.put jn eM ia m2 m3 aj)
   .cases cD
  .split at cD
   .simp only[Option.map_eq_some_iff]at cD;obtain⟨_,_,cD⟩:=cD;cases cD
   .cases cD
  .split at cD
   .simp only[Option.map_eq_some_iff]at cD;obtain⟨_,_,cD⟩:=cD;cases cD
   .cases cD
  iterate 3
   .split at cD
    .split at cD<;>cases cD
    .cases cD
  .cases cD
 |makeFunc fn first cs=>
  cases fn<;>simp only[cJ]at cD<;>first|(cases cD;done)|(split at cD<;>simp at cD)
 |slice T x dv an e2=>
  cases e2<;>simp only[cJ]at cD<;>first|(cases cD;done)|(split at cD<;>simp at cD)
 |makeMap T r=>cases r<;>simp only[cJ]at cD<;>simp at cD
 |lookup T x i c=>cases c<;>simp only[cJ]at cD<;>first|(cases cD;done)|(split at cD<;>simp at cD)
 |_=>simp only[cJ]at cD<;>first|(cases cD;done)|(simp at cD;done)|(split at cD<;>simp at cD)
theorem VM (bx:C.fc) (h:Rel w0 F0 X n ρ s a w) {o:Oper} {b0:gr} (cD:cJ o.op=some b0) (aj:mr n o.dst=true) {K:ar->Prop} {next:Act->World->Prop}
  (hw:o6 C s b0 λav s1=>K (fin s1 o.dst av)) (a7:∀aB c7 aL,K aB->Rel w0 F0 X n ρ aB c7 aL->next c7 aL):o.wp C.P a w next Q:=by
 have pZ:=h;obtain⟨jn,eM,ia,F,S,aS⟩:=h;have plain:∀av s1,bT C s b0=some (av,s1)->K (fin s1 o.dst av)->o.wp C.P a w next Q:=by
  intro av s1 he ay;obtain⟨r,aL,v,b3,aW,ag,ah,aN,bg⟩:=L8 (a:=a) bx aS (λ_=>rfl) cD he;unfold Oper.wp;rw[ag];rcases ah with rfl|⟨rfl,rfl⟩
  .exact a7 _ _ _ ay (Rel.put jn eM ia aN bg aj)
  .exact a7 _ _ _ ay (Rel.put jn eM ia aN bg aj)
 cases b0 with
 |shr b0=>exact(VB cD).elim
 |oY T bZ x y=>exact(VJ cD).elim
 |call f args=>exact HX bx ⟨jn,eM,ia,F,S,aS⟩ cD aj (K:=λav s1=>K (fin s1 o.dst av)) hw (λ_ _ _ aW _ _ _ s1 _ _ ah _ aN bg _=>⟨s1,aW,ah,aN,bg⟩) a7
 |nL f args u x=>exact(VC cD).elim
 |lb f args L=>exact(VD cD).elim
 |kr T x=>exact(VE cD).elim
 |sK x=>exact(VF cD).elim
 |rF x=>exact(VG cD).elim
 |_=>
  obtain⟨av,s1,he,ay⟩:=hw;exact plain av s1 he ay
theorem mg.share {F:Nat->Prop} {S:Nat->Nat->Prop} {aC:Nat->Value} {v:Value} (h:bU w0 F0 X F S s aC w) (aT:mg w0 X F S s aC w av v) (bj:av.tree=true) (a7:∀vs,av≠.tuple vs):
  ∃b3,bU w0 F0 X b3 S s aC w/\mg w0 X b3 S s aC w av.share v:=by
 obtain⟨Sn,hz,gw,iR,iS,qA,uk⟩:∃Sn:Nat->Prop,eA av v/\ax w F av (cz v) Sn/\(∀b,Sn b->b<w.heap.size)/\(∀b,Sn b->¬F b)/\(∀u b,Sn b->¬S u b)/\(∀b,Sn b->X b\/w0.heap.size<=b):=by
  rcases aT with⟨ag,ah⟩|⟨_,ah,Sn,aN,bg,bR,cW,cE⟩
  .rw[aO.cT bj]at ah;exact⟨λ_=>False,ah.1,ah.2,λ_ h=>h.elim,λ_ h=>h.elim,λ_ _ h=>h.elim,λ_ h=>h.elim⟩
  .exact⟨Sn,ah,aN,bg,bR,cW,cE⟩
 refine⟨λb=>F b\/Sn b,?_,.inl ⟨HM av,?_⟩⟩
 .exact {
   hG:=λb ad=>.inl (h.hG b ad)
   h4:=λb ad=>by
    rcases ad with ad|ad
    .exact h.h4 b ad
    .exact .inr (uk b ad)
   fy:=λb ad=>ad.elim (h.fy b) (iR b)
   e7:=h.e7
   gf:=λt b ad bw=>bw.elim (h.gf t b ad) (λae=>qA t b ae ad)
   fz:=h.fz
   ey:=h.ey
   dF:=λt=>aO.frame (λ_ _=>rfl) (λb ad=>.inl ad) (λ_ _ _=>rfl) h.dF _ _ _ (λ_ _=>rfl) (h.dF t)
   old:=h.old
   size:=h.size
   os:=h.os
   tape:=h.tape
   output:=h.output
   hj:=h.hj}
 .by_cases cy:∃o,av= .eD o
  .obtain⟨o,rfl⟩:=cy;rw[I.share,aO];trivial
  have VN:av.share.tree=true:=by cases av<;>first|exact bj|rfl|exact(cy ⟨_,rfl⟩).elim
  rw[aO.cT VN];exact⟨HO a7 hz,ax.shared (λb ad=>.inl ad) av _ Sn (λb ad=>.inr ad) gw⟩
theorem VO {op:Op} {T:TypeId} {x:aI} (h:cJ op=some (.dm T x)):∃a,op= .box T a/\d_ a=some x:=by
 cases op with
 |box zh a=>
  simp only[cJ,Option.map_eq_some_iff,gr.dm.injEq]at h;obtain⟨y,hy,rfl,rfl⟩:=h;exact⟨a,rfl,hy⟩
 |_=>
  exfalso;unfold cJ at h;split at h<;>(try split at h)<;>(try split at h)<;>(try split at h)<;>(try simp[Option.map_eq_some_iff]at h)<;>contradiction
theorem VP {aL:World} {F b3:Nat->Prop} {s s1:ar} {aC:Nat->Value} (bL:∀b,F b->b3 b/\aL.heap[b]? =w.heap[b]?):∀(n:Nat),
  (∀(d:I) (v:Value) (S:Nat->Prop),SizeOf.sizeOf d<=n->d.gh s=true->d.gh s1=true->aO w F s aC d v S->aO aL b3 s1 aC d v (λ_=>False))/\
  (∀(ds:List I) (vs:List Value),SizeOf.sizeOf ds<=n->I.o5 s ds=true->I.o5 s1 ds=true->eH w F s aC ds vs->eH aL b3 s1 aC ds vs):=by
 intro n;induction n with
 |zero=>
  refine⟨λd v S cg=>?_,λds vs cg=>?_⟩
  .cases d<;>simp at cg<;>omega
  .cases ds<;>simp at cg<;>omega
 |succ n ih=>
  refine⟨λd v S cg b7 cw h=>?_,λds vs cg b7 cw h=>?_⟩
  .cases d with
   |hole=>rw[aO];trivial
   |h x q=>
    simp only[I.gh,Bool.and_eq_true,List.isEmpty_iff]at b7 cw;obtain⟨rfl,b7⟩:=b7;rw[aO]at h⊢;obtain⟨c6,a,fY,hU,iD⟩:=h (s x) (by simp only[I.sub]) (rI b7).1;simp only[dP,Option.some.injEq,Prod.mk.injEq,true_and]at fY;intro d aj _;simp only[I.sub,Option.some.injEq]at aj;subst aj;exact⟨cz (aC x),none,by simp only[dP],by rw[hU,<-fY.1],((rI cw.2).2.2.2.2.2 _).2 (((rI b7).2.2.2.2.2 _).1 iD)⟩
   |au x q=>simp[I.gh]at b7
   |ad x k=>
    simp only[I.gh,Bool.not_eq_true']at b7;rw[aO]at h⊢;obtain⟨b,cur,e,fr,ag,ah,aN,bg⟩:=h b7;exact λ_=>⟨b,cur,e,fr,ag,(bL b ah).1,(bL b ah).2.trans aN,bg⟩
   |fn f cap=>
    simp only[I.gh]at b7 cw;rw[aO]at h⊢;obtain⟨arr,rfl,aq⟩:=h;exact⟨arr,rfl,ih.2 _ _ (by simp at cg;omega) b7 cw aq⟩
   |_=>
    simp only[I.gh]at b7;have bt:=(aO.cT rfl).1 h;exact(aO.cT rfl).2 ⟨bt.1,ax.mono (λb ad=>(bL b ad).1) _ _ _ _ (λ_ h=>h) (ax.frame (λb ad=>(bL b ad).2) _ _ _ (λ_ h=>h.elim) (ax.plain _ _ _ _ b7 bt.2))⟩
  .cases ds with
   |nil=>rw[eH]at h⊢;exact h
   |cons d ds=>
    simp only[I.o5,Bool.and_eq_true]at b7 cw;rw[eH]at h⊢;obtain⟨v,kp,rfl,ag,ah⟩:=h;simp at cg;exact⟨v,kp,rfl,ih.1 _ _ _ (by omega) b7.1 cw.1 ag,ih.2 _ _ (by omega) b7.2 cw.2 ah⟩
theorem VQ {s:ar} {d:I} (h:d.gh s=true):d.plain=true:=by
 cases d<;>first|rfl|(simpa [I.gh]using h)
theorem bU.nP {F:Nat->Prop} {aC:Nat->Value}:∀(L:List (Nat×I)) (s:ar) (S:Nat->Nat->Prop),bU w0 F0 X F S s aC w->(∀p∈L,p.2.plain=true/\aO w F s aC p.2 (aC p.1) (λ_=>False))->
  ∃aW,bU w0 F0 X F aW (c_.nP s L) aC w/\∀u b,aW u b->S u b:=by
 intro L;induction L with
 |nil=>intro s S h _;exact⟨S,h,λ_ _ h=>h⟩
 |cons p L ih=>
  intro s S h mJ;obtain⟨ag,ah⟩:=mJ p (by simp);have eN:dD aC p.1 (aC p.1)=aC:=by funext u;simp only[dD];split<;>simp_all
  have aN:=h.wk (t:=p.1) ag ah;rw[eN]at aN;have h3:∀x,x≠p.1->(dD s p.1 p.2 x).tree=true->dD s p.1 p.2 x=s x/\aC x=aC x:=λx aw _=>⟨j1 _ _ aw,rfl⟩
  obtain⟨aW,g1,g2⟩:=ih _ _ aN (λq cU=>⟨(mJ q (by simp[cU])).1,(aO.void (t:=p.1) h3 (by rw[mE];exact ag) _).1 _ _ _ (Nat.le_refl _) (mJ q (by simp[cU])).2⟩);refine⟨aW,g1,λu b ad=>?_⟩;have:=g2 u b ad;simp only[gq]at this;split at this
  .exact this.elim
  .exact this
theorem HZ {s:ar}:∀{L:List (Nat×I)},mu s L=true->∀p∈L,p.2.gh s=true
 |q::L,ag,p,au=>by
  simp only[mu,Bool.and_eq_true]at ag;rcases List.mem_cons.1 au with rfl|au
  .exact ag.1
  .exact HZ ag.2 p au
theorem VR {s:ar} {us:List Nat} {p:Nat×I} (h:p∈j4 s us):p.1∈us/\s p.1=p.2:=by
 obtain⟨u,hu,rfl⟩:=List.mem_map.1 h;exact⟨hu,rfl⟩
theorem VS (bx:C.fc) (h:Rel w0 F0 X n ρ s a w) {o:Oper} {b0:gr} (cD:pY o.op=b0.base) (aj:mr n o.dst=true) {K:ar->Prop} {next:Act->World->Prop}
  (hw:o6 C s b0 λav s1=>K (fin s1 o.dst av)) (a7:∀aB c7 aL,K aB->Rel w0 F0 X n ρ aB c7 aL->next c7 aL):o.wp C.P a w next Q:=by
 cases b0 with
 |shr b0=>
  obtain⟨av,s1,he,bj,nN,ay⟩:=hw;rcases ou cD with cD|cD
  .change b0= .bad at cD;subst cD;cases he
  obtain⟨jn,eM,ia,F,S,aS⟩:=h;obtain⟨r,aL,v,b3,aW,ag,ah,aN,bg⟩:=L8 (a:=a) bx aS (λ_=>rfl) cD he;obtain⟨zd,g3,g4⟩:=mg.share aN bg bj nN;unfold Oper.wp;rw[ag];rcases ah with rfl|⟨rfl,rfl⟩
  .exact a7 _ _ _ ay (Rel.put jn eM ia g3 g4 aj)
  .exact a7 _ _ _ ay (Rel.put jn eM ia g3 g4 aj)
 |bad=>obtain⟨av,s1,he,_⟩:=hw;cases he
 |nL f args u x=>
  obtain⟨aX,a6,hw⟩:=hw;rcases ou cD with ad|ad
  .cases ad
  .refine HX bx h ad aj hw ?_ a7;rintro F S b3 aW w aL av s1 v hz ⟨gw,iR,iS⟩ qA uk zk _;have BZ:=hz.dF u;rw[aX,aO]at BZ;obtain⟨c6,a0,fY,hU,iD⟩:=BZ (s x) (by simp only[I.sub]) (rI a6).1;simp only[dP,Option.some.injEq,Prod.mk.injEq,true_and]at fY;have VT:∀y b,gq aW u (λ_=>False) y b->aW y b:=by
    intro y b ad;simp only[gq]at ad;split at ad
    .exact ad.elim
    .exact ad
   exact⟨_,_,iS,uk.alias gw iR (by rw[hU,<-fY.1]) (((rI a6).2.2.2.2.2 _).1 iD),zk.less VT qA⟩
 |lb f args L=>
  obtain⟨a6,hw⟩:=hw;rcases ou cD with ad|ad
  .cases ad
  .refine HX bx h ad aj hw ?_ a7;rintro F S b3 aW w aL av s1 v hz ⟨gw,iS⟩ qA uk zk VU;obtain⟨eo,g1,g2⟩:=uk.nP (j4 s L) s1 aW (λp au=>by
    have ei:=(VR au).2;have bp:=HZ a6 p au;have dk:=HZ gw p au;refine⟨VQ bp,(VP VU _).1 _ _ (S p.1) (Nat.le_refl _) bp dk ?_⟩;have:=hz.dF p.1;rw[ei]at this;exact this)
   exact⟨_,eo,iS,g1,zk.less g2 qA⟩
 |kr T x=>
  obtain⟨av,s1,he,ay⟩:=hw;rcases ou cD with ad|ad
  .cases ad
  .obtain⟨cA,p0,aw⟩:=VO ad;obtain⟨jn,eM,ia,F,S,aS⟩:=h;obtain⟨dst,op,ty,pos,after,guard⟩:=o;simp only at p0 aj ay;subst p0;obtain⟨r,aL,v,b3,aW,ag,ah,aN,bg⟩:Next C w0 F0 X (λt=>a.tmps.getD t undef) w (execOp a.eval ⟨dst,.box T cA,ty,pos,after,guard⟩) av s1:=(TS (T:=T) aS (fL aS (λ_=>rfl) aw).2 he).next;unfold Oper.wp;rw[ag];rcases ah with rfl|⟨rfl,rfl⟩
   .exact a7 _ _ _ ay (Rel.put jn eM ia aN bg aj)
   .exact a7 _ _ _ ay (Rel.put jn eM ia aN bg aj)
 |rF x=>
  obtain⟨av,s1,he,ay⟩:=hw;rcases ou cD with ad|ad
  .cases ad
  .obtain⟨cA,p0,aw⟩:=VH ad;obtain⟨jn,eM,ia,F,S,aS⟩:=h;obtain⟨dst,op,ty,pos,after,guard⟩:=o;simp only at p0 aj ay;subst p0;simp only[bT]at he;obtain⟨g1,g2⟩:=fL aS (λ_=>rfl) aw;obtain⟨r,aL,v,b3,aW,ag,ah,aN,bg⟩:Next C w0 F0 X (λt=>a.tmps.getD t undef) w (execOp a.eval ⟨dst,.move cA,ty,pos,after,guard⟩) av s1:=by
    unfold qI at he;split at he
    .rename_i y q hy;rw[hy]at g1 g2;obtain⟨ck,k0,b7,cw,Sn,fi,ep,fQ,dM,jz,_⟩:=pI aS g1 g2 he;exact⟨_,w,_,F,ck,rfl,.inl rfl,k0,.inr ⟨b7,cw,Sn,fi,ep,fQ,dM,jz⟩⟩
    .simp only[Option.some.injEq,Prod.mk.injEq]at he;obtain⟨rfl,rfl⟩:=he;exact⟨_,w,_,F,S,rfl,.inl rfl,aS,.inl ⟨g1,g2⟩⟩
   unfold Oper.wp;rw[ag];rcases ah with rfl|⟨rfl,rfl⟩
   .exact a7 _ _ _ ay (Rel.put jn eM ia aN bg aj)
   .exact a7 _ _ _ ay (Rel.put jn eM ia aN bg aj)
 |sK x=>
  obtain⟨av,s1,he,ay⟩:=hw;rcases ou cD with ad|ad
  .cases ad
  .obtain⟨cA,p0,aw⟩:=VI ad;obtain⟨jn,eM,ia,F,S,aS⟩:=h;obtain⟨dst,op,ty,pos,after,guard⟩:=o;simp only at p0 aj ay;subst p0;simp only[bT,Option.some.injEq,Prod.mk.injEq]at he;obtain⟨rfl,rfl⟩:=he;obtain⟨g1,g2⟩:=fL aS (λ_=>rfl) aw;obtain⟨r,aL,v,b3,aW,ag,ah,aN,bg⟩:Next C w0 F0 X (λt=>a.tmps.getD t undef) w (execOp a.eval ⟨dst,.assign cA,ty,pos,after,guard⟩) (aP s x) s:=⟨_,w,_,F,S,rfl,.inl rfl,aS,.inl ⟨g1,g2⟩⟩
   unfold Oper.wp;rw[ag];rcases ah with rfl|⟨rfl,rfl⟩
   .exact a7 _ _ _ ay (Rel.put jn eM ia aN bg aj)
   .exact a7 _ _ _ ay (Rel.put jn eM ia aN bg aj)
 |oY T bZ x y=>
  obtain⟨av,s1,he,ay⟩:=hw;rcases ou cD with ad|ad
  .cases ad
  .obtain⟨cA,k_,p0,aw,hy⟩:=VK ad;obtain⟨jn,eM,ia,F,S,aS⟩:=h;simp only[bT,Option.map_eq_some_iff,Prod.mk.injEq]at he;obtain⟨d,h7,rfl,rfl⟩:=he;obtain⟨v,aL,b3,aW,ag,ah,aN⟩:=UH (ty:=o.type) bx aS (fL aS (λ_=>rfl) aw).2 (fL aS (λ_=>rfl) hy).2 h7;have uj:execOp a.eval o=(do pure (.value (<-Builtin.append_ #[T,bZ] o.type #[a.eval cA,a.eval k_]))):=by
    obtain⟨dst,op,ty,pos,after,guard⟩:=o;simp only at p0;subst p0;simp[execOp,resolve,invoke,builtin]
   unfold Oper.wp;rw[uj];simp only[Sem.run_bind,ag,Result.andThen];exact a7 _ _ _ ay (Rel.put jn eM ia ah aN aj)
 |_=>
  rcases ou cD with ad|ad
  .cases ad
  .exact VM bx h ad aj hw a7
end
end Go.c_
