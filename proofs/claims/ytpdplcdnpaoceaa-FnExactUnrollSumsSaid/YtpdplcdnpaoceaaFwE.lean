/- Part of a proof that a law returns true for every input. No condition. -/
import Derived.Test.YtpdplcdnpaoceaaFwD
import Derived.Laws.Tables
namespace Go.cV
open List Go.IntKind Nat Or
section
variable {C:bI} {w0 w:World} {F0 X F:Nat->Prop} {S:Nat->Nat->Prop} {s s1:af} {an:Nat->Value} {av:j}
theorem vV (z:Vp):∀n,(range (n*z.length)).map (λi=>z[i%z.length]!)=(replicate n z).flatten
 |0=>by simp
 |n+1=>by
  rw[Nat.add_mul,Nat.one_mul,range_add,map_append,vV z n,replicate_succ',flatten_append];congr 1;simp only[List.map_map,flatten_cons,flatten_nil,append_nil];apply ext_getElem
  .simp
  .intro i U aa;have ay:i<z.length:=aa;simp[mod_eq_of_lt ay,ay]
theorem aQ.replicate {d:j} {cs:Vp} (h:∀aB,aj w F d cs aB):∀n aB,aQ w F (replicate n d) (replicate n cs).flatten aB
 |0,aB=>by simp only[replicate_zero,flatten_nil];rw[aQ]
 |n+1,aB=>by
  rw[replicate_succ,replicate_succ,flatten_cons,aQ];exact⟨cs,_,λ_=>False,λ_=>False,rfl,h _,aQ.replicate h n _,λ_ h=>h.elim,λ_ h=>h.elim,λ_ h=>h.elim⟩
def dO (C:bI) (T:TypeId) (l c:j):Option j:=
 match(C.T T).k,l,c with
 | .slice e,.int .i64 n,.int .i64 m=>if n=m/\0<=n/\(C.T e).ok=true/\(C.T e).zero.wd=(C.T e).sz/\(flat (C.T e).zero).isSome=true/\(C.T e).sz≠0/\(C.T e).bytes*n<=140737488355328/\n<=9223372036854775807 then
   some (.aq (C.T e).sz (replicate n.toNat (C.T e).zero))else none
 |_,_,_=>none
theorem J4 (a4:C.dx) (h:bg w0 F0 X F S s an w) {T:TypeId} {l c:j} {Dj Dk:Value} (hl:az w F s an l Dj (λ_=>False)) (ai:az w F s an c Dk (λ_=>False)) (he:dO C T l c=some av):
  Good C w0 F0 X an w (Instr.makeSlice T Dj Dk) av s:=by
 unfold dO at he;split at he
 .rename_i e n m ak;have:=mm hl;subst this;have:=mm ai;subst this;obtain⟨yN,d,yO,aI,aR,aX,bT,cb,bH,bx⟩:=a4.info (eQ ak (by simp));rw[ak]at bx;have:=jk bx;subst this;split at he
  .rename_i p9;obtain⟨rfl,a2,mq,nk,n1,df,Dl,yQ⟩:=p9;simp only[Option.some.injEq]at he;subst he;obtain⟨i,yP,z,f1,f2,f3,f4,f5,f6,f7⟩:=a4.info mq;obtain⟨dU,kx⟩:=Option.isSome_iff_exists.1 n1;have n2:=f5 dU kx;have eX:∀aB,aj w F (C.T e).zero dU aB:=λaB=>(aj.flat _).1 _ dU aB (Nat.le_refl _) kx;have mu:dU.length=(C.T e).sz:=by rw[aj.length _ _ _ (eX (λ_=>False)),nk]
   obtain⟨n,rfl⟩:=Int.eq_ofNat_of_zero_le a2;simp only[Int.toNat_natCast];have rR:i64.wrap (n:Int)=n:=by
    rw[wrap_i64];omega
   have rP:∀k (w:World),(askRoom k).run C.P w= .ok () w:=by
    intro k w;unfold askRoom;split<;>rfl
   have ml:((Array.range (n*(C.T e).sz)).map (dU.toArray[·%dU.toArray.size]!)).toList=(replicate n dU).flatten:=by
    have:=vV dU n;rw[mu]at this;simpa [mu]using this
   have da:¬(281474976710656<(i.bytes:Int)*n):=by
    rw[f3];omega
   have vW:¬((n:Int)<0):=by omega
   have run:(Instr.makeSlice T (.int .i64 n) (.int .i64 n)).run C.P w= .ok (.slice (some ⟨w.heap.size,0,none⟩) n n)
     (w.alloc (.cells (if n*(C.T e).sz=0 then(Array.range (n*(C.T e).sz)).map (λ_=>default)else(Array.range (n*(C.T e).sz)).map (dU.toArray[·%dU.toArray.size]!)) e)):=by
    by_cases bt:n*(C.T e).sz=0
    .simp[Instr.makeSlice,run_underlying bH,asInt,asIntOf,p5 f1,rR,da,vW,rP,iC f1,f2,bt,newRow]
    .simp only[bt,if_false];simp[Instr.makeSlice,run_underlying bH,asInt,asIntOf,p5 f1,rR,da,vW,rP,iC f1,f2,bt,newRow,p6 f1 f4,n2]
   have jg:(if n*(C.T e).sz=0 then(Array.range (n*(C.T e).sz)).map (λ_=>(default:Value))else(Array.range (n*(C.T e).sz)).map (dU.toArray[·%dU.toArray.size]!)).toList=(replicate n dU).flatten:=by
    split
    .rename_i bt;have:n=0:=by
      rcases mul_eq_zero.1 bt with h|h
      .exact h
      .exact(df h).elim
     subst this;simp
    .exact ml
   generalize ql:(if n*(C.T e).sz=0 then(Array.range (n*(C.T e).sz)).map (λ_=>(default:Value))else(Array.range (n*(C.T e).sz)).map (dU.toArray[·%dU.toArray.size]!))=cur at run jg;have hr:(replicate n dU).flatten.length=n*(C.T e).sz:=by simp[mu]
   have gD:cur.size=n*(C.T e).sz:=by
    have:cur.size=cur.toList.length:=by simp
    rw[this,jg,hr]
   have i3:=h.tp (aw:=w.alloc (.cells cur e)) (sz:=(C.T e).sz) (cap:=n) (xs:=replicate n (C.T e).zero) (cur:=cur) (e:=e) (fr:=(0,0)) (Sn:=λ_=>False) rfl rfl rfl ⟨rfl,λ_=>Nat.le_refl _⟩
    (λo _ ⟨_,aa⟩=>absurd aa (not_lt_zero _)) (by simp) (by unfold maxLen;omega) gD (by intro d ad;rw[eq_of_mem_replicate ad];exact nk)
    (by rw[jg,length_replicate,take_of_length_le (by rw[hr];exact Nat.le_refl _)];exact aQ.replicate eX n _) (λ_ h=>h.elim) (λ_ h=>h.elim) (λ_ _ h=>h.elim) (λ_ h=>h.elim)
   rw[length_replicate]at i3;exact⟨_,_,F,S,run,i3.1,i3.2⟩
  .cases he
 .cases he
def hL (C:bI) (T bR:TypeId) (x y:j):Option j:=
 match(C.T T).k,(C.T bR).k,x,y with
 | .slice e,.int _,.aK,.int .i64 n=>if 0<=n/\(C.T e).ok=true/\(C.T e).zero.wd=(C.T e).sz/\(flat (C.T e).zero).isSome=true/\(C.T e).sz≠0/\(C.T e).bytes*n<=140737488355328/\n<=9223372036854775807 then
   some (.aq (C.T e).sz (replicate n.toNat (C.T e).zero))else none
 |_,_,_,_=>none
theorem J5 {P:Program} {T bR ty e:TypeId} {k:IntKind} {i:TypeInfo} {z:Value} (aO:P.underlying T=some (.slice e)) (hu:P.underlying bR=some (.int k)) (ay:P.info? e=some i) (bC:i.zero=some z)
  (n:Nat) (bt:n≠0) (R:i.size≠0) (a2:n<=9223372036854775807) (J:n*i.bytes<=140737488355328):
  (Builtin.append_ #[T,bR] ty #[.slice none 0 0,.int .i64 n]).run P w= .ok (.slice (some ⟨w.heap.size,0,none⟩) n (grownCap w n 0 e))
   (w.drew.alloc (.cells (Builtin.zeroCells z.cells n++Builtin.zeroCells z.cells (grownCap w n 0 e-n)) e)):=by
 have rR:i64.wrap (n:Int)=n:=by rw[wrap_i64];omega
 have vW:¬((n:Int)<0):=by omega
 have hmul:(n:Int)*(i.bytes:Int)=((n*i.bytes:Nat):Int):=by simp
 have da:¬(281474976710656<(n:Int)*(i.bytes:Int)):=by rw[hmul];omega
 have gC:¬(281474976710656<Builtin.nextslicecap n 0*i.bytes):=by
  have:Builtin.nextslicecap n 0=n:=by unfold Builtin.nextslicecap;rw[if_pos (by omega)]
  rw[this];omega
 have rP:∀k (w:World),(askRoom k).run P w= .ok () w:=by
  intro k w;unfold askRoom;split<;>rfl
 have yK:¬(9223372036854775807<(n:Int)):=by omega
 have yU:n*i.size≠0:=Nat.mul_ne_zero bt R;simp[Builtin.append_,run_underlying aO,run_underlying hu,iC ay,p5 ay,asInt,asIntOf,rR,vW,da,gC,bt,Question.forced,rP,yK,p6 ay bC,newRow,grownCap,Builtin.firstCells];intro kq;exact(yU kq).elim
theorem J6 (a4:C.dx) (h:bg w0 F0 X F S s an w) {T bR ty:TypeId} {x y:j} {dg g8:Value} (ae:az w F s an x dg (λ_=>False)) (a_:az w F s an y g8 (λ_=>False)) (he:hL C T bR x y=some av):
  Good C w0 F0 X an w (Builtin.append_ #[T,bR] ty #[dg,g8]) av s:=by
 unfold hL at he;split at he
 .rename_i e Ua n ak Dm;have:=nW ae;subst this;have:=mm a_;subst this;obtain⟨yN,d,yO,aI,aR,aX,bT,cb,bH,bx⟩:=a4.info (eQ ak (by simp));rw[ak]at bx;have:=jk bx;subst this;obtain⟨Ub,Uc,Ud,yV,yW,Dn,Ue,Uf,Dp,Dq⟩:=a4.info (eQ Dm (by simp));rw[Dm]at Dq;have:=tf Dq;subst this;split at he
  .rename_i p9;obtain⟨a2,mq,nk,n1,df,Dl,yQ⟩:=p9;simp only[Option.some.injEq]at he;subst he;obtain⟨i,yP,z,f1,f2,f3,f4,f5,f6,f7⟩:=a4.info mq;obtain⟨dU,kx⟩:=Option.isSome_iff_exists.1 n1;have n2:=f5 dU kx;have eX:∀aB,aj w F (C.T e).zero dU aB:=λaB=>(aj.flat _).1 _ dU aB (Nat.le_refl _) kx;have mu:dU.length=(C.T e).sz:=by rw[aj.length _ _ _ (eX (λ_=>False)),nk]
   obtain⟨n,rfl⟩:=Int.eq_ofNat_of_zero_le a2;simp only[Int.toNat_natCast];by_cases bt:n=0
   .subst bt;have run:(Builtin.append_ #[T,bR] ty #[.slice none 0 0,.int .i64 ((0:Nat):Int)]).run C.P w= .ok (.slice none 0 0) w:=by
     have rR:i64.wrap 0=0:=by decide
     simp[Builtin.append_,run_underlying bH,run_underlying Dp,iC f1,p5 f1,asInt,asIntOf,rR]
    exact⟨_,w,F,S,run,h,.inr ⟨rfl,rfl,λ_=>False,by simp only[bW,gy];rw[aj];exact .inl ⟨rfl,_,rfl⟩,λ_ h=>h.elim,λ_ h=>h.elim,λ_ _ h=>h.elim,λ_ h=>h.elim⟩⟩
   .have run:=J5 (w:=w) (ty:=ty) bH Dp f1 f4 n bt (by rw[f2];exact df) (by omega) (by
     rw[f3];have:((C.T e).bytes:Int)*(n:Int)=(((C.T e).bytes*n:Nat):Int):=by simp
     rw[this]at Dl;rw[Nat.mul_comm];omega)
    rw[n2]at run;have qd:=grownCap_ge w n 0 e;have ts:=grownCap_le_maxLen w n 0 e (by unfold maxLen;omega);have Dr:∀m,(Builtin.zeroCells dU.toArray m).toList=(replicate m dU).flatten:=by
     intro m;have:=vV dU m;unfold Builtin.zeroCells;simpa [mu]using this
    have hr:∀m,(replicate m dU).flatten.length=m*(C.T e).sz:=by intro m;simp[mu]
    generalize ql:Builtin.zeroCells dU.toArray n++Builtin.zeroCells dU.toArray (grownCap w n 0 e-n)=cur at run;have jg:cur.toList=(replicate n dU).flatten++(replicate (grownCap w n 0 e-n) dU).flatten:=by rw[<-ql,Array.toList_append,Dr,Dr]
    have gD:cur.size=grownCap w n 0 e*(C.T e).sz:=by
     have:cur.size=cur.toList.length:=by simp
     rw[this,jg,length_append,hr,hr,<-Nat.add_mul];congr 1;omega
    have i3:=h.tp (aw:=w.drew.alloc (.cells cur e)) (sz:=(C.T e).sz) (cap:=grownCap w n 0 e) (xs:=replicate n (C.T e).zero) (cur:=cur) (e:=e) (fr:=(0,0)) (Sn:=λ_=>False) rfl rfl rfl ⟨rfl,λ_=>le_succ _⟩
     (λo _ ⟨_,aa⟩=>absurd aa (not_lt_zero _)) (by simpa using qd) ts gD (by intro d ad;rw[eq_of_mem_replicate ad];exact nk)
     (by rw[jg,length_replicate,take_left' (hr n)];exact aQ.replicate eX n _) (λ_ h=>h.elim) (λ_ h=>h.elim) (λ_ _ h=>h.elim) (λ_ h=>h.elim)
    rw[length_replicate]at i3;exact⟨_,_,F,S,run,i3.1,i3.2⟩
  .cases he
 .cases he
def lN (s:af) (f:FuncId) (cs:List aT):Option j:=some (.fn f (cs.map (a6 s)))
theorem tz {a:Act} (h:bg w0 F0 X F S s an w) (c8:∀t,an t=a.tmps.getD t undef):∀(os:List Operand) (xs:List aT),os.map cQ=xs.map some->cK w F s an (xs.map (a6 s)) (os.map a.eval)
 |[],[],_=>by simp only[map_nil];rw[cK]
 |[],x::xs,h=>by simp at h
 |o::os,[],h=>by simp at h
 |o::os,x::xs,bl=>by
  simp only[map_cons,cons.injEq]at bl⊢;rw[cK];exact⟨_,_,rfl,(dZ h c8 bl.1).2,tz h c8 os xs bl.2⟩
theorem Ds:∀(vs:Vp) (k off:Nat) (A:Array Value) (l m r:Vp),A.toList=l++(m++r)->l.length=off+k->m.length=vs.length->
  ((vs.zipIdx k).foldl (λcs (x:Value×Nat)=>cs.setIfInBounds (off+x.2) x.1) A).toList=l++(vs++r)
 |[],k,off,A,l,m,r,hh,hl,hm=>by
  have:m=[]:=by simpa using hm
  subst this;simpa using hh
 |v::vs,k,off,A,l,m,r,hh,hl,hm=>by
  obtain⟨x,m,rfl⟩:∃x ic,m=x::ic:=by
   cases m with
   |nil=>simp at hm
   |cons x m=>exact⟨x,m,rfl⟩
  rw[zipIdx_cons,foldl_cons];have:=Ds vs (k+1) off (A.setIfInBounds (off+k) v) (l++[v]) m r (by
   rw[Array.toList_setIfInBounds,hh,<-hl,set_append_right _ _ (Nat.le_refl _)];simp) (by simp;omega) (by simpa using hm)
  simpa using this
def i4 (os:List (Option Nat)) (a:j):j:=os.foldl (λa o=>iS o a) a
def iI (place:Nat->Option (Nat×Nat)):af->Vr->List (Option Nat)->Vq->Option (Vr×af)
 |s,dz,_,[]=>some (dz,s)
 |s,dz,os,(k,a)::r=>match cc s (i4 os a),place k,dz[k]? with
  |some (d,s1),some (off,n),some z=>match d with
   | .tuple _=>none
   |d=>if d.wd=n/\z.wd=n/\j.c0 (dz.take k)=off then iI place s1 (dz.set k d) (os++[(i4 os a).owner]) r else none
  |_,_,_=>none
def lO (w:World) (F:Nat->Prop) (s:af) (an:Nat->Value):Vq->List (Nat×Value)->Prop
 |[],[]=>True
 |(k,a)::r,(cN,v)::gF=>k=cN/\a.plain=true/\az w F s an a v (λ_=>False)/\lO w F s an r gF
 |_,_=>False
theorem J7 (x:Nat):∀d:j,d.plain=true->(bQ x d).plain=true
 | .h y q,_=>by simp only[bQ];split<;>(try split)<;>rfl
 | .ag y q,_=>by simp only[bQ];split<;>rfl
 | .J y q,_=>rfl
 | .fn f c,_=>by simp only[bQ];rfl
 | .hole,h=>h
 | .bool _,h=>h
 | .dV,h=>h
 | .int _ _,h=>h
 | .str _,h=>h
 | .cW,h=>h
 | .aK,h=>h
 | .slice _,h=>h
 | .aq _ _,h=>h
 | .ref _,h=>h
 | .aS _,h=>h
 | .agg _,h=>h
 | .tuple _,h=>h
theorem J8 (o:Option Nat) (d:j) (h:d.plain=true):(iS o d).plain=true:=by
 cases o with
 |none=>exact h
 |some x=>exact J7 x d h
theorem lO.bQ {w:World} {F:Nat->Prop} {s s1:af} {an:Nat->Value} {o:Option Nat} (ag:∀(a8:j) (dM:Value) (aB:Nat->Prop),az w F s an a8 dM aB->az w F s1 an (iS o a8) dM aB):
  ∀(r:Vq) (gF:List (Nat×Value)),lO w F s an r gF->lO w F s1 an (r.map λp=>(p.1,iS o p.2)) gF
 |[],[],_=>trivial
 |(k,a)::r,(cN,v)::gF,h=>by
  obtain⟨U,aa,ax,aP⟩:=h;exact⟨U,J8 _ _ aa,ag _ _ _ ax,lO.bQ ag r gF aP⟩
 |[],_::_,h=>h.elim
 |_::_,[],h=>h.elim
theorem yX {place:Nat->Option (Nat×Nat)}:∀(ps:Vq) (vs:List (Nat×Value)) (os:List (Option Nat)) (s:af) (S:Nat->Nat->Prop) (dz:Vr) (A:Array Value) (fX:Nat->Prop),
  bg w0 F0 X F S s an w->lO w F s an (ps.map λp=>(p.1,i4 os p.2)) vs->aQ w F dz A.toList fX->(∀b,fX b->b<w.heap.size)->(∀b,fX b->¬F b)->(∀u b,fX b->¬S u b)->(∀b,fX b->X b\/w0.heap.size<=b)->
  ∀ds s1,iI place s dz os ps=some (ds,s1)->∃j5 bP fj,Instr.fill place A vs=some j5/\bg w0 F0 X F bP s1 an w/\aQ w F ds j5.toList fj/\(∀b,fj b->b<w.heap.size)/\(∀b,fj b->¬F b)/\(∀u b,fj b->¬bP u b)/\
   (∀b,fj b->X b\/w0.heap.size<=b)/\ds.length=dz.length/\j.c0 ds=j.c0 dz/\(∀n,(∀d∈dz,d.wd=n)->∀d∈ds,d.wd=n)
 |[],[],os,s,S,dz,A,fX,h,_,U,aa,ax,aP,a9,ds,s1,he=>by
  simp only[iI,Option.some.injEq,Prod.mk.injEq]at he;obtain⟨rfl,rfl⟩:=he;exact⟨A,S,fX,rfl,h,U,aa,ax,aP,a9,rfl,rfl,λ_ h=>h⟩
 |(k,a)::ps,(cN,v)::vs,os,s,S,dz,A,fX,h,ag,U,aa,ax,aP,a9,ds,s1,he=>by
  obtain⟨rfl,iJ,mi,tA⟩:=ag;simp only[iI]at he;split at he
  .rename_i d tB off n z aO eP bC;have key:∀d:j,(∀al,d≠.tuple al)->cc s (i4 os a)=some (d,tB)->(if d.wd=n/\z.wd=n/\j.c0 (dz.take k)=off then iI place tB (dz.set k d) (os++[(i4 os a).owner]) ps else none)=some (ds,s1)->
     ∃j5 bP fj,Instr.fill place A ((k,v)::vs)=some j5/\bg w0 F0 X F bP s1 an w/\aQ w F ds j5.toList fj/\(∀b,fj b->b<w.heap.size)/\(∀b,fj b->¬F b)/\(∀u b,fj b->¬bP u b)/\
     (∀b,fj b->X b\/w0.heap.size<=b)/\ds.length=dz.length/\j.c0 ds=j.c0 dz/\(∀n,(∀d∈dz,d.wd=n)->∀d∈ds,d.wd=n):=by
    intro d nS aO he;split at he
    .rename_i ai;obtain⟨vX,p7,Dt⟩:=ai;obtain⟨bP,fg,aL,a0,Sn,bK,cF,dq,gk,hd,jB,tu,vQ⟩:=na h iJ mi aO;obtain⟨bu,eN,bN,Sx,gj,hh,fY,eO,el,fP,dG,jX⟩:=aQ.pick dz _ _ k z U bC;have ml:=ti a0 nS;have o5:=aj.length _ _ _ bK;have Du:=aj.length _ _ _ dG;have oW:=jX w d (bW v) Sn (λ_ _=>rfl) (λ_ _=>rfl) bK (λb J9 J_=>by obtain⟨u,hu⟩:=tu b J9;exact aP u b (eO b J_) hu);have Dv:=Ds (bW v) 0 off A bu eN bN hh (by rw[fY,Dt];rfl) (by rw[Du,o5,vX,p7]);generalize tC:((bW v).zipIdx 0).foldl (λcs (x:Value×Nat)=>cs.setIfInBounds (off+x.2) x.1) A=vI at Dv;obtain⟨j5,cx,fj,ea,fh,gE,j0,lF,nT,nU,lP,yY,vY⟩:=yX (place:=place) ps vs (os++[(i4 os a).owner]) tB bP (dz.set k d) vI (λb=>Sx b\/Sn b) fg (by have:=lO.bQ vQ _ _ tA;simpa [i4,foldl_append,Function.comp_def]using this) (by rw[Dv];exact oW)
      (by rintro b (J|J);exact aa b (eO b J);exact cF b J) (by rintro b (J|J);exact ax b (eO b J);exact dq b J)
      (by rintro u b (J|J);exact λhu=>aP u b (eO b J) (jB u b hu);exact gk u b J) (by rintro b (J|J);exact a9 b (eO b J);exact hd b J) ds s1 he
     refine⟨j5,cx,fj,?_,fh,gE,j0,lF,nT,nU,by rw[lP];simp,by rw[yY];exact ya _ _ _ _ bC (by rw[vX,p7]),?_⟩
     .have yZ:off+n<=A.size:=by
       have:A.size=A.toList.length:=by simp
       rw[this,hh];simp[fY,Dt,Du,p7]
      simp only[Instr.fill,eP,ml,List.size_toArray,o5,vX];have hY:¬(n≠n\/A.size<off+n):=by omega
      have Ka:(bW v).toArray.zipIdx.foldl (λcs (x:Value×Nat)=>cs.setIfInBounds (off+x.2) x.1) A=vI:=by
       rw[<-tC,<-Array.foldl_toList];simp
      simp only[ne_eq,not_true_eq_false,decide_false,Bool.false_or,decide_eq_true_eq,gt_iff_lt];rw[if_neg (by simp;omega)];rw[show(bW v).toArray.zipIdx.foldl (λcs x=>match x with|(c,aD)=>cs.setIfInBounds (off+aD) c) A=vI from Ka];exact ea
     .intro Kb tD;refine vY Kb (yb tD ?_);rw[vX,<-p7];exact tD z (mem_of_getElem? bC)
    .cases he
   split at he
   .cases he
   .rename_i nS;exact key _ (λal e=>nS al e) aO he
  .cases he
 |[],_::_,_,_,_,_,_,_,_,ag,_,_,_,_,_,_,_,_=>ag.elim
 |_::_,[],_,_,_,_,_,_,_,ag,_,_,_,_,_,_,_,_=>ag.elim
def fb (C:bI) (s:af) (T:TypeId) (ps:Vq):Option (j×af):=
 match(C.T T).k,(C.T T).zero with
 | .struct al,.agg dz=>if(flat (.agg dz)).isSome=true/\(∀f∈al,(C.T f.1).ok=true)then
   (match iI (λk=>(al[k]?).map λf=>(f.2,(C.T f.1).sz)) s dz [] ps with
   |some (ds,s1)=>some (.agg ds,s1)
   |none=>none)else none
 |_,_=>none
def e6 (C:bI) (s:af) (T:TypeId) (n:Nat) (ps:Vq):Option (j×af):=
 match(C.T T).k with
 | .slice e=>if(C.T e).ok=true/\(C.T e).zero.wd=(C.T e).sz/\(flat (C.T e).zero).isSome=true/\(C.T e).sz≠0/\n*(C.T e).sz<=16777216 then
   (match iI (λk=>some (k*(C.T e).sz,(C.T e).sz)) s (replicate n (C.T e).zero) [] ps with
   |some (ds,s1)=>some (.aq (C.T e).sz ds,s1)
   |none=>none)else none
 |_=>none
theorem Kc (a4:C.dx):∀(gs:List Field),(∀g∈gs,(C.T g.type).ok=true)->
  gs.mapM (λf=>(C.P.info? f.type).map λi=>(f.offset,i.size))=some (gs.map λg=>(g.offset,(C.T g.type).sz)):=by
 intro gs;induction gs with
 |nil=>intro _;simp
 |cons g gs ih=>
  intro bm;obtain⟨i,d,z,f1,f2,f3,f4,f5,f6,f7⟩:=a4.info (bm g (by simp));have:=ih (λg ga=>bm g (by simp[ga]));simp[mapM_cons,f1,f2,this]
theorem Kd (a4:C.dx) (h:bg w0 F0 X F S s an w) {T:TypeId} {ps:Vq} {vs:List (Nat×Value)} (ag:lO w F s an ps vs) (he:fb C s T ps=some (av,s1)):
  Good C w0 F0 X an w (Instr.build T vs.toArray) av s1:=by
 unfold fb at he;split at he
 .rename_i al dz ak bC;split at he
  .rename_i ai;obtain⟨n1,Ke⟩:=ai;split at he
   .rename_i ds s2 hr;simp only[Option.some.injEq,Prod.mk.injEq]at he;obtain⟨rfl,rfl⟩:=he;obtain⟨i,d,z,aI,aR,aX,bT,cb,bH,bx⟩:=a4.info (eQ ak (by simp));rw[ak]at bx;obtain⟨gs,rfl,Dw⟩:=te bx;obtain⟨dU,kx⟩:=Option.isSome_iff_exists.1 n1;have n2:=cb dU (by rw[bC];exact kx);have eX:aQ w F dz dU.toArray.toList (λ_=>False):=by
     have:=(aj.flat (w:=w) (F:=F) _).1 (.agg dz) dU (λ_=>False) (Nat.le_refl _) kx;rw[aj]at this;simpa using this
    have c_:lO w F s an (ps.map λp=>(p.1,i4 [] p.2)) vs:=by simpa [i4]using ag
    obtain⟨j5,bP,fj,ea,fh,gE,j0,lF,nT,nU,lP,yY,vY⟩:=yX ps vs [] s S dz dU.toArray (λ_=>False) h c_ eX (λ_ h=>h.elim) (λ_ h=>h.elim) (λ_ _ h=>h.elim) (λ_ h=>h.elim) ds s2 hr;have eP:=Kc a4 gs.toList (λg bm=>Ke (g.type,g.offset) (by rw[<-Dw];exact List.mem_map_of_mem bm));have Kf:(λ(k:Nat)=>(al[k]?).map λ(f:TypeId×Nat)=>(f.2,(C.T f.1).sz))=λ(k:Nat)=>((gs.toList.map λg=>(g.offset,(C.T g.type).sz)).toArray)[k]? :=by
     funext k;rw[<-Dw];simp only[getElem?_map,getElem?_toArray,Option.map_map];rfl
    rw[Kf]at ea;refine⟨.agg j5,w,F,bP,run_build w T vs.toArray j5 ?_,fh,.inr ⟨rfl,⟨_,rfl⟩,fj,by simp only[bW,gy];rw[aj];exact gE,j0,lF,nT,nU⟩⟩;unfold Program.built;simp only[aI,bH,bT,eP,n2];exact ea
   .cases he
  .cases he
 .cases he
theorem Kg (a4:C.dx) (h:bg w0 F0 X F S s an w) {T:TypeId} {n:Nat} {ps:Vq} {vs:List (Nat×Value)} (ag:lO w F s an ps vs) (he:e6 C s T n ps=some (av,s1)):
  Good C w0 F0 X an w (Instr.buildSlice T n vs.toArray) av s1:=by
 unfold e6 at he;split at he
 .rename_i e ak;split at he
  .rename_i ai;obtain⟨mq,nk,n1,df,Ug⟩:=ai;split at he
   .rename_i ds s2 hr;simp only[Option.some.injEq,Prod.mk.injEq]at he;obtain⟨rfl,rfl⟩:=he;obtain⟨yN,d,yO,aI,aR,aX,bT,cb,bH,bx⟩:=a4.info (eQ ak (by simp));rw[ak]at bx;have:=jk bx;subst this;obtain⟨i,yP,z,f1,f2,f3,f4,f5,f6,f7⟩:=a4.info mq;obtain⟨dU,kx⟩:=Option.isSome_iff_exists.1 n1;have n2:=f5 dU kx;have eX:∀aB,aj w F (C.T e).zero dU aB:=λaB=>(aj.flat _).1 _ dU aB (Nat.le_refl _) kx;have mu:dU.length=(C.T e).sz:=by rw[aj.length _ _ _ (eX (λ_=>False)),nk]
    generalize hh:((Array.range (n*(C.T e).sz)).map ((if n*(C.T e).sz=0 then #[]else dU.toArray)[·%(if n*(C.T e).sz=0 then(#[]:Array Value)else dU.toArray).size]!))=A;have yZ:A.toList=(replicate n dU).flatten:=by
     rw[<-hh];by_cases bt:n*(C.T e).sz=0
     .have:n=0:=by
       rcases mul_eq_zero.1 bt with h|h
       .exact h
       .exact(df h).elim
      subst this;simp
     .simp only[bt,if_false];have:=vV dU n;rw[mu]at this;simpa [mu]using this
    have c_:lO w F s an (ps.map λp=>(p.1,i4 [] p.2)) vs:=by simpa [i4]using ag
    obtain⟨j5,bP,fj,ea,fh,gE,j0,lF,nT,nU,lP,yY,vY⟩:=yX ps vs [] s S (replicate n (C.T e).zero) A (λ_=>False) h c_ (by rw[yZ];exact aQ.replicate eX n _) (λ_ h=>h.elim) (λ_ h=>h.elim) (λ_ _ h=>h.elim) (λ_ h=>h.elim) ds s2 hr;have hlen:ds.length=n:=by rw[lP];simp
    have Dx:=vY (C.T e).sz (by intro d ad;rw[eq_of_mem_replicate ad];exact nk);have Kh:j5.toList.length=n*(C.T e).sz:=by rw[aQ.qh gE Dx,hlen]
    have Ki:j5.size=n*(C.T e).sz:=by rw[<-Kh];simp
    have Uh:n<=16777216:=by
     have:n*1<=n*(C.T e).sz:=mul_le_mul_left _ (by omega);omega
    have i3:=fh.tp (aw:=w.alloc (.cells j5 e)) (sz:=(C.T e).sz) (cap:=n) (xs:=ds) (cur:=j5) (e:=e) (fr:=(0,0)) (Sn:=fj) rfl rfl rfl ⟨rfl,λ_=>Nat.le_refl _⟩
     (λo _ ⟨_,aa⟩=>absurd aa (not_lt_zero _)) (by omega) (by unfold maxLen;omega) Ki Dx (by rw[hlen,take_of_length_le (by omega)];exact gE) j0 lF nT nU
    rw[hlen]at i3;refine⟨_,_,F,bP,?_,i3.1,i3.2⟩;by_cases bt:n*(C.T e).sz=0
    .simp only[bt,if_true]at hh;have rS:(Array.map (λ_=>(default:Value)) (Array.range 0))=A:=by
      have:n=0:=by
       rcases mul_eq_zero.1 bt with h|h
       .exact h
       .exact(df h).elim
      apply Array.ext';rw[yZ,this];simp
     simp[Instr.buildSlice,run_underlying bH,iC f1,f2,bt,newRow];rw[rS,ea];simp
    .simp only[bt,if_false]at hh;have hY:¬(16777216<n*(C.T e).sz):=by omega
     simp[Instr.buildSlice,run_underlying bH,iC f1,f2,bt,hY,p6 f1 f4,n2,newRow];have rS:(Array.map (λx=>dU[x%dU.length]?.getD default) (Array.range (n*(C.T e).sz)))=A:=by
      rw[<-hh];simp
     rw[rS,ea];simp
   .cases he
  .cases he
 .cases he
end
inductive cZ where
 |g5 (x:aT)
 |j6 (x:aT)
 |pick (c a b:aT)
 |j1 (T:TypeId)
 |g4 (T:TypeId) (x:aT)
 |fb (T:TypeId) (ps:List (Nat×aT))
 |e6 (T:TypeId) (n:Nat) (ps:List (Nat×aT))
 |ey (T:TypeId) (x:aT)
 |ie (T:TypeId) (x y:aT)
 |ht (x:aT)
 |eb (op:BinOp) (T:TypeId) (x y:aT)
 |un (op:UnOp) (x:aT)
 |hg (A B:TypeId) (x:aT)
 |lN (f:FuncId) (cs:List aT)
 |dO (T:TypeId) (l c:aT)
 |eY (T:TypeId) (x:aT) (dE ay:Option aT)
 |gQ (T:TypeId) (x:aT) (k:Nat)
 |hJ (T:TypeId) (x i:aT)
 |idx (T:TypeId) (x i:aT)
 |ex (x:aT) (k:Nat)
 |j3 (T:TypeId) (x:aT) (k:Nat)
 |call (f:aT) (args:List aT)
 |len (T:TypeId) (x:aT)
 |app (T bR:TypeId) (x y:aT)
 |shr (bb:cZ)
 |hL (T bR:TypeId) (x y:aT)
 |cap (T:TypeId) (x:aT)
 |nn (fO:Bool) (x y:aT)
 |bad
 |jm (f:aT) (args:List aT) (us:Vm)
 |hs (T:TypeId) (x:aT)
 |tE
 |lM (T:TypeId) (x i:aT)
 |ky (T:TypeId) (x i v:aT)
def cZ.base:cZ->cZ
 | .shr bb=>bb
 | .hL T bR x y=>.app T bR x y
 | .jm f args _=>.call f args
 | .hs T x=>.g4 T x
 |bb=>bb
def rT:List Operand->Option (List aT)
 |[]=>some []
 |o::os=>match cQ o,rT os with
  |some x,some xs=>some (x::xs)
  |_,_=>none
def rU:List (Nat×Operand)->Option (List (Nat×aT))
 |[]=>some []
 |(k,o)::os=>match cQ o,rU os with
  |some x,some xs=>some ((k,x)::xs)
  |_,_=>none
def tF:Option Operand->Option (Option aT)
 |none=>some none
 |some o=>(cQ o).map some
def cr:Op->Option cZ
 | .move x=>(cQ x).map .g5
 | .assign x=>(cQ x).map .j6
 | .pick c a b=>match cQ c,cQ a,cQ b with
   |some c,some a,some b=>some (.pick c a b)
   |_,_,_=>none
 | .alloc T=>some (.j1 T)
 | .box T x=>(cQ x).map (.g4 T)
 | .build T ps=>(rU ps.toList).map (.fb T)
 | .buildSlice T n ps=>(rU ps.toList).map (.e6 T n)
 | .load T x=>(cQ x).map (.ey T)
 | .store T x y=>match cQ x,cQ y with
   |some x,some y=>some (.ie T x y)
   |_,_=>none
 | .nilCheck x=>(cQ x).map .ht
 | .binOp op T x y _=>match cQ x,cQ y with
   |some x,some y=>some (.eb op T x y)
   |_,_=>none
 | .unOp op _ x=>(cQ x).map (.un op)
 | .convert A B x=>(cQ x).map (.hg A B)
 | .makeFunc (.func f) first cs=>if first.isEmpty then(rT cs.toList).map (.lN f)else none
 | .makeSlice T l c=>match cQ l,cQ c with
   |some l,some c=>some (.dO T l c)
   |_,_=>none
 | .slice T x dE ay none=>match cQ x,tF dE,tF ay with
   |some x,some dE,some ay=>some (.eY T x dE ay)
   |_,_,_=>none
 | .fieldAddr T x k=>(cQ x).map λx=>.gQ T x k
 | .indexAddr T x i=>match cQ x,cQ i with
   |some x,some i=>some (.hJ T x i)
   |_,_=>none
 | .index T x i=>match cQ x,cQ i with
   |some x,some i=>some (.idx T x i)
   |_,_=>none
 | .extract x k=>(cQ x).map λx=>.ex x k
 | .field T x k=>(cQ x).map λx=>.j3 T x k
 | .makeMap _ none=>some .tE
 | .lookup T x i false=>match cQ x,cQ i with
   |some x,some i=>some (.lM T x i)
   |_,_=>none
 | .mapUpdate T x i v=>match cQ x,cQ i,cQ v with
   |some x,some i,some v=>some (.ky T x i v)
   |_,_,_=>none
 | .call c=>match c.callee with
   | .value f=>match cQ f,rT c.args.toList with
     |some f,some xs=>some (.call f xs)
     |_,_=>none
   | .builtin .len=>match c.args.toList,c.argTypes.toList with
     |[x],[T]=>(cQ x).map (.len T)
     |_,_=>none
   | .builtin .cap=>match c.args.toList,c.argTypes.toList with
     |[x],[T]=>(cQ x).map (.cap T)
     |_,_=>none
   | .builtin .min=>match c.args.toList with
     |[x,y]=>match cQ x,cQ y with
      |some x,some y=>some (.nn false x y)
      |_,_=>none
     |_=>none
   | .builtin .max=>match c.args.toList with
     |[x,y]=>match cQ x,cQ y with
      |some x,some y=>some (.nn true x y)
      |_,_=>none
     |_=>none
   | .builtin .append=>match c.args.toList,c.argTypes.toList with
     |[x,y],[T,bR]=>match cQ x,cQ y with
      |some x,some y=>some (.app T bR x y)
      |_,_=>none
     |_,_=>none
   |_=>none
 |_=>none
def nn (fO:Bool):j->j->Option j
 | .str a,.str b=>some (.str (vw fO a b))
 | .int k a,.int cN b=>if k=cN then some (.int k (x7 fO a b))else none
 |_,_=>none
def tG (s:af):j->Option (j×af)
 | .h y q=>cc s (.h y q)
 |d=>some (d,s)
def bs (C:bI) (s:af):cZ->Option (j×af)
 | .g5 x=>some (a6 s x,s)
 | .j6 x=>match a6 s x with
   | .h y q=>cc s (.h y q)
   |d=>some (d,s)
 | .pick c a b=>match a6 s c with
   | .bool eE=>some (if eE then a6 s a else a6 s b,s)
   |_=>none
 | .j1 T=>(j1 C T).map λd=>(d,s)
 | .g4 _ x=>g4 s (a6 s x)
 | .fb T ps=>fb C s T (ps.map λp=>(p.1,a6 s p.2))
 | .e6 T n ps=>e6 C s T n (ps.map λp=>(p.1,a6 s p.2))
 | .ey T x=>(ey C s T (a6 s x)).map λd=>(d,s)
 | .ie T x y=>(ie C s T (a6 s x) (a6 s y)).map λs1=>(.hole,s1)
 | .ht x=>(ht s (a6 s x)).map λd=>(d,s)
 | .eb op T x y=>(eb C s op T (a6 s x) (a6 s y)).map λd=>(d,s)
 | .un op x=>(un op (a6 s x)).map λd=>(d,s)
 | .hg A B x=>(hg C s A B (a6 s x)).map λd=>(d,s)
 | .lN f cs=>some (.fn f (cs.map (a6 s)),s)
 | .dO T l c=>(dO C T (a6 s l) (a6 s c)).map λd=>(d,s)
 | .eY T x dE ay=>eY C s T (a6 s x) (dE.map (a6 s)) (ay.map (a6 s))
 | .gQ T x k=>(gQ C s T (a6 s x) k).map λd=>(d,s)
 | .hJ T x i=>(hJ C s T (a6 s x) (a6 s i)).map λd=>(d,s)
 | .idx T x i=>(idx C T (a6 s x) (a6 s i)).map λd=>(d,s)
 | .ex x k=>(ex s (a6 s x) k).map λd=>(d,s)
 | .j3 T x k=>(j3 C s T (a6 s x) k).bind (tG s)
 | .call _ _=>none
 | .len T x=>(nX C s T (a6 s x)).map λd=>(d,s)
 | .app T bR x y=>n0 C s T bR (a6 s x) (a6 s y)
 | .shr _=>none
 | .jm _ _ _=>none
 | .hs _ x=>hs s (a6 s x)
 | .tE=>some (.cY (.mp []),s)
 | .lM T x i=>(lM C s T (a6 s x) (a6 s i)).map λd=>(d,s)
 | .ky T x i v=>(ky C s T (a6 s x) (a6 s i) (a6 s v)).map λs1=>(.hole,s1)
 | .hL T bR x y=>(hL C T bR (a6 s x) (a6 s y)).map λd=>(d,s)
 | .cap T x=>match(C.T T).k,a6 s x with
   | .slice _,.aK=>some (.int .i64 0,s)
   |_,_=>none
 | .nn fO x y=>(nn fO (a6 s x) (a6 s y)).map λd=>(d,s)
 | .bad=>none
section
variable {C:bI} {w0 w:World} {F0 X F:Nat->Prop} {S:Nat->Nat->Prop} {s s1:af} {a:Act} {av:j}
theorem n3:∀{os:List Operand} {xs:List aT},rT os=some xs->os.map cQ=xs.map some
 |[],xs,h=>by simp[rT]at h;subst h;rfl
 |o::os,xs,h=>by
  simp only[rT]at h;split at h
  .rename_i x Kj U aa;simp at h;subst h;simp[U,n3 aa]
  .cases h
theorem y0 {an:Nat->Value} (h:bg w0 F0 X F S s an w) (c8:∀t,an t=a.tmps.getD t undef):∀{ps:List (Nat×Operand)} {xs:List (Nat×aT)},rU ps=some xs->
  lO w F s an (xs.map λp=>(p.1,a6 s p.2)) (ps.map λp=>(p.1,a.eval p.2))
 |[],xs,h=>by simp[rU]at h;subst h;trivial
 |(k,o)::ps,xs,bl=>by
  simp only[rU]at bl;split at bl
  .rename_i x Kj U aa;simp at bl;subst bl;obtain⟨aL,a0⟩:=dZ h c8 U;exact⟨rfl,aL,a0,y0 h c8 aa⟩
  .cases bl
def Next (C:bI) (w0:World) (F0 X:Nat->Prop) (an:Nat->Value) (w:World) (m:Sem Go.Next) (av:j) (s1:af):Prop:=
 ∃r aw v ba aB,m.run C.P w= .ok r aw/\(r= .value v\/r= .skip/\v=undef)/\bg w0 F0 X ba aB s1 an aw/\ia w0 X ba aB s1 an aw av v
theorem Good.next {an:Nat->Value} {m:Sem Value} (h:Good C w0 F0 X an w m av s1):Next C w0 F0 X an w (do pure (.value (<-m))) av s1:=by
 obtain⟨v,aw,ba,aB,U,aa,ax⟩:=h;exact⟨.value v,aw,v,ba,aB,by simp[U],.inl rfl,aa,ax⟩
theorem Dy {an:Nat->Value} (h:bg w0 F0 X F S s an w) {fO:Bool} {x y:j} {dg g8:Value} {m:Sem Go.Next} (U:az w F s an x dg (λ_=>False)) (aa:az w F s an y g8 (λ_=>False))
  (he:(nn fO x y).map (λd=>(d,s))=some (av,s1)) (hm:m=(do pure (.value (<-if fO then Builtin.max2 dg g8 else Builtin.min2 dg g8)))):Next C w0 F0 X an w m av s1:=by
 simp only[Option.map_eq_some_iff,Prod.mk.injEq]at he;obtain⟨d,ad,rfl,rfl⟩:=he;unfold nn at ad;split at ad
 .rename_i a b;simp only[Option.some.injEq]at ad;subst ad;have aI:=lG U;have aR:=lG aa;subst aI aR;subst hm;refine⟨.value (.string ⟨⟨vw fO a b⟩⟩),w,_,F,S,?_,.inl rfl,h,.inl ⟨rfl,mn _⟩⟩;cases fO
  .simp only[Builtin.min2,Op.stringOp,tj,vw,Bool.false_eq_true,if_false];cases J:(Op.bytesLess a b||a==b)<;>simp[asBool]
  .simp only[Builtin.max2,Op.stringOp,tj,vw,if_true];cases J:Op.bytesLess a b<;>simp[asBool]
 .rename_i k a cN b;split at ad
  .rename_i ak;subst ak;simp only[Option.some.injEq]at ad;subst ad;have aI:=mm U;have aR:=mm aa;subst aI aR;subst hm;refine⟨.value (.int k (x7 fO a b)),w,_,F,S,?_,.inl rfl,h,.inl ⟨rfl,of_int _ _⟩⟩;cases fO<;>simp[Builtin.min2,Builtin.max2,x7]
  .cases ad
 .cases ad
theorem Dz (a4:C.dx) {an:Nat->Value} (h:bg w0 F0 X F S s an w) (c8:∀t,an t=a.tmps.getD t undef) {o:Oper} {bb:cZ} (R:cr o.op=some bb) (he:bs C s bb=some (av,s1)):
  Next C w0 F0 X an w (execOp a.eval o) av s1:=by
 obtain⟨dst,op,ty,pos,after,guard⟩:=o;simp only at R;cases op with
 |move x=>
  simp only[cr,Option.map_eq_some_iff]at R;obtain⟨cu,ae,rfl⟩:=R;obtain⟨aL,a0⟩:=dZ h c8 ae;simp only[bs,Option.some.injEq,Prod.mk.injEq]at he;obtain⟨rfl,rfl⟩:=he;exact⟨_,w,_,F,S,rfl,.inl rfl,h,.inl ⟨aL,a0⟩⟩
 |assign x=>
  simp only[cr,Option.map_eq_some_iff]at R;obtain⟨cu,ae,rfl⟩:=R;obtain⟨aL,a0⟩:=dZ h c8 ae;simp only[bs]at he;split at he
  .rename_i y q a_;rw[a_]at aL a0;obtain⟨bP,k0,bX,b6,Sn,cR,cI,d_,dD,hv,_⟩:=na h aL a0 he;exact⟨_,w,_,F,bP,rfl,.inl rfl,k0,.inr ⟨bX,b6,Sn,cR,cI,d_,dD,hv⟩⟩
  .simp only[Option.some.injEq,Prod.mk.injEq]at he;obtain⟨rfl,rfl⟩:=he;exact⟨_,w,_,F,S,rfl,.inl rfl,h,.inl ⟨aL,a0⟩⟩
 |pick c x y=>
  simp only[cr]at R;split at R
  .rename_i DA cu i1 ai ae a_;simp only[Option.some.injEq]at R;subst R;simp only[bs]at he;split at he
   .rename_i b J;simp only[Option.some.injEq,Prod.mk.injEq]at he;obtain⟨rfl,rfl⟩:=he;have ql:=(dZ h c8 ai).2;rw[J]at ql;have ql:=oX ql;obtain⟨ah,aC⟩:=dZ h c8 ae;obtain⟨fR,hi⟩:=dZ h c8 a_;refine⟨.value (if b then a.eval x else a.eval y),w,_,F,S,?_,.inl rfl,h,.inl ?_⟩
    .simp[execOp,ql,asBool]
    .cases b
     .exact⟨fR,hi⟩
     .exact⟨ah,aC⟩
   .cases he
  .cases R
 |alloc T=>
  simp only[cr,Option.some.injEq]at R;subst R;simp only[bs,Option.map_eq_some_iff,Prod.mk.injEq]at he;obtain⟨d,ad,rfl,rfl⟩:=he;exact(Jc a4 h ad).next
 |box T x=>
  simp only[cr,Option.map_eq_some_iff]at R;obtain⟨cu,ae,rfl⟩:=R;obtain⟨aL,a0⟩:=dZ h c8 ae;exact(Jg h aL a0 he).next
 |build T ps=>
  simp only[cr,Option.map_eq_some_iff]at R;obtain⟨Kk,ag,rfl⟩:=R;obtain⟨ps⟩:=ps;have:=(Kd a4 h (y0 h c8 ag) he).next;simpa [execOp]using this
 |buildSlice T n ps=>
  simp only[cr,Option.map_eq_some_iff]at R;obtain⟨Kk,ag,rfl⟩:=R;obtain⟨ps⟩:=ps;have:=(Kg a4 h (y0 h c8 ag) he).next;simpa [execOp]using this
 |load T x=>
  simp only[cr,Option.map_eq_some_iff]at R;obtain⟨cu,ae,rfl⟩:=R;obtain⟨aL,a0⟩:=dZ h c8 ae;simp only[bs,Option.map_eq_some_iff,Prod.mk.injEq]at he;obtain⟨d,ad,rfl,rfl⟩:=he;exact(I8 a4 h a0 ad).next
 |store T x y=>
  simp only[cr]at R;split at R
  .rename_i cu i1 ae a_;simp only[Option.some.injEq]at R;subst R;simp only[bs,Option.map_eq_some_iff,Prod.mk.injEq]at he;obtain⟨s2,ad,rfl,rfl⟩:=he;obtain⟨aw,aB,U,aa⟩:=Ja a4 h (dZ h c8 ae).2 (dZ h c8 a_).1 (dZ h c8 a_).2 ad;exact⟨.skip,aw,undef,F,aB,by simp[execOp,U],.inr ⟨rfl,rfl⟩,aa,.inl ⟨rfl,by rw[az];trivial⟩⟩
  .cases R
 |nilCheck x=>
  simp only[cr,Option.map_eq_some_iff]at R;obtain⟨cu,ae,rfl⟩:=R;obtain⟨aL,a0⟩:=dZ h c8 ae;simp only[bs,Option.map_eq_some_iff,Prod.mk.injEq]at he;obtain⟨d,ad,rfl,rfl⟩:=he;obtain⟨rfl,ag,aE⟩:=Ju h a0 ad;refine⟨.value (a.eval x),w,_,F,S,?_,.inl rfl,h,.inl ⟨ag,a0⟩⟩;rcases aE with⟨b,J⟩|⟨f,c,J⟩<;>simp[execOp,J]
 |binOp op T x y Ui=>
  simp only[cr]at R;split at R
  .rename_i cu i1 ae a_;simp only[Option.some.injEq]at R;subst R;simp only[bs,Option.map_eq_some_iff,Prod.mk.injEq]at he;obtain⟨d,ad,rfl,rfl⟩:=he;exact(Jr a4 h x y (dZ h c8 ae).2 (dZ h c8 a_).2 ad).next
  .cases R
 |unOp op T x=>
  simp only[cr,Option.map_eq_some_iff]at R;obtain⟨cu,ae,rfl⟩:=R;simp only[bs,Option.map_eq_some_iff,Prod.mk.injEq]at he;obtain⟨d,ad,rfl,rfl⟩:=he;exact(Js h (dZ h c8 ae).2 ad).next
 |convert A B x=>
  simp only[cr,Option.map_eq_some_iff]at R;obtain⟨cu,ae,rfl⟩:=R;simp only[bs,Option.map_eq_some_iff,Prod.mk.injEq]at he;obtain⟨d,ad,rfl,rfl⟩:=he;exact(JD a4 h (dZ h c8 ae).2 ad).next
 |makeFunc fn first cs=>
  cases fn with
  |func f=>
   simp only[cr]at R;split at R
   .rename_i Kl;simp only[Option.map_eq_some_iff]at R;obtain⟨o6,gD,rfl⟩:=R;simp only[bs,Option.some.injEq,Prod.mk.injEq]at he;obtain⟨rfl,rfl⟩:=he;have Km:first= #[]:=by simpa using Kl
    subst Km;refine⟨_,w,_,F,S,rfl,.inl rfl,h,.inl ⟨rfl,?_⟩⟩;rw[az];refine⟨cs.map a.eval,by simp,?_⟩;simpa using tz h c8 _ _ (n3 gD)
   .cases R
  |_=>simp[cr]at R
 |makeSlice T l c=>
  simp only[cr]at R;split at R
  .rename_i cu i1 ae a_;simp only[Option.some.injEq]at R;subst R;simp only[bs,Option.map_eq_some_iff,Prod.mk.injEq]at he;obtain⟨d,ad,rfl,rfl⟩:=he;exact(J4 a4 h (dZ h c8 ae).2 (dZ h c8 a_).2 ad).next
  .cases R
 |slice T x dE ay fO=>
  cases fO with
  |some m=>simp[cr]at R
  |none=>
   simp only[cr]at R;split at R
   .rename_i cu Uj DB ae kv lI;simp only[Option.some.injEq]at R;subst R;obtain⟨aL,a0⟩:=dZ h c8 ae;have opt:∀{o:Option Operand} {kY:Option aT},tF o=some kY->nY w F s an (kY.map (a6 s)) (o.map a.eval):=by
     intro o kY bk;cases o with
     |none=>simp[tF]at bk;subst bk;trivial
     |some o=>
      simp only[tF,Option.map_eq_some_iff]at bk;obtain⟨x,ae,rfl⟩:=bk;exact(dZ h c8 ae).2
    exact(JG a4 h aL a0 (opt kv) (opt lI) he).next
   .cases R
 |fieldAddr T x k=>
  simp only[cr,Option.map_eq_some_iff]at R;obtain⟨cu,ae,rfl⟩:=R;obtain⟨aL,a0⟩:=dZ h c8 ae;simp only[bs,Option.map_eq_some_iff,Prod.mk.injEq]at he;obtain⟨d,ad,rfl,rfl⟩:=he;exact(I2 a4 h aL a0 ad).next
 |indexAddr T x i=>
  simp only[cr]at R;split at R
  .rename_i cu i1 ae a_;simp only[Option.some.injEq]at R;subst R;simp only[bs,Option.map_eq_some_iff,Prod.mk.injEq]at he;obtain⟨d,ad,rfl,rfl⟩:=he;exact(I3 a4 h (dZ h c8 ae).2 (dZ h c8 a_).2 ad).next
  .cases R
 |index T x i=>
  simp only[cr]at R;split at R
  .rename_i cu i1 ae a_;simp only[Option.some.injEq]at R;subst R;simp only[bs,Option.map_eq_some_iff,Prod.mk.injEq]at he;obtain⟨d,ad,rfl,rfl⟩:=he;exact(JA a4 h (dZ h c8 ae).2 (dZ h c8 a_).2 ad).next
  .cases R
 |makeMap t r=>
  cases r with
  |none=>
   simp only[cr,Option.some.injEq]at R;subst R;simp only[bs,Option.some.injEq,Prod.mk.injEq]at he;obtain⟨rfl,rfl⟩:=he;exact(J3 h t).next
  |some r=>simp[cr]at R
 |lookup T x i c=>
  cases c with
  |true=>simp[cr]at R
  |false=>
   simp only[cr]at R;split at R
   .rename_i cu nP ae ay;simp only[Option.some.injEq]at R;subst R;simp only[bs,Option.map_eq_some_iff,Prod.mk.injEq]at he;obtain⟨d,ad,rfl,rfl⟩:=he;exact(J0 a4 h (dZ h c8 ae).2 (dZ h c8 ay).2 ad).next
   .cases R
 |mapUpdate T x i v=>
  simp only[cr]at R;split at R
  .rename_i cu nP dM ae ay aE;simp only[Option.some.injEq]at R;subst R;simp only[bs,Option.map_eq_some_iff,Prod.mk.injEq]at he;obtain⟨s2,ad,rfl,rfl⟩:=he;obtain⟨aw,aB,U,aa⟩:=J1 a4 h (dZ h c8 ae).2 (dZ h c8 ay).2 (dZ h c8 aE).2 ad;exact⟨.skip,aw,undef,F,aB,by simp[execOp,U],.inr ⟨rfl,rfl⟩,aa,.inl ⟨rfl,by rw[az];trivial⟩⟩
  .cases R
 |extract x k=>
  simp only[cr,Option.map_eq_some_iff]at R;obtain⟨cu,ae,rfl⟩:=R;simp only[bs,Option.map_eq_some_iff,Prod.mk.injEq]at he;obtain⟨d,ad,rfl,rfl⟩:=he;exact(Jx h (dZ h c8 ae).2 ad).next
 |field T x k=>
  simp only[cr,Option.map_eq_some_iff]at R;obtain⟨cu,ae,rfl⟩:=R;simp only[bs,Option.bind_eq_some_iff]at he;obtain⟨d,ad,he⟩:=he;obtain⟨v,aw,ba,aB,aG,jY,mg⟩:=Jy a4 h (dZ h c8 ae).2 ad;unfold tG at he;split at he
  .rename_i y q;have Kn:az aw ba s an (.h y q) v (λ_=>False):=by
    rcases mg with⟨_,a0⟩|⟨aL,_⟩
    .exact a0
    .cases aL
   obtain⟨bP,k0,bX,b6,Sn,cR,cI,d_,dD,hv,_⟩:=na jY rfl Kn he;exact⟨.value v,aw,v,ba,bP,by simp[execOp,aG],.inl rfl,k0,.inr ⟨bX,b6,Sn,cR,cI,d_,dD,hv⟩⟩
  .simp only[Option.some.injEq,Prod.mk.injEq]at he;obtain⟨rfl,rfl⟩:=he;exact⟨.value v,aw,v,ba,aB,by simp[execOp,aG],.inl rfl,jY,mg⟩
 |call c=>
  obtain⟨callee,args,argTypes⟩:=c;simp only[cr]at R;split at R
  .split at R
   .simp only[Option.some.injEq]at R;subst R;simp[bs]at he
   .cases R
  .split at R
   .rename_i x T i5 qm;simp only[Option.map_eq_some_iff]at R;obtain⟨cu,ae,rfl⟩:=R;simp only[bs,Option.map_eq_some_iff,Prod.mk.injEq]at he;obtain⟨d,ad,rfl,rfl⟩:=he;have:=(JB (ty:=ty) a4 h (dZ h c8 ae).2 ad).next;have aI:args= #[x]:=by apply Array.ext';exact i5
    have aR:argTypes= #[T]:=by apply Array.ext';exact qm
    subst aI aR;simpa [execOp,resolve,invoke,builtin]using this
   .cases R
  .split at R
   .rename_i x T i5 qm;simp only[Option.map_eq_some_iff]at R;obtain⟨cu,ae,rfl⟩:=R;simp only[bs]at he;split at he
    .rename_i e ak Ko;simp only[Option.some.injEq,Prod.mk.injEq]at he;obtain⟨rfl,rfl⟩:=he;have aE:=(dZ h c8 ae).2;rw[Ko]at aE;have:=nW aE;obtain⟨i,d,z,aI,aR,aX,bT,cb,bH,bx⟩:=a4.info (eQ ak (by simp));rw[ak]at bx;have ad:=jk bx;subst ad;have Kp:args= #[x]:=by apply Array.ext';exact i5
     have Kq:argTypes= #[T]:=by apply Array.ext';exact qm
     subst Kp Kq;have aG:(Builtin.cap_ #[T] ty #[a.eval x]).run C.P w= .ok (.int .i64 0) w:=by
      rw[this];simp[Builtin.cap_,run_underlying bH,goInt]
     have:=(Good.same (av:=.int .i64 0) h aG rfl (of_int _ _)).next;simpa [execOp,resolve,invoke,builtin]using this
    .cases he
   .cases R
  .split at R
   .rename_i x y i5;split at R
    .rename_i cu i1 ae a_;simp only[Option.some.injEq]at R;subst R;have aI:args= #[x,y]:=by apply Array.ext';exact i5
     subst aI;exact Dy h (dZ h c8 ae).2 (dZ h c8 a_).2 he (by simp[execOp,resolve,invoke,builtin,Builtin.min_])
    .cases R
   .cases R
  .split at R
   .rename_i x y i5;split at R
    .rename_i cu i1 ae a_;simp only[Option.some.injEq]at R;subst R;have aI:args= #[x,y]:=by apply Array.ext';exact i5
     subst aI;exact Dy h (dZ h c8 ae).2 (dZ h c8 a_).2 he (by simp[execOp,resolve,invoke,builtin,Builtin.max_])
    .cases R
   .cases R
  .split at R
   .rename_i x y T bR i5 qm;split at R
    .rename_i cu i1 ae a_;simp only[Option.some.injEq]at R;subst R;have:=(JQ (ty:=ty) a4 h (dZ h c8 ae).2 (dZ h c8 a_).2 he).next;have aI:args= #[x,y]:=by apply Array.ext';exact i5
     have aR:argTypes= #[T,bR]:=by apply Array.ext';exact qm
     subst aI aR;simpa [execOp,resolve,invoke,builtin]using this
    .cases R
   .cases R
  .cases R
 |_=>simp[cr]at R
end
mutual
def j.R:j->Vm
 | .h x _=>[x]
 | .ag x _=>[x]
 | .J x _=>[x]
 | .fn _ cap=>j.dh cap
 |_=>[]
def j.dh:Vr->Vm
 |[]=>[]
 |d::ds=>d.R++j.dh ds
end
inductive np where
 |no
 |bQ
 |b9
structure fo where
 k:np
 x:Nat
 d:j
def np.app (k:np) (x:Nat) (a:j):j:=match k with
 | .no=>a
 | .bQ=>cV.bQ x a
 | .b9=>cV.b9 x a
def fo.at (m:fo) (u:Nat) (a:j):j:=if u=m.x then m.d else m.k.app m.x a
def ij:List fo->Nat->j->j
 |[],_,a=>a
 |m::ms,u,a=>ij ms u (m.at u a)
def cP (ms:List fo) (s:af):af:=λu=>ij ms u (s u)
theorem DC:∀(ms i6:List fo) (u:Nat) (a:j),ij (ms++i6) u a=ij i6 u (ij ms u a)
 |[],_,_,_=>rfl
 |m::ms,i6,u,a=>by simp only[cons_append,ij];exact DC ms i6 u _
theorem j7 (ms i6:List fo) (s:af):cP (ms++i6) s=cP i6 (cP ms s):=by
 funext u;simp[cP,DC]
theorem Kr {ms:List fo} {s au:af} {u:Nat} (h:au u=s u):cP ms au u=cP ms s u:=by simp[cP,h]
theorem qn (s:af) (x:Nat) (d:j):cA (gz x s) x d=cP [⟨.bQ,x,d⟩] s:=by
 funext u;simp only[cP,ij,fo.at,cA,gz,np.app]
theorem DD (s:af) (x:Nat) (d:j):cA (ji x s) x d=cP [⟨.b9,x,d⟩] s:=by
 funext u;simp only[cP,ij,fo.at,cA,ji,np.app]
theorem DE (s:af) (x:Nat) (d:j):cA s x d=cP [⟨.no,x,d⟩] s:=by
 funext u;simp only[cP,ij,fo.at,cA,np.app]
mutual
theorem tH {x:Nat}:∀a:j,x∉a.R->bQ x a=a
 | .h y q,h=>by
   simp only[j.R,mem_singleton]at h;simp only[bQ];rw[if_neg (λe=>h e.symm)]
 | .ag y q,h=>by
   simp only[j.R,mem_singleton]at h;simp only[bQ];rw[if_neg (λe=>h e.symm)]
 | .J y q,h=>rfl
 | .fn f cap,h=>by simp only[bQ];rw[DF cap (by simpa [j.R]using h)]
 | .hole,_=>rfl
 | .bool _,_=>rfl
 | .dV,_=>rfl
 | .int _ _,_=>rfl
 | .str _,_=>rfl
 | .cW,_=>rfl
 | .aK,_=>rfl
 | .slice _,_=>rfl
 | .aq _ _,_=>rfl
 | .ref _,_=>rfl
 | .aS _,_=>rfl
 | .agg _,_=>rfl
 | .tuple _,_=>rfl
 | .cY _,_=>rfl
 | .br _ _,_=>rfl
theorem DF {x:Nat}:∀ds:Vr,x∉j.dh ds->g7 x ds=ds
 |[],_=>rfl
 |d::ds,h=>by
  simp only[j.dh,mem_append,not_or]at h;simp only[g7];rw[tH d h.1,DF ds h.2]
end
mutual
theorem y1 {x:Nat}:∀a:j,x∉a.R->b9 x a=a
 | .h y q,h=>by
   simp only[j.R,mem_singleton]at h;simp only[b9];rw[if_neg (λe=>h e.symm)]
 | .ag y q,h=>by
   simp only[j.R,mem_singleton]at h;simp only[b9];rw[if_neg (λe=>h e.symm)]
 | .J y q,h=>by
   simp only[j.R,mem_singleton]at h;simp only[b9];rw[if_neg (λe=>h e.symm)]
 | .fn f cap,h=>by simp only[b9];rw[DG cap (by simpa [j.R]using h)]
 | .hole,_=>rfl
 | .bool _,_=>rfl
 | .dV,_=>rfl
 | .int _ _,_=>rfl
 | .str _,_=>rfl
 | .cW,_=>rfl
 | .aK,_=>rfl
 | .slice _,_=>rfl
 | .aq _ _,_=>rfl
 | .ref _,_=>rfl
 | .aS _,_=>rfl
 | .agg _,_=>rfl
 | .tuple _,_=>rfl
 | .cY _,_=>rfl
 | .br _ _,_=>rfl
theorem DG {x:Nat}:∀ds:Vr,x∉j.dh ds->hq x ds=ds
 |[],_=>rfl
 |d::ds,h=>by
  simp only[j.dh,mem_append,not_or]at h;simp only[hq];rw[y1 d h.1,DG ds h.2]
end
theorem tI {k:np} {x:Nat} {a:j} (h:k= .no\/x∉a.R):k.app x a=a:=by
 cases k with
 |no=>rfl
 |bQ=>exact tH a (by simpa using h)
 |b9=>exact y1 a (by simpa using h)
mutual
theorem DH (x y:Nat):∀a:j,bQ x (bQ y a)=bQ y (bQ x a)
 | .h z q=>by simp only[bQ];by_cases U:z=x<;>by_cases aa:z=y<;>by_cases ax:q=[]<;>simp[U,aa,ax,bQ]<;>(subst_vars;simp_all [bQ])
 | .ag z q=>by simp only[bQ];by_cases U:z=x<;>by_cases aa:z=y<;>simp[U,aa,bQ]<;>(subst_vars;simp_all [bQ])
 | .J z q=>rfl
 | .fn f cap=>by simp only[bQ];rw[DI x y cap]
 | .hole=>rfl
 | .bool _=>rfl
 | .dV=>rfl
 | .int _ _=>rfl
 | .str _=>rfl
 | .cW=>rfl
 | .aK=>rfl
 | .slice _=>rfl
 | .aq _ _=>rfl
 | .ref _=>rfl
 | .aS _=>rfl
 | .agg _=>rfl
 | .tuple _=>rfl
 | .cY _=>rfl
 | .br _ _=>rfl
theorem DI (x y:Nat):∀ds:Vr,g7 x (g7 y ds)=g7 y (g7 x ds)
 |[]=>rfl
 |d::ds=>by simp only[g7];rw[DH x y d,DI x y ds]
end
mutual
theorem DJ (x y:Nat):∀a:j,b9 x (b9 y a)=b9 y (b9 x a)
 | .h z q=>by simp only[b9];by_cases U:z=x<;>by_cases aa:z=y<;>simp[U,aa,b9]<;>(subst_vars;simp_all [b9])
 | .ag z q=>by simp only[b9];by_cases U:z=x<;>by_cases aa:z=y<;>simp[U,aa,b9]<;>(subst_vars;simp_all [b9])
 | .J z q=>by simp only[b9];by_cases U:z=x<;>by_cases aa:z=y<;>simp[U,aa,b9]<;>(subst_vars;simp_all [b9])
 | .fn f cap=>by simp only[b9];rw[DK x y cap]
 | .hole=>rfl
 | .bool _=>rfl
 | .dV=>rfl
 | .int _ _=>rfl
 | .str _=>rfl
 | .cW=>rfl
 | .aK=>rfl
 | .slice _=>rfl
 | .aq _ _=>rfl
 | .ref _=>rfl
 | .aS _=>rfl
 | .agg _=>rfl
 | .tuple _=>rfl
 | .cY _=>rfl
 | .br _ _=>rfl
theorem DK (x y:Nat):∀ds:Vr,hq x (hq y ds)=hq y (hq x ds)
 |[]=>rfl
 |d::ds=>by simp only[hq];rw[DJ x y d,DK x y ds]
end
mutual
theorem y2 (x y:Nat):∀a:j,bQ x (b9 y a)=b9 y (bQ x a)
 | .h z q=>by simp only[b9,bQ];by_cases U:z=x<;>by_cases aa:z=y<;>by_cases ax:q=[]<;>simp[U,aa,ax,b9,bQ]<;>(subst_vars;simp_all [b9,bQ])
 | .ag z q=>by simp only[b9,bQ];by_cases U:z=x<;>by_cases aa:z=y<;>simp[U,aa,b9,bQ]<;>(subst_vars;simp_all [b9,bQ])
 | .J z q=>by simp only[b9,bQ];by_cases aa:z=y<;>simp[aa,bQ]
 | .fn f cap=>by simp only[b9,bQ];rw[DL x y cap]
 | .hole=>rfl
 | .bool _=>rfl
 | .dV=>rfl
 | .int _ _=>rfl
 | .str _=>rfl
 | .cW=>rfl
 | .aK=>rfl
 | .slice _=>rfl
 | .aq _ _=>rfl
 | .ref _=>rfl
 | .aS _=>rfl
 | .agg _=>rfl
 | .tuple _=>rfl
 | .cY _=>rfl
 | .br _ _=>rfl
theorem DL (x y:Nat):∀ds:Vr,g7 x (hq y ds)=hq y (g7 x ds)
 |[]=>rfl
 |d::ds=>by simp only[hq,g7];rw[y2 x y d,DL x y ds]
end
theorem Ks (k l:np) (x y:Nat) (a:j):k.app x (l.app y a)=l.app y (k.app x a):=by
 cases k<;>cases l<;>simp only[np.app]<;>first|rfl|exact DH .. |exact DJ .. |exact y2 .. |exact(y2 ..).symm
def aT.use (s:af):aT->Vm
 | .t n=>n::(s n).R
 | .c av=>av.R
 | .f _=>[]
def aT.mw (s:af):List aT->Vm
 |[]=>[]
 |x::xs=>x.use s++aT.mw s xs
def y3 (s:af):Option aT->Vm
 |none=>[]
 |some x=>x.use s
def use (s:af):cZ->Vm
 | .g5 x=>x.use s
 | .j6 x=>x.use s
 | .pick c a b=>c.use s++(a.use s++b.use s)
 | .j1 _=>[]
 | .g4 _ x=>x.use s
 | .fb _ ps=>aT.mw s (ps.map (·.2))
 | .e6 _ _ ps=>aT.mw s (ps.map (·.2))
 | .ey _ x=>x.use s
 | .ie _ x y=>x.use s++y.use s
 | .ht x=>x.use s
 | .eb _ _ x y=>x.use s++y.use s
 | .un _ x=>x.use s
 | .hg _ _ x=>x.use s
 | .lN _ cs=>aT.mw s cs
 | .dO _ l c=>l.use s++c.use s
 | .eY _ x dE ay=>x.use s++(y3 s dE++y3 s ay)
 | .gQ _ x _=>x.use s
 | .hJ _ x i=>x.use s++i.use s
 | .idx _ x i=>x.use s++i.use s
 | .ex x _=>x.use s
 | .j3 _ x _=>x.use s
 | .call f args=>f.use s++aT.mw s args
 | .len _ x=>x.use s
 | .app _ _ x y=>x.use s++y.use s
 | .shr bb=>use s bb
 | .jm f args us=>us.flatMap (λu=>u::(s u).R)++(f.use s++aT.mw s args)
 | .hs _ x=>x.use s
 | .tE=>[]
 | .lM _ x i=>x.use s++i.use s
 | .ky _ x i v=>x.use s++(i.use s++v.use s)
 | .hL _ _ x y=>x.use s++y.use s
 | .cap _ x=>x.use s
 | .nn _ x y=>x.use s++y.use s
 | .bad=>[]
def j8 (s:af):cZ->Vm
 | .j6 x=>(a6 s x).R
 | .g4 _ x=>(a6 s x).R
 | .fb _ ps=>j.dh (ps.map λp=>a6 s p.2)
 | .e6 _ _ ps=>j.dh (ps.map λp=>a6 s p.2)
 | .ie _ x y=>(a6 s x).R++(a6 s y).R
 | .j3 _ x _=>(a6 s x).R
 | .ky _ x _ _=>(a6 s x).R
 | .eY _ x _ _=>(a6 s x).R
 | .app _ _ x y=>(a6 s x).R++(a6 s y).R
 | .shr bb=>j8 s bb
 |_=>[]
def cL (bR:Vm) (au s:af):Prop:=∀u∈bR,au u=s u
theorem cL.left {bR V:Vm} {au s:af} (h:cL (bR++V) au s):cL bR au s:=λu hu=>h u (mem_append_left _ hu)
theorem cL.right {bR V:Vm} {au s:af} (h:cL (bR++V) au s):cL V au s:=λu hu=>h u (mem_append_right _ hu)
theorem cL.cP {bR:Vm} {au s:af} (h:cL bR au s) (ms:List fo):cL bR (cP ms au) (cP ms s):=λu hu=>Kr (h u hu)
theorem cL.sub {bR V:Vm} {au s:af} (h:cL bR au s) (R:∀u∈V,u∈bR):cL V au s:=λu hu=>h u (R u hu)
theorem aT.qo {s:af} {x:aT}:∀u∈(a6 s x).R,u∈x.use s:=by
 intro u hu;cases x with
 |t n=>
  simp only[a6,mh]at hu;split at hu
  .simp[aT.use,hu]
  .simp only[j.R,mem_singleton]at hu;simp[aT.use,hu]
 |c av=>exact hu
 |f g=>simp[a6,j.R,j.dh]at hu
theorem aT.eF {s au:af} {x:aT} (h:cL (x.use s) au s):a6 au x=a6 s x:=by
 cases x with
 |t n=>simp only[a6];rw[h n (by simp[aT.use])]
 |c av=>rfl
 |f g=>rfl
theorem cL.a6 {s au:af} {x:aT} (h:cL (x.use s) au s):cL (a6 s x).R au s:=h.sub aT.qo
theorem DM {s au:af} {x:Option aT} (h:cL (y3 s x) au s):x.map (a6 au)=x.map (a6 s):=by
 cases x with
 |none=>rfl
 |some x=>simp only[Option.map_some];rw[aT.eF h]
theorem aT.y4 {s au:af}:∀{xs:List aT},cL (aT.mw s xs) au s->xs.map (a6 au)=xs.map (a6 s)
 |[],_=>rfl
 |x::xs,h=>by
  simp only[map_cons];rw[aT.eF (h.left),aT.y4 (h.right)]
theorem aT.y5 {s au:af}:∀{ps:List (Nat×aT)},cL (aT.mw s (ps.map (·.2))) au s->(ps.map λp=>(p.1,a6 au p.2))=ps.map λp=>(p.1,a6 s p.2)
 |[],_=>rfl
 |x::xs,h=>by
  simp only[map_cons]at h⊢;rw[aT.eF (h.left),aT.y5 (h.right)]
theorem aT.vZ {s:af}:∀{xs:List aT},∀u∈j.dh (xs.map (a6 s)),u∈aT.mw s xs
 |[],u,h=>by simp[j.dh]at h
 |x::xs,u,h=>by
  simp only[map_cons,j.dh,mem_append]at h;simp only[aT.mw,mem_append];exact h.imp (aT.qo u) (aT.vZ u)
section
variable {C:bI} {s au:af} {x y i:j} {T A B:TypeId}
theorem y6 (h:cL x.R au s):loc au x=loc s x:=by
 cases x<;>first
  |rfl
  |(simp only[loc];rw[h _ (by simp[j.R])])
theorem y7 {z:Nat} {q:Vm} (h:loc s x=some (z,q)):z∈x.R:=by
 cases x with
 |h y p=>
  simp only[loc]at h;split at h
  .simp only[Option.some.injEq,Prod.mk.injEq]at h;simp[j.R,h.1]
  .cases h
 |ag y p=>
  simp only[loc]at h;split at h
  .simp only[Option.some.injEq,Prod.mk.injEq]at h;simp[j.R,h.1]
  .cases h
 |_=>simp[loc]at h
theorem Kt (h:cL x.R au s):ey C au T x=ey C s T x:=by
 have hl:=y6 h;unfold ey;split
 .rfl
 .rw[h _ (by simp[j.R])]
 .rw[hl];split
  .rename_i e;rw[h _ (y7 e)]
  .rfl
theorem Ku {k:Nat} (h:cL x.R au s):gQ C au T x k=gQ C s T x k:=by
 have hl:=y6 h;unfold gQ;split
 .split
  .split
   .split
    .rfl
    .rw[h _ (by simp[j.R])]
    .rw[hl];split
     .rename_i e;rw[h _ (y7 e)]
     .rfl
   .rfl
  .rfl
 .rfl
theorem Kv (h:cL x.R au s):hJ C au T x i=hJ C s T x i:=by
 cases x<;>first
  |rfl
  |(simp only[hJ];rw[h _ (by simp[j.R])])
theorem Kw (h:cL x.R au s):nX C au T x=nX C s T x:=by
 unfold nX;cases(C.T T).k<;>cases x<;>first
  |rfl
  |(simp only;rw[h _ (by simp[j.R])])
theorem Kx (h:cL x.R au s):hg C au A B x=hg C s A B x:=by
 unfold hg;cases(C.T B).k<;>cases x<;>first
  |rfl
  |(simp only;rw[h _ (by simp[j.R])])
theorem Ky (h:cL x.R au s):h0 au x=h0 s x:=by
 cases x<;>first
  |rfl
  |(simp only[h0];rw[h _ (by simp[j.R])])
theorem Kz (h:cL x.R au s):jl au x=jl s x:=by
 cases x<;>first
  |rfl
  |(simp only[jl];rw[h _ (by simp[j.R])])
theorem KA {op:BinOp} (h:cL x.R au s):eb C au op T x y=eb C s op T x y:=by
 have U:=Ky h;have aa:=Kz h;unfold eb;split<;>first|rfl|simp only[U,aa]
theorem KB (h:cL x.R au s):ht au x=ht s x:=by
 cases x<;>first
  |rfl
  |(simp only[ht];rw[h _ (by simp[j.R])])
theorem KC {k y:Nat} {q:Vm} (h:j3 C s T x k=some (.h y q)):x.R=[y]:=by
 unfold j3 at h;split at h<;>try (cases h;done)
 split at h<;>try (cases h;done)
 split at h
 .split at h<;>try (cases h;done)
  split at h
  .rename_i ai;simp only[Option.some.injEq]at h;rw[h]at ai;exact absurd ai.2.2.2 (by simp[j.tree])
  .cases h
 .split at h<;>try (cases h;done)
  split at h<;>try (cases h;done)
  split at h<;>try (cases h;done)
  rename_i d ad ai;by_cases ag:d.plain=true
  .simp only[ag,if_true,Option.some.injEq]at h;rw[h]at ai;exact absurd ai.2.2.2 (by simp[j.tree])
  .simp only[ag,Option.some.injEq]at h;injection h with U aa;subst U;rfl
 .cases h
theorem DN {k:Nat} (h:cL x.R au s):j3 C au T x k=j3 C s T x k:=by
 unfold j3;split<;>try rfl
 split<;>try rfl
 cases x<;>first
  |rfl
  |(simp only[];rw[h _ (by simp[j.R])])
theorem KD {k:Nat} (h:cL x.R au s):ex au x k=ex s x k:=by
 cases x<;>first
  |rfl
  |(simp only[ex];rw[h _ (by simp[j.R])])
theorem rV:∀(q:Vm) (a d e:j),j.sub q a=some d->(d.plain=false\/q≠[])->(q=[]->e.R=[])->(j.put q e a).R=[]:=by
 intro q a d e h ag he;cases q with
 |nil=>rw[j.put];exact he rfl
 |cons k q=>
  cases a<;>first
   |(simp[j.sub]at h;done)
   |skip
  all_goals
   unfold j.put
   repeat' split
   all_goals first|rfl|(simp_all;done)
end
def Loc {α:Type} (bR rW:Vm) (f:af->Option (α×af)) (s:af) (av:α) (s1:af):Prop:=
 ∃ms,s1=cP ms s/\(∀m∈ms,m.x∈rW/\m.d.R=[])/\∀au,cL bR au s->f au=some (av,cP ms au)
theorem Loc.pure {α:Type} {bR rW:Vm} {f:af->Option (α×af)} {s:af} {av:α} (h:∀au,cL bR au s->f au=some (av,au)):Loc bR rW f s av s:=
 ⟨[],rfl,by simp,λau R=>h au R⟩
theorem Loc.mono {α:Type} {bR rW v3 DO:Vm} {f:af->Option (α×af)} {s s1:af} {av:α} (h:Loc bR rW f s av s1) (nm:∀u∈bR,u∈v3) (gA:∀u∈rW,u∈DO):Loc v3 DO f s av s1:=by
 obtain⟨ms,U,aa,ax⟩:=h;exact⟨ms,U,λm hm=>⟨gA _ (aa m hm).1,(aa m hm).2⟩,λau R=>ax au (R.sub nm)⟩
section
variable {C:bI} {s s1:af} {x y d:j} {T A B:TypeId}
theorem o7 (h:cc s x=some (d,s1)):Loc x.R x.R (λs=>cc s x) s d s1:=by
 cases x with
 |h y q=>
  simp only[cc]at h;split at h
  .rename_i e he;split at h
   .cases h
   .rename_i ag;simp only[Option.some.injEq,Prod.mk.injEq]at h;obtain⟨rfl,rfl⟩:=h;have ag:e.plain=false:=by simpa using ag
    refine⟨[⟨.bQ,y,j.put q e.cj (s y)⟩],qn _ _ _,?_,?_⟩
    .intro m hm;simp only[mem_singleton]at hm;subst hm;refine⟨by simp[j.R],rV q _ _ _ he (.inl ag) λb2=>?_⟩;subst b2;cases e<;>first|(simp[j.plain]at ag;done)|rfl
    .intro au R;have aI:au y=s y:=R y (by simp[j.R]);simp only[cc,aI,he,ag];rw[<-qn];rfl
  .cases h
 |ag y q=>simp[cc]at h
 |J y q=>simp[cc]at h
 |fn f c=>simp[cc]at h
 |hole=>simp[cc]at h
 |_=>
  simp only[cc,Option.some.injEq,Prod.mk.injEq]at h;obtain⟨rfl,rfl⟩:=h;exact .pure λau _=>rfl
mutual
theorem DP (x:Nat):∀a:j,∀u∈(bQ x a).R,u∈a.R
 | .h y q,u,h=>by
   simp only[bQ]at h;split at h
   .split at h
    .exact h
    .simp[j.R]at h
   .exact h
 | .ag y q,u,h=>by
   simp only[bQ]at h;split at h
   .simp[j.R]at h
   .exact h
 | .J y q,u,h=>h
 | .fn f cap,u,h=>by simp only[bQ,j.R]at h⊢;exact DQ x cap u h
 | .hole,u,h=>h
 | .bool _,u,h=>h
 | .dV,u,h=>h
 | .int _ _,u,h=>h
 | .str _,u,h=>h
 | .cW,u,h=>h
 | .aK,u,h=>h
 | .slice _,u,h=>h
 | .aq _ _,u,h=>h
 | .ref _,u,h=>h
 | .aS _,u,h=>h
 | .agg _,u,h=>h
 | .tuple _,u,h=>h
theorem DQ (x:Nat):∀ds:Vr,∀u∈j.dh (g7 x ds),u∈j.dh ds
 |[],u,h=>h
 |d::ds,u,h=>by
  simp only[g7,j.dh,mem_append]at h⊢;exact h.imp (DP x d u) (DQ x ds u)
end
theorem y8 (o:Option Nat) (a:j):∀u∈(iS o a).R,u∈a.R:=by
 intro u h;cases o with
 |none=>exact h
 |some x=>exact DP x a u h
theorem DR:∀(os:List (Option Nat)) (a:j),∀u∈(i4 os a).R,u∈a.R:=by
 intro os;induction os with
 |nil=>intro a u h;exact h
 |cons o os ih=>intro a u h;exact y8 o a u (ih (iS o a) u h)
theorem DS {place:Nat->Option (Nat×Nat)}:∀{ps:Vq} {s s1:af} {dz ds:Vr} {os:List (Option Nat)},iI place s dz os ps=some (ds,s1)->
  Loc (j.dh (ps.map (·.2))) (j.dh (ps.map (·.2))) (λs=>iI place s dz os ps) s ds s1:=by
 intro ps;induction ps with
 |nil=>
  intro s s1 dz ds os h;simp only[iI,Option.some.injEq,Prod.mk.injEq]at h;obtain⟨rfl,rfl⟩:=h;exact .pure λau _=>rfl
 |cons p ps ih=>
  intro s s1 dz ds os h;obtain⟨k,a⟩:=p;simp only[iI]at h;split at h
  .rename_i d s2 off n z aO eP bC;split at h
   .cases h
   .rename_i a8 kz;split at h
    .rename_i ai;obtain⟨mx,rfl,aa,ax⟩:=o7 aO;obtain⟨o4,rfl,a9,bU⟩:=ih h;refine⟨mx++o4,(j7 _ _ _).symm,?_,?_⟩
     .intro m hm;simp only[map_cons,j.dh,mem_append]at hm⊢;rcases hm with hm|hm
      .exact⟨.inl (DR _ _ _ (aa m hm).1),(aa m hm).2⟩
      .exact⟨.inr (a9 m hm).1,(a9 m hm).2⟩
     .intro au R;simp only[map_cons,j.dh]at R;have aI:=ax au (R.left.sub (DR _ _));have aR:=bU (cP mx au) (R.right.cP mx);simp only at aI aR;simp only[iI,aI,eP,bC,j7];rw[if_pos ai];exact aR
    .cases h
  .cases h
theorem KE {ps:Vq} {av:j} (h:fb C s T ps=some (av,s1)):Loc (j.dh (ps.map (·.2))) (j.dh (ps.map (·.2))) (λs=>fb C s T ps) s av s1:=by
 unfold fb at h;split at h
 .rename_i al dz ak bC;split at h
  .rename_i ai;split at h
   .rename_i ds s2 bd;simp only[Option.some.injEq,Prod.mk.injEq]at h;obtain⟨rfl,rfl⟩:=h;obtain⟨ms,U,aa,ax⟩:=DS bd;refine⟨ms,U,aa,λau R=>?_⟩;have:=ax au R;simp only at this;simp only[fb,ak,bC,if_pos ai,this]
   .cases h
  .cases h
 .cases h
theorem KF {n:Nat} {ps:Vq} {av:j} (h:e6 C s T n ps=some (av,s1)):Loc (j.dh (ps.map (·.2))) (j.dh (ps.map (·.2))) (λs=>e6 C s T n ps) s av s1:=by
 unfold e6 at h;split at h
 .rename_i e ak;split at h
  .rename_i ai;split at h
   .rename_i ds s2 bd;simp only[Option.some.injEq,Prod.mk.injEq]at h;obtain⟨rfl,rfl⟩:=h;obtain⟨ms,U,aa,ax⟩:=DS bd;refine⟨ms,U,aa,λau R=>?_⟩;have:=ax au R;simp only at this;simp only[e6,ak,if_pos ai,this]
   .cases h
  .cases h
 .cases h
theorem KG {av:j} (h:g4 s x=some (av,s1)):Loc x.R x.R (λs=>g4 s x) s av s1:=by
 unfold g4 at h;split at h
 .cases h
 .rename_i d s2 kz aO;simp only[Option.some.injEq,Prod.mk.injEq]at h;obtain⟨rfl,rfl⟩:=h;obtain⟨ms,U,aa,ax⟩:=o7 aO;refine⟨ms,U,aa,λau R=>?_⟩;have:=ax au R;simp only at this;simp only[g4,this]
 .cases h
theorem KH {av:j} (h:hs s x=some (av,s1)):Loc x.R [] (λs=>hs s x) s av s1:=by
 unfold hs at h;split at h
 .rename_i y q;split at h
  .rename_i ds kV;split at h
   .cases h
   .rename_i th;simp only[Option.some.injEq,Prod.mk.injEq]at h;obtain⟨rfl,rfl⟩:=h;refine .pure λau R=>?_;have e:au y=s y:=R y (by simp[j.R]);simp only[hs,e,kV,if_neg th]
  .cases h
 .split at h
  .rename_i ai;simp only[Option.some.injEq,Prod.mk.injEq]at h;obtain⟨rfl,rfl⟩:=h;exact .pure λau R=>by simp only[hs,ai,if_true]
  .cases h
 .cases h
theorem KI {s2:af} (h:ie C s T x y=some s2):Loc (x.R++y.R) (x.R++y.R) (λs=>(ie C s T x y).map λs1=>(j.hole,s1)) s .hole s2:=by
 unfold ie at h;split at h
 .rename_i d s1 z q aO hl;obtain⟨ms,U,aa,ax⟩:=o7 aO;have bC:=y7 hl;have b2:q≠[]:=by
   cases x with
   |h y p=>
    simp only[loc]at hl;split at hl
    .simp only[Option.some.injEq,Prod.mk.injEq]at hl;simp[<-hl.2]
    .cases hl
   |ag y p=>
    simp only[loc]at hl;split at hl
    .rename_i mj;simp only[Option.some.injEq,Prod.mk.injEq]at hl;obtain⟨rfl,rfl⟩:=hl;intro e;subst e;simp[j.eu]at mj
    .cases hl
   |_=>simp[loc]at hl
  split at h
  .cases h
  .rename_i a8 kz;split at h
   .rename_i d0 kt;split at h
    .rename_i ai;simp only[Option.some.injEq]at h;subst h;refine⟨ms++[⟨.bQ,z,j.put q d (s z)⟩],?_,?_,?_⟩
     .rw[j7,<-U,qn]
     .intro m hm;simp only[mem_append,mem_singleton]at hm⊢;rcases hm with hm|rfl
      .exact⟨.inr (aa m hm).1,(aa m hm).2⟩
      .exact⟨.inl bC,rV q _ _ _ kt (.inr b2) λe=>(b2 e).elim⟩
     .intro au R;have aI:=ax au R.right;simp only at aI;simp only[ie,aI,y6 R.left,hl,R.left z bC,kt];cases d<;>first|(simp only[if_pos ai,Option.map_some,j7,qn];done)|exact(kz _ rfl).elim
    .cases h
   .cases h
 .cases h
theorem KJ {dE ay:Option j} {av:j} (h:eY C s T x dE ay=some (av,s1)):Loc x.R x.R (λs=>eY C s T x dE ay) s av s1:=by
 cases x with
 |h y q=>
  unfold eY at h;split at h<;>first|(cases h;done)|skip
  all_goals (rename_i ae;try cases ae)
  rename_i e ak;split at h
  .rename_i sz xs dX;split at h
   .rename_i b kv lI;split at h
    .rename_i ai;split at h
     .rename_i d s2 aO;simp only[Option.some.injEq,Prod.mk.injEq]at h;obtain⟨rfl,rfl⟩:=h;obtain⟨ms,U,aa,ax⟩:=o7 aO;refine⟨ms,U,aa,λau R=>?_⟩;have:=ax au R;simp only at this;have aI:au y=s y:=R y (by simp[j.R]);simp only[eY,ak,aI,dX,kv,lI,if_pos ai,this]
     .cases h
    .cases h
   .cases h
  .cases h
 |_=>
  have n4:s1=s:=by
   unfold eY at h
   repeat' split at h
   all_goals first|(cases h;done)|(simp only[Option.some.injEq,Prod.mk.injEq]at h;exact h.2.symm)|simp_all
  subst n4;refine .pure λau _=>?_;unfold eY at h⊢
  repeat' split at h
  all_goals first
   |(cases h;done)
   |(simp only[Option.some.injEq,Prod.mk.injEq]at h
     obtain⟨rfl,_⟩:=h;simp_all)
def nq (C:bI) (e:TypeId) (s:af):j->Option (j×af)
 | .aK=>some (j.aq (C.T e).sz [],s)
 | .h a q=>cc s (.h a q)
 |_=>none
def jn (s1:af):j->Option (Vr×af)
 | .aK=>some ([],s1)
 | .slice ys=>some (ys,s1)
 | .str l=>some (l.map i2,s1)
 | .h a q=>match cc s1 (.h a q)with
   |some (.aq _ ys,s2)=>some (ys,s2)
   |_=>none
 |_=>none
theorem y9 (C:bI) (s:af) (T bR:TypeId) (x y:j):n0 C s T bR x y=(match(C.T T).k with
 | .slice e=>if(C.T e).ok=true/\(C.T e).zero.wd=(C.T e).sz/\(flat (C.T e).zero).isSome=true/\vO C e bR=true then
   match nq C e s x with
   |some (.aq sz xs,s1)=>if sz=(C.T e).sz then
     match jn s1 (iS x.owner y)with
     |some (ys,s2)=>if(∀d∈ys,d.wd=(C.T e).sz)/\(xs.length+ys.length)*(C.T e).bytes<=140737488355328/\xs.length+ys.length<=9223372036854775807 then some (.aq sz (xs++ys),s2)else none
     |none=>none
    else none
   |_=>none
   else none
 |_=>none):=by
 unfold n0;generalize iS x.owner y=i1;cases(C.T T).k<;>first
  |rfl
  |(cases x<;>cases i1<;>rfl)
theorem KK {e:TypeId} {d:j} (U:nq C e s x=some (d,s1)):Loc x.R x.R (λs=>nq C e s x) s d s1:=by
 cases x with
 |aK=>
  simp only[nq,Option.some.injEq,Prod.mk.injEq]at U;obtain⟨U,rfl⟩:=U;exact .pure λau _=>by simp only[nq,U]
 |h a q=>exact o7 U
 |_=>simp[nq]at U
theorem KL {ys:Vr} (aa:jn s y=some (ys,s1)):Loc y.R y.R (λs=>jn s y) s ys s1:=by
 cases y with
 |aK=>
  simp only[jn,Option.some.injEq,Prod.mk.injEq]at aa;obtain⟨rfl,rfl⟩:=aa;exact .pure λau _=>rfl
 |slice ys=>
  simp only[jn,Option.some.injEq,Prod.mk.injEq]at aa;obtain⟨rfl,rfl⟩:=aa;exact .pure λau _=>rfl
 |str l=>
  simp only[jn,Option.some.injEq,Prod.mk.injEq]at aa;obtain⟨rfl,rfl⟩:=aa;exact .pure λau _=>rfl
 |h a q=>
  simp only[jn]at aa;split at aa
  .rename_i JS Uk jC aO;simp only[Option.some.injEq,Prod.mk.injEq]at aa;obtain⟨rfl,rfl⟩:=aa;obtain⟨ms,aL,a0,bK⟩:=o7 aO;refine⟨ms,aL,a0,λau R=>?_⟩;have:=bK au R;simp only at this;simp only[jn,this]
  .cases aa
 |_=>simp[jn]at aa
theorem KM {av:j} (h:n0 C s T A x y=some (av,s1)):Loc (x.R++y.R) (x.R++y.R) (λs=>n0 C s T A x y) s av s1:=by
 rw[y9]at h;split at h
 .rename_i e ak;split at h
  .rename_i ai;split at h
   .rename_i sz xs s2 U;split at h
    .rename_i df;split at h
     .rename_i ys iK aa;split at h
      .rename_i p7;simp only[Option.some.injEq,Prod.mk.injEq]at h;obtain⟨rfl,rfl⟩:=h;obtain⟨mx,rfl,bw,fG⟩:=KK U;obtain⟨o4,rfl,gl,h1⟩:=(KL aa).mono (y8 _ _) (y8 _ _);refine⟨mx++o4,(j7 _ _ _).symm,?_,?_⟩
       .intro m hm;simp only[mem_append]at hm⊢;rcases hm with hm|hm
        .exact⟨.inl (bw m hm).1,(bw m hm).2⟩
        .exact⟨.inr (gl m hm).1,(gl m hm).2⟩
       .intro au R;have aI:=fG au R.left;have aR:=h1 (cP mx au) (R.right.cP mx);simp only at aI aR;simp only[y9,ak,if_pos ai,aI,if_pos df,aR,if_pos p7,j7]
      .cases h
     .cases h
    .cases h
   .cases h
  .cases h
 .cases h
theorem KN {au:af} {i:j} (h:cL x.R au s):lM C au T x i=lM C s T x i:=by
 cases x with
 |h y q=>cases i<;>simp only[lM,h y (by simp[j.R])]
 |_=>rfl
theorem KO {i v:j} {s2:af} (h:ky C s T x i v=some s2):Loc x.R x.R (λs=>(ky C s T x i v).map λs1=>(j.hole,s1)) s .hole s2:=by
 unfold ky at h;split at h
 .rename_i y q k b;split at h
  .rename_i m ad;split at h
   .rename_i gA;simp only[Option.some.injEq]at h;subst h;refine⟨[⟨.bQ,y,j.put q (.cY (.mp (m8 k b m))) (s y)⟩],qn _ _ _,?_,λau R=>?_⟩
    .intro n a2;simp only[mem_singleton]at a2;subst a2;exact⟨by simp[j.R],rV q _ _ _ ad (.inl rfl) λ_=>rfl⟩
    .have aI:au y=s y:=R y (by simp[j.R]);simp only[ky,aI,ad,gA,if_true,Option.map_some];rw[<-qn]
   .cases h
  .cases h
 .cases h
theorem DT {bb:cZ} {av:j} (h:bs C s bb=some (av,s1)):Loc (use s bb) (j8 s bb) (λs=>bs C s bb) s av s1:=by
 cases bb with
 |shr bb=>simp[bs]at h
 |jm f args L=>simp[bs]at h
 |hs T x=>
  obtain⟨ms,U,aa,ax⟩:=KH h;refine⟨ms,U,aa,λau R=>?_⟩;simp only[bs,aT.eF (x:=x) R];exact ax au (cL.a6 R)
 |hL T bR x y=>
  simp only[bs,Option.map_eq_some_iff,Prod.mk.injEq]at h;obtain⟨d,ad,rfl,rfl⟩:=h;exact .pure λau R=>by
   simp only[use]at R;simp only[bs,aT.eF (x:=x) R.left,aT.eF (x:=y) R.right,ad,Option.map_some]
 |bad=>simp[bs]at h
 |nn fO x y=>
  simp only[bs,Option.map_eq_some_iff,Prod.mk.injEq]at h;obtain⟨d,ad,rfl,rfl⟩:=h;exact .pure λau R=>by
   simp only[use]at R;simp only[bs,aT.eF (x:=x) R.left,aT.eF (x:=y) R.right,ad,Option.map_some]
 |cap T x=>
  simp only[bs]at h;split at h
  .rename_i e ak ae;simp only[Option.some.injEq,Prod.mk.injEq]at h;obtain⟨rfl,rfl⟩:=h;exact .pure λau R=>by simp only[bs,aT.eF (x:=x) R,ak,ae]
  .cases h
 |g5 x=>
  simp only[bs,Option.some.injEq,Prod.mk.injEq]at h;obtain⟨rfl,rfl⟩:=h;exact .pure λau R=>by simp only[bs,aT.eF (x:=x) R]
 |j6 x=>
  simp only[bs]at h;split at h
  .rename_i y q ae;obtain⟨ms,U,aa,ax⟩:=o7 h;refine⟨ms,U,by simpa only[j8,ae]using aa,λau R=>?_⟩;have e:=aT.eF (x:=x) R;have aR:=ax au (by rw[<-ae];exact cL.a6 R);simp only[bs,e,ae];exact aR
  .rename_i KP;simp only[Option.some.injEq,Prod.mk.injEq]at h;obtain⟨rfl,rfl⟩:=h;refine .pure λau R=>?_;have e:=aT.eF (x:=x) R;simp only[bs,e]
 |pick c a b=>
  simp only[bs]at h;split at h
  .rename_i eE J;simp only[Option.some.injEq,Prod.mk.injEq]at h;obtain⟨rfl,rfl⟩:=h;refine .pure λau R=>?_;simp only[use]at R;simp only[bs,aT.eF (x:=c) R.left,aT.eF (x:=a) R.right.left,aT.eF (x:=b) R.right.right,J]
  .cases h
 |j1 T=>
  simp only[bs,Option.map_eq_some_iff,Prod.mk.injEq]at h;obtain⟨d,ad,rfl,rfl⟩:=h;exact .pure λau R=>by simp only[bs,ad,Option.map_some]
 |g4 T x=>
  obtain⟨ms,U,aa,ax⟩:=KG h;refine⟨ms,U,aa,λau R=>?_⟩;simp only[bs,aT.eF (x:=x) R];exact ax au (cL.a6 R)
 |fb T ps=>
  obtain⟨ms,U,aa,ax⟩:=KE h;simp only[List.map_map,Function.comp_def]at aa ax;refine⟨ms,U,aa,λau R=>?_⟩;simp only[bs,aT.y5 (ps:=ps) R];refine ax au (R.sub λu hu=>?_);simp only[use];exact aT.vZ u (by simpa [List.map_map,Function.comp_def]using hu)
 |e6 T n ps=>
  obtain⟨ms,U,aa,ax⟩:=KF h;simp only[List.map_map,Function.comp_def]at aa ax;refine⟨ms,U,aa,λau R=>?_⟩;simp only[bs,aT.y5 (ps:=ps) R];refine ax au (R.sub λu hu=>?_);simp only[use];exact aT.vZ u (by simpa [List.map_map,Function.comp_def]using hu)
 |ey T x=>
  simp only[bs,Option.map_eq_some_iff,Prod.mk.injEq]at h;obtain⟨d,ad,rfl,rfl⟩:=h;exact .pure λau R=>by simp only[bs,aT.eF (x:=x) R,Kt (cL.a6 R),ad,Option.map_some]
 |ie T x y=>
  simp only[bs,Option.map_eq_some_iff,Prod.mk.injEq]at h;obtain⟨s2,ad,rfl,rfl⟩:=h;obtain⟨ms,U,aa,ax⟩:=KI ad;refine⟨ms,U,aa,λau R=>?_⟩;simp only[use]at R;simp only[bs,aT.eF (x:=x) R.left,aT.eF (x:=y) R.right];exact ax au (R.sub λu hu=>by simp only[mem_append]at hu⊢;exact hu.imp (aT.qo u) (aT.qo u))
 |ht x=>
  simp only[bs,Option.map_eq_some_iff,Prod.mk.injEq]at h;obtain⟨d,ad,rfl,rfl⟩:=h;exact .pure λau R=>by simp only[bs,aT.eF (x:=x) R,KB (cL.a6 R),ad,Option.map_some]
 |eb op T x y=>
  simp only[bs,Option.map_eq_some_iff,Prod.mk.injEq]at h;obtain⟨d,ad,rfl,rfl⟩:=h;refine .pure λau R=>?_;simp only[use]at R;simp only[bs,aT.eF (x:=x) R.left,aT.eF (x:=y) R.right,KA (cL.a6 R.left),ad,Option.map_some]
 |un op x=>
  simp only[bs,Option.map_eq_some_iff,Prod.mk.injEq]at h;obtain⟨d,ad,rfl,rfl⟩:=h;exact .pure λau R=>by simp only[bs,aT.eF (x:=x) R,ad,Option.map_some]
 |hg A B x=>
  simp only[bs,Option.map_eq_some_iff,Prod.mk.injEq]at h;obtain⟨d,ad,rfl,rfl⟩:=h;exact .pure λau R=>by simp only[bs,aT.eF (x:=x) R,Kx (cL.a6 R),ad,Option.map_some]
 |lN f cs=>
  simp only[bs,Option.some.injEq,Prod.mk.injEq]at h;obtain⟨rfl,rfl⟩:=h;exact .pure λau R=>by simp only[bs,aT.y4 (xs:=cs) R]
 |dO T l c=>
  simp only[bs,Option.map_eq_some_iff,Prod.mk.injEq]at h;obtain⟨d,ad,rfl,rfl⟩:=h;refine .pure λau R=>?_;simp only[use]at R;simp only[bs,aT.eF (x:=l) R.left,aT.eF (x:=c) R.right,ad,Option.map_some]
 |eY T x dE ay=>
  simp only[bs]at h;obtain⟨ms,U,aa,ax⟩:=KJ h;refine⟨ms,U,aa,λau R=>?_⟩;simp only[use]at R;simp only[bs,aT.eF (x:=x) R.left,DM R.right.left,DM R.right.right];exact ax au (cL.a6 R.left)
 |gQ T x k=>
  simp only[bs,Option.map_eq_some_iff,Prod.mk.injEq]at h;obtain⟨d,ad,rfl,rfl⟩:=h;exact .pure λau R=>by simp only[bs,aT.eF (x:=x) R,Ku (cL.a6 R),ad,Option.map_some]
 |hJ T x i=>
  simp only[bs,Option.map_eq_some_iff,Prod.mk.injEq]at h;obtain⟨d,ad,rfl,rfl⟩:=h;refine .pure λau R=>?_;simp only[use]at R;simp only[bs,aT.eF (x:=x) R.left,aT.eF (x:=i) R.right,Kv (cL.a6 R.left),ad,Option.map_some]
 |idx T x i=>
  simp only[bs,Option.map_eq_some_iff,Prod.mk.injEq]at h;obtain⟨d,ad,rfl,rfl⟩:=h;refine .pure λau R=>?_;simp only[use]at R;simp only[bs,aT.eF (x:=x) R.left,aT.eF (x:=i) R.right,ad,Option.map_some]
 |ex x k=>
  simp only[bs,Option.map_eq_some_iff,Prod.mk.injEq]at h;obtain⟨d,ad,rfl,rfl⟩:=h;exact .pure λau R=>by simp only[bs,aT.eF (x:=x) R,KD (cL.a6 R),ad,Option.map_some]
 |tE=>
  simp only[bs,Option.some.injEq,Prod.mk.injEq]at h;obtain⟨rfl,rfl⟩:=h;exact .pure λau R=>rfl
 |lM T x i=>
  simp only[bs,Option.map_eq_some_iff,Prod.mk.injEq]at h;obtain⟨d,ad,rfl,rfl⟩:=h;refine .pure λau R=>?_;simp only[use]at R;simp only[bs,aT.eF (x:=x) R.left,aT.eF (x:=i) R.right,KN (cL.a6 R.left),ad,Option.map_some]
 |ky T x i v=>
  simp only[bs,Option.map_eq_some_iff,Prod.mk.injEq]at h;obtain⟨s2,ad,rfl,rfl⟩:=h;obtain⟨ms,U,aa,ax⟩:=KO ad;refine⟨ms,U,aa,λau R=>?_⟩;simp only[use]at R;simp only[bs,aT.eF (x:=x) R.left,aT.eF (x:=i) R.right.left,aT.eF (x:=v) R.right.right];exact ax au (cL.a6 R.left)
 |j3 T x k=>
  simp only[bs,Option.bind_eq_some_iff]at h;obtain⟨d,ad,h⟩:=h;unfold tG at h;split at h
  .rename_i y q;have ae:=KC ad;obtain⟨ms,U,aa,ax⟩:=o7 h;refine⟨ms,U,by simpa only[j8,ae,j.R]using aa,λau R=>?_⟩;have aR:=ax au (by rw[show(j.h y q).R=(a6 s x).R from ae.symm];exact cL.a6 R);simp only[bs,aT.eF (x:=x) R,DN (cL.a6 R),ad,Option.bind_some,tG];exact aR
  .rename_i KP;simp only[Option.some.injEq,Prod.mk.injEq]at h;obtain⟨rfl,rfl⟩:=h;refine .pure λau R=>?_;simp only[bs,aT.eF (x:=x) R,DN (cL.a6 R),ad,Option.bind_some,tG]
 |call f args=>simp[bs]at h
 |len T x=>
  simp only[bs,Option.map_eq_some_iff,Prod.mk.injEq]at h;obtain⟨d,ad,rfl,rfl⟩:=h;exact .pure λau R=>by simp only[bs,aT.eF (x:=x) R,Kw (cL.a6 R),ad,Option.map_some]
 |app T bR x y=>
  obtain⟨ms,U,aa,ax⟩:=KM h;refine⟨ms,U,aa,λau R=>?_⟩;simp only[use]at R;simp only[bs,aT.eF (x:=x) R.left,aT.eF (x:=y) R.right];exact ax au (R.sub λu hu=>by simp only[mem_append]at hu⊢;exact hu.imp (aT.qo u) (aT.qo u))
end
mutual
def view (s:af):j->Option j
 | .h x q=>match j.sub q (s x)with
   |some d=>(match d with| .tuple _=>none| .cY _=>none| .br _ _=>none|d=>if d.plain then none else some d.share)
   |none=>none
 | .ag x q=>if j.eu q (s x)then(match j.sub q (s x)with
   |some d=>(match d with| .tuple _=>none|d=>some (.ref d.share))
   |none=>none)else none
 | .J _ _=>none
 | .fn f cap=>(views s cap).map (.fn f)
 | .hole=>none
 |d=>some d
def views (s:af):Vr->Option Vr
 |[]=>some []
 |d::ds=>match view s d,views s ds with
  |some a,some b=>some (a::b)
  |_,_=>none
end
mutual
theorem y_:∀d:j,d.share.plain=true
 | .hole=>rfl
 | .bool _=>rfl
 | .dV=>rfl
 | .int _ _=>rfl
 | .str _=>rfl
 | .cW=>rfl
 | .aK=>rfl
 | .slice _=>rfl
 | .aq _ _=>rfl
 | .ref _=>rfl
 | .aS _=>rfl
 | .agg al=>by simp only[j.share,j.plain];exact za al
 | .tuple al=>by simp only[j.share,j.plain];exact za al
 | .fn _ _=>rfl
 | .h _ _=>rfl
 | .ag _ _=>rfl
 | .J _ _=>rfl
 | .cY _=>rfl
 | .br _ _=>rfl
theorem za:∀ds:Vr,j.db (j.shares ds)=true
 |[]=>rfl
 |d::ds=>by simp only[j.shares,j.db];rw[y_ d,za ds];rfl
end
theorem KQ {s:af} {a d:j} (h:a.plain=true) (he:view s a=some d):d.plain=true:=by
 cases a with
 |h x q=>
  simp only[view]at he;split at he
  .rename_i e dX;cases e<;>simp only at he<;>first
    |(cases he;done)
    |(split at he
      .cases he
      .simp only[Option.some.injEq]at he;subst he;exact y_ _)
  .cases he
 |ag x q=>
  simp only[view]at he;split at he
  .split at he
   .rename_i e dX;cases e<;>simp only at he<;>first
     |(cases he;done)
     |(simp only[Option.some.injEq]at he;subst he;rfl)
   .cases he
  .cases he
 |fn f cap=>
  simp only[view,Option.map_eq_some_iff]at he;obtain⟨ds,_,rfl⟩:=he;rfl
 |hole=>simp[view]at he
 |J y q=>simp[view]at he
 |_=>simp only[view,Option.some.injEq]at he;subst he;exact h
theorem zb {d:j} {v:Value} (U:∀vs,d≠.tuple vs) (h:cM d v):cM d.share v:=by
 cases d<;>first|exact h|exact(U _ rfl).elim
theorem KR (w:World):∀(q:Vm) (av d a8:j) (cs b_:Vp) (a bZ:Option (Nat×Nat)),j.sub q av=some d->a8.wd=d.wd->cy w q av cs a=some (d,b_,bZ)->
  cy w q (j.put q a8 av) cs a=some (a8,b_,bZ):=by
 intro q;induction q with
 |nil=>
  intro av d a8 cs b_ a bZ ad hw h;simp only[cy,Option.some.injEq,Prod.mk.injEq]at h;obtain⟨rfl,rfl,rfl⟩:=h;simp only[j.put,cy]
 |cons k q ih=>
  intro av d a8 cs b_ a bZ ad hw h;cases av with
  |agg al=>
   simp only[j.sub]at ad;split at ad
   .rename_i x ae;have ak:k<al.length:=(List.getElem?_eq_some_iff.1 ae).1;simp only[cy,ae]at h;simp only[j.put,ae,cy];rw[getElem?_set_self ak];simp only[take_set_of_le (Nat.le_refl k),j.rG q x d a8 ad hw];exact ih _ _ _ _ _ _ _ ad hw h
   .cases ad
  |tuple al=>
   simp only[j.sub]at ad;split at ad
   .rename_i x ae;have ak:k<al.length:=(List.getElem?_eq_some_iff.1 ae).1;simp only[cy,ae]at h;simp only[j.put,ae,cy];rw[getElem?_set_self ak];simp only[take_set_of_le (Nat.le_refl k),j.rG q x d a8 ad hw];exact ih _ _ _ _ _ _ _ ad hw h
   .cases ad
  |aq sz al=>
   simp only[j.sub]at ad;split at ad
   .rename_i x ae;have ak:k<al.length:=(List.getElem?_eq_some_iff.1 ae).1;have iH:(al.set k (j.put q a8 x))[k]? =some (j.put q a8 x):=getElem?_set_self ak;simp only[j.put,ae];rw[cy.eq_def]at h⊢;simp only[ae]at h;simp only;rw[iH];split at h
    .rename_i aI;simp only[Option.some.injEq]at aI;subst aI;exact ih _ _ _ _ _ _ _ ad hw h
    .cases h
   .cases ad
  |aS x=>
   cases k with
   |zero=>
    simp only[j.sub]at ad;rw[cy.eq_def]at h⊢;simp only at h;simp only[j.put];split at h
    .rw[j.rG q x d a8 ad hw];exact ih _ _ _ _ _ _ _ ad hw h
    .cases h
   |succ k=>simp[j.sub]at ad
  |_=>simp[j.sub]at ad
section
variable {w0 w aw:World} {F0 X F Fc:Nat->Prop} {S:Nat->Nat->Prop} {s au:af} {an h_:Nat->Value}
theorem KS (h:bg w0 F0 X F S s an w) (a3:∀b,F b->Fc b):∀n,
  (∀(a:j) (v:Value) (d:j),SizeOf.sizeOf a<=n->(∀t∈a.R,∀b,S t b->Fc b)->view s a=some d->az w F s an a v (λ_=>False)->az w Fc au h_ d v (λ_=>False))/\
  (∀(as:Vr) (vs:Vp) (ds:Vr),SizeOf.sizeOf as<=n->(∀t∈j.dh as,∀b,S t b->Fc b)->views s as=some ds->cK w F s an as vs->cK w Fc au h_ ds vs):=by
 intro n;induction n with
 |zero=>exact⟨λa _ _ bC=>by cases a<;>simp at bC<;>omega,λas _ _ bC=>by cases as<;>simp at bC<;>omega⟩
 |succ n ih=>
  refine⟨λa v d bC bB he aE=>?_,λas vs ds bC bB he aE=>?_⟩
  .cases a with
   |h x q=>
    simp only[view]at he;split at he
    .rename_i e dX;have key:(∀al,e≠.tuple al)/\e.plain=false/\d=e.share/\(∀o,e≠.cY o)/\∀f c,e≠.br f c:=by
      cases e<;>simp only at he<;>first
       |(cases he;done)
       |(split at he
         .cases he
         .rename_i eP;simp only[Option.some.injEq]at he;exact⟨(λ_ h=>by cases h),by simpa using eP,he.symm,(λ_ h=>by cases h),λ_ _ h=>by cases h⟩)
     obtain⟨kz,eP,rfl,hY,zc⟩:=key;rw[az]at aE;obtain⟨b_,bZ,aL,a0,bK⟩:=aE e dX eP;have aO:=fZ dX (.inl eP);have ae:=(az.b7 aO).1 (h.cG x);obtain⟨eJ,bw,c1,dW,k0,bX,b6,cR,cI,d_⟩:=ctx q (s x) (bW (an x)) (S x) none e ae.2 dX;rw[aL]at k0;simp only[Option.some.injEq,Prod.mk.injEq,true_and]at k0;obtain⟨rfl,rfl⟩:=k0;have yr:e.share.tree=true:=by cases e<;>first|rfl|(simp[j.plain]at eP;done)|exact(hY _ rfl).elim|exact(zc _ _ rfl).elim
     have aG:=aj.shared a3 e b_ dW (λb J=>bB x (by simp[j.R]) b (b6 b J)) cI;exact(az.b7 yr).2 ⟨zb kz bK,by rw[a0];exact aG⟩
    .cases he
   |ag x q=>
    simp only[view]at he;split at he
    .rename_i mj;split at he
     .rename_i e dX;have key:(∀al,e≠.tuple al)/\d= .ref e.share:=by
       cases e<;>simp only at he<;>first
        |(cases he;done)
        |(simp only[Option.some.injEq]at he;exact⟨(λ_ h=>by cases h),he.symm⟩)
      obtain⟨kz,rfl⟩:=key;rw[az]at aE;obtain⟨b_,b,o,aL,rfl⟩:=aE e dX mj;have aO:=fZ dX (.inr mj);have ae:=(az.b7 aO).1 (h.cG x);obtain⟨eJ,bw,c1,dW,k0,bX,b6,cR,cI,d_⟩:=ctx q (s x) (bW (an x)) (S x) none e ae.2 dX;rw[aL]at k0;simp only[Option.some.injEq,Prod.mk.injEq,true_and]at k0;obtain⟨rfl,rfl⟩:=k0;have aG:=aj.shared a3 e b_ dW (λb J=>bB x (by simp[j.R]) b (b6 b J)) cI;rcases d_ with⟨l,r,_,aR,_⟩|⟨eE,cur,ty,fr,l,r,aI,aR,aX,bT,cb,_⟩
      .simp at aR
      .simp only[Option.some.injEq,Prod.mk.injEq]at aI;obtain⟨rfl,rfl⟩:=aI;refine(az.b7 rfl).2 ⟨rfl,?_⟩;rw[aj];refine⟨b,l.length,b_,rfl,bB x (by simp[j.R]) b (bX b aR),?_,aG⟩;intro aD c cn;simp only[World.cell?,aX];have ai:cur[l.length+aD]? =some c:=by
        rw[<-Array.getElem?_toList,cb,getElem?_append_right (by omega),getElem?_append_left (by
         have:=(List.getElem?_eq_some_iff.1 cn).1;omega)]
        rw[<-cn];congr 1;omega
       simpa using ai
     .cases he
    .cases he
   |fn f cap=>
    simp only[view,Option.map_eq_some_iff]at he;obtain⟨ds,hM,rfl⟩:=he;rw[az]at aE;obtain⟨arr,rfl,ai⟩:=aE;rw[az];exact⟨arr,rfl,ih.2 cap _ _ (by simp at bC;omega) (by simpa [j.R]using bB) hM ai⟩
   |hole=>simp[view]at he
   |J y q=>simp[view]at he
   |_=>
    simp only[view,Option.some.injEq]at he;subst he;have jZ:=(az.b7 rfl).1 aE;exact(az.b7 rfl).2 ⟨jZ.1,aj.mono a3 _ _ _ _ (λ_ h=>h) jZ.2⟩
  .cases as with
   |nil=>
    simp only[views,Option.some.injEq]at he;subst he;rw[cK]at aE⊢;exact aE
   |cons a as=>
    simp only[views]at he;split at he
    .rename_i d ds U aa;simp only[Option.some.injEq]at he;subst he;rw[cK]at aE⊢;obtain⟨v,ev,rfl,aL,a0⟩:=aE;simp at bC;simp only[j.dh,mem_append]at bB;exact⟨v,ev,rfl,ih.1 a v d (by omega) (λt aO=>bB t (.inl aO)) U aL,ih.2 as ev ds (by omega) (λt aO=>bB t (.inr aO)) aa a0⟩
    .cases he
theorem bg.gT (h:bg w0 F0 X F S s an w) {x:Nat} {q:Vm} {d0 a8:j} {b_:Vp} {a:Option (Nat×Nat)} {Sn:Nat->Prop}
  (ad:j.sub q (s x)=some d0) (bd:cy w q (s x) (bW (an x)) none=some (d0,b_,a)) (aa:∀vs,a8≠.tuple vs) (aO:q=[]->a8.tree=true/\cM a8 (an x))
  (ax:∀k p,q=k::p->(s x).tree=true/\(∀v,gP d0 v->gP a8 v)) (hw:a8.wd=d0.wd)
  (aE:aj w F a8 b_ Sn) (da:∀b,Sn b->b<w.heap.size) (a3:∀b,Sn b->¬F b) (bB:∀u b,Sn b->¬S u b) (bt:∀b,Sn b->X b\/w0.heap.size<=b):
  bg w0 F0 X F (fm S x (λb=>S x b\/Sn b)) (cA (ji x s) x (j.put q a8 (s x))) an w:=by
 have c8:cA an x (an x)=an:=by funext u;simp only[cA];split<;>simp_all
 have main:(j.put q a8 (s x)).tree=true/\cM (j.put q a8 (s x)) (an x)/\aj w F (j.put q a8 (s x)) (bW (an x)) (λb=>S x b\/Sn b):=by
  cases q with
  |nil=>
   simp only[cy,Option.some.injEq,Prod.mk.injEq]at bd;obtain⟨aI,aR,aX⟩:=bd;obtain⟨aL,a0⟩:=aO rfl;simp only[j.put];refine⟨aL,?_,?_⟩
   .exact a0
   .rw[aR];exact aj.mono (λ_ h=>h) _ _ _ _ (λb J=>.inr J) aE
  |cons k p=>
   obtain⟨aL,a0⟩:=ax k p rfl;have ae:=(az.b7 aL).1 (h.cG x);obtain⟨eJ,bw,c1,dW,k0,bX,b6,cR,cI,d_⟩:=ctx (k::p) (s x) (bW (an x)) (S x) none d0 ae.2 ad;rw[bd]at k0;simp only[Option.some.injEq,Prod.mk.injEq,true_and]at k0;obtain⟨rfl,rfl⟩:=k0;refine⟨?_,?_,?_⟩
   .rcases oU k p a8 (s x)with⟨al,gs,aI,e⟩|⟨al,gs,aI,e⟩|⟨sz,xs,ys,aI,e⟩|⟨y,z,aI,e⟩|e<;>rw[e]<;>first|rfl|exact aL
   .refine s9 ae.1 ad a0 (λ_ vs e=>(aa vs e).elim) hw
   .have mono:∀b,(c1 b\/Sn b)->(S x b\/Sn b):=λb J=>J.imp (bX b) id;rcases d_ with⟨l,r,aI,aR,aX⟩|⟨b,cur,ty,fr,l,r,aI,aR,aX,bT,cb,bH⟩
    .rw[aI];exact aj.mono (λ_ h=>h) _ _ _ _ mono (aX w a8 b_ Sn (λ_ _=>rfl) (λ_ _=>rfl) hw aE (λb J ai=>bB x b J (bX b ai)))
    .refine aj.mono (λ_ h=>h) _ _ _ _ mono (bH w a8 b_ Sn (λ_ _=>rfl) (λ_ _ _=>rfl) ?_ hw aE (λb J ai=>bB x b J (bX b ai)));rw[aX,<-cb]
 have:=h.CB (t:=x) main.1 main.2.1 main.2.2 (by rintro b (J|J);exact h.dw x b J;exact da b J) (by rintro b (J|J);exact h.ew x b J;exact a3 b J)
  (by rintro u b cJ (J|J);exact λhu=>h.dS u x b cJ hu J;exact bB u b J) (by rintro b (J|J);exact h.cU x b J;exact bt b J)
 rwa [c8]at this
end
mutual
def j.ch:j->Bool
 | .slice _=>false
 | .ref _=>false
 | .fn _ _=>false
 | .h _ _=>false
 | .ag _ _=>false
 | .J _ _=>false
 | .aq _ xs=>j.gU xs
 | .aS d=>d.ch
 | .agg al=>j.gU al
 | .tuple al=>j.gU al
 | .br _ al=>j.gU al
 |_=>true
def j.gU:Vr->Bool
 |[]=>true
 |d::ds=>d.ch&&j.gU ds
end
mutual
theorem aj.ch {w:World} {F ba:Nat->Prop}:∀(d:j) (cs:Vp) (S:Nat->Prop),d.ch=true->aj w F d cs S->aj w ba d cs S
 | .hole,_,_,_,h=>h
 | .bool _,_,_,_,h=>h
 | .dV,_,_,_,h=>h
 | .int _ _,_,_,_,h=>h
 | .str _,_,_,_,h=>h
 | .cW,_,_,_,h=>h
 | .aK,_,_,_,h=>h
 | .slice xs,cs,S,a2,h=>by simp[j.ch]at a2
 | .ref d,cs,S,a2,h=>by simp[j.ch]at a2
 | .aq sz xs,cs,S,a2,h=>by
   rw[aj]at h⊢;rcases h with h|⟨b,cap,cur,e,fr,aB,U,aa,ax,aP,a9,bU,bO,dv,hG,gi,jA⟩
   .exact .inl h
   .exact .inr ⟨b,cap,cur,e,fr,aB,U,aa,ax,aP,a9,bU,bO,dv,aQ.ch xs _ _ a2 hG,gi,jA⟩
 | .aS d,cs,S,a2,h=>by
   rw[aj]at h⊢;obtain⟨b,cur,e,fr,aB,U,aa,ax,aP,a9,bU,bO⟩:=h;exact⟨b,cur,e,fr,aB,U,aa,ax,aP,aj.ch d _ _ a2 a9,bU,bO⟩
 | .agg al,cs,S,a2,h=>by rw[aj]at h⊢;exact aQ.ch al _ _ a2 h
 | .tuple al,cs,S,a2,h=>by rw[aj]at h⊢;exact aQ.ch al _ _ a2 h
 | .fn _ _,_,_,a2,h=>by simp[j.ch]at a2
 | .h _ _,_,_,_,h=>h
 | .ag _ _,_,_,_,h=>h
 | .J _ _,_,_,_,h=>h
 | .cY _,_,_,_,h=>h
 | .br _ caps,cs,S,a2,h=>by
   rw[aj]at h⊢;obtain⟨arr,U,aa,ax⟩:=h;exact⟨arr,U,aa,aQ.ch caps _ _ a2 ax⟩
theorem aQ.ch {w:World} {F ba:Nat->Prop}:∀(ds:Vr) (cs:Vp) (S:Nat->Prop),j.gU ds=true->aQ w F ds cs S->aQ w ba ds cs S
 |[],_,_,_,h=>h
 |d::ds,cs,S,a2,h=>by
  simp only[j.gU,Bool.and_eq_true]at a2;rw[aQ]at h⊢;obtain⟨bu,bN,bP,cx,U,aa,ax,aP,a9,bU⟩:=h;exact⟨bu,bN,bP,cx,U,aj.ch d _ _ a2.1 aa,aQ.ch ds _ _ a2.2 ax,aP,a9,bU⟩
end
theorem DU:∀(q:Vm) (av d e:j),j.sub q av=some d->j.sub q (j.put q e av)=some e:=by
 intro q;induction q with
 |nil=>intro av d e _;simp[j.put,j.sub]
 |cons k q ih=>
  intro av d e h;cases av with
  |agg al=>
   simp only[j.sub]at h;split at h
   .rename_i x ae;have ak:k<al.length:=(List.getElem?_eq_some_iff.1 ae).1;simp only[j.put,ae,j.sub,getElem?_set_self ak];exact ih _ _ _ h
   .cases h
  |tuple al=>
   simp only[j.sub]at h;split at h
   .rename_i x ae;have ak:k<al.length:=(List.getElem?_eq_some_iff.1 ae).1;simp only[j.put,ae,j.sub,getElem?_set_self ak];exact ih _ _ _ h
   .cases h
  |aq sz al=>
   simp only[j.sub]at h;split at h
   .rename_i x ae;have ak:k<al.length:=(List.getElem?_eq_some_iff.1 ae).1;simp only[j.put,ae,j.sub,getElem?_set_self ak];exact ih _ _ _ h
   .cases h
  |aS x=>
   cases k with
   |zero=>simp only[j.sub]at h;simp only[j.put,j.sub];exact ih _ _ _ h
   |succ k=>simp[j.sub]at h
  |_=>simp[j.sub]at h
structure bY where
 a:j
 g:Bool
 d:j
 o:j
def j.own:j->Bool
 | .aq _ _=>true
 | .aS _=>true
 |_=>false
def j.eZ:j->Bool
 | .aq _ _=>true
 | .aS _=>true
 | .cY _=>true
 | .br _ _=>true
 | .agg al=> !j.db al
 |_=>false
def n5 (d o:j):Bool:=match d,o with
 | .agg a,.agg b=>j.c0 a==j.c0 b
 | .agg _,_=>false
 |_,.agg _=>false
 |_,_=>true
theorem n6 {d:j} (h:d.eZ=true):d.plain=false/\d.tree=true/\∀vs,d≠.tuple vs:=by
 cases d<;>simp[j.eZ]at h<;>first|exact⟨rfl,rfl,λvs e=>by cases e⟩|exact⟨by simp only[j.plain];exact h,rfl,λvs e=>by cases e⟩
theorem KT {d o:j} (h:d.eZ=true) (bk:o.eZ=true) (hl:n5 d o=true):o.wd=d.wd/\(∀v,cM d v->cM o v)/\∀v,gP d.cj v->gP o v:=by
 cases d<;>simp[j.eZ]at h<;>cases o<;>simp[j.eZ]at bk<;>simp[n5]at hl<;>first
  |exact⟨rfl,λ_ h=>h,λ_ h=>h⟩
  |exact⟨by simp only[j.wd];exact hl.symm,λ_ h=>h,λ_ h=>h⟩
def bY.ok (s:af) (p:bY):Prop:=
 if p.g then(match p.a with| .h x q=>j.sub q (s x)=some p.d/\p.d.eZ=true/\(p.o= .hole\/(p.o.eZ=true/\n5 p.d p.o=true))|_=>False)
 else view s p.a=some p.d
def fD:List bY->Bool
 |[]=>true
 |p::r=>(r.all λb8=> !(p.g||b8.g)||(p.a.R.all λu=> !b8.a.R.contains u))&&fD r
def bY.take (s:af) (p:bY):af:=
 if p.g then(match p.a with| .h x q=>cA (gz x s) x (j.put q p.d.cj (s x))|_=>s)else s
def bY.gT (s:af) (p:bY):af:=
 if p.g then(match p.a,p.o with|_,.hole=>s| .h x q,o=>cA (ji x s) x (j.put q o (s x))|_,_=>s)else s
def di (s:af) (ps:List bY):af:=ps.foldl bY.take s
def e0 (s:af) (ps:List bY):af:=ps.foldl bY.gT s
section
variable {w0 w aw:World} {F0 X F Fc:Nat->Prop} {S:Nat->Nat->Prop} {s au:af} {an h_:Nat->Value}
def KU (w:World) (F:Nat->Prop) (s1:af) (an:Nat->Value) (p:bY) (v:Value) (Sn:Nat->Prop):Prop:=
 ∃x q I,p.a= .h x q/\j.sub q (s1 x)=some p.d.cj/\cy w q (s1 x) (bW (an x)) none=some (p.d.cj,bW v,I)/\(s1 x).R=[]/\(q=[]->cM p.d (an x))/\(q≠[]->(s1 x).tree=true)/\
  cM p.d v/\aj w F p.d (bW v) Sn
theorem KV {p:bY} {x:Nat} (h:(s x).R=[]) (ag:p.g=true->x∉p.a.R):bY.take s p x=s x:=by
 unfold bY.take;split
 .rename_i bm;cases b4:p.a with
  |h y q=>
   have:x≠y:=by
    have:=ag bm;rw[b4]at this;simpa [j.R]using this
   simp only;rw[hW _ _ this];exact tH _ (by rw[h];simp)
  |_=>rfl
 .rfl
theorem zd:∀{ps:List bY} {s:af} {x:Nat},(s x).R=[]->(∀p∈ps,p.g=true->x∉p.a.R)->di s ps x=s x:=by
 intro ps;induction ps with
 |nil=>intros;rfl
 |cons p ps ih=>
  intro s x h ag;have e:=KV (s:=s) (p:=p) h (ag p (by simp));show di (bY.take s p) ps x=s x;rw[ih (by rw[e];exact h) (λb8 c_=>ag b8 (by simp[c_])),e]
theorem qp {d:j} (h:d.own=true):d.plain=false/\d.tree=true/\d.cj= .hole/\d.one=true/\d.wd=1/\(∀v,cM d v↔Value.et v=true):=by
 cases d<;>simp[j.own]at h<;>exact⟨rfl,rfl,rfl,rfl,rfl,λv=>Iff.rfl⟩
theorem KW:∀(ps:List bY) (vs:Vp) (s:af) (S:Nat->Nat->Prop),bg w0 F0 X F S s an w->ps.length=vs.length->
  (∀(i:Nat) (p:bY) (v:Value),ps[i]? =some p->vs[i]? =some v->p.a.plain=true/\az w F s an p.a v (λ_=>False)/\(p.g=true->p.ok s))->fD ps=true->
  ∃(Sn bP:Nat->Nat->Prop),bg w0 F0 X F bP (di s ps) an w/\(∀u b,bP u b->S u b)/\
   (∀(i:Nat) (p:bY) (v:Value),ps[i]? =some p->vs[i]? =some v->p.g=true->KU w F (di s ps) an p v (Sn i))/\
   (∀i b,Sn i b->∃p,ps[i]? =some p/\p.g=true)/\
   (∀i b,Sn i b->∃u,S u b)/\(∀i u b,Sn i b->¬bP u b)/\(∀i aD b,i≠aD->Sn i b->¬Sn aD b)/\
   (∀(a8:j) (dM:Value) (aB:Nat->Prop),(∀p∈ps,p.g=true->∀u∈p.a.R,u∉a8.R)->az w F s an a8 dM aB->az w F (di s ps) an a8 dM aB):=by
 intro ps;induction ps with
 |nil=>
  intro vs s S h hl _ _;exact⟨λ_ _=>False,S,h,λ_ _ h=>h,λi p v ag=>by simp at ag,λ_ _ h=>h.elim,λ_ _ h=>h.elim,λ_ _ _ h=>h.elim,λ_ _ _ _ h=>h.elim,λ_ _ _ _ h=>h⟩
 |cons p ps ih=>
  intro vs s S h hl tA iJ;cases vs with
  |nil=>simp at hl
  |cons v vs=>
   simp only[length_cons,Nat.add_right_cancel_iff]at hl;simp only[fD,Bool.and_eq_true,List.all_eq_true,Bool.or_eq_true,Bool.not_eq_true']at iJ;obtain⟨my,lQ⟩:=iJ;have rX:∀b8∈ps,(p.g=true\/b8.g=true)->∀u∈p.a.R,u∉b8.a.R:=by
    intro b8 c_ bm u hu;rcases my b8 c_ with e|e
    .rcases bm with bm|bm<;>simp[bm]at e
    .simpa using e u hu
   obtain⟨f1,f2,f3⟩:=tA 0 p v rfl rfl;cases bm:p.g with
   |false=>
    have fs:bY.take s p=s:=by simp[bY.take,bm]
    obtain⟨Sn,bP,aL,a0,bK,cF,dq,gk,hd,jB⟩:=ih vs s S h hl (λi b8 dM ag aE=>tA (i+1) b8 dM (by simpa using ag) (by simpa using aE)) lQ;have aI:di s (p::ps)=di s ps:=by show di (bY.take s p) ps=_;rw[fs]
    rw[aI];refine⟨λi=>match i with|0=>λ_=>False|i+1=>Sn i,bP,aL,a0,?_,?_,?_,?_,?_,λa8 dM aB ad=>jB a8 dM aB λb8 c_=>ad b8 (by simp[c_])⟩
    .intro i b8 dM ag aE ga;cases i with
     |zero=>simp at ag;subst ag;rw[bm]at ga;cases ga
     |succ i=>exact bK i b8 dM (by simpa using ag) (by simpa using aE) ga
    .intro i b J;cases i with
     |zero=>exact J.elim
     |succ i=>simpa using cF i b J
    .intro i b J;cases i with
     |zero=>exact J.elim
     |succ i=>exact dq i b J
    .intro i u b J;cases i with
     |zero=>exact J.elim
     |succ i=>exact gk i u b J
    .intro i aD b cJ ay cn;cases i with
     |zero=>exact ay.elim
     |succ i=>
      cases aD with
      |zero=>exact cn.elim
      |succ aD=>exact hd i aD b (by omega) ay cn
   |true=>
    have eh:=f3 bm;simp only[bY.ok,bm,if_true]at eh;split at eh
    .rename_i x q b4;obtain⟨dX,ze,p2⟩:=eh;obtain⟨jD,kA,v5⟩:=n6 ze;have KX:cc s p.a=some (p.d,cA (gz x s) x (j.put q p.d.cj (s x))):=by
      rw[b4];simp only[cc,dX,jD];rfl
     obtain⟨bP,t1,t2,t3,KY,t4,t5,t6,t7,t8,t9,t10,t11⟩:=na h f1 f2 KX;have fs:bY.take s p=cA (gz x s) x (j.put q p.d.cj (s x)):=by simp[bY.take,bm,b4]
     have kZ:∀b8∈ps,x∉b8.a.R:=λb8 c_=>rX b8 c_ (.inl bm) x (by rw[b4];simp[j.R]);have zf:bY.take s p x=j.put q p.d.cj (s x):=by rw[fs,kp]
     have DV:(bY.take s p x).R=[]:=by
      rw[zf];exact rV q _ _ _ dX (.inl jD) (λ_=>by cases ad:p.d<;>first|rfl|(rw[ad]at ze;simp[j.eZ]at ze))
     obtain⟨Sn,cx,aL,a0,bK,cF,dq,gk,hd,jB⟩:=ih vs (bY.take s p) bP (by rw[fs];exact t1) hl (by
      intro i b8 dM ag aE;obtain⟨bX,b6,cR⟩:=tA (i+1) b8 dM (by simpa using ag) (by simpa using aE);have hm:b8∈ps:=mem_of_getElem? ag;refine⟨bX,?_,?_⟩
      .have:=t11 _ _ _ b6;rw[b4]at this;rw[fs];simp only[j.owner,iS]at this
       rwa [tH _ (kZ b8 hm)]at this
      .intro ga;have:=cR ga;simp only[bY.ok,ga,if_true]at this⊢;split at this
       .rename_i y hI qq;have cJ:y≠x:=λe=>kZ b8 hm (by rw[qq,e];simp[j.R]);rw[fs,hW _ _ cJ];have aO:=fZ this.1 (.inl (n6 this.2.1).1);simp only[gz,yl aO];exact this
       .exact this.elim) lQ
     have aI:di s (p::ps)=di (bY.take s p) ps:=rfl;have o8:di (bY.take s p) ps x=j.put q p.d.cj (s x):=by
      rw[zd DV (λb8 c_ _=>kZ b8 c_),zf]
     rw[aI];refine⟨λi=>match i with|0=>KY|i+1=>Sn i,cx,aL,λu b J=>t9 u b (a0 u b J),?_,?_,?_,?_,?_,?_⟩
     rotate_left 5
     .intro a8 dM aB ad g9;refine jB a8 dM aB (λb8 c_=>ad b8 (by simp[c_])) ?_;have:=t11 _ _ _ g9;rw[b4]at this;rw[fs];simp only[j.owner,iS]at this
      rwa [tH _ (ad p (by simp) bm x (by rw[b4];simp[j.R]))]at this
     .intro i b8 dM ag aE ga;cases i with
      |zero=>
       simp at ag aE;subst ag aE;have v7:=f2;rw[b4,az]at v7;obtain⟨b_,I,bu,bN,o9⟩:=v7 _ dX jD;refine⟨x,q,I,b4,?_,?_,?_,?_,?_,t3,t4⟩
       .rw[o8];exact DU q _ _ _ dX
       .rw[o8,bN];exact KR w q _ _ _ _ _ _ _ dX (j.oT _) bu
       .rw[o8,<-zf];exact DV
       .intro b2;subst b2;simp only[j.sub,Option.some.injEq]at dX;have:=(az.b7 (by rw[dX];exact kA)).1 (h.cG x);rw[dX]at this;exact this.1
       .intro b2;have aO:=fZ dX (.inl jD);rw[o8];cases q with
        |nil=>exact(b2 rfl).elim
        |cons k q=>rcases oU k q p.d.cj (s x)with⟨al,gs,aI,e⟩|⟨al,gs,aI,e⟩|⟨sz,xs,ys,aI,e⟩|⟨y,z,aI,e⟩|e<;>rw[e]<;>first|rfl|exact aO
      |succ i=>exact bK i b8 dM (by simpa using ag) (by simpa using aE) ga
     .intro i b J;cases i with
      |zero=>exact⟨p,rfl,bm⟩
      |succ i=>simpa using cF i b J
     .intro i b J;cases i with
      |zero=>exact t10 b J
      |succ i=>obtain⟨u,hu⟩:=dq i b J;exact⟨u,t9 u b hu⟩
     .intro i u b J;cases i with
      |zero=>exact λhu=>t7 u b J (a0 u b hu)
      |succ i=>exact gk i u b J
     .intro i aD b cJ ay cn;cases i with
      |zero=>
       cases aD with
       |zero=>exact cJ rfl
       |succ aD=>obtain⟨u,hu⟩:=dq aD b cn;exact t7 u b ay hu
      |succ i=>
       cases aD with
       |zero=>obtain⟨u,hu⟩:=dq i b ay;exact t7 u b cn hu
       |succ aD=>exact hd i aD b (by omega) ay cn
    .exact eh.elim
end
def h2:Vr->Vr->Vr
 |d::ds,.hole::us=>(if d.plain=true then d else .hole)::h2 ds us
 |_::ds,u::us=>u::h2 ds us
 |_,us=>us
def iL:j->j->j
 | .br _ ds,.br g us=>.br g (h2 ds us)
 |_,o=>o
theorem KZ {d o:j} (h:(iL d o).tree=true):o.tree=true:=by
 cases d<;>cases o<;>first|exact h|rfl
theorem v8 {d:j} (h:d.one=true):d.wd=1:=by cases d<;>first|rfl|(simp[j.one]at h)
theorem DW {w aw:World} {F jo:Nat->Prop} (a3:∀b,F b->jo b) (hw:∀b,F b->aw.heap[b]? =w.heap[b]?):∀(ds us:Vr) (cs:Vp) (S aB:Nat->Prop),(∀d∈ds,d.one=true)->(∀d∈us,d.one=true)->
  aQ w F ds cs S->aQ aw jo us cs aB->aQ aw jo (h2 ds us) cs aB/\∀d∈h2 ds us,d.one=true
 |[],us,cs,S,aB,_,U,_,ax=>by
  have e:h2 [] us=us:=by cases us<;>rfl
  rw[e];exact⟨ax,U⟩
 |d::ds,[],cs,S,aB,_,_,_,ax=>by
  have e:h2 (d::ds) []=[]:=rfl;rw[e];exact⟨ax,λd h=>by cases h⟩
 |d::ds,u::us,cs,S,aB,bt,U,aa,ax=>by
  rw[aQ]at aa ax;obtain⟨bu,bN,bP,cx,aI,ar,bw,fG,ng,oZ⟩:=aa;obtain⟨iF,gl,e7,fi,aR,bX,b6,cR,cI,d_⟩:=ax;have eR:=aj.length _ _ _ ar;have l2:=aj.length _ _ _ bX;rw[v8 (bt d (by simp))]at eR;rw[v8 (U u (by simp))]at l2;have aX:bu=iF/\bN=gl:=append_inj (aI.symm.trans aR) (by rw[eR,l2]);obtain⟨rfl,rfl⟩:=aX;obtain⟨c5,bz⟩:=DW a3 hw ds us bN cx fi (λd ad=>bt d (by simp[ad])) (λd ad=>U d (by simp[ad])) bw b6;have key:∀y:j,aj aw jo y bu e7->y.one=true->aQ aw jo (y::h2 ds us) cs aB/\∀d∈y::h2 ds us,d.one=true:=by
   intro y a_ yE;rw[aQ];exact⟨⟨bu,bN,e7,fi,aR,a_,c5,cR,cI,d_⟩,λd ad=>by
    rcases mem_cons.1 ad with rfl|ad
    .exact yE
    .exact bz d ad⟩
  by_cases hu:u= .hole
  .subst hu;simp only[h2];by_cases ag:d.plain=true
   .rw[if_pos ag];exact key d (aj.plain _ _ _ _ ag (aj.mono a3 _ _ _ _ (λ_ h=>h) (aj.frame hw _ _ (λ_=>False) (λ_ h=>h.elim) (aj.plain _ _ _ _ ag ar)))) (bt d (by simp))
   .rw[if_neg ag];exact key .hole bX rfl
  .have e:h2 (d::ds) (u::us)=u::h2 ds us:=by cases u<;>first|rfl|exact(hu rfl).elim
   rw[e];exact key u bX (U u (by simp))
theorem K0 {w aw:World} {F jo:Nat->Prop} {d o:j} {cs:Vp} {S aB:Nat->Prop} (a3:∀b,F b->jo b) (hw:∀b,F b->aw.heap[b]? =w.heap[b]?) (U:aj w F d cs S) (aa:aj aw jo o cs aB):aj aw jo (iL d o) cs aB:=by
 cases d with
 |br f ds=>
  cases o with
  |br g us=>
   simp only[iL];rw[aj]at U aa⊢;obtain⟨arr,rfl,bw,fG⟩:=U;obtain⟨DX,e,gl,h1⟩:=aa;simp only[cons.injEq,Value.func.injEq,and_true]at e;obtain⟨aI,aR,aX⟩:=e;subst aX;obtain⟨c5,bz⟩:=DW a3 hw ds us _ _ _ bw gl fG h1;exact⟨arr,by simp_all,bz,c5⟩
  |_=>exact aa
 |_=>cases o<;>exact aa
def dI (l:Vr):af:=λi=>l.getD i .hole
def e8 (l:Vp):Nat->Value:=λi=>l.getD i undef
def i7 (P:Program) (f:FuncId) (args:Array Value) (w:World) (kB:Value->World->Prop):Prop:=
 ((callFunc f args).run P w= .ok (.enter f args) w/\Calls P f args w (λe aw=>∃v,e= .returned v/\kB v aw))\/
 ∃v aw,(callFunc f args).run P w= .ok (.value v) aw/\kB v aw
theorem i7.mono {P:Program} {f:FuncId} {args:Array Value} {w:World} {kB DY:Value->World->Prop} (h:i7 P f args w kB) (aG:∀v aw,kB v aw->DY v aw):i7 P f args w DY:=by
 rcases h with⟨U,aa⟩|⟨v,aw,U,aa⟩
 .exact .inl ⟨U,Calls.mono aa λe aw ⟨v,e,h⟩=>⟨v,e,aG v aw h⟩⟩
 .exact .inr ⟨v,aw,U,aG v aw aa⟩
def bq (C:bI) (f:FuncId) (as:Vr) (r:j) (outs:Vr):Prop:=
 ∀(w:World) (F X:Nat->Prop) (S:Nat->Nat->Prop) (vs:Vp),vs.length=as.length->bg w F X F S (dI as) (e8 vs) w->
  i7 C.P f vs.toArray w λv aw=>∃ba aB,bg w F X ba aB (dI (r::outs)) (e8 (v::vs)) aw
def j.res:j->Bool
 | .h _ _=>false
 | .ag _ _=>false
 | .J _ _=>false
 | .fn _ _=>false
 |_=>true
theorem DZ {d:j} (h:d.tree=true):d.R=[]:=by cases d<;>first|rfl|(simp[j.tree]at h)
mutual
theorem zg {s au:af}:∀(a:j) (d:j),(∀u∈a.R,(s u).tree=true->au u=s u)->view s a=some d->view au a=some d
 | .h x q,d,hu,h=>by
   have aO:(s x).tree=true:=by
    simp only[view]at h;split at h
    .rename_i e dX;cases e<;>simp only at h<;>first
      |(cases h;done)
      |(split at h
        .cases h
        .rename_i ag;exact fZ dX (.inl (by simpa using ag)))
    .cases h
   simp only[view]at h⊢;rw[hu x (by simp[j.R]) aO];exact h
 | .ag x q,d,hu,h=>by
   have aO:(s x).tree=true:=by
    simp only[view]at h;split at h
    .rename_i ai;split at h
     .rename_i e dX;exact fZ dX (.inr ai)
     .cases h
    .cases h
   simp only[view]at h⊢;rw[hu x (by simp[j.R]) aO];exact h
 | .J x q,d,hu,h=>by simp[view]at h
 | .fn f cap,d,hu,h=>by
   simp only[view,Option.map_eq_some_iff]at h⊢;obtain⟨ds,U,aa⟩:=h;exact⟨ds,D0 cap ds (by simpa [j.R]using hu) U,aa⟩
 | .hole,d,hu,h=>h
 | .bool _,d,hu,h=>h
 | .dV,d,hu,h=>h
 | .int _ _,d,hu,h=>h
 | .str _,d,hu,h=>h
 | .cW,d,hu,h=>h
 | .aK,d,hu,h=>h
 | .slice _,d,hu,h=>h
 | .aq _ _,d,hu,h=>h
 | .ref _,d,hu,h=>h
 | .aS _,d,hu,h=>h
 | .agg _,d,hu,h=>h
 | .tuple _,d,hu,h=>h
 | .cY _,d,hu,h=>h
 | .br _ _,d,hu,h=>h
theorem D0 {s au:af}:∀(as:Vr) (ds:Vr),(∀u∈j.dh as,(s u).tree=true->au u=s u)->views s as=some ds->views au as=some ds
 |[],ds,hu,h=>h
 |a::as,ds,hu,h=>by
  simp only[j.dh,mem_append]at hu;simp only[views]at h⊢;split at h
  .rename_i x y U aa;rw[zg a x (λu hm=>hu u (.inl hm)) U,D0 as y (λu hm=>hu u (.inr hm)) aa];exact h
  .cases h
end
section
variable {C:bI} {w0 w aw:World} {F0 X F Fc:Nat->Prop} {S:Nat->Nat->Prop} {s au:af} {an h_:Nat->Value}
def K1 (w:World) (F:Nat->Prop) (s:af) (an:Nat->Value) (p:bY) (v:Value) (lR:Nat->Prop):Prop:=
 p.g=true->p.o= .hole\/∃x q I d0,p.a= .h x q/\j.sub q (s x)=some d0/\cy w q (s x) (bW (an x)) none=some (d0,bW v,I)/\(s x).R=[]/\
  (q=[]->cM p.o (an x))/\(q≠[]->(s x).tree=true)/\p.o.eZ=true/\aj w F p.o (bW v) lR/\p.o.wd=d0.wd/\∀v,gP d0 v->gP p.o v
theorem K2:∀(ps:List bY) (vs:Vp) (s:af) (S lR:Nat->Nat->Prop),bg w0 F0 X F S s an w->ps.length=vs.length->
  (∀(i:Nat) (p:bY) (v:Value),ps[i]? =some p->vs[i]? =some v->K1 w F s an p v (lR i))->
  (∀i b,lR i b->b<w.heap.size/\¬F b/\(X b\/w0.heap.size<=b)/\∀u,¬S u b)->(∀i aD b,i≠aD->lR i b->¬lR aD b)->fD ps=true->
  ∃cx,bg w0 F0 X F cx (e0 s ps) an w/\∀u b,cx u b->S u b\/∃i,lR i b:=by
 intro ps;induction ps with
 |nil=>intro vs s S lR h _ _ _ _ _;exact⟨S,h,λu b J=>.inl J⟩
 |cons p ps ih=>
  intro vs s S lR h hl zh J ad iJ;cases vs with
  |nil=>simp at hl
  |cons v vs=>
   simp only[length_cons,Nat.add_right_cancel_iff]at hl;simp only[fD,Bool.and_eq_true,List.all_eq_true,Bool.or_eq_true,Bool.not_eq_true']at iJ;obtain⟨my,lQ⟩:=iJ;have rX:∀b8∈ps,(p.g=true\/b8.g=true)->∀u∈p.a.R,u∉b8.a.R:=by
    intro b8 c_ bm u hu;rcases my b8 c_ with e|e
    .rcases bm with bm|bm<;>simp[bm]at e
    .simpa using e u hu
   have skip:bY.gT s p=s->∃cx,bg w0 F0 X F cx (e0 s (p::ps)) an w/\∀u b,cx u b->S u b\/∃i,lR i b:=by
    intro fs;obtain⟨cx,aL,a0⟩:=ih vs s S (λi=>lR (i+1)) h hl (λi b8 dM ag aE=>zh (i+1) b8 dM (by simpa using ag) (by simpa using aE)) (λi b h=>J (i+1) b h)
     (λi aD b cJ=>ad (i+1) (aD+1) b (by omega)) lQ
    refine⟨cx,?_,λu b hu=>(a0 u b hu).imp id λ⟨i,ay⟩=>⟨i+1,ay⟩⟩;show bg _ _ _ _ _ (e0 (bY.gT s p) ps) _ _;rw[fs];exact aL
   cases bm:p.g with
   |false=>exact skip (by simp[bY.gT,bm])
   |true=>
    rcases zh 0 p v rfl rfl bm with bk|⟨x,q,I,d0,b4,bu,bN,o9,iD,lS,fu,zi,hx,zj⟩
    .exact skip (by simp only[bY.gT,bm,bk,if_true])
    .obtain⟨jD,kA,K3⟩:=n6 fu;have fs:bY.gT s p=cA (ji x s) x (j.put q p.o (s x)):=by
      simp only[bY.gT,bm,if_true,b4];cases K4:p.o<;>first|rfl|(rw[K4]at fu;simp[j.eZ]at fu)
     have step:=h.gT (x:=x) (q:=q) (a8:=p.o) bu bN K3 (λb2=>⟨kA,iD b2⟩) (λk r b2=>⟨lS (by rw[b2];simp),zj⟩) hx zi
      (λb h=>(J 0 b h).1) (λb h=>(J 0 b h).2.1) (λu b h=>(J 0 b h).2.2.2 u) (λb h=>(J 0 b h).2.2.1)
     rw[<-fs]at step;obtain⟨cx,aL,a0⟩:=ih vs (bY.gT s p) _ (λi=>lR (i+1)) step hl (by
      intro i b8 dM ag aE ga;have hm:b8∈ps:=mem_of_getElem? ag;rcases zh (i+1) b8 dM (by simpa using ag) (by simpa using aE) ga with bk|⟨y,hI,ar,d1,bX,b6,cR,cI,d_,dD,hv,ed,j4⟩
      .exact .inl bk
      .have cJ:y≠x:=λe=>rX b8 hm (.inl bm) x (by rw[b4];simp[j.R]) (by rw[bX,e];simp[j.R]);have kV:bY.gT s p y=s y:=by
        rw[fs,hW _ _ cJ];exact y1 _ (by rw[cI];simp)
       exact .inr ⟨y,hI,ar,d1,bX,by rw[kV];exact b6,by rw[kV];exact cR,by rw[kV];exact cI,d_,by rw[kV];exact dD,hv,ed,j4⟩)
      (by
       intro i b ay;obtain⟨iF,gl,h1,cO⟩:=J (i+1) b ay;refine⟨iF,gl,h1,λu hu=>?_⟩;simp only[fm]at hu;split at hu
       .rcases hu with hu|hu
        .exact cO _ hu
        .exact ad 0 (i+1) b (by omega) hu ay
       .exact cO _ hu)
      (λi aD b cJ=>ad (i+1) (aD+1) b (by omega)) lQ
     refine⟨cx,aL,λu b hu=>?_⟩;rcases a0 u b hu with hu|⟨i,ay⟩
     .simp only[fm]at hu;split at hu
      .rename_i e;subst e;exact hu.imp id λh=>⟨0,h⟩
      .exact .inl hu
     .exact .inr ⟨i+1,ay⟩
def gG (ps:List bY):Bool:=ps.any λp=> !p.g&& !p.a.R.isEmpty
theorem zk (h:bg w0 F0 X F S s an w) {ps:List bY} {vs vm:Vp} {os:Vr} {f:FuncId} {r:j} (hl:ps.length=vs.length) (D1:∀(i:Nat) (p:bY),ps[i]? =some p->∃o,os[i]? =some o/\(p.o=o\/p.o=iL p.d o))
  (g9:∀(i:Nat) (p:bY) (v:Value),ps[i]? =some p->vs[i]? =some v->p.a.plain=true/\az w F s an p.a v (λ_=>False))
  (eh:∀p∈ps,p.ok s) (iJ:fD ps=true) (bd:∀(Fc hN:Nat->Prop) (c1:Nat->Nat->Prop),(∀b,F b->Fc b)->(∀b,hN b->∃u,S u b)->bg w Fc hN Fc c1 (dI (ps.map (·.d))) (e8 vs) w->
   i7 C.P f vm.toArray w λv aw=>∃ba aB,bg w Fc hN ba aB (dI (r::os)) (e8 (v::vs)) aw) (aG:r.res=true)
  (a2:gG ps=true->r.ch=true/\∀(i:Nat) (p:bY) (o:j),ps[i]? =some p->os[i]? =some o->p.g=true->o.ch=true):
  i7 C.P f vm.toArray w λv aw=>∃ba aB,bg w0 F0 X ba aB (e0 (di s ps) ps) an aw/\ia w0 X ba aB (e0 (di s ps) ps) an aw r v/\∀b,F b->ba b/\aw.heap[b]? =w.heap[b]? :=by
 obtain⟨Sn,bP,aL,a0,bK,cF,dq,gk,hd,jB⟩:=KW ps vs s S h hl (λi p v ag aE=>⟨(g9 i p v ag aE).1,(g9 i p v ag aE).2,λ_=>eh p (mem_of_getElem? ag)⟩) iJ;have apart:∀(i aD:Nat) (p b8:bY),ps[i]? =some p->ps[aD]? =some b8->i≠aD->(p.g=true\/b8.g=true)->∀u∈p.a.R,u∉b8.a.R:=by
  clear g9 eh bd a2 aL bK cF jB hl D1;induction ps with
  |nil=>intro i aD p b8 ag;simp at ag
  |cons fY ps ih=>
   simp only[fD,Bool.and_eq_true,List.all_eq_true,Bool.or_eq_true,Bool.not_eq_true']at iJ;obtain⟨my,lQ⟩:=iJ;have rX:∀b8∈ps,(fY.g=true\/b8.g=true)->∀u∈fY.a.R,u∉b8.a.R:=by
    intro b8 c_ bm u hu;rcases my b8 c_ with e|e
    .rcases bm with bm|bm<;>simp[bm]at e
    .simpa using e u hu
   intro i aD p b8 ag c_ cJ bm u hu;cases i with
   |zero=>
    simp at ag;subst ag;cases aD with
    |zero=>exact(cJ rfl).elim
    |succ aD=>exact rX b8 (mem_of_getElem? (by simpa using c_)) bm u hu
   |succ i=>
    cases aD with
    |zero=>
     simp at c_;subst c_;exact λtJ=>rX p (mem_of_getElem? (by simpa using ag)) bm.symm u tJ hu
    |succ aD=>exact ih lQ i aD p b8 (by simpa using ag) (by simpa using c_) (by omega) bm u hu
 let Fc:Nat->Prop:=λb=>F b\/(gG ps=true/\∃u,bP u b)
 let hN:Nat->Prop:=λb=>∃i,Sn i b
 have v9:∀b,F b->¬hN b:=λb a3 ⟨i,ay⟩=>by obtain⟨u,hu⟩:=dq i b ay;exact h.ew u b hu a3
 have tK:∀u b,bP u b->¬hN b:=λu b hu ⟨i,ay⟩=>gk i u b ay hu;have a5:∀b,hN b->(X b\/w0.heap.size<=b)/\b<w.heap.size:=λb ⟨i,ay⟩=>by obtain⟨u,hu⟩:=dq i b ay;exact⟨h.cU u b hu,h.dw u b hu⟩
 have pre:bg w Fc hN Fc Sn (dI (ps.map (·.d))) (e8 vs) w:=by
  refine⟨λ_ h=>h,λ_ h=>.inl h,?_,λi b ay=>(a5 b ⟨i,ay⟩).2,?_,λi aD b cJ=>hd i aD b cJ,λi b ay=>.inl ⟨i,ay⟩,?_,λ_ _ _=>rfl,Nat.le_refl _,rfl,rfl,Out.refl _,h.fB.next h.size h.old λb J=>(a5 b J).1⟩
  .rintro b (J|⟨_,u,hu⟩)
   .exact h.eg b J
   .exact aL.dw u b hu
  .rintro i b ay (J|⟨_,u,hu⟩)
   .exact v9 b J ⟨i,ay⟩
   .exact gk i u b ay hu
  .intro t;cases ag:ps[t]? with
   |none=>
    have:dI (ps.map (·.d)) t= .hole:=by simp[dI,List.getD,ag]
    rw[this,az];trivial
   |some p=>
    have da:t<vs.length:=by rw[<-hl];exact(List.getElem?_eq_some_iff.1 ag).1
    have aE:vs[t]? =some vs[t]:=getElem?_eq_getElem da;have aI:dI (ps.map (·.d)) t=p.d:=by simp[dI,List.getD,ag]
    have aR:e8 vs t=vs[t]:=by simp[e8,List.getD,aE]
    rw[aI,aR];have hm:p∈ps:=mem_of_getElem? ag;have ak:=eh p hm;cases bm:p.g with
    |true=>
     obtain⟨x,q,I,bX,b6,cR,cI,d_,dD,hv,ed⟩:=bK t p _ ag aE bm;simp only[bY.ok,bm,if_true,bX]at ak;exact(az.b7 (n6 ak.2.1).2.1).2 ⟨hv,aj.mono (λb J=>.inl J) _ _ _ _ (λ_ h=>h) ed⟩
    |false=>
     simp only[bY.ok,bm]at ak;obtain⟨f1,f2⟩:=g9 t p _ ag aE;have D2:∀b8∈ps,b8.g=true->∀u∈b8.a.R,u∉p.a.R:=by
      intro b8 c_ ga u hu;obtain⟨aD,cn⟩:=getElem?_of_mem c_;refine apart aD t b8 p cn ag (λe=>?_) (.inl ga) u hu;subst e;rw[ag]at cn;simp only[Option.some.injEq]at cn;rw[cn,ga]at bm;cases bm
     have v7:=jB _ _ _ D2 f2;have iH:view (di s ps) p.a=some p.d:=zg _ _ (λu hu aO=>zd (DZ aO) (λb8 c_ ga tJ=>D2 b8 c_ ga u tJ hu)) (by simpa using ak);refine az.nothing (KQ f1 iH) ((KS aL (Fc:=Fc) (λb J=>.inl J) (SizeOf.sizeOf p.a)).1 p.a _ p.d (Nat.le_refl _) ?_ iH v7);intro u hu b J;refine .inr ⟨?_,u,J⟩;simp only[gG,List.any_eq_true];refine⟨p,hm,?_⟩;cases kq:p.a.R with
     |nil=>rw[kq]at hu;cases hu
     |cons _ _=>simp[bm]
 refine i7.mono (bd Fc hN Sn (λb J=>.inl J) (λb ⟨i,ay⟩=>dq i b ay) pre) ?_;rintro v aw ⟨ba,aB,ai⟩;have dF:∀b,b<w.heap.size->¬hN b->aw.heap[b]? =w.heap[b]? :=ai.old;let mz:Nat->Prop:=λb=>if gG ps=true then F b else ba b
 have D3:∀b,F b->ba b:=λb J=>ai.fl b (.inl J);have qs:∀b,F b->mz b:=λb J=>by
  simp only[mz];split
  .exact J
  .exact D3 b J
 have jo:∀b,mz b->ba b:=λb J=>by
  simp only[mz]at J;split at J
  .exact D3 b J
  .exact J
 have D4:∀b,mz b->F b\/hN b\/w.heap.size<=b:=λb J=>by
  simp only[mz]at J;split at J
  .exact .inl J
  .rename_i o2;rcases ai.fA b J with(J|⟨U,_⟩)|J|J
   .exact .inl J
   .exact(o2 U).elim
   .exact .inr (.inl J)
   .exact .inr (.inr J)
 have mid:bg w0 F0 X mz bP (di s ps) an aw:=by
  refine⟨λb J=>qs b (aL.fl b J),?_,λb J=>ai.eg b (jo b J),λt b J=>Nat.lt_of_lt_of_le (aL.dw t b J) ai.size,?_,aL.dS,aL.cU,?_,?_,Nat.le_trans aL.size ai.size,ai.os.trans aL.os,ai.tape.trans aL.tape,ai.output.trans aL.output,aL.fB⟩
  .intro b J;rcases D4 b J with J|J|J
   .exact aL.fA b J
   .rcases(a5 b J).1 with h|h
    .exact .inr (.inl h)
    .exact .inr (.inr h)
   .exact .inr (.inr (Nat.le_trans aL.size J))
  .intro t b aO J;rcases D4 b J with J|J|J
   .exact aL.ew t b aO J
   .exact tK t b aO J
   .exact absurd (aL.dw t b aO) (by omega)
  .intro t;exact az.frame (Sx:=bP) (λb J=>dF b (h.eg b J) (v9 b J)) qs (λx b J=>dF b (aL.dw x b J) (tK x b J)) aL.cG _ _ _ (λb J=>dF b (aL.dw t b J) (tK t b J)) (aL.cG t)
  .intro b J hX;refine(dF b (Nat.lt_of_lt_of_le J aL.size) λae=>?_).trans (aL.old b J hX);rcases(a5 b ae).1 with h|h
   .exact hX h
   .omega
 have D5:∀(d:j) (cs:Vp) (cU:Nat->Prop),(gG ps=true->d.ch=true)->aj aw ba d cs cU->aj aw mz d cs cU:=by
  intro d cs cU yU eX;by_cases hle:gG ps=true
  .exact aj.ch d cs cU (yU hle) eX
  .exact aj.mono (λb J=>by simp only[mz];rw[if_neg hle];exact J) _ _ _ _ (λ_ h=>h) eX
 have bound:∀i b,aB i b->b<aw.heap.size/\¬mz b/\(X b\/w0.heap.size<=b)/\∀u,¬bP u b:=by
  intro i b J;refine⟨ai.dw i b J,λa3=>ai.ew i b J (jo b a3),?_,λu hu=>?_⟩
  .rcases ai.cU i b J with ae|ae
   .exact(a5 b ae).1
   .exact .inr (Nat.le_trans aL.size ae)
  .rcases ai.cU i b J with ae|ae
   .exact tK u b hu ae
   .exact absurd (aL.dw u b hu) (by omega)
 obtain⟨cx,bX,b6⟩:=K2 ps vs (di s ps) bP (λi=>aB (i+1)) mid hl (by
  intro i p dM ag aE bm;have hm:p∈ps:=mem_of_getElem? ag;have ak:=eh p hm;obtain⟨x,q,I,aI,aR,aX,bT,cb,bH,bx,gR⟩:=bK i p dM ag aE bm;simp only[bY.ok,bm,if_true,aI]at ak;rcases ak.2.2 with bk|bk
  .exact .inl bk
  .obtain⟨eR,l2,zl⟩:=KT ak.2.1 bk.1 bk.2;refine .inr ⟨x,q,I,p.d.cj,aI,aR,?_,bT,λb2=>l2 _ (cb b2),bH,bk.1,?_,eR.trans (j.oT _).symm,zl⟩
   .cases q with
    |nil=>simpa only[cy]using aX
    |cons k q=>
     have aO:=bH (by simp);rw[vz (k::q) _ _ (bP x) none _ ((az.b7 aO).1 (aL.cG x)).2 aR (λb J=>dF b (aL.dw x b J) (tK x b J))];exact aX
   .have:=ai.cG (i+1);obtain⟨o,jD,kA⟩:=D1 i p ag;have iE:dI (r::os) (i+1)=o:=by simp[dI,List.getD,jD]
    have j2:e8 (v::vs) (i+1)=dM:=by simp[e8,List.getD,aE]
    rw[iE,j2]at this;have K5:o.tree=true:=by
     rcases kA with e|e
     .rw[<-e];exact(n6 bk.1).2.1
     .exact KZ (d:=p.d) (by rw[<-e];exact(n6 bk.1).2.1)
    have U:=D5 _ _ _ (λhle=>(a2 hle).2 i p o ag jD bm) ((az.b7 K5).1 this).2;rcases kA with e|e
    .rw[e];exact U
    .rw[e];exact K0 qs (λb J=>dF b (h.eg b J) (v9 b J)) gR U)
  (λi b J=>bound (i+1) b J) (λi aD b cJ=>ai.dS (i+1) (aD+1) b (by omega)) iJ
 refine⟨mz,cx,bX,?_,λb J=>⟨qs b J,dF b (h.eg b J) (v9 b J)⟩⟩;have bt:=ai.cG 0;have iE:dI (r::os) 0=r:=rfl;have j2:e8 (v::vs) 0=v:=rfl;rw[iE,j2]at bt;cases aO:r.tree with
 |false=>
  cases r<;>first
   |(simp[j.tree]at aO;done)
   |(simp[j.res]at aG;done)
   |exact .inl ⟨rfl,by rw[az];trivial⟩
 |true=>
  obtain⟨s1,s2⟩:=(az.b7 aO).1 bt;have iK:=D5 _ _ _ (λhle=>(a2 hle).1) s2;refine .inr ⟨aO,s1,aB 0,iK,λb J=>(bound 0 b J).1,λb J=>(bound 0 b J).2.1,λu b J hu=>?_,λb J=>(bound 0 b J).2.2.1⟩;rcases b6 u b hu with hu|⟨i,ay⟩
  .exact(bound 0 b J).2.2.2 u hu
  .exact ai.dS 0 (i+1) b (by omega) J ay
theorem D6 (h:bg w0 F0 X F S s an w) {ps:List bY} {vs:Vp} {f:FuncId} {r:j} (hl:ps.length=vs.length)
  (g9:∀(i:Nat) (p:bY) (v:Value),ps[i]? =some p->vs[i]? =some v->p.a.plain=true/\az w F s an p.a v (λ_=>False))
  (eh:∀p∈ps,p.ok s) (iJ:fD ps=true) (bd:∀(Fc hN:Nat->Prop) (c1:Nat->Nat->Prop),(∀b,F b->Fc b)->(∀b,hN b->∃u,S u b)->bg w Fc hN Fc c1 (dI (ps.map (·.d))) (e8 vs) w->
   i7 C.P f vs.toArray w λv aw=>∃ba aB,bg w Fc hN ba aB (dI (r::ps.map (·.o))) (e8 (v::vs)) aw) (aG:r.res=true)
  (a2:gG ps=true->r.ch=true/\∀p∈ps,p.o.ch=true):
  i7 C.P f vs.toArray w λv aw=>∃ba aB,bg w0 F0 X ba aB (e0 (di s ps) ps) an aw/\ia w0 X ba aB (e0 (di s ps) ps) an aw r v/\∀b,F b->ba b/\aw.heap[b]? =w.heap[b]? :=
 zk h hl (λi p ag=>⟨p.o,by simp[ag],.inl rfl⟩) g9 eh iJ bd aG λhle=>⟨(a2 hle).1,λi p o ag bk _=>by
  rw[getElem?_map,ag]at bk;have:=Option.some.inj bk;subst this;exact(a2 hle).2 p (mem_of_getElem? ag)⟩
theorem K6 (h:bg w0 F0 X F S s an w) {ps:List bY} {vs:Vp} {f:FuncId} {r:j} (hl:ps.length=vs.length)
  (g9:∀(i:Nat) (p:bY) (v:Value),ps[i]? =some p->vs[i]? =some v->p.a.plain=true/\az w F s an p.a v (λ_=>False))
  (eh:∀p∈ps,p.ok s) (iJ:fD ps=true) (bd:bq C f (ps.map (·.d)) r (ps.map (·.o))) (aG:r.res=true)
  (a2:gG ps=true->r.ch=true/\∀p∈ps,p.o.ch=true):
  i7 C.P f vs.toArray w λv aw=>∃ba aB,bg w0 F0 X ba aB (e0 (di s ps) ps) an aw/\ia w0 X ba aB (e0 (di s ps) ps) an aw r v/\∀b,F b->ba b/\aw.heap[b]? =w.heap[b]? :=
 D6 h hl g9 eh iJ (λFc hN c1 _ _ ag=>bd w Fc hN c1 vs (by simp[hl]) ag) aG a2
end
structure bE where
 dst:Option Nat
 bb:cZ
 guard:Option (Nat×Bool)
def tL (ops:Array Oper):Option (Nat×Bool)->Option (Option (Nat×Bool))
 |none=>some none
 |some (aD,b)=>match(ops[aD]?).bind (·.dst)with
  |some t=>some (some (t,b))
  |none=>none
structure Fr where
 n:Nat
 fx:Vm
def jE (n:Fr):Option Nat->Bool
 |none=>true
 |some t=>decide (t<n.n)&& !n.fx.contains t
def n7 (op:Op):cZ:=match cr op with
 |some bb=>bb
 |none=>.bad
def mA (n:Fr) (ops:Array Oper) (o:Oper):Option bE:=
 if jE n o.dst=true then match tL ops o.guard with
  |some g=>some ⟨o.dst,n7 o.op,g⟩
  |none=>none
 else none
def mB (n:Fr) (ops:Array Oper):List Oper->Option (List bE)
 |[]=>some []
 |o::os=>match mA n ops o,mB n ops os with
  |some r,some rs=>some (r::rs)
  |_,_=>none
def zm (C:bI) (s:af) (f:aT) (args:List aT) (K:j->af->Prop):Prop:=
 ∃(g:FuncId) (caps:Vr) (ps:List bY) (r:j),a6 s f= .fn g caps/\j.db caps=true/\ps.map (·.a)=args.map (a6 s)++caps/\(∀p∈ps,p.ok s)/\fD ps=true/\
   bq C g (ps.map (·.d)) r (ps.map (·.o))/\r.res=true/\(gG ps=true->r.ch=true/\∀p∈ps,p.o.ch=true)/\K r (e0 (di s ps) ps)
mutual
def j.en (s:af):j->Bool
 | .h x q=>q.isEmpty&&(s x).own
 | .J x _=> !(s x).plain
 | .ag _ _=>false
 | .hole=>true
 | .fn _ cap=>j.lT s cap
 |d=>d.plain
def j.lT (s:af):Vr->Bool
 |[]=>true
 |d::ds=>d.en s&&j.lT s ds
end
def kC (s:af):Vq->af
 |[]=>s
 |p::L=>kC (cA s p.1 p.2) L
def jq (s:af):Vq->Bool
 |[]=>true
 |p::L=>p.2.en s&&jq s L
def hy (s:af) (us:Vm):Vq:=us.map λu=>(u,s u)
def lU (C:bI) (s:af) (bb:cZ) (K:j->af->Prop):Prop:=
 match bb with
 | .call f args=>∃(g:FuncId) (caps:Vr) (ps:List bY) (r:j),a6 s f= .fn g caps/\j.db caps=true/\ps.map (·.a)=args.map (a6 s)++caps/\(∀p∈ps,p.ok s)/\fD ps=true/\
   bq C g (ps.map (·.d)) r (ps.map (·.o))/\r.res=true/\(gG ps=true->r.ch=true/\∀p∈ps,p.o.ch=true)/\K r (e0 (di s ps) ps)
 | .shr bb=>∃av s1,bs C s bb=some (av,s1)/\av.tree=true/\(∀vs,av≠.tuple vs)/\K av.share s1
 | .jm f args us=>jq s (hy s us)=true/\zm C s f args λav s1=>jq s1 (hy s us)=true/\K av (kC s1 (hy s us))
 |bb=>∃av s1,bs C s bb=some (av,s1)/\K av s1
theorem v_ {C:bI} {s:af} {bb:cZ} {K cz:j->af->Prop} (h:lU C s bb K) (ak:∀av s,K av s->cz av s):lU C s bb cz:=by
 cases bb with
 |call f args=>
  obtain⟨g,caps,ps,r,U,fv,aa,ax,aP,a9,bU,bO,dv⟩:=h;exact⟨g,caps,ps,r,U,fv,aa,ax,aP,a9,bU,bO,ak _ _ dv⟩
 |shr bb=>
  obtain⟨av,s1,U,aa,ax,aP⟩:=h;exact⟨av,s1,U,aa,ax,ak _ _ aP⟩
 |jm f args us=>
  obtain⟨b6,g,caps,ps,r,U,fv,aa,ax,aP,a9,bU,bO,dv,hG⟩:=h;exact⟨b6,g,caps,ps,r,U,fv,aa,ax,aP,a9,bU,bO,dv,ak _ _ hG⟩
 |_=>
  obtain⟨av,s1,U,aa⟩:=h;exact⟨av,s1,U,ak _ _ aa⟩
def jF (C:bI) (s:af) (o:bE) (K:af->Prop):Prop:=
 match o.guard with
 |none=>lU C s o.bb λav s1=>K (fin s1 o.dst av)
 |some (t,b)=>match s t with
  | .bool eE=>if eE=b then lU C s o.bb (λav s1=>K (fin s1 o.dst av))else K (fin s o.dst (.tuple []))
  | .tuple []=>K (fin s o.dst (.tuple []))
  |_=>False
def ik (C:bI) (s:af):List bE->(af->Prop)->Prop
 |[],K=>K s
 |o::os,K=>jF C s o λs1=>ik C s1 os K
def il (C:bI) (ros:List bE) (s:af):Vm->(af->Prop)->Prop
 |[],K=>K s
 |i::l,K=>match ros[i]? with
  |none=>il C ros s l K
  |some o=>jF C s o λs1=>il C ros s1 l K
theorem K7 (C:bI) (K:af->Prop):∀(rs pre:List bE) (s:af),ik C s rs K->il C (pre++rs) s ((range rs.length).map (·+pre.length)) K:=by
 intro rs;induction rs with
 |nil=>intro pre s h;exact h
 |cons r rs ih=>
  intro pre s h;rw[length_cons,range_succ_eq_map,map_cons,List.map_map];simp only[il,Nat.zero_add];rw[getElem?_append_right (Nat.le_refl _)];simp only[Nat.sub_self,getElem?_cons_zero];have key:∀s1,ik C s1 rs K->il C (pre++r::rs) s1 ((range rs.length).map ((λx=>x+pre.length)∘succ)) K:=by
   intro s1 U;have:=ih (pre++[r]) s1 U;simp only[append_assoc,singleton_append,length_append,length_singleton]at this;have e:((λx=>x+pre.length)∘succ)=λx=>x+(pre.length+1):=by funext x;simp;omega
   rw[e];exact this
  simp only[ik]at h;unfold jF at h⊢;split
  .rename_i bm;rw[bm]at h;exact v_ h λav s1=>key _
  .rename_i t b bm;rw[bm]at h;simp only at h;split
   .rename_i eE R;rw[R]at h;simp only at h;split
    .rename_i J;rw[if_pos J]at h;exact v_ h λav s1=>key _
    .rename_i J;rw[if_neg J]at h;exact key _ h
   .rename_i R;rw[R]at h;exact key _ h
   .rename_i U aa;split at h
    .exact U _ (by assumption)
    .exact aa (by assumption)
    .exact h
structure Rel (w0:World) (F0 X:Nat->Prop) (n:Fr) (ρ:Nat->Value) (s:af) (a:Act) (w:World):Prop where
 defers:a.defers=[]
 size:a.tmps.size=n.n
 fixed:∀i∈n.fx,a.tmps.getD i undef=ρ i
 rel:∃F S,bg w0 F0 X F S s (λt=>a.tmps.getD t undef) w
section
variable {C:bI} {w0 w:World} {F0 X:Nat->Prop} {n:Fr} {ρ:Nat->Value} {s s1:af} {a:Act} {av:j} {Q:Exit->Act->World->Prop}
theorem zn {dst:Option Nat} (v:Value) (R:a.tmps.size=n.n) (ad:jE n dst=true):
  (λt=>(a.put dst v).tmps.getD t undef)=nO (λt=>a.tmps.getD t undef) dst v/\(a.put dst v).tmps.size=n.n/\(a.put dst v).defers=a.defers:=by
 cases dst with
 |none=>exact⟨rfl,R,rfl⟩
 |some d=>
  simp only[jE,Bool.and_eq_true,decide_eq_true_eq]at ad;refine⟨?_,by simp[Act.put,R],rfl⟩;funext t;simp only[Act.put,nO,cA,Array.getD_eq_getD_getElem?];by_cases h:t=d
  .subst h;rw[if_pos rfl,Array.getElem?_setIfInBounds_self_of_lt (by omega)];rfl
  .rw[if_neg h,Array.getElem?_setIfInBounds_ne (λe=>h e.symm)]
theorem Rel.put {F S} (ad:a.defers=[]) (R:a.tmps.size=n.n) (bd:∀i∈n.fx,a.tmps.getD i undef=ρ i) {aw:World} (aG:bg w0 F0 X F S s (λt=>a.tmps.getD t undef) aw) {v:Value} (aE:ia w0 X F S s (λt=>a.tmps.getD t undef) aw av v)
  {dst:Option Nat} (eh:jE n dst=true):Rel w0 F0 X n ρ (fin s dst av) (a.put dst v) aw:=by
 obtain⟨aI,aR,aX⟩:=zn (n:=n) (dst:=dst) v R eh;obtain⟨aB,bl⟩:=aG.fin aE dst;refine⟨aX.trans ad,aR,λi ay=>?_,F,aB,by rw[aI];exact bl⟩;rw[congrFun aI i];cases dst with
 |none=>exact bd i ay
 |some d=>
  simp only[jE,Bool.and_eq_true,Bool.not_eq_true',contains_eq_mem,decide_eq_false_iff_not]at eh;have cJ:i≠d:=λe=>eh.2 (by rw[<-e];exact ay);simp only[nO];rw[hW _ _ cJ];exact bd i ay
theorem Rel.skip (h:Rel w0 F0 X n ρ s a w) {dst:Option Nat} (eh:jE n dst=true):Rel w0 F0 X n ρ (fin s dst (.tuple [])) (a.put dst undef) w:=by
 obtain⟨ad,R,bd,F,S,aG⟩:=h;refine Rel.put (av:=.tuple []) ad R bd aG (.inl ⟨rfl,(az.b7 (d:=.tuple []) rfl).2 ⟨?_,?_⟩⟩) eh
 .exact⟨#[],rfl,rfl,λk d x ak=>by simp at ak⟩
 .rw[aj,aQ];rfl
theorem wa {F:Nat->Prop} {an:Nat->Value} {w:World}:∀{ds es:Vr} {vs us:Vp},cK w F s an ds vs->cK w F s an es us->cK w F s an (ds++es) (vs++us):=by
 intro ds;induction ds with
 |nil=>intro es vs us U aa;rw[cK]at U;subst U;exact aa
 |cons d ds ih=>
  intro es vs us U aa;rw[cK]at U;obtain⟨v,ev,rfl,aL,a0⟩:=U;rw[cons_append,cons_append,cK];exact⟨v,_,rfl,aL,ih a0 aa⟩
theorem tM {F:Nat->Prop} {an:Nat->Value} {w:World}:∀{ds:Vr} {vs:Vp},cK w F s an ds vs->ds.length=vs.length/\∀(i:Nat) (d:j) (v:Value),ds[i]? =some d->vs[i]? =some v->az w F s an d v (λ_=>False):=by
 intro ds;induction ds with
 |nil=>intro vs h;rw[cK]at h;subst h;exact⟨rfl,λi d v h=>by simp at h⟩
 |cons d ds ih=>
  intro vs h;rw[cK]at h;obtain⟨v,ev,rfl,aL,a0⟩:=h;obtain⟨bX,b6⟩:=ih a0;refine⟨by simp[bX],λi a8 dM ad aE=>?_⟩;cases i with
  |zero=>simp at ad aE;subst ad aE;exact aL
  |succ i=>exact b6 i a8 dM (by simpa using ad) (by simpa using aE)
theorem o_ {op:Op} {bb:cZ} (h:n7 op=bb):bb= .bad\/cr op=some bb:=by
 unfold n7 at h;split at h
 .subst h;right;assumption
 .exact .inl h.symm
theorem K8 {op:Op} {bb:cZ}:cr op≠some (.shr bb):=by
 intro h;unfold cr at h;split at h<;>(try split at h)<;>(try split at h)<;>(try split at h)<;>(try simp[Option.map_eq_some_iff]at h)
theorem K9 {op:Op} {f:aT} {args:List aT} {us:Vm}:cr op≠some (.jm f args us):=by
 intro h;unfold cr at h;split at h<;>(try split at h)<;>(try split at h)<;>(try split at h)<;>(try simp[Option.map_eq_some_iff]at h)
theorem K_ {op:Op} {T:TypeId} {x:aT}:cr op≠some (.hs T x):=by
 intro h;unfold cr at h;split at h<;>(try split at h)<;>(try split at h)<;>(try split at h)<;>(try simp[Option.map_eq_some_iff]at h)
theorem La {op:Op} {T bR:TypeId} {x y:aT}:cr op≠some (.hL T bR x y):=by
 intro h;unfold cr at h;split at h<;>(try split at h)<;>(try split at h)<;>(try split at h)<;>(try simp[Option.map_eq_some_iff]at h)
theorem Lb {op:Op} {T bR:TypeId} {x y:aT} (h:cr op=some (.app T bR x y)):∃a b,op= .call ⟨.builtin .append,#[a,b],#[T,bR]⟩/\cQ a=some x/\cQ b=some y:=by
 cases op with
 |call c=>
  obtain⟨callee,args,argTypes⟩:=c;simp only[cr]at h;split at h
  .split at h<;>simp at h
  .split at h<;>simp at h
  .split at h<;>simp at h
  ·(split at h<;>try split at h)<;>simp at h
  ·(split at h<;>try split at h)<;>simp at h
  .split at h
   .rename_i a b rY v3 i5 qm;split at h
    .rename_i cu i1 ae a_;simp only[Option.some.injEq,cZ.app.injEq]at h;obtain⟨rfl,rfl,rfl,rfl⟩:=h;refine⟨a,b,?_,ae,a_⟩;have aI:args= #[a,b]:=by apply Array.ext';exact i5
     have aR:argTypes= #[rY,v3]:=by apply Array.ext';exact qm
     subst aI aR;rfl
    .cases h
   .cases h
  .cases h
 |makeFunc fn first cs=>
  cases fn<;>simp only[cr]at h<;>first|(cases h;done)|(split at h<;>simp at h)
 |slice T x dE ay fO=>
  cases fO<;>simp only[cr]at h<;>first|(cases h;done)|(split at h<;>simp at h)
 |makeMap T r=>cases r<;>simp only[cr]at h<;>simp at h
 |lookup T x i c=>cases c<;>simp only[cr]at h<;>first|(cases h;done)|(split at h<;>simp at h)
 |_=>simp only[cr]at h<;>first|(cases h;done)|(simp at h;done)|(split at h<;>simp at h)
theorem bg.alias {F:Nat->Prop} {S:Nat->Nat->Prop} {an:Nat->Value} {u x:Nat} (h:bg w0 F0 X F S s an w) (hu:s u= .hole) (ae:(s x).own=true) (aE:bW (an u)=bW (an x)) (U:Value.et (an u)=true):
  bg w0 F0 X F (fm S u (λ_=>False)) (cA s u (.h x [])) an w:=by
 have c8:cA an u (an u)=an:=by funext y;simp only[cA];split<;>simp_all
 have:=h.s8 (t:=u) (d:=.h x []) (v:=an u) rfl (by
  rw[az];intro d ad ag;simp only[j.sub,Option.some.injEq]at ad;subst ad;exact⟨bW (an x),none,rfl,aE,((qp ae).2.2.2.2.2 _).2 U⟩)
 rwa [c8]at this
theorem ia.less {F:Nat->Prop} {S aB:Nat->Nat->Prop} {an:Nat->Value} {s1:af} {v:Value} (bB:∀u b,aB u b->S u b) (aG:av.res=true) (h:ia w0 X F S s an w av v):ia w0 X F aB s1 an w av v:=by
 rcases h with⟨U,aa⟩|⟨U,aa,Sn,ax,aP,a9,bU,bO⟩
 .refine .inl ⟨U,?_⟩;cases av<;>first
   |(simp[j.res]at aG;done)
   |(rw[az];trivial)
   |(rw[az]at aa⊢;exact aa)
 .exact .inr ⟨U,aa,Sn,ax,aP,a9,λu b J hu=>bU u b J (bB u b hu),bO⟩
theorem D7 (a4:C.dx) (h:Rel w0 F0 X n ρ s a w) {o:Oper} {f:aT} {args:List aT} (bj:cr o.op=some (.call f args)) (ad:jE n o.dst=true) {K:j->af->Prop} {L:af->Prop} {next:Act->World->Prop}
  (hw:zm C s f args K) (qt:∀F S ba aB w aw av s1 v,bg w0 F0 X F S s (λt=>a.tmps.getD t undef) w->K av s1->av.res=true->bg w0 F0 X ba aB s1 (λt=>a.tmps.getD t undef) aw->ia w0 X ba aB s1 (λt=>a.tmps.getD t undef) aw av v->(∀b,F b->ba b/\aw.heap[b]? =w.heap[b]?)->
   ∃s2 cx,L (fin s2 o.dst av)/\bg w0 F0 X ba cx s2 (λt=>a.tmps.getD t undef) aw/\ia w0 X ba cx s2 (λt=>a.tmps.getD t undef) aw av v)
  (a2:∀au bZ aw,L au->Rel w0 F0 X n ρ au bZ aw->next bZ aw):o.wp C.P a w next Q:=by
 have mC:=h;obtain⟨h3,df,gV,F,S,aG⟩:=h;obtain⟨g,caps,ps,r,U,fv,aa,ax,aP,a9,bU,bO,dv⟩:=hw;obtain⟨dst,op,ty,pos,after,guard⟩:=o;simp only at bj ad qt;cases op with
 |call c=>
  obtain⟨callee,jG,argTypes⟩:=c;simp only[cr]at bj;split at bj
  .split at bj
   .rename_i n8 _ _ D8 xs bd kZ;simp only[Option.some.injEq,cZ.call.injEq]at bj;obtain⟨rfl,rfl⟩:=bj;obtain⟨f1,f2⟩:=dZ aG (λ_=>rfl) bd;rw[U,az]at f2;obtain⟨arr,f3,f4⟩:=f2;have n9:execOp a.eval {dst,op:=.call {callee:=.value n8,args:=jG,argTypes},type:=ty,pos,after,guard}=callFunc g ((jG.toList.map a.eval++arr.toList).toArray):=by
     have:a.eval n8= .func (.func g) #[] arr:=f3;simp only[execOp,resolve,this,Deferred.ofValue,pure_bind,invoke];congr 1;apply Array.ext';simp
    unfold Oper.wp;rw[n9];have tN:cK w F s (λt=>a.tmps.getD t undef) (xs.map (a6 s)++caps) (jG.toList.map a.eval++arr.toList):=wa (tz aG (λ_=>rfl) _ _ (n3 kZ)) f4;rw[<-aa]at tN;obtain⟨eR,l2⟩:=tM tN;have eP:∀d∈xs.map (a6 s)++caps,d.plain=true:=by
     intro d ad;rcases mem_append.1 ad with ad|ad
     .obtain⟨x,ae,rfl⟩:=mem_map.1 ad;exact CH s x λav e=>by
       subst e;have hm:=n3 kZ;have:some (aT.c av)∈xs.map some:=mem_map.2 ⟨_,ae,rfl⟩;rw[<-hm]at this;obtain⟨o,_,bk⟩:=mem_map.1 this;cases o with
       |const v=>simp only[cQ,Option.map_eq_some_iff]at bk;obtain⟨c,ai,e⟩:=bk;cases e;exact yq ai
       |tmp n=>simp[cQ]at bk
       |func g=>simp[cQ]at bk
       |global g=>simp[cQ]at bk
     .obtain⟨k,ak⟩:=getElem?_of_mem ad;exact vy fv ak
    have zo:=K6 (C:=C) aG (ps:=ps) (vs:=jG.toList.map a.eval++arr.toList) (f:=g) (r:=r) (by simpa using eR)
     (λi p v ag aE=>⟨eP p.a (by rw[<-aa];exact mem_map.2 ⟨p,mem_of_getElem? ag,rfl⟩),l2 i p.a v (by simp[ag]) aE⟩) ax aP a9 bU bO
    rcases zo with⟨c5,bz⟩|⟨v,aw,c5,ba,aB,bz,dC,ct⟩
    .rw[c5,Oper.upon_enter];refine Calls.mono bz ?_;rintro e aw ⟨v,rfl,ba,aB,bX,b6,cR⟩;obtain⟨s2,cx,ea,fh,gE⟩:=qt _ _ _ _ _ _ _ _ _ aG dv bU bX b6 cR;exact a2 _ _ _ ea (Rel.put h3 df gV fh gE ad)
    .rw[c5,Oper.upon_value];obtain⟨s2,cx,ea,fh,gE⟩:=qt _ _ _ _ _ _ _ _ _ aG dv bU bz dC ct;exact a2 _ _ _ ea (Rel.put h3 df gV fh gE ad)
   .cases bj
  .split at bj
   .simp only[Option.map_eq_some_iff]at bj;obtain⟨_,_,bj⟩:=bj;cases bj
   .cases bj
  .split at bj
   .simp only[Option.map_eq_some_iff]at bj;obtain⟨_,_,bj⟩:=bj;cases bj
   .cases bj
  iterate 3
   .split at bj
    .split at bj<;>cases bj
    .cases bj
  .cases bj
 |makeFunc fn first cs=>
  cases fn<;>simp only[cr]at bj<;>first|(cases bj;done)|(split at bj<;>simp at bj)
 |slice T x dE ay fO=>
  cases fO<;>simp only[cr]at bj<;>first|(cases bj;done)|(split at bj<;>simp at bj)
 |makeMap T r=>cases r<;>simp only[cr]at bj<;>simp at bj
 |lookup T x i c=>cases c<;>simp only[cr]at bj<;>first|(cases bj;done)|(split at bj<;>simp at bj)
 |_=>simp only[cr]at bj<;>first|(cases bj;done)|(simp at bj;done)|(split at bj<;>simp at bj)
theorem Lc (a4:C.dx) (h:Rel w0 F0 X n ρ s a w) {o:Oper} {bb:cZ} (bj:cr o.op=some bb) (ad:jE n o.dst=true) {K:af->Prop} {next:Act->World->Prop}
  (hw:lU C s bb λav s1=>K (fin s1 o.dst av)) (a2:∀au bZ aw,K au->Rel w0 F0 X n ρ au bZ aw->next bZ aw):o.wp C.P a w next Q:=by
 have mC:=h;obtain⟨h3,df,gV,F,S,aG⟩:=h;have plain:∀av s1,bs C s bb=some (av,s1)->K (fin s1 o.dst av)->o.wp C.P a w next Q:=by
  intro av s1 he ak;obtain⟨r,aw,v,ba,aB,U,aa,ax,aP⟩:=Dz (a:=a) a4 aG (λ_=>rfl) bj he;unfold Oper.wp;rw[U];rcases aa with rfl|⟨rfl,rfl⟩
  .exact a2 _ _ _ ak (Rel.put h3 df gV ax aP ad)
  .exact a2 _ _ _ ak (Rel.put h3 df gV ax aP ad)
 cases bb with
 |shr bb=>exact(K8 bj).elim
 |hL T bR x y=>exact(La bj).elim
 |call f args=>exact D7 a4 ⟨h3,df,gV,F,S,aG⟩ bj ad (K:=λav s1=>K (fin s1 o.dst av)) hw (λ_ _ _ aB _ _ _ s1 _ _ aa _ ax aP _=>⟨s1,aB,aa,ax,aP⟩) a2
 |jm f args L=>exact(K9 bj).elim
 |hs T x=>exact(K_ bj).elim
 |_=>
  obtain⟨av,s1,he,ak⟩:=hw;exact plain av s1 he ak
theorem ia.share {F:Nat->Prop} {S:Nat->Nat->Prop} {an:Nat->Value} {v:Value} (h:bg w0 F0 X F S s an w) (aE:ia w0 X F S s an w av v) (aO:av.tree=true) (a2:∀vs,av≠.tuple vs):
  ∃ba,bg w0 F0 X ba S s an w/\ia w0 X ba S s an w av.share v:=by
 obtain⟨Sn,eS,dY,gS,fQ,nf,qu⟩:∃Sn:Nat->Prop,cM av v/\aj w F av (bW v) Sn/\(∀b,Sn b->b<w.heap.size)/\(∀b,Sn b->¬F b)/\(∀u b,Sn b->¬S u b)/\(∀b,Sn b->X b\/w0.heap.size<=b):=by
  rcases aE with⟨U,aa⟩|⟨_,aa,Sn,ax,aP,a9,bU,bO⟩
  .rw[az.b7 aO]at aa;exact⟨λ_=>False,aa.1,aa.2,λ_ h=>h.elim,λ_ h=>h.elim,λ_ _ h=>h.elim,λ_ h=>h.elim⟩
  .exact⟨Sn,aa,ax,aP,a9,bU,bO⟩
 refine⟨λb=>F b\/Sn b,?_,.inl ⟨y_ av,?_⟩⟩
 .exact {
   fl:=λb J=>.inl (h.fl b J)
   fA:=λb J=>by
    rcases J with J|J
    .exact h.fA b J
    .exact .inr (qu b J)
   eg:=λb J=>J.elim (h.eg b) (gS b)
   dw:=h.dw
   ew:=λt b J bd=>bd.elim (h.ew t b J) (λR=>nf t b R J)
   dS:=h.dS
   cU:=h.cU
   cG:=λt=>az.frame (λ_ _=>rfl) (λb J=>.inl J) (λ_ _ _=>rfl) h.cG _ _ _ (λ_ _=>rfl) (h.cG t)
   old:=h.old
   size:=h.size
   os:=h.os
   tape:=h.tape
   output:=h.output
   fB:=h.fB}
 .by_cases bk:∃o,av= .cY o
  .obtain⟨o,rfl⟩:=bk;rw[j.share,az];trivial
  by_cases wb:∃f c,av= .br f c
  .obtain⟨f,c,rfl⟩:=wb;rw[j.share,az];trivial
  have Ld:av.share.tree=true:=by cases av<;>first|exact aO|rfl|exact(bk ⟨_,rfl⟩).elim|exact(wb ⟨_,_,rfl⟩).elim
  rw[az.b7 Ld];exact⟨zb a2 eS,aj.shared (λb J=>.inl J) av _ Sn (λb J=>.inr J) dY⟩
theorem Le {op:Op} {T:TypeId} {x:aT} (h:cr op=some (.g4 T x)):∃a,op= .box T a/\cQ a=some x:=by
 cases op with
 |box rY a=>
  simp only[cr,Option.map_eq_some_iff,cZ.g4.injEq]at h;obtain⟨y,a_,rfl,rfl⟩:=h;exact⟨a,rfl,a_⟩
 |_=>
  exfalso;unfold cr at h;split at h<;>(try split at h)<;>(try split at h)<;>(try split at h)<;>(try simp[Option.map_eq_some_iff]at h)<;>contradiction
theorem Lf {aw:World} {F ba:Nat->Prop} {s s1:af} {an:Nat->Value} (a3:∀b,F b->ba b/\aw.heap[b]? =w.heap[b]?):∀(n:Nat),
  (∀(d:j) (v:Value) (S:Nat->Prop),SizeOf.sizeOf d<=n->d.en s=true->d.en s1=true->az w F s an d v S->az aw ba s1 an d v (λ_=>False))/\
  (∀(ds:Vr) (vs:Vp),SizeOf.sizeOf ds<=n->j.lT s ds=true->j.lT s1 ds=true->cK w F s an ds vs->cK aw ba s1 an ds vs):=by
 intro n;induction n with
 |zero=>
  refine⟨λd v S bC=>?_,λds vs bC=>?_⟩
  .cases d<;>simp at bC<;>omega
  .cases ds<;>simp at bC<;>omega
 |succ n ih=>
  refine⟨λd v S bC bX b6 h=>?_,λds vs bC bX b6 h=>?_⟩
  .cases d with
   |hole=>rw[az];trivial
   |h x q=>
    simp only[j.en,Bool.and_eq_true,isEmpty_iff]at bX b6;obtain⟨rfl,bX⟩:=bX;rw[az]at h⊢;obtain⟨b_,a,eO,el,fP⟩:=h (s x) (by simp only[j.sub]) (qp bX).1;simp only[cy,Option.some.injEq,Prod.mk.injEq,true_and]at eO;intro d ad _;simp only[j.sub,Option.some.injEq]at ad;subst ad;exact⟨bW (an x),none,by simp only[cy],by rw[el,<-eO.1],((qp b6.2).2.2.2.2.2 _).2 (((qp bX).2.2.2.2.2 _).1 fP)⟩
   |ag x q=>simp[j.en]at bX
   |J x k=>
    simp only[j.en,Bool.not_eq_true']at bX;rw[az]at h⊢;obtain⟨b,cur,e,fr,U,aa,ax,aP⟩:=h bX;exact λ_=>⟨b,cur,e,fr,U,(a3 b aa).1,(a3 b aa).2.trans ax,aP⟩
   |fn f cap=>
    simp only[j.en]at bX b6;rw[az]at h⊢;obtain⟨arr,rfl,ai⟩:=h;exact⟨arr,rfl,ih.2 _ _ (by simp at bC;omega) bX b6 ai⟩
   |_=>
    simp only[j.en]at bX;have bl:=(az.b7 rfl).1 h;exact(az.b7 rfl).2 ⟨bl.1,aj.mono (λb J=>(a3 b J).1) _ _ _ _ (λ_ h=>h) (aj.frame (λb J=>(a3 b J).2) _ _ _ (λ_ h=>h.elim) (aj.plain _ _ _ _ bX bl.2))⟩
  .cases ds with
   |nil=>rw[cK]at h⊢;exact h
   |cons d ds=>
    simp only[j.lT,Bool.and_eq_true]at bX b6;rw[cK]at h⊢;obtain⟨v,ev,rfl,U,aa⟩:=h;simp at bC;exact⟨v,ev,rfl,ih.1 _ _ _ (by omega) bX.1 b6.1 U,ih.2 _ _ (by omega) bX.2 b6.2 aa⟩
theorem Lg {s:af} {d:j} (h:d.en s=true):d.plain=true:=by
 cases d<;>first|rfl|(simpa [j.en]using h)
theorem bg.kC {F:Nat->Prop} {an:Nat->Value}:∀(L:Vq) (s:af) (S:Nat->Nat->Prop),bg w0 F0 X F S s an w->(∀p∈L,p.2.plain=true/\az w F s an p.2 (an p.1) (λ_=>False))->
  ∃aB,bg w0 F0 X F aB (cV.kC s L) an w/\∀u b,aB u b->S u b:=by
 intro L;induction L with
 |nil=>intro s S h _;exact⟨S,h,λ_ _ h=>h⟩
 |cons p L ih=>
  intro s S h qt;obtain⟨U,aa⟩:=qt p (by simp);have c8:cA an p.1 (an p.1)=an:=by funext u;simp only[cA];split<;>simp_all
  have ax:=h.s8 (t:=p.1) U aa;rw[c8]at ax;have fz:∀x,x≠p.1->(cA s p.1 p.2 x).tree=true->cA s p.1 p.2 x=s x/\an x=an x:=λx ae _=>⟨hW _ _ ae,rfl⟩
  obtain⟨aB,aL,a0⟩:=ih _ _ ax (λq b2=>⟨(qt q (by simp[b2])).1,(az.void (t:=p.1) fz (by rw[kp];exact U) _).1 _ _ _ (Nat.le_refl _) (qt q (by simp[b2])).2⟩);refine⟨aB,aL,λu b J=>?_⟩;have:=a0 u b J;simp only[fm]at this;split at this
  .exact this.elim
  .exact this
theorem zp {s:af}:∀{L:Vq},jq s L=true->∀p∈L,p.2.en s=true
 |q::L,U,p,ag=>by
  simp only[jq,Bool.and_eq_true]at U;rcases mem_cons.1 ag with rfl|ag
  .exact U.1
  .exact zp U.2 p ag
theorem Lh {s:af} {us:Vm} {p:Nat×j} (h:p∈hy s us):p.1∈us/\s p.1=p.2:=by
 obtain⟨u,hu,rfl⟩:=mem_map.1 h;exact⟨hu,rfl⟩
theorem Li (a4:C.dx) (h:Rel w0 F0 X n ρ s a w) {o:Oper} {bb:cZ} (bj:n7 o.op=bb.base) (ad:jE n o.dst=true) {K:af->Prop} {next:Act->World->Prop}
  (hw:lU C s bb λav s1=>K (fin s1 o.dst av)) (a2:∀au bZ aw,K au->Rel w0 F0 X n ρ au bZ aw->next bZ aw):o.wp C.P a w next Q:=by
 cases bb with
 |shr bb=>
  obtain⟨av,s1,he,aO,kz,ak⟩:=hw;rcases o_ bj with bj|bj
  .change bb= .bad at bj;subst bj;cases he
  obtain⟨h3,df,gV,F,S,aG⟩:=h;obtain⟨r,aw,v,ba,aB,U,aa,ax,aP⟩:=Dz (a:=a) a4 aG (λ_=>rfl) bj he;obtain⟨jo,bK,cF⟩:=ia.share ax aP aO kz;unfold Oper.wp;rw[U];rcases aa with rfl|⟨rfl,rfl⟩
  .exact a2 _ _ _ ak (Rel.put h3 df gV bK cF ad)
  .exact a2 _ _ _ ak (Rel.put h3 df gV bK cF ad)
 |bad=>obtain⟨av,s1,he,_⟩:=hw;cases he
 |jm f args L=>
  obtain⟨aR,hw⟩:=hw;rcases o_ bj with J|J
  .cases J
  .refine D7 a4 h J ad hw ?_ a2;rintro F S ba aB w aw av s1 v eS ⟨dY,fQ⟩ nf qu wc zq;obtain⟨cx,aL,a0⟩:=qu.kC (hy s L) s1 aB (λp ag=>by
    have c5:=(Lh ag).2;have bz:=zp aR p ag;have dC:=zp dY p ag;refine⟨Lg bz,(Lf zq _).1 _ _ (S p.1) (Nat.le_refl _) bz dC ?_⟩;have:=eS.cG p.1;rw[c5]at this;exact this)
   exact⟨_,cx,fQ,aL,wc.less a0 nf⟩
 |hs T x=>
  obtain⟨av,s1,he,ak⟩:=hw;rcases o_ bj with J|J
  .cases J
  .obtain⟨cu,tO,ae⟩:=Le J;obtain⟨h3,df,gV,F,S,aG⟩:=h;obtain⟨dst,op,ty,pos,after,guard⟩:=o;simp only at tO ad ak;subst tO;obtain⟨r,aw,v,ba,aB,U,aa,ax,aP⟩:Next C w0 F0 X (λt=>a.tmps.getD t undef) w (execOp a.eval ⟨dst,.box T cu,ty,pos,after,guard⟩) av s1:=(Jf (T:=T) aG (dZ aG (λ_=>rfl) ae).2 he).next;unfold Oper.wp;rw[U];rcases aa with rfl|⟨rfl,rfl⟩
   .exact a2 _ _ _ ak (Rel.put h3 df gV ax aP ad)
   .exact a2 _ _ _ ak (Rel.put h3 df gV ax aP ad)
 |hL T bR x y=>
  obtain⟨av,s1,he,ak⟩:=hw;rcases o_ bj with J|J
  .cases J
  .obtain⟨cu,i1,tO,ae,a_⟩:=Lb J;obtain⟨h3,df,gV,F,S,aG⟩:=h;simp only[bs,Option.map_eq_some_iff,Prod.mk.injEq]at he;obtain⟨d,fF,rfl,rfl⟩:=he;obtain⟨v,aw,ba,aB,U,aa,ax⟩:=J6 (ty:=o.type) a4 aG (dZ aG (λ_=>rfl) ae).2 (dZ aG (λ_=>rfl) a_).2 fF;have n9:execOp a.eval o=(do pure (.value (<-Builtin.append_ #[T,bR] o.type #[a.eval cu,a.eval i1]))):=by
    obtain⟨dst,op,ty,pos,after,guard⟩:=o;simp only at tO;subst tO;simp[execOp,resolve,invoke,builtin]
   unfold Oper.wp;rw[n9];simp only[Sem.run_bind,U,Result.andThen];exact a2 _ _ _ ak (Rel.put h3 df gV aa ax ad)
 |_=>
  rcases o_ bj with J|J
  .cases J
  .exact Lc a4 h J ad hw a2
end
end Go.cV
