/- Part of a proof that a law returns true for every input. No condition. -/
import Derived.Test.YtndfcecbamffaaaGreatDoorFwD
import Derived.Laws.Tables
namespace Go.cG
open List Go.IntKind Nat Or
section
variable {C:bz} {w0 w:World} {F0 X F:Nat->Prop} {S:Nat->Nat->Prop} {s s1:ag} {an:Nat->Value} {av:j}
theorem yZ (z:ach):∀n,(range (n*z.length)).map (λi=>z[i%z.length]!)=(replicate n z).flatten
 |0=>by simp
 |n+1=>by
  rw[Nat.add_mul,Nat.one_mul,range_add,map_append,yZ z n,replicate_succ',flatten_append];congr 1;simp only[List.map_map,flatten_cons,flatten_nil,append_nil];apply ext_getElem
  .simp
  .intro i R U;have ax:i<z.length:=U;simp[mod_eq_of_lt ax,ax]
theorem aT.replicate {d:j} {cs:ach} (h:∀aG,al w F d cs aG):∀n aG,aT w F (replicate n d) (replicate n cs).flatten aG
 |0,aG=>by simp only[replicate_zero,flatten_nil];rw[aT]
 |n+1,aG=>by
  rw[replicate_succ,replicate_succ,flatten_cons,aT];exact⟨cs,_,λ_=>False,λ_=>False,rfl,h _,aT.replicate h n _,λ_ h=>h.elim,λ_ h=>h.elim,λ_ h=>h.elim⟩
def dZ (C:bz) (T:TypeId) (l c:j):Option j:=
 match(C.T T).k,l,c with
 | .slice e,.int .i64 n,.int .i64 m=>if n=m/\0<=n/\(C.T e).ok=true/\(C.T e).zero.wd=(C.T e).sz/\(flat (C.T e).zero).isSome=true/\(C.T e).sz≠0/\(C.T e).bytes*n<=140737488355328/\n<=9223372036854775807 then
   some (.ao (C.T e).sz (replicate n.toNat (C.T e).zero))else none
 |_,_,_=>none
theorem Pe (a1:C.du) (h:bm w0 F0 X F S s an w) {T:TypeId} {l c:j} {Hs Ht:Value} (hl:az w F s an l Hs (λ_=>False)) (aj:az w F s an c Ht (λ_=>False)) (he:dZ C T l c=some av):
  Good C w0 F0 X an w (Instr.makeSlice T Hs Ht) av s:=by
 unfold dZ at he;split at he
 .rename_i e n m ak;have:=mJ hl;subst this;have:=mJ aj;subst this;obtain⟨B8,d,B9,aH,aN,aP,bQ,b_,bM,bH⟩:=a1.info (e8 ak (by simp));rw[ak]at bH;have:=kD bH;subst this;split at he
  .rename_i sc;obtain⟨rfl,aO,oa,o9,p9,dm,Hu,Ca⟩:=sc;simp only[Option.some.injEq]at he;subst he;obtain⟨i,B_,z,f1,f2,f3,f4,f5,f6,f7⟩:=a1.info oa;obtain⟨eC,mh⟩:=Option.isSome_iff_exists.1 p9;have p_:=f5 eC mh;have eO:∀aG,al w F (C.T e).zero eC aG:=λaG=>(al.flat _).1 _ eC aG (Nat.le_refl _) mh;have oc:eC.length=(C.T e).sz:=by rw[al.length _ _ _ (eO (λ_=>False)),o9]
   obtain⟨n,rfl⟩:=Int.eq_ofNat_of_zero_le aO;simp only[Int.toNat_natCast];have ua:i64.wrap (n:Int)=n:=by
    rw[wrap_i64];omega
   have tZ:∀k (w:World),(askRoom k).run C.P w= .ok () w:=by
    intro k w;unfold askRoom;split<;>rfl
   have n9:((Array.range (n*(C.T e).sz)).map (eC.toArray[·%eC.toArray.size]!)).toList=(replicate n eC).flatten:=by
    have:=yZ eC n;rw[oc]at this;simpa [oc]using this
   have cW:¬(281474976710656<(i.bytes:Int)*n):=by
    rw[f3];omega
   have y0:¬((n:Int)<0):=by omega
   have run:(Instr.makeSlice T (.int .i64 n) (.int .i64 n)).run C.P w= .ok (.slice (some ⟨w.heap.size,0,none⟩) n n)
     (w.alloc (.cells (if n*(C.T e).sz=0 then(Array.range (n*(C.T e).sz)).map (λ_=>default)else(Array.range (n*(C.T e).sz)).map (eC.toArray[·%eC.toArray.size]!)) e)):=by
    by_cases bg:n*(C.T e).sz=0
    .simp[Instr.makeSlice,run_underlying bM,asInt,asIntOf,r8 f1,ua,cW,y0,tZ,jt f1,f2,bg,newRow]
    .simp only[bg,if_false];simp[Instr.makeSlice,run_underlying bM,asInt,asIntOf,r8 f1,ua,cW,y0,tZ,jt f1,f2,bg,newRow,r9 f1 f4,p_]
   have jM:(if n*(C.T e).sz=0 then(Array.range (n*(C.T e).sz)).map (λ_=>(default:Value))else(Array.range (n*(C.T e).sz)).map (eC.toArray[·%eC.toArray.size]!)).toList=(replicate n eC).flatten:=by
    split
    .rename_i bg;have:n=0:=by
      rcases mul_eq_zero.1 bg with h|h
      .exact h
      .exact(dm h).elim
     subst this;simp
    .exact n9
   generalize su:(if n*(C.T e).sz=0 then(Array.range (n*(C.T e).sz)).map (λ_=>(default:Value))else(Array.range (n*(C.T e).sz)).map (eC.toArray[·%eC.toArray.size]!))=cur at run jM;have ie:(replicate n eC).flatten.length=n*(C.T e).sz:=by simp[oc]
   have gY:cur.size=n*(C.T e).sz:=by
    have:cur.size=cur.toList.length:=by simp
    rw[this,jM,ie]
   have j8:=h.wg (au:=w.alloc (.cells cur e)) (sz:=(C.T e).sz) (cap:=n) (xs:=replicate n (C.T e).zero) (cur:=cur) (e:=e) (fr:=(0,0)) (Sn:=λ_=>False) rfl rfl rfl ⟨rfl,λ_=>Nat.le_refl _⟩
    (λo _ ⟨_,U⟩=>absurd U (not_lt_zero _)) (by simp) (by unfold maxLen;omega) gY (by intro d ad;rw[eq_of_mem_replicate ad];exact o9)
    (by rw[jM,length_replicate,take_of_length_le (by rw[ie];exact Nat.le_refl _)];exact aT.replicate eO n _) (λ_ h=>h.elim) (λ_ h=>h.elim) (λ_ _ h=>h.elim) (λ_ h=>h.elim)
   rw[length_replicate]at j8;exact⟨_,_,F,S,run,j8.1,j8.2⟩
  .cases he
 .cases he
def hI (C:bz) (T bV:TypeId) (x y:j):Option j:=
 match(C.T T).k,(C.T bV).k,x,y with
 | .slice e,.int _,.bc,.int .i64 n=>if 0<=n/\(C.T e).ok=true/\(C.T e).zero.wd=(C.T e).sz/\(flat (C.T e).zero).isSome=true/\(C.T e).sz≠0/\(C.T e).bytes*n<=140737488355328/\n<=9223372036854775807 then
   some (.ao (C.T e).sz (replicate n.toNat (C.T e).zero))else none
 |_,_,_,_=>none
theorem Pf {P:Program} {T bV ty e:TypeId} {k:IntKind} {i:TypeInfo} {z:Value} (aK:P.underlying T=some (.slice e)) (hu:P.underlying bV=some (.int k)) (ax:P.info? e=some i) (bD:i.zero=some z)
  (n:Nat) (bg:n≠0) (J:i.size≠0) (aO:n<=9223372036854775807) (I:n*i.bytes<=140737488355328):
  (Builtin.append_ #[T,bV] ty #[.slice none 0 0,.int .i64 n]).run P w= .ok (.slice (some ⟨w.heap.size,0,none⟩) n (grownCap w n 0 e))
   (w.drew.alloc (.cells (Builtin.zeroCells z.cells n++Builtin.zeroCells z.cells (grownCap w n 0 e-n)) e)):=by
 have ua:i64.wrap (n:Int)=n:=by rw[wrap_i64];omega
 have y0:¬((n:Int)<0):=by omega
 have hmul:(n:Int)*(i.bytes:Int)=((n*i.bytes:Nat):Int):=by simp
 have cW:¬(281474976710656<(n:Int)*(i.bytes:Int)):=by rw[hmul];omega
 have gX:¬(281474976710656<Builtin.nextslicecap n 0*i.bytes):=by
  have:Builtin.nextslicecap n 0=n:=by unfold Builtin.nextslicecap;rw[if_pos (by omega)]
  rw[this];omega
 have tZ:∀k (w:World),(askRoom k).run P w= .ok () w:=by
  intro k w;unfold askRoom;split<;>rfl
 have B5:¬(9223372036854775807<(n:Int)):=by omega
 have mN:n*i.size≠0:=Nat.mul_ne_zero bg J;simp[Builtin.append_,run_underlying aK,run_underlying hu,jt ax,r8 ax,asInt,asIntOf,ua,y0,cW,gX,bg,Question.forced,tZ,B5,r9 ax bD,newRow,grownCap,Builtin.firstCells];intro j5;exact(mN j5).elim
theorem Pg (a1:C.du) (h:bm w0 F0 X F S s an w) {T bV ty:TypeId} {x y:j} {dE gC:Value} (ae:az w F s an x dE (λ_=>False)) (a6:az w F s an y gC (λ_=>False)) (he:hI C T bV x y=some av):
  Good C w0 F0 X an w (Builtin.append_ #[T,bV] ty #[dE,gC]) av s:=by
 unfold hI at he;split at he
 .rename_i e aaU n ak Hv;have:=p3 ae;subst this;have:=mJ a6;subst this;obtain⟨B8,d,B9,aH,aN,aP,bQ,b_,bM,bH⟩:=a1.info (e8 ak (by simp));rw[ak]at bH;have:=kD bH;subst this;obtain⟨aaV,aaW,aaX,ub,Hw,Ph,aaY,aaZ,Hx,Hy⟩:=a1.info (e8 Hv (by simp));rw[Hv]at Hy;have:=v7 Hy;subst this;split at he
  .rename_i sc;obtain⟨aO,oa,o9,p9,dm,Hu,Ca⟩:=sc;simp only[Option.some.injEq]at he;subst he;obtain⟨i,B_,z,f1,f2,f3,f4,f5,f6,f7⟩:=a1.info oa;obtain⟨eC,mh⟩:=Option.isSome_iff_exists.1 p9;have p_:=f5 eC mh;have eO:∀aG,al w F (C.T e).zero eC aG:=λaG=>(al.flat _).1 _ eC aG (Nat.le_refl _) mh;have oc:eC.length=(C.T e).sz:=by rw[al.length _ _ _ (eO (λ_=>False)),o9]
   obtain⟨n,rfl⟩:=Int.eq_ofNat_of_zero_le aO;simp only[Int.toNat_natCast];by_cases bg:n=0
   .subst bg;have run:(Builtin.append_ #[T,bV] ty #[.slice none 0 0,.int .i64 ((0:Nat):Int)]).run C.P w= .ok (.slice none 0 0) w:=by
     have ua:i64.wrap 0=0:=by decide
     simp[Builtin.append_,run_underlying bM,run_underlying Hx,jt f1,r8 f1,asInt,asIntOf,ua]
    exact⟨_,w,F,S,run,h,.inr ⟨rfl,rfl,λ_=>False,by simp only[bZ,gM];rw[al];exact .inl ⟨rfl,_,rfl⟩,λ_ h=>h.elim,λ_ h=>h.elim,λ_ _ h=>h.elim,λ_ h=>h.elim⟩⟩
   .have run:=Pf (w:=w) (ty:=ty) bM Hx f1 f4 n bg (by rw[f2];exact dm) (by omega) (by
     rw[f3];have:((C.T e).bytes:Int)*(n:Int)=(((C.T e).bytes*n:Nat):Int):=by simp
     rw[this]at Hu;rw[Nat.mul_comm];omega)
    rw[p_]at run;have si:=grownCap_ge w n 0 e;have wj:=grownCap_le_maxLen w n 0 e (by unfold maxLen;omega);have Hz:∀m,(Builtin.zeroCells eC.toArray m).toList=(replicate m eC).flatten:=by
     intro m;have:=yZ eC m;unfold Builtin.zeroCells;simpa [oc]using this
    have ie:∀m,(replicate m eC).flatten.length=m*(C.T e).sz:=by intro m;simp[oc]
    generalize su:Builtin.zeroCells eC.toArray n++Builtin.zeroCells eC.toArray (grownCap w n 0 e-n)=cur at run;have jM:cur.toList=(replicate n eC).flatten++(replicate (grownCap w n 0 e-n) eC).flatten:=by rw[<-su,Array.toList_append,Hz,Hz]
    have gY:cur.size=grownCap w n 0 e*(C.T e).sz:=by
     have:cur.size=cur.toList.length:=by simp
     rw[this,jM,length_append,ie,ie,<-Nat.add_mul];congr 1;omega
    have j8:=h.wg (au:=w.drew.alloc (.cells cur e)) (sz:=(C.T e).sz) (cap:=grownCap w n 0 e) (xs:=replicate n (C.T e).zero) (cur:=cur) (e:=e) (fr:=(0,0)) (Sn:=λ_=>False) rfl rfl rfl ⟨rfl,λ_=>le_succ _⟩
     (λo _ ⟨_,U⟩=>absurd U (not_lt_zero _)) (by simpa using si) wj gY (by intro d ad;rw[eq_of_mem_replicate ad];exact o9)
     (by rw[jM,length_replicate,take_left' (ie n)];exact aT.replicate eO n _) (λ_ h=>h.elim) (λ_ h=>h.elim) (λ_ _ h=>h.elim) (λ_ h=>h.elim)
    rw[length_replicate]at j8;exact⟨_,_,F,S,run,j8.1,j8.2⟩
  .cases he
 .cases he
def mO (s:ag) (f:FuncId) (cs:List aR):Option j:=some (.fn f (cs.map (a7 s)))
theorem wm {a:Act} (h:bm w0 F0 X F S s an w) (dv:∀t,an t=a.tmps.getD t undef):∀(os:List Operand) (xs:List aR),os.map c2=xs.map some->cJ w F s an (xs.map (a7 s)) (os.map a.eval)
 |[],[],_=>by simp only[map_nil];rw[cJ]
 |[],x::xs,h=>by simp at h
 |o::os,[],h=>by simp at h
 |o::os,x::xs,bC=>by
  simp only[map_cons,cons.injEq]at bC⊢;rw[cJ];exact⟨_,_,rfl,(eB h dv bC.1).2,wm h dv os xs bC.2⟩
theorem HA:∀(vs:ach) (k off:Nat) (A:Array Value) (l m r:ach),A.toList=l++(m++r)->l.length=off+k->m.length=vs.length->
  ((vs.zipIdx k).foldl (λcs (x:Value×Nat)=>cs.setIfInBounds (off+x.2) x.1) A).toList=l++(vs++r)
 |[],k,off,A,l,m,r,hW,hl,hm=>by
  have:m=[]:=by simpa using hm
  subst this;simpa using hW
 |v::vs,k,off,A,l,m,r,hW,hl,hm=>by
  obtain⟨x,m,rfl⟩:∃x iU,m=x::iU:=by
   cases m with
   |nil=>simp at hm
   |cons x m=>exact⟨x,m,rfl⟩
  rw[zipIdx_cons,foldl_cons];have:=HA vs (k+1) off (A.setIfInBounds (off+k) v) (l++[v]) m r (by
   rw[Array.toList_setIfInBounds,hW,<-hl,set_append_right _ _ (Nat.le_refl _)];simp) (by simp;omega) (by simpa using hm)
  simpa using this
def j9 (os:List (Option Nat)) (a:j):j:=os.foldl (λa o=>jQ o a) a
def jw (place:Nat->Option (Nat×Nat)):ag->acj->List (Option Nat)->aci->Option (acj×ag)
 |s,dR,_,[]=>some (dR,s)
 |s,dR,os,(k,a)::r=>match cr s (j9 os a),place k,dR[k]? with
  |some (d,s1),some (off,n),some z=>match d with
   | .tuple _=>none
   |d=>if d.wd=n/\z.wd=n/\j.di (dR.take k)=off then jw place s1 (dR.set k d) (os++[(j9 os a).owner]) r else none
  |_,_,_=>none
def nE (w:World) (F:Nat->Prop) (s:ag) (an:Nat->Value):aci->List (Nat×Value)->Prop
 |[],[]=>True
 |(k,a)::r,(cO,v)::gl=>k=cO/\a.plain=true/\az w F s an a v (λ_=>False)/\nE w F s an r gl
 |_,_=>False
theorem Pj (x:Nat):∀d:j,d.plain=true->(bU x d).plain=true
 | .h y q,_=>by simp only[bU];split<;>(try split)<;>rfl
 | .ai y q,_=>by simp only[bU];split<;>rfl
 | .I y q,_=>rfl
 | .fn f c,_=>by simp only[bU];rfl
 | .hole,h=>h
 | .bool _,h=>h
 | .eT,h=>h
 | .int _ _,h=>h
 | .str _,h=>h
 | .c6,h=>h
 | .bc,h=>h
 | .slice _,h=>h
 | .ao _ _,h=>h
 | .ref _,h=>h
 | .aV _,h=>h
 | .agg _,h=>h
 | .tuple _,h=>h
theorem Pk (o:Option Nat) (d:j) (h:d.plain=true):(jQ o d).plain=true:=by
 cases o with
 |none=>exact h
 |some x=>exact Pj x d h
theorem nE.bU {w:World} {F:Nat->Prop} {s s1:ag} {an:Nat->Value} {o:Option Nat} (ai:∀(bd:j) (dD:Value) (aG:Nat->Prop),az w F s an bd dD aG->az w F s1 an (jQ o bd) dD aG):
  ∀(r:aci) (gl:List (Nat×Value)),nE w F s an r gl->nE w F s1 an (r.map λp=>(p.1,jQ o p.2)) gl
 |[],[],_=>trivial
 |(k,a)::r,(cO,v)::gl,h=>by
  obtain⟨R,U,aw,aQ⟩:=h;exact⟨R,Pk _ _ U,ai _ _ _ aw,nE.bU ai r gl aQ⟩
 |[],_::_,h=>h.elim
 |_::_,[],h=>h.elim
theorem Ce {place:Nat->Option (Nat×Nat)}:∀(ps:aci) (vs:List (Nat×Value)) (os:List (Option Nat)) (s:ag) (S:Nat->Nat->Prop) (dR:acj) (A:Array Value) (gK:Nat->Prop),
  bm w0 F0 X F S s an w->nE w F s an (ps.map λp=>(p.1,j9 os p.2)) vs->aT w F dR A.toList gK->(∀b,gK b->b<w.heap.size)->(∀b,gK b->¬F b)->(∀u b,gK b->¬S u b)->(∀b,gK b->X b\/w0.heap.size<=b)->
  ∀ds s1,jw place s dR os ps=some (ds,s1)->∃lG bT fR,Instr.fill place A vs=some lG/\bm w0 F0 X F bT s1 an w/\aT w F ds lG.toList fR/\(∀b,fR b->b<w.heap.size)/\(∀b,fR b->¬F b)/\(∀u b,fR b->¬bT u b)/\
   (∀b,fR b->X b\/w0.heap.size<=b)/\ds.length=dR.length/\j.di ds=j.di dR/\(∀n,(∀d∈dR,d.wd=n)->∀d∈ds,d.wd=n)
 |[],[],os,s,S,dR,A,gK,h,_,R,U,aw,aQ,bk,ds,s1,he=>by
  simp only[jw,Option.some.injEq,Prod.mk.injEq]at he;obtain⟨rfl,rfl⟩:=he;exact⟨A,S,gK,rfl,h,R,U,aw,aQ,bk,rfl,rfl,λ_ h=>h⟩
 |(k,a)::ps,(cO,v)::vs,os,s,S,dR,A,gK,h,ai,R,U,aw,aQ,bk,ds,s1,he=>by
  obtain⟨rfl,jx,n7,wo⟩:=ai;simp only[jw]at he;split at he
  .rename_i d wq off n z aK dQ bD;have key:∀d:j,(∀ar,d≠.tuple ar)->cr s (j9 os a)=some (d,wq)->(if d.wd=n/\z.wd=n/\j.di (dR.take k)=off then jw place wq (dR.set k d) (os++[(j9 os a).owner]) ps else none)=some (ds,s1)->
     ∃lG bT fR,Instr.fill place A ((k,v)::vs)=some lG/\bm w0 F0 X F bT s1 an w/\aT w F ds lG.toList fR/\(∀b,fR b->b<w.heap.size)/\(∀b,fR b->¬F b)/\(∀u b,fR b->¬bT u b)/\
     (∀b,fR b->X b\/w0.heap.size<=b)/\ds.length=dR.length/\j.di ds=j.di dR/\(∀n,(∀d∈dR,d.wd=n)->∀d∈ds,d.wd=n):=by
    intro d p1 aK he;split at he
    .rename_i aj;obtain⟨y1,r_,HB⟩:=aj;obtain⟨bT,g0,g1,g2,Sn,g3,g4,g5,g6,g7,g8,g9,g10⟩:=o0 h jx n7 aK;obtain⟨bK,e6,bJ,Sx,gU,hW,gL,e0,f_,gA,fe,lz⟩:=aT.pick dR _ _ k z R bD;have n9:=v8 g2 p1;have nF:=al.length _ _ _ g3;have HC:=al.length _ _ _ fe;have qW:=lz w d (bZ v) Sn (λ_ _=>rfl) (λ_ _=>rfl) g3 (λb Cf Pl=>by obtain⟨u,hu⟩:=g9 b Cf;exact aQ u b (e0 b Pl) hu);have HD:=HA (bZ v) 0 off A bK e6 bJ hW (by rw[gL,HB];rfl) (by rw[HC,nF,y1,r_]);generalize wt:((bZ v).zipIdx 0).foldl (λcs (x:Value×Nat)=>cs.setIfInBounds (off+x.2) x.1) A=yM at HD;obtain⟨lG,cI,fR,m1,m2,m3,m4,m5,m6,m7,m8,m9,m10⟩:=Ce (place:=place) ps vs (os++[(j9 os a).owner]) wq bT (dR.set k d) yM (λb=>Sx b\/Sn b) g0 (by have:=nE.bU g10 _ _ wo;simpa [j9,foldl_append,Function.comp_def]using this) (by rw[HD];exact qW)
      (by rintro b (I|I);exact U b (e0 b I);exact g4 b I) (by rintro b (I|I);exact aw b (e0 b I);exact g5 b I)
      (by rintro u b (I|I);exact λhu=>aQ u b (e0 b I) (g8 u b hu);exact g6 u b I) (by rintro b (I|I);exact bk b (e0 b I);exact g7 b I) ds s1 he
     refine⟨lG,cI,fR,?_,m2,m3,m4,m5,m6,m7,by rw[m8];simp,by rw[m9];exact Bt _ _ _ _ bD (by rw[y1,r_]),?_⟩
     .have Cg:off+n<=A.size:=by
       have:A.size=A.toList.length:=by simp
       rw[this,hW];simp[gL,HB,HC,r_]
      simp only[Instr.fill,dQ,n9,List.size_toArray,nF,y1];have ic:¬(n≠n\/A.size<off+n):=by omega
      have Pm:(bZ v).toArray.zipIdx.foldl (λcs (x:Value×Nat)=>cs.setIfInBounds (off+x.2) x.1) A=yM:=by
       rw[<-wt,<-Array.foldl_toList];simp
      simp only[ne_eq,not_true_eq_false,decide_false,Bool.false_or,decide_eq_true_eq,gt_iff_lt];rw[if_neg (by simp;omega)];rw[show(bZ v).toArray.zipIdx.foldl (λcs x=>match x with|(c,aB)=>cs.setIfInBounds (off+aB) c) A=yM from Pm];exact m1
     .intro nG wu;refine m10 nG (Bu wu ?_);rw[y1,<-r_];exact wu z (mem_of_getElem? bD)
    .cases he
   split at he
   .cases he
   .rename_i p1;exact key _ (λar e=>p1 ar e) aK he
  .cases he
 |[],_::_,_,_,_,_,_,_,_,ai,_,_,_,_,_,_,_,_=>ai.elim
 |_::_,[],_,_,_,_,_,_,_,ai,_,_,_,_,_,_,_,_=>ai.elim
def hi (C:bz) (s:ag) (T:TypeId) (ps:aci):Option (j×ag):=
 match(C.T T).k,(C.T T).zero with
 | .struct ar,.agg dR=>if(flat (.agg dR)).isSome=true/\(∀f∈ar,(C.T f.1).ok=true)then
   (match jw (λk=>(ar[k]?).map λf=>(f.2,(C.T f.1).sz)) s dR [] ps with
   |some (ds,s1)=>some (.agg ds,s1)
   |none=>none)else none
 |_,_=>none
def eD (C:bz) (s:ag) (T:TypeId) (n:Nat) (ps:aci):Option (j×ag):=
 match(C.T T).k with
 | .slice e=>if(C.T e).ok=true/\(C.T e).zero.wd=(C.T e).sz/\(flat (C.T e).zero).isSome=true/\(C.T e).sz≠0/\n*(C.T e).sz<=16777216 then
   (match jw (λk=>some (k*(C.T e).sz,(C.T e).sz)) s (replicate n (C.T e).zero) [] ps with
   |some (ds,s1)=>some (.ao (C.T e).sz ds,s1)
   |none=>none)else none
 |_=>none
theorem Pn (a1:C.du):∀(gs:List Field),(∀g∈gs,(C.T g.type).ok=true)->
  gs.mapM (λf=>(C.P.info? f.type).map λi=>(f.offset,i.size))=some (gs.map λg=>(g.offset,(C.T g.type).sz)):=by
 intro gs;induction gs with
 |nil=>intro _;simp
 |cons g gs ih=>
  intro bo;obtain⟨i,d,z,f1,f2,f3,f4,f5,f6,f7⟩:=a1.info (bo g (by simp));have:=ih (λg gR=>bo g (by simp[gR]));simp[mapM_cons,f1,f2,this]
theorem Po (a1:C.du) (h:bm w0 F0 X F S s an w) {T:TypeId} {ps:aci} {vs:List (Nat×Value)} (ai:nE w F s an ps vs) (he:hi C s T ps=some (av,s1)):
  Good C w0 F0 X an w (Instr.build T vs.toArray) av s1:=by
 unfold hi at he;split at he
 .rename_i ar dR ak bD;split at he
  .rename_i aj;obtain⟨p9,Pp⟩:=aj;split at he
   .rename_i ds s2 ie;simp only[Option.some.injEq,Prod.mk.injEq]at he;obtain⟨rfl,rfl⟩:=he;obtain⟨i,d,z,aH,aN,aP,bQ,b_,bM,bH⟩:=a1.info (e8 ak (by simp));rw[ak]at bH;obtain⟨gs,rfl,HE⟩:=vZ bH;obtain⟨eC,mh⟩:=Option.isSome_iff_exists.1 p9;have p_:=b_ eC (by rw[bD];exact mh);have eO:aT w F dR eC.toArray.toList (λ_=>False):=by
     have:=(al.flat (w:=w) (F:=F) _).1 (.agg dR) eC (λ_=>False) (Nat.le_refl _) mh;rw[al]at this;simpa using this
    have dF:nE w F s an (ps.map λp=>(p.1,j9 [] p.2)) vs:=by simpa [j9]using ai
    obtain⟨lG,bT,fR,m1,m2,m3,m4,m5,m6,m7,m8,m9,m10⟩:=Ce ps vs [] s S dR eC.toArray (λ_=>False) h dF eO (λ_ h=>h.elim) (λ_ h=>h.elim) (λ_ _ h=>h.elim) (λ_ h=>h.elim) ds s2 ie;have dQ:=Pn a1 gs.toList (λg bo=>Pp (g.type,g.offset) (by rw[<-HE];exact List.mem_map_of_mem bo));have Pq:(λ(k:Nat)=>(ar[k]?).map λ(f:TypeId×Nat)=>(f.2,(C.T f.1).sz))=λ(k:Nat)=>((gs.toList.map λg=>(g.offset,(C.T g.type).sz)).toArray)[k]? :=by
     funext k;rw[<-HE];simp only[getElem?_map,getElem?_toArray,Option.map_map];rfl
    rw[Pq]at m1;refine⟨.agg lG,w,F,bT,run_build w T vs.toArray lG ?_,m2,.inr ⟨rfl,⟨_,rfl⟩,fR,by simp only[bZ,gM];rw[al];exact m3,m4,m5,m6,m7⟩⟩;unfold Program.built;simp only[aH,bM,bQ,dQ,p_];exact m1
   .cases he
  .cases he
 .cases he
theorem Pr (a1:C.du) (h:bm w0 F0 X F S s an w) {T:TypeId} {n:Nat} {ps:aci} {vs:List (Nat×Value)} (ai:nE w F s an ps vs) (he:eD C s T n ps=some (av,s1)):
  Good C w0 F0 X an w (Instr.buildSlice T n vs.toArray) av s1:=by
 unfold eD at he;split at he
 .rename_i e ak;split at he
  .rename_i aj;obtain⟨oa,o9,p9,dm,aa0⟩:=aj;split at he
   .rename_i ds s2 ie;simp only[Option.some.injEq,Prod.mk.injEq]at he;obtain⟨rfl,rfl⟩:=he;obtain⟨B8,d,B9,aH,aN,aP,bQ,b_,bM,bH⟩:=a1.info (e8 ak (by simp));rw[ak]at bH;have:=kD bH;subst this;obtain⟨i,B_,z,f1,f2,f3,f4,f5,f6,f7⟩:=a1.info oa;obtain⟨eC,mh⟩:=Option.isSome_iff_exists.1 p9;have p_:=f5 eC mh;have eO:∀aG,al w F (C.T e).zero eC aG:=λaG=>(al.flat _).1 _ eC aG (Nat.le_refl _) mh;have oc:eC.length=(C.T e).sz:=by rw[al.length _ _ _ (eO (λ_=>False)),o9]
    generalize hW:((Array.range (n*(C.T e).sz)).map ((if n*(C.T e).sz=0 then #[]else eC.toArray)[·%(if n*(C.T e).sz=0 then(#[]:Array Value)else eC.toArray).size]!))=A;have Cg:A.toList=(replicate n eC).flatten:=by
     rw[<-hW];by_cases bg:n*(C.T e).sz=0
     .have:n=0:=by
       rcases mul_eq_zero.1 bg with h|h
       .exact h
       .exact(dm h).elim
      subst this;simp
     .simp only[bg,if_false];have:=yZ eC n;rw[oc]at this;simpa [oc]using this
    have dF:nE w F s an (ps.map λp=>(p.1,j9 [] p.2)) vs:=by simpa [j9]using ai
    obtain⟨lG,bT,fR,m1,m2,m3,m4,m5,m6,m7,m8,m9,m10⟩:=Ce ps vs [] s S (replicate n (C.T e).zero) A (λ_=>False) h dF (by rw[Cg];exact aT.replicate eO n _) (λ_ h=>h.elim) (λ_ h=>h.elim) (λ_ _ h=>h.elim) (λ_ h=>h.elim) ds s2 ie;have hlen:ds.length=n:=by rw[m8];simp
    have HF:=m10 (C.T e).sz (by intro d ad;rw[eq_of_mem_replicate ad];exact o9);have Ps:lG.toList.length=n*(C.T e).sz:=by rw[aT.sn m3 HF,hlen]
    have Pt:lG.size=n*(C.T e).sz:=by rw[<-Ps];simp
    have aa1:n<=16777216:=by
     have:n*1<=n*(C.T e).sz:=mul_le_mul_left _ (by omega);omega
    have j8:=m2.wg (au:=w.alloc (.cells lG e)) (sz:=(C.T e).sz) (cap:=n) (xs:=ds) (cur:=lG) (e:=e) (fr:=(0,0)) (Sn:=fR) rfl rfl rfl ⟨rfl,λ_=>Nat.le_refl _⟩
     (λo _ ⟨_,U⟩=>absurd U (not_lt_zero _)) (by omega) (by unfold maxLen;omega) Pt HF (by rw[hlen,take_of_length_le (by omega)];exact m3) m4 m5 m6 m7
    rw[hlen]at j8;refine⟨_,_,F,bT,?_,j8.1,j8.2⟩;by_cases bg:n*(C.T e).sz=0
    .simp only[bg,if_true]at hW;have uc:(Array.map (λ_=>(default:Value)) (Array.range 0))=A:=by
      have:n=0:=by
       rcases mul_eq_zero.1 bg with h|h
       .exact h
       .exact(dm h).elim
      apply Array.ext';rw[Cg,this];simp
     simp[Instr.buildSlice,run_underlying bM,jt f1,f2,bg,newRow];rw[uc,m1];simp
    .simp only[bg,if_false]at hW;have ic:¬(16777216<n*(C.T e).sz):=by omega
     simp[Instr.buildSlice,run_underlying bM,jt f1,f2,bg,ic,r9 f1 f4,p_,newRow];have uc:(Array.map (λx=>eC[x%eC.length]?.getD default) (Array.range (n*(C.T e).sz)))=A:=by
      rw[<-hW];simp
     rw[uc,m1];simp
   .cases he
  .cases he
 .cases he
end
inductive de where
 |gm (x:aR)
 |il (x:aR)
 |pick (c a b:aR)
 |lC (T:TypeId)
 |hj (T:TypeId) (x:aR)
 |hi (T:TypeId) (ps:List (Nat×aR))
 |eD (T:TypeId) (n:Nat) (ps:List (Nat×aR))
 |dU (T:TypeId) (x:aR)
 |iV (T:TypeId) (x y:aR)
 |ig (x:aR)
 |dI (op:BinOp) (T:TypeId) (x y:aR)
 |un (op:UnOp) (x:aR)
 |hV (A B:TypeId) (x:aR)
 |mO (f:FuncId) (cs:List aR)
 |dZ (T:TypeId) (l c:aR)
 |e9 (T:TypeId) (x:aR) (dY ax:Option aR)
 |gB (T:TypeId) (x:aR) (k:Nat)
 |hT (T:TypeId) (x i:aR)
 |idx (T:TypeId) (x i:aR)
 |ex (x:aR) (k:Nat)
 |lE (T:TypeId) (x:aR) (k:Nat)
 |call (f:aR) (args:List aR)
 |len (T:TypeId) (x:aR)
 |app (T bV:TypeId) (x y:aR)
 |shr (bq:de)
 |hI (T bV:TypeId) (x y:aR)
 |cap (T:TypeId) (x:aR)
 |pc (gz:Bool) (x y:aR)
 |bad
 |kG (f:aR) (args:List aR) (us:ace)
 |iA (T:TypeId) (x:aR)
 |pd
 |hk (T:TypeId) (x i:aR)
 |ik (T:TypeId) (x i v:aR)
def de.base:de->de
 | .shr bq=>bq
 | .hI T bV x y=>.app T bV x y
 | .kG f args _=>.call f args
 | .iA T x=>.hj T x
 |bq=>bq
def ud:List Operand->Option (List aR)
 |[]=>some []
 |o::os=>match c2 o,ud os with
  |some x,some xs=>some (x::xs)
  |_,_=>none
def ue:List (Nat×Operand)->Option (List (Nat×aR))
 |[]=>some []
 |(k,o)::os=>match c2 o,ue os with
  |some x,some xs=>some ((k,x)::xs)
  |_,_=>none
def wv:Option Operand->Option (Option aR)
 |none=>some none
 |some o=>(c2 o).map some
def cB:Op->Option de
 | .move x=>(c2 x).map .gm
 | .assign x=>(c2 x).map .il
 | .pick c a b=>match c2 c,c2 a,c2 b with
   |some c,some a,some b=>some (.pick c a b)
   |_,_,_=>none
 | .alloc T=>some (.lC T)
 | .box T x=>(c2 x).map (.hj T)
 | .build T ps=>(ue ps.toList).map (.hi T)
 | .buildSlice T n ps=>(ue ps.toList).map (.eD T n)
 | .load T x=>(c2 x).map (.dU T)
 | .store T x y=>match c2 x,c2 y with
   |some x,some y=>some (.iV T x y)
   |_,_=>none
 | .nilCheck x=>(c2 x).map .ig
 | .binOp op T x y _=>match c2 x,c2 y with
   |some x,some y=>some (.dI op T x y)
   |_,_=>none
 | .unOp op _ x=>(c2 x).map (.un op)
 | .convert A B x=>(c2 x).map (.hV A B)
 | .makeFunc (.func f) first cs=>if first.isEmpty then(ud cs.toList).map (.mO f)else none
 | .makeSlice T l c=>match c2 l,c2 c with
   |some l,some c=>some (.dZ T l c)
   |_,_=>none
 | .slice T x dY ax none=>match c2 x,wv dY,wv ax with
   |some x,some dY,some ax=>some (.e9 T x dY ax)
   |_,_,_=>none
 | .fieldAddr T x k=>(c2 x).map λx=>.gB T x k
 | .indexAddr T x i=>match c2 x,c2 i with
   |some x,some i=>some (.hT T x i)
   |_,_=>none
 | .index T x i=>match c2 x,c2 i with
   |some x,some i=>some (.idx T x i)
   |_,_=>none
 | .extract x k=>(c2 x).map λx=>.ex x k
 | .field T x k=>(c2 x).map λx=>.lE T x k
 | .makeMap _ none=>some .pd
 | .lookup T x i false=>match c2 x,c2 i with
   |some x,some i=>some (.hk T x i)
   |_,_=>none
 | .mapUpdate T x i v=>match c2 x,c2 i,c2 v with
   |some x,some i,some v=>some (.ik T x i v)
   |_,_,_=>none
 | .call c=>match c.callee with
   | .value f=>match c2 f,ud c.args.toList with
     |some f,some xs=>some (.call f xs)
     |_,_=>none
   | .builtin .len=>match c.args.toList,c.argTypes.toList with
     |[x],[T]=>(c2 x).map (.len T)
     |_,_=>none
   | .builtin .cap=>match c.args.toList,c.argTypes.toList with
     |[x],[T]=>(c2 x).map (.cap T)
     |_,_=>none
   | .builtin .min=>match c.args.toList with
     |[x,y]=>match c2 x,c2 y with
      |some x,some y=>some (.pc false x y)
      |_,_=>none
     |_=>none
   | .builtin .max=>match c.args.toList with
     |[x,y]=>match c2 x,c2 y with
      |some x,some y=>some (.pc true x y)
      |_,_=>none
     |_=>none
   | .builtin .append=>match c.args.toList,c.argTypes.toList with
     |[x,y],[T,bV]=>match c2 x,c2 y with
      |some x,some y=>some (.app T bV x y)
      |_,_=>none
     |_,_=>none
   |_=>none
 |_=>none
def pc (gz:Bool):j->j->Option j
 | .str a,.str b=>some (.str (yy gz a b))
 | .int k a,.int cO b=>if k=cO then some (.int k (Bq gz a b))else none
 |_,_=>none
def wx (s:ag):j->Option (j×ag)
 | .h y q=>cr s (.h y q)
 |d=>some (d,s)
def bE (C:bz) (s:ag):de->Option (j×ag)
 | .gm x=>some (a7 s x,s)
 | .il x=>match a7 s x with
   | .h y q=>cr s (.h y q)
   |d=>some (d,s)
 | .pick c a b=>match a7 s c with
   | .bool eA=>some (if eA then a7 s a else a7 s b,s)
   |_=>none
 | .lC T=>(lC C T).map λd=>(d,s)
 | .hj _ x=>hj s (a7 s x)
 | .hi T ps=>hi C s T (ps.map λp=>(p.1,a7 s p.2))
 | .eD T n ps=>eD C s T n (ps.map λp=>(p.1,a7 s p.2))
 | .dU T x=>(dU C s T (a7 s x)).map λd=>(d,s)
 | .iV T x y=>(iV C s T (a7 s x) (a7 s y)).map λs1=>(.hole,s1)
 | .ig x=>(ig s (a7 s x)).map λd=>(d,s)
 | .dI op T x y=>(dI C s op T (a7 s x) (a7 s y)).map λd=>(d,s)
 | .un op x=>(un op (a7 s x)).map λd=>(d,s)
 | .hV A B x=>(hV C s A B (a7 s x)).map λd=>(d,s)
 | .mO f cs=>some (.fn f (cs.map (a7 s)),s)
 | .dZ T l c=>(dZ C T (a7 s l) (a7 s c)).map λd=>(d,s)
 | .e9 T x dY ax=>e9 C s T (a7 s x) (dY.map (a7 s)) (ax.map (a7 s))
 | .gB T x k=>(gB C s T (a7 s x) k).map λd=>(d,s)
 | .hT T x i=>(hT C s T (a7 s x) (a7 s i)).map λd=>(d,s)
 | .idx T x i=>(idx C T (a7 s x) (a7 s i)).map λd=>(d,s)
 | .ex x k=>(ex s (a7 s x) k).map λd=>(d,s)
 | .lE T x k=>(lE C s T (a7 s x) k).bind (wx s)
 | .call _ _=>none
 | .len T x=>(p4 C s T (a7 s x)).map λd=>(d,s)
 | .app T bV x y=>p8 C s T bV (a7 s x) (a7 s y)
 | .shr _=>none
 | .kG _ _ _=>none
 | .iA _ x=>iA s (a7 s x)
 | .pd=>some (.b3 (.mp []),s)
 | .hk T x i=>(hk C s T (a7 s x) (a7 s i)).map λd=>(d,s)
 | .ik T x i v=>(ik C s T (a7 s x) (a7 s i) (a7 s v)).map λs1=>(.hole,s1)
 | .hI T bV x y=>(hI C T bV (a7 s x) (a7 s y)).map λd=>(d,s)
 | .cap T x=>match(C.T T).k,a7 s x with
   | .slice _,.bc=>some (.int .i64 0,s)
   |_,_=>none
 | .pc gz x y=>(pc gz (a7 s x) (a7 s y)).map λd=>(d,s)
 | .bad=>none
section
variable {C:bz} {w0 w:World} {F0 X F:Nat->Prop} {S:Nat->Nat->Prop} {s s1:ag} {a:Act} {av:j}
theorem qa:∀{os:List Operand} {xs:List aR},ud os=some xs->os.map c2=xs.map some
 |[],xs,h=>by simp[ud]at h;subst h;rfl
 |o::os,xs,h=>by
  simp only[ud]at h;split at h
  .rename_i x Pu R U;simp at h;subst h;simp[R,qa U]
  .cases h
theorem Ch {an:Nat->Value} (h:bm w0 F0 X F S s an w) (dv:∀t,an t=a.tmps.getD t undef):∀{ps:List (Nat×Operand)} {xs:List (Nat×aR)},ue ps=some xs->
  nE w F s an (xs.map λp=>(p.1,a7 s p.2)) (ps.map λp=>(p.1,a.eval p.2))
 |[],xs,h=>by simp[ue]at h;subst h;trivial
 |(k,o)::ps,xs,bC=>by
  simp only[ue]at bC;split at bC
  .rename_i x Pu R U;simp at bC;subst bC;obtain⟨g1,g2⟩:=eB h dv R;exact⟨rfl,g1,g2,Ch h dv U⟩
  .cases bC
def Next (C:bz) (w0:World) (F0 X:Nat->Prop) (an:Nat->Value) (w:World) (m:Sem Go.Next) (av:j) (s1:ag):Prop:=
 ∃r au v bh aG,m.run C.P w= .ok r au/\(r= .value v\/r= .skip/\v=undef)/\bm w0 F0 X bh aG s1 an au/\iK w0 X bh aG s1 an au av v
theorem Good.next {an:Nat->Value} {m:Sem Value} (h:Good C w0 F0 X an w m av s1):Next C w0 F0 X an w (do pure (.value (<-m))) av s1:=by
 obtain⟨v,au,bh,aG,R,U,aw⟩:=h;exact⟨.value v,au,v,bh,aG,by simp[R],.inl rfl,U,aw⟩
theorem HG {an:Nat->Value} (h:bm w0 F0 X F S s an w) {gz:Bool} {x y:j} {dE gC:Value} {m:Sem Go.Next} (R:az w F s an x dE (λ_=>False)) (U:az w F s an y gC (λ_=>False))
  (he:(pc gz x y).map (λd=>(d,s))=some (av,s1)) (hm:m=(do pure (.value (<-if gz then Builtin.max2 dE gC else Builtin.min2 dE gC)))):Next C w0 F0 X an w m av s1:=by
 simp only[Option.map_eq_some_iff,Prod.mk.injEq]at he;obtain⟨d,ad,rfl,rfl⟩:=he;unfold pc at ad;split at ad
 .rename_i a b;simp only[Option.some.injEq]at ad;subst ad;have aH:=mK R;have aN:=mK U;subst aH aN;subst hm;refine⟨.value (.string ⟨⟨yy gz a b⟩⟩),w,_,F,S,?_,.inl rfl,h,.inl ⟨rfl,n_ _⟩⟩;cases gz
  .simp only[Builtin.min2,Op.stringOp,wa,yy,Bool.false_eq_true,if_false];cases I:(Op.bytesLess a b||a==b)<;>simp[asBool]
  .simp only[Builtin.max2,Op.stringOp,wa,yy,if_true];cases I:Op.bytesLess a b<;>simp[asBool]
 .rename_i k a cO b;split at ad
  .rename_i ak;subst ak;simp only[Option.some.injEq]at ad;subst ad;have aH:=mJ R;have aN:=mJ U;subst aH aN;subst hm;refine⟨.value (.int k (Bq gz a b)),w,_,F,S,?_,.inl rfl,h,.inl ⟨rfl,of_int _ _⟩⟩;cases gz<;>simp[Builtin.min2,Builtin.max2,Bq]
  .cases ad
 .cases ad
theorem HH (a1:C.du) {an:Nat->Value} (h:bm w0 F0 X F S s an w) (dv:∀t,an t=a.tmps.getD t undef) {o:Oper} {bq:de} (J:cB o.op=some bq) (he:bE C s bq=some (av,s1)):
  Next C w0 F0 X an w (execOp a.eval o) av s1:=by
 obtain⟨dst,op,ty,pos,after,guard⟩:=o;simp only at J;cases op with
 |move x=>
  simp only[cB,Option.map_eq_some_iff]at J;obtain⟨cy,ae,rfl⟩:=J;obtain⟨g1,g2⟩:=eB h dv ae;simp only[bE,Option.some.injEq,Prod.mk.injEq]at he;obtain⟨rfl,rfl⟩:=he;exact⟨_,w,_,F,S,rfl,.inl rfl,h,.inl ⟨g1,g2⟩⟩
 |assign x=>
  simp only[cB,Option.map_eq_some_iff]at J;obtain⟨cy,ae,rfl⟩:=J;obtain⟨g1,g2⟩:=eB h dv ae;simp only[bE]at he;split at he
  .rename_i y q a6;rw[a6]at g1 g2;obtain⟨bT,k0,bO,b1,Sn,cX,cT,ev,dV,ij,_⟩:=o0 h g1 g2 he;exact⟨_,w,_,F,bT,rfl,.inl rfl,k0,.inr ⟨bO,b1,Sn,cX,cT,ev,dV,ij⟩⟩
  .simp only[Option.some.injEq,Prod.mk.injEq]at he;obtain⟨rfl,rfl⟩:=he;exact⟨_,w,_,F,S,rfl,.inl rfl,h,.inl ⟨g1,g2⟩⟩
 |pick c x y=>
  simp only[cB]at J;split at J
  .rename_i jy cy j6 aj ae a6;simp only[Option.some.injEq]at J;subst J;simp only[bE]at he;split at he
   .rename_i b I;simp only[Option.some.injEq,Prod.mk.injEq]at he;obtain⟨rfl,rfl⟩:=he;have su:=(eB h dv aj).2;rw[I]at su;have su:=qX su;obtain⟨af,aA⟩:=eB h dv ae;obtain⟨fy,hn⟩:=eB h dv a6;refine⟨.value (if b then a.eval x else a.eval y),w,_,F,S,?_,.inl rfl,h,.inl ?_⟩
    .simp[execOp,su,asBool]
    .cases b
     .exact⟨fy,hn⟩
     .exact⟨af,aA⟩
   .cases he
  .cases J
 |alloc T=>
  simp only[cB,Option.some.injEq]at J;subst J;simp only[bE,Option.map_eq_some_iff,Prod.mk.injEq]at he;obtain⟨d,ad,rfl,rfl⟩:=he;exact(Ok a1 h ad).next
 |box T x=>
  simp only[cB,Option.map_eq_some_iff]at J;obtain⟨cy,ae,rfl⟩:=J;obtain⟨g1,g2⟩:=eB h dv ae;exact(Oo h g1 g2 he).next
 |build T ps=>
  simp only[cB,Option.map_eq_some_iff]at J;obtain⟨Pv,ai,rfl⟩:=J;obtain⟨ps⟩:=ps;have:=(Po a1 h (Ch h dv ai) he).next;simpa [execOp]using this
 |buildSlice T n ps=>
  simp only[cB,Option.map_eq_some_iff]at J;obtain⟨Pv,ai,rfl⟩:=J;obtain⟨ps⟩:=ps;have:=(Pr a1 h (Ch h dv ai) he).next;simpa [execOp]using this
 |load T x=>
  simp only[cB,Option.map_eq_some_iff]at J;obtain⟨cy,ae,rfl⟩:=J;obtain⟨g1,g2⟩:=eB h dv ae;simp only[bE,Option.map_eq_some_iff,Prod.mk.injEq]at he;obtain⟨d,ad,rfl,rfl⟩:=he;exact(Oe a1 h g2 ad).next
 |store T x y=>
  simp only[cB]at J;split at J
  .rename_i cy j6 ae a6;simp only[Option.some.injEq]at J;subst J;simp only[bE,Option.map_eq_some_iff,Prod.mk.injEq]at he;obtain⟨s2,ad,rfl,rfl⟩:=he;obtain⟨au,aG,R,U⟩:=Oi a1 h (eB h dv ae).2 (eB h dv a6).1 (eB h dv a6).2 ad;exact⟨.skip,au,undef,F,aG,by simp[execOp,R],.inr ⟨rfl,rfl⟩,U,.inl ⟨rfl,by rw[az];trivial⟩⟩
  .cases J
 |nilCheck x=>
  simp only[cB,Option.map_eq_some_iff]at J;obtain⟨cy,ae,rfl⟩:=J;obtain⟨g1,g2⟩:=eB h dv ae;simp only[bE,Option.map_eq_some_iff,Prod.mk.injEq]at he;obtain⟨d,ad,rfl,rfl⟩:=he;obtain⟨rfl,ai,aE⟩:=OG h g2 ad;refine⟨.value (a.eval x),w,_,F,S,?_,.inl rfl,h,.inl ⟨ai,g2⟩⟩;rcases aE with⟨b,I⟩|⟨f,c,I⟩<;>simp[execOp,I]
 |binOp op T x y aa2=>
  simp only[cB]at J;split at J
  .rename_i cy j6 ae a6;simp only[Option.some.injEq]at J;subst J;simp only[bE,Option.map_eq_some_iff,Prod.mk.injEq]at he;obtain⟨d,ad,rfl,rfl⟩:=he;exact(OC a1 h x y (eB h dv ae).2 (eB h dv a6).2 ad).next
  .cases J
 |unOp op T x=>
  simp only[cB,Option.map_eq_some_iff]at J;obtain⟨cy,ae,rfl⟩:=J;simp only[bE,Option.map_eq_some_iff,Prod.mk.injEq]at he;obtain⟨d,ad,rfl,rfl⟩:=he;exact(OD h (eB h dv ae).2 ad).next
 |convert A B x=>
  simp only[cB,Option.map_eq_some_iff]at J;obtain⟨cy,ae,rfl⟩:=J;simp only[bE,Option.map_eq_some_iff,Prod.mk.injEq]at he;obtain⟨d,ad,rfl,rfl⟩:=he;exact(OP a1 h (eB h dv ae).2 ad).next
 |makeFunc fn first cs=>
  cases fn with
  |func f=>
   simp only[cB]at J;split at J
   .rename_i Pw;simp only[Option.map_eq_some_iff]at J;obtain⟨q4,gY,rfl⟩:=J;simp only[bE,Option.some.injEq,Prod.mk.injEq]at he;obtain⟨rfl,rfl⟩:=he;have Px:first= #[]:=by simpa using Pw
    subst Px;refine⟨_,w,_,F,S,rfl,.inl rfl,h,.inl ⟨rfl,?_⟩⟩;rw[az];refine⟨cs.map a.eval,by simp,?_⟩;simpa using wm h dv _ _ (qa gY)
   .cases J
  |_=>simp[cB]at J
 |makeSlice T l c=>
  simp only[cB]at J;split at J
  .rename_i cy j6 ae a6;simp only[Option.some.injEq]at J;subst J;simp only[bE,Option.map_eq_some_iff,Prod.mk.injEq]at he;obtain⟨d,ad,rfl,rfl⟩:=he;exact(Pe a1 h (eB h dv ae).2 (eB h dv a6).2 ad).next
  .cases J
 |slice T x dY ax gz=>
  cases gz with
  |some m=>simp[cB]at J
  |none=>
   simp only[cB]at J;split at J
   .rename_i cy aa3 HI ae k7 nz;simp only[Option.some.injEq]at J;subst J;obtain⟨g1,g2⟩:=eB h dv ae;have opt:∀{o:Option Operand} {iW:Option aR},wv o=some iW->p5 w F s an (iW.map (a7 s)) (o.map a.eval):=by
     intro o iW a_;cases o with
     |none=>simp[wv]at a_;subst a_;trivial
     |some o=>
      simp only[wv,Option.map_eq_some_iff]at a_;obtain⟨x,ae,rfl⟩:=a_;exact(eB h dv ae).2
    exact(OS a1 h g1 g2 (opt k7) (opt nz) he).next
   .cases J
 |fieldAddr T x k=>
  simp only[cB,Option.map_eq_some_iff]at J;obtain⟨cy,ae,rfl⟩:=J;obtain⟨g1,g2⟩:=eB h dv ae;simp only[bE,Option.map_eq_some_iff,Prod.mk.injEq]at he;obtain⟨d,ad,rfl,rfl⟩:=he;exact(N9 a1 h g1 g2 ad).next
 |indexAddr T x i=>
  simp only[cB]at J;split at J
  .rename_i cy j6 ae a6;simp only[Option.some.injEq]at J;subst J;simp only[bE,Option.map_eq_some_iff,Prod.mk.injEq]at he;obtain⟨d,ad,rfl,rfl⟩:=he;exact(N_ a1 h (eB h dv ae).2 (eB h dv a6).2 ad).next
  .cases J
 |index T x i=>
  simp only[cB]at J;split at J
  .rename_i cy j6 ae a6;simp only[Option.some.injEq]at J;subst J;simp only[bE,Option.map_eq_some_iff,Prod.mk.injEq]at he;obtain⟨d,ad,rfl,rfl⟩:=he;exact(OM a1 h (eB h dv ae).2 (eB h dv a6).2 ad).next
  .cases J
 |makeMap t r=>
  cases r with
  |none=>
   simp only[cB,Option.some.injEq]at J;subst J;simp only[bE,Option.some.injEq,Prod.mk.injEq]at he;obtain⟨rfl,rfl⟩:=he;exact(Pd h t).next
  |some r=>simp[cB]at J
 |lookup T x i c=>
  cases c with
  |true=>simp[cB]at J
  |false=>
   simp only[cB]at J;split at J
   .rename_i cy o2 ae ax;simp only[Option.some.injEq]at J;subst J;simp only[bE,Option.map_eq_some_iff,Prod.mk.injEq]at he;obtain⟨d,ad,rfl,rfl⟩:=he;exact(Pa a1 h (eB h dv ae).2 (eB h dv ax).2 ad).next
   .cases J
 |mapUpdate T x i v=>
  simp only[cB]at J;split at J
  .rename_i cy o2 dD ae ax aE;simp only[Option.some.injEq]at J;subst J;simp only[bE,Option.map_eq_some_iff,Prod.mk.injEq]at he;obtain⟨s2,ad,rfl,rfl⟩:=he;obtain⟨au,aG,R,U⟩:=Pb a1 h (eB h dv ae).2 (eB h dv ax).2 (eB h dv aE).2 ad;exact⟨.skip,au,undef,F,aG,by simp[execOp,R],.inr ⟨rfl,rfl⟩,U,.inl ⟨rfl,by rw[az];trivial⟩⟩
  .cases J
 |extract x k=>
  simp only[cB,Option.map_eq_some_iff]at J;obtain⟨cy,ae,rfl⟩:=J;simp only[bE,Option.map_eq_some_iff,Prod.mk.injEq]at he;obtain⟨d,ad,rfl,rfl⟩:=he;exact(OJ h (eB h dv ae).2 ad).next
 |field T x k=>
  simp only[cB,Option.map_eq_some_iff]at J;obtain⟨cy,ae,rfl⟩:=J;simp only[bE,Option.bind_eq_some_iff]at he;obtain⟨d,ad,he⟩:=he;obtain⟨v,au,bh,aG,aD,e7,n6⟩:=OK a1 h (eB h dv ae).2 ad;unfold wx at he;split at he
  .rename_i y q;have Py:az au bh s an (.h y q) v (λ_=>False):=by
    rcases n6 with⟨_,g2⟩|⟨g1,_⟩
    .exact g2
    .cases g1
   obtain⟨bT,k0,bO,b1,Sn,cX,cT,ev,dV,ij,_⟩:=o0 e7 rfl Py he;exact⟨.value v,au,v,bh,bT,by simp[execOp,aD],.inl rfl,k0,.inr ⟨bO,b1,Sn,cX,cT,ev,dV,ij⟩⟩
  .simp only[Option.some.injEq,Prod.mk.injEq]at he;obtain⟨rfl,rfl⟩:=he;exact⟨.value v,au,v,bh,aG,by simp[execOp,aD],.inl rfl,e7,n6⟩
 |call c=>
  obtain⟨callee,args,argTypes⟩:=c;simp only[cB]at J;split at J
  .split at J
   .simp only[Option.some.injEq]at J;subst J;simp[bE]at he
   .cases J
  .split at J
   .rename_i x T jR sv;simp only[Option.map_eq_some_iff]at J;obtain⟨cy,ae,rfl⟩:=J;simp only[bE,Option.map_eq_some_iff,Prod.mk.injEq]at he;obtain⟨d,ad,rfl,rfl⟩:=he;have:=(ON (ty:=ty) a1 h (eB h dv ae).2 ad).next;have aH:args= #[x]:=by apply Array.ext';exact jR
    have aN:argTypes= #[T]:=by apply Array.ext';exact sv
    subst aH aN;simpa [execOp,resolve,invoke,builtin]using this
   .cases J
  .split at J
   .rename_i x T jR sv;simp only[Option.map_eq_some_iff]at J;obtain⟨cy,ae,rfl⟩:=J;simp only[bE]at he;split at he
    .rename_i e ak Pz;simp only[Option.some.injEq,Prod.mk.injEq]at he;obtain⟨rfl,rfl⟩:=he;have aE:=(eB h dv ae).2;rw[Pz]at aE;have:=p3 aE;obtain⟨i,d,z,aH,aN,aP,bQ,b_,bM,bH⟩:=a1.info (e8 ak (by simp));rw[ak]at bH;have ad:=kD bH;subst ad;have PA:args= #[x]:=by apply Array.ext';exact jR
     have y2:argTypes= #[T]:=by apply Array.ext';exact sv
     subst PA y2;have aD:(Builtin.cap_ #[T] ty #[a.eval x]).run C.P w= .ok (.int .i64 0) w:=by
      rw[this];simp[Builtin.cap_,run_underlying bM,goInt]
     have:=(Good.same (av:=.int .i64 0) h aD rfl (of_int _ _)).next;simpa [execOp,resolve,invoke,builtin]using this
    .cases he
   .cases J
  .split at J
   .rename_i x y jR;split at J
    .rename_i cy j6 ae a6;simp only[Option.some.injEq]at J;subst J;have aH:args= #[x,y]:=by apply Array.ext';exact jR
     subst aH;exact HG h (eB h dv ae).2 (eB h dv a6).2 he (by simp[execOp,resolve,invoke,builtin,Builtin.min_])
    .cases J
   .cases J
  .split at J
   .rename_i x y jR;split at J
    .rename_i cy j6 ae a6;simp only[Option.some.injEq]at J;subst J;have aH:args= #[x,y]:=by apply Array.ext';exact jR
     subst aH;exact HG h (eB h dv ae).2 (eB h dv a6).2 he (by simp[execOp,resolve,invoke,builtin,Builtin.max_])
    .cases J
   .cases J
  .split at J
   .rename_i x y T bV jR sv;split at J
    .rename_i cy j6 ae a6;simp only[Option.some.injEq]at J;subst J;have:=(O2 (ty:=ty) a1 h (eB h dv ae).2 (eB h dv a6).2 he).next;have aH:args= #[x,y]:=by apply Array.ext';exact jR
     have aN:argTypes= #[T,bV]:=by apply Array.ext';exact sv
     subst aH aN;simpa [execOp,resolve,invoke,builtin]using this
    .cases J
   .cases J
  .cases J
 |_=>simp[cB]at J
end
mutual
def j.J:j->ace
 | .h x _=>[x]
 | .ai x _=>[x]
 | .I x _=>[x]
 | .fn _ cap=>j.dG cap
 |_=>[]
def j.dG:acj->ace
 |[]=>[]
 |d::ds=>d.J++j.dG ds
end
inductive pe where
 |no
 |bU
 |cj
structure fT where
 k:pe
 x:Nat
 d:j
def pe.app (k:pe) (x:Nat) (a:j):j:=match k with
 | .no=>a
 | .bU=>cG.bU x a
 | .cj=>cG.cj x a
def fT.at (m:fT) (u:Nat) (a:j):j:=if u=m.x then m.d else m.k.app m.x a
def iX:List fT->Nat->j->j
 |[],_,a=>a
 |m::ms,u,a=>iX ms u (m.at u a)
def c4 (ms:List fT) (s:ag):ag:=λu=>iX ms u (s u)
theorem HJ:∀(ms j_:List fT) (u:Nat) (a:j),iX (ms++j_) u a=iX j_ u (iX ms u a)
 |[],_,_,_=>rfl
 |m::ms,j_,u,a=>by simp only[cons_append,iX];exact HJ ms j_ u _
theorem lH (ms j_:List fT) (s:ag):c4 (ms++j_) s=c4 j_ (c4 ms s):=by
 funext u;simp[c4,HJ]
theorem PB {ms:List fT} {s aq:ag} {u:Nat} (h:aq u=s u):c4 ms aq u=c4 ms s u:=by simp[c4,h]
theorem sw (s:ag) (x:Nat) (d:j):cw (gO x s) x d=c4 [⟨.bU,x,d⟩] s:=by
 funext u;simp only[c4,iX,fT.at,cw,gO,pe.app]
theorem HK (s:ag) (x:Nat) (d:j):cw (jP x s) x d=c4 [⟨.cj,x,d⟩] s:=by
 funext u;simp only[c4,iX,fT.at,cw,jP,pe.app]
theorem HL (s:ag) (x:Nat) (d:j):cw s x d=c4 [⟨.no,x,d⟩] s:=by
 funext u;simp only[c4,iX,fT.at,cw,pe.app]
mutual
theorem wy {x:Nat}:∀a:j,x∉a.J->bU x a=a
 | .h y q,h=>by
   simp only[j.J,mem_singleton]at h;simp only[bU];rw[if_neg (λe=>h e.symm)]
 | .ai y q,h=>by
   simp only[j.J,mem_singleton]at h;simp only[bU];rw[if_neg (λe=>h e.symm)]
 | .I y q,h=>rfl
 | .fn f cap,h=>by simp only[bU];rw[HM cap (by simpa [j.J]using h)]
 | .hole,_=>rfl
 | .bool _,_=>rfl
 | .eT,_=>rfl
 | .int _ _,_=>rfl
 | .str _,_=>rfl
 | .c6,_=>rfl
 | .bc,_=>rfl
 | .slice _,_=>rfl
 | .ao _ _,_=>rfl
 | .ref _,_=>rfl
 | .aV _,_=>rfl
 | .agg _,_=>rfl
 | .tuple _,_=>rfl
 | .b3 _,_=>rfl
 | .a8 _ _,_=>rfl
 | .cH _,_=>rfl
theorem HM {x:Nat}:∀ds:acj,x∉j.dG ds->hH x ds=ds
 |[],_=>rfl
 |d::ds,h=>by
  simp only[j.dG,mem_append,not_or]at h;simp only[hH];rw[wy d h.1,HM ds h.2]
end
mutual
theorem Ci {x:Nat}:∀a:j,x∉a.J->cj x a=a
 | .h y q,h=>by
   simp only[j.J,mem_singleton]at h;simp only[cj];rw[if_neg (λe=>h e.symm)]
 | .ai y q,h=>by
   simp only[j.J,mem_singleton]at h;simp only[cj];rw[if_neg (λe=>h e.symm)]
 | .I y q,h=>by
   simp only[j.J,mem_singleton]at h;simp only[cj];rw[if_neg (λe=>h e.symm)]
 | .fn f cap,h=>by simp only[cj];rw[HN cap (by simpa [j.J]using h)]
 | .hole,_=>rfl
 | .bool _,_=>rfl
 | .eT,_=>rfl
 | .int _ _,_=>rfl
 | .str _,_=>rfl
 | .c6,_=>rfl
 | .bc,_=>rfl
 | .slice _,_=>rfl
 | .ao _ _,_=>rfl
 | .ref _,_=>rfl
 | .aV _,_=>rfl
 | .agg _,_=>rfl
 | .tuple _,_=>rfl
 | .b3 _,_=>rfl
 | .a8 _ _,_=>rfl
 | .cH _,_=>rfl
theorem HN {x:Nat}:∀ds:acj,x∉j.dG ds->h_ x ds=ds
 |[],_=>rfl
 |d::ds,h=>by
  simp only[j.dG,mem_append,not_or]at h;simp only[h_];rw[Ci d h.1,HN ds h.2]
end
theorem wz {k:pe} {x:Nat} {a:j} (h:k= .no\/x∉a.J):k.app x a=a:=by
 cases k with
 |no=>rfl
 |bU=>exact wy a (by simpa using h)
 |cj=>exact Ci a (by simpa using h)
mutual
theorem HO (x y:Nat):∀a:j,bU x (bU y a)=bU y (bU x a)
 | .h z q=>by simp only[bU];by_cases R:z=x<;>by_cases U:z=y<;>by_cases aw:q=[]<;>simp[R,U,aw,bU]<;>(subst_vars;simp_all [bU])
 | .ai z q=>by simp only[bU];by_cases R:z=x<;>by_cases U:z=y<;>simp[R,U,bU]<;>(subst_vars;simp_all [bU])
 | .I z q=>rfl
 | .fn f cap=>by simp only[bU];rw[HP x y cap]
 | .hole=>rfl
 | .bool _=>rfl
 | .eT=>rfl
 | .int _ _=>rfl
 | .str _=>rfl
 | .c6=>rfl
 | .bc=>rfl
 | .slice _=>rfl
 | .ao _ _=>rfl
 | .ref _=>rfl
 | .aV _=>rfl
 | .agg _=>rfl
 | .tuple _=>rfl
 | .b3 _=>rfl
 | .a8 _ _=>rfl
 | .cH _=>rfl
theorem HP (x y:Nat):∀ds:acj,hH x (hH y ds)=hH y (hH x ds)
 |[]=>rfl
 |d::ds=>by simp only[hH];rw[HO x y d,HP x y ds]
end
mutual
theorem HQ (x y:Nat):∀a:j,cj x (cj y a)=cj y (cj x a)
 | .h z q=>by simp only[cj];by_cases R:z=x<;>by_cases U:z=y<;>simp[R,U,cj]<;>(subst_vars;simp_all [cj])
 | .ai z q=>by simp only[cj];by_cases R:z=x<;>by_cases U:z=y<;>simp[R,U,cj]<;>(subst_vars;simp_all [cj])
 | .I z q=>by simp only[cj];by_cases R:z=x<;>by_cases U:z=y<;>simp[R,U,cj]<;>(subst_vars;simp_all [cj])
 | .fn f cap=>by simp only[cj];rw[HR x y cap]
 | .hole=>rfl
 | .bool _=>rfl
 | .eT=>rfl
 | .int _ _=>rfl
 | .str _=>rfl
 | .c6=>rfl
 | .bc=>rfl
 | .slice _=>rfl
 | .ao _ _=>rfl
 | .ref _=>rfl
 | .aV _=>rfl
 | .agg _=>rfl
 | .tuple _=>rfl
 | .b3 _=>rfl
 | .a8 _ _=>rfl
 | .cH _=>rfl
theorem HR (x y:Nat):∀ds:acj,h_ x (h_ y ds)=h_ y (h_ x ds)
 |[]=>rfl
 |d::ds=>by simp only[h_];rw[HQ x y d,HR x y ds]
end
mutual
theorem Cj (x y:Nat):∀a:j,bU x (cj y a)=cj y (bU x a)
 | .h z q=>by simp only[cj,bU];by_cases R:z=x<;>by_cases U:z=y<;>by_cases aw:q=[]<;>simp[R,U,aw,cj,bU]<;>(subst_vars;simp_all [cj,bU])
 | .ai z q=>by simp only[cj,bU];by_cases R:z=x<;>by_cases U:z=y<;>simp[R,U,cj,bU]<;>(subst_vars;simp_all [cj,bU])
 | .I z q=>by simp only[cj,bU];by_cases U:z=y<;>simp[U,bU]
 | .fn f cap=>by simp only[cj,bU];rw[HS x y cap]
 | .hole=>rfl
 | .bool _=>rfl
 | .eT=>rfl
 | .int _ _=>rfl
 | .str _=>rfl
 | .c6=>rfl
 | .bc=>rfl
 | .slice _=>rfl
 | .ao _ _=>rfl
 | .ref _=>rfl
 | .aV _=>rfl
 | .agg _=>rfl
 | .tuple _=>rfl
 | .b3 _=>rfl
 | .a8 _ _=>rfl
 | .cH _=>rfl
theorem HS (x y:Nat):∀ds:acj,hH x (h_ y ds)=h_ y (hH x ds)
 |[]=>rfl
 |d::ds=>by simp only[h_,hH];rw[Cj x y d,HS x y ds]
end
theorem PC (k l:pe) (x y:Nat) (a:j):k.app x (l.app y a)=l.app y (k.app x a):=by
 cases k<;>cases l<;>simp only[pe.app]<;>first|rfl|exact HO .. |exact HQ .. |exact Cj .. |exact(Cj ..).symm
def aR.use (s:ag):aR->ace
 | .t n=>n::(s n).J
 | .c av=>av.J
 | .f _=>[]
def aR.oe (s:ag):List aR->ace
 |[]=>[]
 |x::xs=>x.use s++aR.oe s xs
def Ck (s:ag):Option aR->ace
 |none=>[]
 |some x=>x.use s
def use (s:ag):de->ace
 | .gm x=>x.use s
 | .il x=>x.use s
 | .pick c a b=>c.use s++(a.use s++b.use s)
 | .lC _=>[]
 | .hj _ x=>x.use s
 | .hi _ ps=>aR.oe s (ps.map (·.2))
 | .eD _ _ ps=>aR.oe s (ps.map (·.2))
 | .dU _ x=>x.use s
 | .iV _ x y=>x.use s++y.use s
 | .ig x=>x.use s
 | .dI _ _ x y=>x.use s++y.use s
 | .un _ x=>x.use s
 | .hV _ _ x=>x.use s
 | .mO _ cs=>aR.oe s cs
 | .dZ _ l c=>l.use s++c.use s
 | .e9 _ x dY ax=>x.use s++(Ck s dY++Ck s ax)
 | .gB _ x _=>x.use s
 | .hT _ x i=>x.use s++i.use s
 | .idx _ x i=>x.use s++i.use s
 | .ex x _=>x.use s
 | .lE _ x _=>x.use s
 | .call f args=>f.use s++aR.oe s args
 | .len _ x=>x.use s
 | .app _ _ x y=>x.use s++y.use s
 | .shr bq=>use s bq
 | .kG f args us=>us.flatMap (λu=>u::(s u).J)++(f.use s++aR.oe s args)
 | .iA _ x=>x.use s
 | .pd=>[]
 | .hk _ x i=>x.use s++i.use s
 | .ik _ x i v=>x.use s++(i.use s++v.use s)
 | .hI _ _ x y=>x.use s++y.use s
 | .cap _ x=>x.use s
 | .pc _ x y=>x.use s++y.use s
 | .bad=>[]
def jS (s:ag):de->ace
 | .il x=>(a7 s x).J
 | .hj _ x=>(a7 s x).J
 | .hi _ ps=>j.dG (ps.map λp=>a7 s p.2)
 | .eD _ _ ps=>j.dG (ps.map λp=>a7 s p.2)
 | .iV _ x y=>(a7 s x).J++(a7 s y).J
 | .lE _ x _=>(a7 s x).J
 | .ik _ x _ _=>(a7 s x).J
 | .e9 _ x _ _=>(a7 s x).J
 | .app _ _ x y=>(a7 s x).J++(a7 s y).J
 | .shr bq=>jS s bq
 |_=>[]
def c0 (bV:ace) (aq s:ag):Prop:=∀u∈bV,aq u=s u
theorem c0.left {bV V:ace} {aq s:ag} (h:c0 (bV++V) aq s):c0 bV aq s:=λu hu=>h u (mem_append_left _ hu)
theorem c0.right {bV V:ace} {aq s:ag} (h:c0 (bV++V) aq s):c0 V aq s:=λu hu=>h u (mem_append_right _ hu)
theorem c0.c4 {bV:ace} {aq s:ag} (h:c0 bV aq s) (ms:List fT):c0 bV (c4 ms aq) (c4 ms s):=λu hu=>PB (h u hu)
theorem c0.sub {bV V:ace} {aq s:ag} (h:c0 bV aq s) (J:∀u∈V,u∈bV):c0 V aq s:=λu hu=>h u (J u hu)
theorem aR.sx {s:ag} {x:aR}:∀u∈(a7 s x).J,u∈x.use s:=by
 intro u hu;cases x with
 |t n=>
  simp only[a7,kC]at hu;split at hu
  .simp[aR.use,hu]
  .simp only[j.J,mem_singleton]at hu;simp[aR.use,hu]
 |c av=>exact hu
 |f g=>simp[a7,j.J,j.dG]at hu
theorem aR.eU {s aq:ag} {x:aR} (h:c0 (x.use s) aq s):a7 aq x=a7 s x:=by
 cases x with
 |t n=>simp only[a7];rw[h n (by simp[aR.use])]
 |c av=>rfl
 |f g=>rfl
theorem c0.a7 {s aq:ag} {x:aR} (h:c0 (x.use s) aq s):c0 (a7 s x).J aq s:=h.sub aR.sx
theorem HT {s aq:ag} {x:Option aR} (h:c0 (Ck s x) aq s):x.map (a7 aq)=x.map (a7 s):=by
 cases x with
 |none=>rfl
 |some x=>simp only[Option.map_some];rw[aR.eU h]
theorem aR.Cl {s aq:ag}:∀{xs:List aR},c0 (aR.oe s xs) aq s->xs.map (a7 aq)=xs.map (a7 s)
 |[],_=>rfl
 |x::xs,h=>by
  simp only[map_cons];rw[aR.eU (h.left),aR.Cl (h.right)]
theorem aR.Cm {s aq:ag}:∀{ps:List (Nat×aR)},c0 (aR.oe s (ps.map (·.2))) aq s->(ps.map λp=>(p.1,a7 aq p.2))=ps.map λp=>(p.1,a7 s p.2)
 |[],_=>rfl
 |x::xs,h=>by
  simp only[map_cons]at h⊢;rw[aR.eU (h.left),aR.Cm (h.right)]
theorem aR.y3 {s:ag}:∀{xs:List aR},∀u∈j.dG (xs.map (a7 s)),u∈aR.oe s xs
 |[],u,h=>by simp[j.dG]at h
 |x::xs,u,h=>by
  simp only[map_cons,j.dG,mem_append]at h;simp only[aR.oe,mem_append];exact h.imp (aR.sx u) (aR.y3 u)
section
variable {C:bz} {s aq:ag} {x y i:j} {T A B:TypeId}
theorem Cn (h:c0 x.J aq s):loc aq x=loc s x:=by
 cases x<;>first
  |rfl
  |(simp only[loc];rw[h _ (by simp[j.J])])
theorem Co {z:Nat} {q:ace} (h:loc s x=some (z,q)):z∈x.J:=by
 cases x with
 |h y p=>
  simp only[loc]at h;split at h
  .simp only[Option.some.injEq,Prod.mk.injEq]at h;simp[j.J,h.1]
  .cases h
 |ai y p=>
  simp only[loc]at h;split at h
  .simp only[Option.some.injEq,Prod.mk.injEq]at h;simp[j.J,h.1]
  .cases h
 |_=>simp[loc]at h
theorem PD (h:c0 x.J aq s):dU C aq T x=dU C s T x:=by
 have hl:=Cn h;unfold dU;split
 .rfl
 .rw[h _ (by simp[j.J])]
 .rw[hl];split
  .rename_i e;rw[h _ (Co e)]
  .rfl
theorem PE {k:Nat} (h:c0 x.J aq s):gB C aq T x k=gB C s T x k:=by
 have hl:=Cn h;unfold gB;split
 .split
  .split
   .split
    .rfl
    .rw[h _ (by simp[j.J])]
    .rw[hl];split
     .rename_i e;rw[h _ (Co e)]
     .rfl
   .rfl
  .rfl
 .rfl
theorem PF (h:c0 x.J aq s):hT C aq T x i=hT C s T x i:=by
 cases x<;>first
  |rfl
  |(simp only[hT];rw[h _ (by simp[j.J])])
theorem PG (h:c0 x.J aq s):p4 C aq T x=p4 C s T x:=by
 unfold p4;cases(C.T T).k<;>cases x<;>first
  |rfl
  |(simp only;rw[h _ (by simp[j.J])])
theorem PH (h:c0 x.J aq s):hV C aq A B x=hV C s A B x:=by
 unfold hV;cases(C.T B).k<;>cases x<;>first
  |rfl
  |(simp only;rw[h _ (by simp[j.J])])
theorem PI (h:c0 x.J aq s):kE aq x=kE s x:=by
 cases x<;>first
  |rfl
  |(simp only[kE];rw[h _ (by simp[j.J])])
theorem PJ (h:c0 x.J aq s):kF aq x=kF s x:=by
 cases x<;>first
  |rfl
  |(simp only[kF];rw[h _ (by simp[j.J])])
theorem PK {op:BinOp} (h:c0 x.J aq s):dI C aq op T x y=dI C s op T x y:=by
 have R:=PI h;have U:=PJ h;unfold dI;split<;>first|rfl|simp only[R,U]
theorem PL (h:c0 x.J aq s):ig aq x=ig s x:=by
 cases x<;>first
  |rfl
  |(simp only[ig];rw[h _ (by simp[j.J])])
theorem PM {k y:Nat} {q:ace} (h:lE C s T x k=some (.h y q)):x.J=[y]:=by
 unfold lE at h;split at h<;>try (cases h;done)
 split at h<;>try (cases h;done)
 split at h
 .split at h<;>try (cases h;done)
  split at h
  .rename_i aj;simp only[Option.some.injEq]at h;rw[h]at aj;exact absurd aj.2.2.2 (by simp[j.tree])
  .cases h
 .split at h<;>try (cases h;done)
  split at h<;>try (cases h;done)
  split at h<;>try (cases h;done)
  rename_i d ad aj;by_cases ai:d.plain=true
  .simp only[ai,if_true,Option.some.injEq]at h;rw[h]at aj;exact absurd aj.2.2.2 (by simp[j.tree])
  .simp only[ai,Option.some.injEq]at h;injection h with R U;subst R;rfl
 .cases h
theorem HU {k:Nat} (h:c0 x.J aq s):lE C aq T x k=lE C s T x k:=by
 unfold lE;split<;>try rfl
 split<;>try rfl
 cases x<;>first
  |rfl
  |(simp only[];rw[h _ (by simp[j.J])])
theorem PN {k:Nat} (h:c0 x.J aq s):ex aq x k=ex s x k:=by
 cases x<;>first
  |rfl
  |(simp only[ex];rw[h _ (by simp[j.J])])
theorem uf:∀(q:ace) (a d e:j),j.sub q a=some d->(d.plain=false\/q≠[])->(q=[]->e.J=[])->(j.put q e a).J=[]:=by
 intro q a d e h ai he;cases q with
 |nil=>rw[j.put];exact he rfl
 |cons k q=>
  cases a<;>first
   |(simp[j.sub]at h;done)
   |skip
  all_goals
   unfold j.put
   repeat' split
   all_goals first|rfl|(simp_all;done)
end
def Loc {α:Type} (bV ug:ace) (f:ag->Option (α×ag)) (s:ag) (av:α) (s1:ag):Prop:=
 ∃ms,s1=c4 ms s/\(∀m∈ms,m.x∈ug/\m.d.J=[])/\∀aq,c0 bV aq s->f aq=some (av,c4 ms aq)
theorem Loc.pure {α:Type} {bV ug:ace} {f:ag->Option (α×ag)} {s:ag} {av:α} (h:∀aq,c0 bV aq s->f aq=some (av,aq)):Loc bV ug f s av s:=
 ⟨[],rfl,by simp,λaq J=>h aq J⟩
theorem Loc.mono {α:Type} {bV ug y4 HV:ace} {f:ag->Option (α×ag)} {s s1:ag} {av:α} (h:Loc bV ug f s av s1) (o_:∀u∈bV,u∈y4) (e1:∀u∈ug,u∈HV):Loc y4 HV f s av s1:=by
 obtain⟨ms,R,U,aw⟩:=h;exact⟨ms,R,λm hm=>⟨e1 _ (U m hm).1,(U m hm).2⟩,λaq J=>aw aq (J.sub o_)⟩
section
variable {C:bz} {s s1:ag} {x y d:j} {T A B:TypeId}
theorem q5 (h:cr s x=some (d,s1)):Loc x.J x.J (λs=>cr s x) s d s1:=by
 cases x with
 |h y q=>
  simp only[cr]at h;split at h
  .rename_i e he;split at h
   .cases h
   .rename_i ai;simp only[Option.some.injEq,Prod.mk.injEq]at h;obtain⟨rfl,rfl⟩:=h;have ai:e.plain=false:=by simpa using ai
    refine⟨[⟨.bU,y,j.put q e.cv (s y)⟩],sw _ _ _,?_,?_⟩
    .intro m hm;simp only[mem_singleton]at hm;subst hm;refine⟨by simp[j.J],uf q _ _ _ he (.inl ai) λcb=>?_⟩;subst cb;cases e<;>first|(simp[j.plain]at ai;done)|rfl
    .intro aq J;have aH:aq y=s y:=J y (by simp[j.J]);simp only[cr,aH,he,ai];rw[<-sw];rfl
  .cases h
 |ai y q=>simp[cr]at h
 |I y q=>simp[cr]at h
 |fn f c=>simp[cr]at h
 |hole=>simp[cr]at h
 |_=>
  simp only[cr,Option.some.injEq,Prod.mk.injEq]at h;obtain⟨rfl,rfl⟩:=h;exact .pure λaq _=>rfl
mutual
theorem HW (x:Nat):∀a:j,∀u∈(bU x a).J,u∈a.J
 | .h y q,u,h=>by
   simp only[bU]at h;split at h
   .split at h
    .exact h
    .simp[j.J]at h
   .exact h
 | .ai y q,u,h=>by
   simp only[bU]at h;split at h
   .simp[j.J]at h
   .exact h
 | .I y q,u,h=>h
 | .fn f cap,u,h=>by simp only[bU,j.J]at h⊢;exact HX x cap u h
 | .hole,u,h=>h
 | .bool _,u,h=>h
 | .eT,u,h=>h
 | .int _ _,u,h=>h
 | .str _,u,h=>h
 | .c6,u,h=>h
 | .bc,u,h=>h
 | .slice _,u,h=>h
 | .ao _ _,u,h=>h
 | .ref _,u,h=>h
 | .aV _,u,h=>h
 | .agg _,u,h=>h
 | .tuple _,u,h=>h
theorem HX (x:Nat):∀ds:acj,∀u∈j.dG (hH x ds),u∈j.dG ds
 |[],u,h=>h
 |d::ds,u,h=>by
  simp only[hH,j.dG,mem_append]at h⊢;exact h.imp (HW x d u) (HX x ds u)
end
theorem Cp (o:Option Nat) (a:j):∀u∈(jQ o a).J,u∈a.J:=by
 intro u h;cases o with
 |none=>exact h
 |some x=>exact HW x a u h
theorem HY:∀(os:List (Option Nat)) (a:j),∀u∈(j9 os a).J,u∈a.J:=by
 intro os;induction os with
 |nil=>intro a u h;exact h
 |cons o os ih=>intro a u h;exact Cp o a u (ih (jQ o a) u h)
theorem HZ {place:Nat->Option (Nat×Nat)}:∀{ps:aci} {s s1:ag} {dR ds:acj} {os:List (Option Nat)},jw place s dR os ps=some (ds,s1)->
  Loc (j.dG (ps.map (·.2))) (j.dG (ps.map (·.2))) (λs=>jw place s dR os ps) s ds s1:=by
 intro ps;induction ps with
 |nil=>
  intro s s1 dR ds os h;simp only[jw,Option.some.injEq,Prod.mk.injEq]at h;obtain⟨rfl,rfl⟩:=h;exact .pure λaq _=>rfl
 |cons p ps ih=>
  intro s s1 dR ds os h;obtain⟨k,a⟩:=p;simp only[jw]at h;split at h
  .rename_i d s2 off n z aK dQ bD;split at h
   .cases h
   .rename_i bd mi;split at h
    .rename_i aj;obtain⟨og,rfl,U,aw⟩:=q5 aK;obtain⟨q3,rfl,bk,bS⟩:=ih h;refine⟨og++q3,(lH _ _ _).symm,?_,?_⟩
     .intro m hm;simp only[map_cons,j.dG,mem_append]at hm⊢;rcases hm with hm|hm
      .exact⟨.inl (HY _ _ _ (U m hm).1),(U m hm).2⟩
      .exact⟨.inr (bk m hm).1,(bk m hm).2⟩
     .intro aq J;simp only[map_cons,j.dG]at J;have aH:=aw aq (J.left.sub (HY _ _));have aN:=bS (c4 og aq) (J.right.c4 og);simp only at aH aN;simp only[jw,aH,dQ,bD,lH];rw[if_pos aj];exact aN
    .cases h
  .cases h
theorem PO {ps:aci} {av:j} (h:hi C s T ps=some (av,s1)):Loc (j.dG (ps.map (·.2))) (j.dG (ps.map (·.2))) (λs=>hi C s T ps) s av s1:=by
 unfold hi at h;split at h
 .rename_i ar dR ak bD;split at h
  .rename_i aj;split at h
   .rename_i ds s2 bf;simp only[Option.some.injEq,Prod.mk.injEq]at h;obtain⟨rfl,rfl⟩:=h;obtain⟨ms,R,U,aw⟩:=HZ bf;refine⟨ms,R,U,λaq J=>?_⟩;have:=aw aq J;simp only at this;simp only[hi,ak,bD,if_pos aj,this]
   .cases h
  .cases h
 .cases h
theorem PQ {n:Nat} {ps:aci} {av:j} (h:eD C s T n ps=some (av,s1)):Loc (j.dG (ps.map (·.2))) (j.dG (ps.map (·.2))) (λs=>eD C s T n ps) s av s1:=by
 unfold eD at h;split at h
 .rename_i e ak;split at h
  .rename_i aj;split at h
   .rename_i ds s2 bf;simp only[Option.some.injEq,Prod.mk.injEq]at h;obtain⟨rfl,rfl⟩:=h;obtain⟨ms,R,U,aw⟩:=HZ bf;refine⟨ms,R,U,λaq J=>?_⟩;have:=aw aq J;simp only at this;simp only[eD,ak,if_pos aj,this]
   .cases h
  .cases h
 .cases h
theorem PR {av:j} (h:hj s x=some (av,s1)):Loc x.J x.J (λs=>hj s x) s av s1:=by
 unfold hj at h;split at h
 .cases h
 .rename_i d s2 mi aK;simp only[Option.some.injEq,Prod.mk.injEq]at h;obtain⟨rfl,rfl⟩:=h;obtain⟨ms,R,U,aw⟩:=q5 aK;refine⟨ms,R,U,λaq J=>?_⟩;have:=aw aq J;simp only at this;simp only[hj,this]
 .cases h
theorem PS {av:j} (h:iA s x=some (av,s1)):Loc x.J [] (λs=>iA s x) s av s1:=by
 unfold iA at h;split at h
 .rename_i y q;split at h
  .rename_i BU;simp only[Option.some.injEq,Prod.mk.injEq]at h;obtain⟨rfl,rfl⟩:=h;refine .pure λaq J=>?_;have e:aq y=s y:=J y (by simp[j.J]);simp only[iA,e,if_pos BU]
  .cases h
 .split at h
  .rename_i aj;simp only[Option.some.injEq,Prod.mk.injEq]at h;obtain⟨rfl,rfl⟩:=h;exact .pure λaq J=>by simp only[iA,aj,if_true]
  .cases h
 .cases h
theorem PT {s2:ag} (h:iV C s T x y=some s2):Loc (x.J++y.J) (x.J++y.J) (λs=>(iV C s T x y).map λs1=>(j.hole,s1)) s .hole s2:=by
 unfold iV at h;split at h
 .rename_i d s1 z q aK hl;obtain⟨ms,R,U,aw⟩:=q5 aK;have bD:=Co hl;have cb:q≠[]:=by
   cases x with
   |h y p=>
    simp only[loc]at hl;split at hl
    .simp only[Option.some.injEq,Prod.mk.injEq]at hl;simp[<-hl.2]
    .cases hl
   |ai y p=>
    simp only[loc]at hl;split at hl
    .rename_i n8;simp only[Option.some.injEq,Prod.mk.injEq]at hl;obtain⟨rfl,rfl⟩:=hl;intro e;subst e;simp[j.eP]at n8
    .cases hl
   |_=>simp[loc]at hl
  split at h
  .cases h
  .rename_i bd mi;split at h
   .rename_i d0 mf;split at h
    .rename_i aj;simp only[Option.some.injEq]at h;subst h;refine⟨ms++[⟨.bU,z,j.put q d (s z)⟩],?_,?_,?_⟩
     .rw[lH,<-R,sw]
     .intro m hm;simp only[mem_append,mem_singleton]at hm⊢;rcases hm with hm|rfl
      .exact⟨.inr (U m hm).1,(U m hm).2⟩
      .exact⟨.inl bD,uf q _ _ _ mf (.inr cb) λe=>(cb e).elim⟩
     .intro aq J;have aH:=aw aq J.right;simp only at aH;simp only[iV,aH,Cn J.left,hl,J.left z bD,mf];cases d<;>first|(simp only[if_pos aj,Option.map_some,lH,sw];done)|exact(mi _ rfl).elim
    .cases h
   .cases h
 .cases h
theorem PU {dY ax:Option j} {av:j} (h:e9 C s T x dY ax=some (av,s1)):Loc x.J x.J (λs=>e9 C s T x dY ax) s av s1:=by
 cases x with
 |h y q=>
  unfold e9 at h;split at h<;>first|(cases h;done)|skip
  all_goals (rename_i ae;try cases ae)
  rename_i e ak;split at h
  .rename_i sz xs ef;split at h
   .rename_i b k7 nz;split at h
    .rename_i aj;split at h
     .rename_i d s2 aK;simp only[Option.some.injEq,Prod.mk.injEq]at h;obtain⟨rfl,rfl⟩:=h;obtain⟨ms,R,U,aw⟩:=q5 aK;refine⟨ms,R,U,λaq J=>?_⟩;have:=aw aq J;simp only at this;have aH:aq y=s y:=J y (by simp[j.J]);simp only[e9,ak,aH,ef,k7,nz,if_pos aj,this]
     .cases h
    .cases h
   .cases h
  .cases h
 |_=>
  have qb:s1=s:=by
   unfold e9 at h
   repeat' split at h
   all_goals first|(cases h;done)|(simp only[Option.some.injEq,Prod.mk.injEq]at h;exact h.2.symm)|simp_all
  subst qb;refine .pure λaq _=>?_;unfold e9 at h⊢
  repeat' split at h
  all_goals first
   |(cases h;done)
   |(simp only[Option.some.injEq,Prod.mk.injEq]at h
     obtain⟨rfl,_⟩:=h;simp_all)
def pf (C:bz) (e:TypeId) (s:ag):j->Option (j×ag)
 | .bc=>some (j.ao (C.T e).sz [],s)
 | .h a q=>cr s (.h a q)
 |_=>none
def kH (s1:ag):j->Option (acj×ag)
 | .bc=>some ([],s1)
 | .slice b0=>some (b0,s1)
 | .str l=>some (l.map gD,s1)
 | .h a q=>match cr s1 (.h a q)with
   |some (.ao _ b0,s2)=>some (b0,s2)
   |_=>none
 |_=>none
theorem Cq (C:bz) (s:ag) (T bV:TypeId) (x y:j):p8 C s T bV x y=(match(C.T T).k with
 | .slice e=>if(C.T e).ok=true/\(C.T e).zero.wd=(C.T e).sz/\(flat (C.T e).zero).isSome=true/\yS C e bV=true then
   match pf C e s x with
   |some (.ao sz xs,s1)=>if sz=(C.T e).sz then
     match kH s1 (jQ x.owner y)with
     |some (b0,s2)=>if(∀d∈b0,d.wd=(C.T e).sz)/\(xs.length+b0.length)*(C.T e).bytes<=140737488355328/\xs.length+b0.length<=9223372036854775807 then some (.ao sz (xs++b0),s2)else none
     |none=>none
    else none
   |_=>none
   else none
 |_=>none):=by
 unfold p8;generalize jQ x.owner y=j6;cases(C.T T).k<;>first
  |rfl
  |(cases x<;>cases j6<;>rfl)
theorem PV {e:TypeId} {d:j} (R:pf C e s x=some (d,s1)):Loc x.J x.J (λs=>pf C e s x) s d s1:=by
 cases x with
 |bc=>
  simp only[pf,Option.some.injEq,Prod.mk.injEq]at R;obtain⟨R,rfl⟩:=R;exact .pure λaq _=>by simp only[pf,R]
 |h a q=>exact q5 R
 |_=>simp[pf]at R
theorem PW {b0:acj} (U:kH s y=some (b0,s1)):Loc y.J y.J (λs=>kH s y) s b0 s1:=by
 cases y with
 |bc=>
  simp only[kH,Option.some.injEq,Prod.mk.injEq]at U;obtain⟨rfl,rfl⟩:=U;exact .pure λaq _=>rfl
 |slice b0=>
  simp only[kH,Option.some.injEq,Prod.mk.injEq]at U;obtain⟨rfl,rfl⟩:=U;exact .pure λaq _=>rfl
 |str l=>
  simp only[kH,Option.some.injEq,Prod.mk.injEq]at U;obtain⟨rfl,rfl⟩:=U;exact .pure λaq _=>rfl
 |h a q=>
  simp only[kH]at U;split at U
  .rename_i O4 aa4 k8 aK;simp only[Option.some.injEq,Prod.mk.injEq]at U;obtain⟨rfl,rfl⟩:=U;obtain⟨ms,g1,g2,g3⟩:=q5 aK;refine⟨ms,g1,g2,λaq J=>?_⟩;have:=g3 aq J;simp only at this;simp only[kH,this]
  .cases U
 |_=>simp[kH]at U
theorem PX {av:j} (h:p8 C s T A x y=some (av,s1)):Loc (x.J++y.J) (x.J++y.J) (λs=>p8 C s T A x y) s av s1:=by
 rw[Cq]at h;split at h
 .rename_i e ak;split at h
  .rename_i aj;split at h
   .rename_i sz xs s2 R;split at h
    .rename_i dm;split at h
     .rename_i b0 fD U;split at h
      .rename_i r_;simp only[Option.some.injEq,Prod.mk.injEq]at h;obtain⟨rfl,rfl⟩:=h;obtain⟨og,rfl,a2,a3⟩:=PV R;obtain⟨q3,rfl,gQ,iN⟩:=(PW U).mono (Cp _ _) (Cp _ _);refine⟨og++q3,(lH _ _ _).symm,?_,?_⟩
       .intro m hm;simp only[mem_append]at hm⊢;rcases hm with hm|hm
        .exact⟨.inl (a2 m hm).1,(a2 m hm).2⟩
        .exact⟨.inr (gQ m hm).1,(gQ m hm).2⟩
       .intro aq J;have aH:=a3 aq J.left;have aN:=iN (c4 og aq) (J.right.c4 og);simp only at aH aN;simp only[Cq,ak,if_pos aj,aH,if_pos dm,aN,if_pos r_,lH]
      .cases h
     .cases h
    .cases h
   .cases h
  .cases h
 .cases h
theorem PY {aq:ag} {i:j} (h:c0 x.J aq s):hk C aq T x i=hk C s T x i:=by
 cases x with
 |h y q=>cases i<;>simp only[hk,h y (by simp[j.J])]
 |_=>rfl
theorem PZ {i v:j} {s2:ag} (h:ik C s T x i v=some s2):Loc x.J x.J (λs=>(ik C s T x i v).map λs1=>(j.hole,s1)) s .hole s2:=by
 unfold ik at h;split at h
 .rename_i y q k b;split at h
  .rename_i m ad;split at h
   .rename_i e1;simp only[Option.some.injEq]at h;subst h;refine⟨[⟨.bU,y,j.put q (.b3 (.mp (jr k b m))) (s y)⟩],sw _ _ _,?_,λaq J=>?_⟩
    .intro n aO;simp only[mem_singleton]at aO;subst aO;exact⟨by simp[j.J],uf q _ _ _ ad (.inl rfl) λ_=>rfl⟩
    .have aH:aq y=s y:=J y (by simp[j.J]);simp only[ik,aH,ad,e1,if_true,Option.map_some];rw[<-sw]
   .cases h
  .cases h
 .cases h
theorem H0 {bq:de} {av:j} (h:bE C s bq=some (av,s1)):Loc (use s bq) (jS s bq) (λs=>bE C s bq) s av s1:=by
 cases bq with
 |shr bq=>simp[bE]at h
 |kG f args L=>simp[bE]at h
 |iA T x=>
  obtain⟨ms,R,U,aw⟩:=PS h;refine⟨ms,R,U,λaq J=>?_⟩;simp only[bE,aR.eU (x:=x) J];exact aw aq (c0.a7 J)
 |hI T bV x y=>
  simp only[bE,Option.map_eq_some_iff,Prod.mk.injEq]at h;obtain⟨d,ad,rfl,rfl⟩:=h;exact .pure λaq J=>by
   simp only[use]at J;simp only[bE,aR.eU (x:=x) J.left,aR.eU (x:=y) J.right,ad,Option.map_some]
 |bad=>simp[bE]at h
 |pc gz x y=>
  simp only[bE,Option.map_eq_some_iff,Prod.mk.injEq]at h;obtain⟨d,ad,rfl,rfl⟩:=h;exact .pure λaq J=>by
   simp only[use]at J;simp only[bE,aR.eU (x:=x) J.left,aR.eU (x:=y) J.right,ad,Option.map_some]
 |cap T x=>
  simp only[bE]at h;split at h
  .rename_i e ak ae;simp only[Option.some.injEq,Prod.mk.injEq]at h;obtain⟨rfl,rfl⟩:=h;exact .pure λaq J=>by simp only[bE,aR.eU (x:=x) J,ak,ae]
  .cases h
 |gm x=>
  simp only[bE,Option.some.injEq,Prod.mk.injEq]at h;obtain⟨rfl,rfl⟩:=h;exact .pure λaq J=>by simp only[bE,aR.eU (x:=x) J]
 |il x=>
  simp only[bE]at h;split at h
  .rename_i y q ae;obtain⟨ms,R,U,aw⟩:=q5 h;refine⟨ms,R,by simpa only[jS,ae]using U,λaq J=>?_⟩;have e:=aR.eU (x:=x) J;have aN:=aw aq (by rw[<-ae];exact c0.a7 J);simp only[bE,e,ae];exact aN
  .rename_i P0;simp only[Option.some.injEq,Prod.mk.injEq]at h;obtain⟨rfl,rfl⟩:=h;refine .pure λaq J=>?_;have e:=aR.eU (x:=x) J;simp only[bE,e]
 |pick c a b=>
  simp only[bE]at h;split at h
  .rename_i eA I;simp only[Option.some.injEq,Prod.mk.injEq]at h;obtain⟨rfl,rfl⟩:=h;refine .pure λaq J=>?_;simp only[use]at J;simp only[bE,aR.eU (x:=c) J.left,aR.eU (x:=a) J.right.left,aR.eU (x:=b) J.right.right,I]
  .cases h
 |lC T=>
  simp only[bE,Option.map_eq_some_iff,Prod.mk.injEq]at h;obtain⟨d,ad,rfl,rfl⟩:=h;exact .pure λaq J=>by simp only[bE,ad,Option.map_some]
 |hj T x=>
  obtain⟨ms,R,U,aw⟩:=PR h;refine⟨ms,R,U,λaq J=>?_⟩;simp only[bE,aR.eU (x:=x) J];exact aw aq (c0.a7 J)
 |hi T ps=>
  obtain⟨ms,R,U,aw⟩:=PO h;simp only[List.map_map,Function.comp_def]at U aw;refine⟨ms,R,U,λaq J=>?_⟩;simp only[bE,aR.Cm (ps:=ps) J];refine aw aq (J.sub λu hu=>?_);simp only[use];exact aR.y3 u (by simpa [List.map_map,Function.comp_def]using hu)
 |eD T n ps=>
  obtain⟨ms,R,U,aw⟩:=PQ h;simp only[List.map_map,Function.comp_def]at U aw;refine⟨ms,R,U,λaq J=>?_⟩;simp only[bE,aR.Cm (ps:=ps) J];refine aw aq (J.sub λu hu=>?_);simp only[use];exact aR.y3 u (by simpa [List.map_map,Function.comp_def]using hu)
 |dU T x=>
  simp only[bE,Option.map_eq_some_iff,Prod.mk.injEq]at h;obtain⟨d,ad,rfl,rfl⟩:=h;exact .pure λaq J=>by simp only[bE,aR.eU (x:=x) J,PD (c0.a7 J),ad,Option.map_some]
 |iV T x y=>
  simp only[bE,Option.map_eq_some_iff,Prod.mk.injEq]at h;obtain⟨s2,ad,rfl,rfl⟩:=h;obtain⟨ms,R,U,aw⟩:=PT ad;refine⟨ms,R,U,λaq J=>?_⟩;simp only[use]at J;simp only[bE,aR.eU (x:=x) J.left,aR.eU (x:=y) J.right];exact aw aq (J.sub λu hu=>by simp only[mem_append]at hu⊢;exact hu.imp (aR.sx u) (aR.sx u))
 |ig x=>
  simp only[bE,Option.map_eq_some_iff,Prod.mk.injEq]at h;obtain⟨d,ad,rfl,rfl⟩:=h;exact .pure λaq J=>by simp only[bE,aR.eU (x:=x) J,PL (c0.a7 J),ad,Option.map_some]
 |dI op T x y=>
  simp only[bE,Option.map_eq_some_iff,Prod.mk.injEq]at h;obtain⟨d,ad,rfl,rfl⟩:=h;refine .pure λaq J=>?_;simp only[use]at J;simp only[bE,aR.eU (x:=x) J.left,aR.eU (x:=y) J.right,PK (c0.a7 J.left),ad,Option.map_some]
 |un op x=>
  simp only[bE,Option.map_eq_some_iff,Prod.mk.injEq]at h;obtain⟨d,ad,rfl,rfl⟩:=h;exact .pure λaq J=>by simp only[bE,aR.eU (x:=x) J,ad,Option.map_some]
 |hV A B x=>
  simp only[bE,Option.map_eq_some_iff,Prod.mk.injEq]at h;obtain⟨d,ad,rfl,rfl⟩:=h;exact .pure λaq J=>by simp only[bE,aR.eU (x:=x) J,PH (c0.a7 J),ad,Option.map_some]
 |mO f cs=>
  simp only[bE,Option.some.injEq,Prod.mk.injEq]at h;obtain⟨rfl,rfl⟩:=h;exact .pure λaq J=>by simp only[bE,aR.Cl (xs:=cs) J]
 |dZ T l c=>
  simp only[bE,Option.map_eq_some_iff,Prod.mk.injEq]at h;obtain⟨d,ad,rfl,rfl⟩:=h;refine .pure λaq J=>?_;simp only[use]at J;simp only[bE,aR.eU (x:=l) J.left,aR.eU (x:=c) J.right,ad,Option.map_some]
 |e9 T x dY ax=>
  simp only[bE]at h;obtain⟨ms,R,U,aw⟩:=PU h;refine⟨ms,R,U,λaq J=>?_⟩;simp only[use]at J;simp only[bE,aR.eU (x:=x) J.left,HT J.right.left,HT J.right.right];exact aw aq (c0.a7 J.left)
 |gB T x k=>
  simp only[bE,Option.map_eq_some_iff,Prod.mk.injEq]at h;obtain⟨d,ad,rfl,rfl⟩:=h;exact .pure λaq J=>by simp only[bE,aR.eU (x:=x) J,PE (c0.a7 J),ad,Option.map_some]
 |hT T x i=>
  simp only[bE,Option.map_eq_some_iff,Prod.mk.injEq]at h;obtain⟨d,ad,rfl,rfl⟩:=h;refine .pure λaq J=>?_;simp only[use]at J;simp only[bE,aR.eU (x:=x) J.left,aR.eU (x:=i) J.right,PF (c0.a7 J.left),ad,Option.map_some]
 |idx T x i=>
  simp only[bE,Option.map_eq_some_iff,Prod.mk.injEq]at h;obtain⟨d,ad,rfl,rfl⟩:=h;refine .pure λaq J=>?_;simp only[use]at J;simp only[bE,aR.eU (x:=x) J.left,aR.eU (x:=i) J.right,ad,Option.map_some]
 |ex x k=>
  simp only[bE,Option.map_eq_some_iff,Prod.mk.injEq]at h;obtain⟨d,ad,rfl,rfl⟩:=h;exact .pure λaq J=>by simp only[bE,aR.eU (x:=x) J,PN (c0.a7 J),ad,Option.map_some]
 |pd=>
  simp only[bE,Option.some.injEq,Prod.mk.injEq]at h;obtain⟨rfl,rfl⟩:=h;exact .pure λaq J=>rfl
 |hk T x i=>
  simp only[bE,Option.map_eq_some_iff,Prod.mk.injEq]at h;obtain⟨d,ad,rfl,rfl⟩:=h;refine .pure λaq J=>?_;simp only[use]at J;simp only[bE,aR.eU (x:=x) J.left,aR.eU (x:=i) J.right,PY (c0.a7 J.left),ad,Option.map_some]
 |ik T x i v=>
  simp only[bE,Option.map_eq_some_iff,Prod.mk.injEq]at h;obtain⟨s2,ad,rfl,rfl⟩:=h;obtain⟨ms,R,U,aw⟩:=PZ ad;refine⟨ms,R,U,λaq J=>?_⟩;simp only[use]at J;simp only[bE,aR.eU (x:=x) J.left,aR.eU (x:=i) J.right.left,aR.eU (x:=v) J.right.right];exact aw aq (c0.a7 J.left)
 |lE T x k=>
  simp only[bE,Option.bind_eq_some_iff]at h;obtain⟨d,ad,h⟩:=h;unfold wx at h;split at h
  .rename_i y q;have ae:=PM ad;obtain⟨ms,R,U,aw⟩:=q5 h;refine⟨ms,R,by simpa only[jS,ae,j.J]using U,λaq J=>?_⟩;have aN:=aw aq (by rw[show(j.h y q).J=(a7 s x).J from ae.symm];exact c0.a7 J);simp only[bE,aR.eU (x:=x) J,HU (c0.a7 J),ad,Option.bind_some,wx];exact aN
  .rename_i P0;simp only[Option.some.injEq,Prod.mk.injEq]at h;obtain⟨rfl,rfl⟩:=h;refine .pure λaq J=>?_;simp only[bE,aR.eU (x:=x) J,HU (c0.a7 J),ad,Option.bind_some,wx]
 |call f args=>simp[bE]at h
 |len T x=>
  simp only[bE,Option.map_eq_some_iff,Prod.mk.injEq]at h;obtain⟨d,ad,rfl,rfl⟩:=h;exact .pure λaq J=>by simp only[bE,aR.eU (x:=x) J,PG (c0.a7 J),ad,Option.map_some]
 |app T bV x y=>
  obtain⟨ms,R,U,aw⟩:=PX h;refine⟨ms,R,U,λaq J=>?_⟩;simp only[use]at J;simp only[bE,aR.eU (x:=x) J.left,aR.eU (x:=y) J.right];exact aw aq (J.sub λu hu=>by simp only[mem_append]at hu⊢;exact hu.imp (aR.sx u) (aR.sx u))
end
mutual
def view (s:ag):j->Option j
 | .h x q=>match j.sub q (s x)with
   |some d=>(match d with| .tuple _=>none| .b3 _=>none| .a8 _ _=>none| .cH _=>none|d=>if d.plain then none else some d.share)
   |none=>none
 | .ai x q=>if j.eP q (s x)then(match j.sub q (s x)with
   |some d=>(match d with| .tuple _=>none|d=>some (.ref d.share))
   |none=>none)else none
 | .I _ _=>none
 | .fn f cap=>(views s cap).map (.fn f)
 | .hole=>none
 |d=>some d
def views (s:ag):acj->Option acj
 |[]=>some []
 |d::ds=>match view s d,views s ds with
  |some a,some b=>some (a::b)
  |_,_=>none
end
mutual
theorem Cr:∀d:j,d.share.plain=true
 | .hole=>rfl
 | .bool _=>rfl
 | .eT=>rfl
 | .int _ _=>rfl
 | .str _=>rfl
 | .c6=>rfl
 | .bc=>rfl
 | .slice _=>rfl
 | .ao _ _=>rfl
 | .ref _=>rfl
 | .aV _=>rfl
 | .agg ar=>by simp only[j.share,j.plain];exact Cs ar
 | .tuple ar=>by simp only[j.share,j.plain];exact Cs ar
 | .fn _ _=>rfl
 | .h _ _=>rfl
 | .ai _ _=>rfl
 | .I _ _=>rfl
 | .b3 _=>rfl
 | .a8 _ _=>rfl
 | .cH _=>rfl
theorem Cs:∀ds:acj,j.dj (j.shares ds)=true
 |[]=>rfl
 |d::ds=>by simp only[j.shares,j.dj];rw[Cr d,Cs ds];rfl
end
theorem H2 {s:ag} {a d:j} (h:a.plain=true) (he:view s a=some d):d.plain=true:=by
 cases a with
 |h x q=>
  simp only[view]at he;split at he
  .rename_i e ef;cases e<;>simp only at he<;>first
    |(cases he;done)
    |(split at he
      .cases he
      .simp only[Option.some.injEq]at he;subst he;exact Cr _)
  .cases he
 |ai x q=>
  simp only[view]at he;split at he
  .split at he
   .rename_i e ef;cases e<;>simp only at he<;>first
     |(cases he;done)
     |(simp only[Option.some.injEq]at he;subst he;rfl)
   .cases he
  .cases he
 |fn f cap=>
  simp only[view,Option.map_eq_some_iff]at he;obtain⟨ds,_,rfl⟩:=he;rfl
 |hole=>simp[view]at he
 |I y q=>simp[view]at he
 |_=>simp only[view,Option.some.injEq]at he;subst he;exact h
theorem Ct {d:j} {v:Value} (R:∀vs,d≠.tuple vs) (h:cU d v):cU d.share v:=by
 cases d<;>first|exact h|exact(R _ rfl).elim
theorem P1 (w:World):∀(q:ace) (av d bd:j) (cs cn:ach) (a bG:Option (Nat×Nat)),j.sub q av=some d->bd.wd=d.wd->cM w q av cs a=some (d,cn,bG)->
  cM w q (j.put q bd av) cs a=some (bd,cn,bG):=by
 intro q;induction q with
 |nil=>
  intro av d bd cs cn a bG ad hw h;simp only[cM,Option.some.injEq,Prod.mk.injEq]at h;obtain⟨rfl,rfl,rfl⟩:=h;simp only[j.put,cM]
 |cons k q ih=>
  intro av d bd cs cn a bG ad hw h;cases av with
  |agg ar=>
   simp only[j.sub]at ad;split at ad
   .rename_i x ae;have ak:k<ar.length:=(List.getElem?_eq_some_iff.1 ae).1;simp only[cM,ae]at h;simp only[j.put,ae,cM];rw[getElem?_set_self ak];simp only[take_set_of_le (Nat.le_refl k),j.tO q x d bd ad hw];exact ih _ _ _ _ _ _ _ ad hw h
   .cases ad
  |tuple ar=>
   simp only[j.sub]at ad;split at ad
   .rename_i x ae;have ak:k<ar.length:=(List.getElem?_eq_some_iff.1 ae).1;simp only[cM,ae]at h;simp only[j.put,ae,cM];rw[getElem?_set_self ak];simp only[take_set_of_le (Nat.le_refl k),j.tO q x d bd ad hw];exact ih _ _ _ _ _ _ _ ad hw h
   .cases ad
  |ao sz ar=>
   simp only[j.sub]at ad;split at ad
   .rename_i x ae;have ak:k<ar.length:=(List.getElem?_eq_some_iff.1 ae).1;have iM:(ar.set k (j.put q bd x))[k]? =some (j.put q bd x):=getElem?_set_self ak;simp only[j.put,ae];rw[cM.eq_def]at h⊢;simp only[ae]at h;simp only;rw[iM];split at h
    .rename_i aH;simp only[Option.some.injEq]at aH;subst aH;exact ih _ _ _ _ _ _ _ ad hw h
    .cases h
   .cases ad
  |aV x=>
   cases k with
   |zero=>
    simp only[j.sub]at ad;rw[cM.eq_def]at h⊢;simp only at h;simp only[j.put];split at h
    .rw[j.tO q x d bd ad hw];exact ih _ _ _ _ _ _ _ ad hw h
    .cases h
   |succ k=>simp[j.sub]at ad
  |_=>simp[j.sub]at ad
section
variable {w0 w au:World} {F0 X F Fc:Nat->Prop} {S:Nat->Nat->Prop} {s aq:ag} {an gP:Nat->Value}
theorem H3 (h:bm w0 F0 X F S s an w) (aZ:∀b,F b->Fc b):∀n,
  (∀(a:j) (v:Value) (d:j),SizeOf.sizeOf a<=n->(∀t∈a.J,∀b,S t b->Fc b)->view s a=some d->az w F s an a v (λ_=>False)->az w Fc aq gP d v (λ_=>False))/\
  (∀(as:acj) (vs:ach) (ds:acj),SizeOf.sizeOf as<=n->(∀t∈j.dG as,∀b,S t b->Fc b)->views s as=some ds->cJ w F s an as vs->cJ w Fc aq gP ds vs):=by
 intro n;induction n with
 |zero=>exact⟨λa _ _ bD=>by cases a<;>simp at bD<;>omega,λas _ _ bD=>by cases as<;>simp at bD<;>omega⟩
 |succ n ih=>
  refine⟨λa v d bD bI he aE=>?_,λas vs ds bD bI he aE=>?_⟩
  .cases a with
   |h x q=>
    simp only[view]at he;split at he
    .rename_i e ef;have key:(∀ar,e≠.tuple ar)/\e.plain=false/\d=e.share/\(∀o,e≠.b3 o)/\(∀f c,e≠.a8 f c)/\∀c,e≠.cH c:=by
      cases e<;>simp only at he<;>first
       |(cases he;done)
       |(split at he
         .cases he
         .rename_i dQ;simp only[Option.some.injEq]at he;exact⟨(λ_ h=>by cases h),by simpa using dQ,he.symm,(λ_ h=>by cases h),(λ_ _ h=>by cases h),λ_ h=>by cases h⟩)
     obtain⟨mi,dQ,rfl,ic,Cu,Cv⟩:=key;rw[az]at aE;obtain⟨cn,bG,g1,g2,g3⟩:=aE e ef dQ;have aK:=gN ef (.inl dQ);have ae:=(az.b8 aK).1 (h.cz x);obtain⟨eZ,a2,dd,eG,k0,bO,b1,cX,cT,ev⟩:=ctx q (s x) (bZ (an x)) (S x) none e ae.2 ef;rw[g1]at k0;simp only[Option.some.injEq,Prod.mk.injEq,true_and]at k0;obtain⟨rfl,rfl⟩:=k0;have BK:e.share.tree=true:=by cases e<;>first|rfl|(simp[j.plain]at dQ;done)|exact(ic _ rfl).elim|exact(Cu _ _ rfl).elim|exact(Cv _ rfl).elim
     have aD:=al.shared aZ e cn eG (λb I=>bI x (by simp[j.J]) b (b1 b I)) cT;exact(az.b8 BK).2 ⟨Ct mi g3,by rw[g2];exact aD⟩
    .cases he
   |ai x q=>
    simp only[view]at he;split at he
    .rename_i n8;split at he
     .rename_i e ef;have key:(∀ar,e≠.tuple ar)/\d= .ref e.share:=by
       cases e<;>simp only at he<;>first
        |(cases he;done)
        |(simp only[Option.some.injEq]at he;exact⟨(λ_ h=>by cases h),he.symm⟩)
      obtain⟨mi,rfl⟩:=key;rw[az]at aE;obtain⟨cn,b,o,g1,rfl⟩:=aE e ef n8;have aK:=gN ef (.inr n8);have ae:=(az.b8 aK).1 (h.cz x);obtain⟨eZ,a2,dd,eG,k0,bO,b1,cX,cT,ev⟩:=ctx q (s x) (bZ (an x)) (S x) none e ae.2 ef;rw[g1]at k0;simp only[Option.some.injEq,Prod.mk.injEq,true_and]at k0;obtain⟨rfl,rfl⟩:=k0;have aD:=al.shared aZ e cn eG (λb I=>bI x (by simp[j.J]) b (b1 b I)) cT;rcases ev with⟨l,r,_,aN,_⟩|⟨eA,cur,ty,fr,l,r,aH,aN,aP,bQ,b_,_⟩
      .simp at aN
      .simp only[Option.some.injEq,Prod.mk.injEq]at aH;obtain⟨rfl,rfl⟩:=aH;refine(az.b8 rfl).2 ⟨rfl,?_⟩;rw[al];refine⟨b,l.length,cn,rfl,bI x (by simp[j.J]) b (bO b aN),?_,aD⟩;intro aB c cp;simp only[World.cell?,aP];have aj:cur[l.length+aB]? =some c:=by
        rw[<-Array.getElem?_toList,b_,getElem?_append_right (by omega),getElem?_append_left (by
         have:=(List.getElem?_eq_some_iff.1 cp).1;omega)]
        rw[<-cp];congr 1;omega
       simpa using aj
     .cases he
    .cases he
   |fn f cap=>
    simp only[view,Option.map_eq_some_iff]at he;obtain⟨ds,hA,rfl⟩:=he;rw[az]at aE;obtain⟨arr,rfl,aj⟩:=aE;rw[az];exact⟨arr,rfl,ih.2 cap _ _ (by simp at bD;omega) (by simpa [j.J]using bI) hA aj⟩
   |hole=>simp[view]at he
   |I y q=>simp[view]at he
   |_=>
    simp only[view,Option.some.injEq]at he;subst he;have lB:=(az.b8 rfl).1 aE;exact(az.b8 rfl).2 ⟨lB.1,al.mono aZ _ _ _ _ (λ_ h=>h) lB.2⟩
  .cases as with
   |nil=>
    simp only[views,Option.some.injEq]at he;subst he;rw[cJ]at aE⊢;exact aE
   |cons a as=>
    simp only[views]at he;split at he
    .rename_i d ds R U;simp only[Option.some.injEq]at he;subst he;rw[cJ]at aE⊢;obtain⟨v,eg,rfl,g1,g2⟩:=aE;simp at bD;simp only[j.dG,mem_append]at bI;exact⟨v,eg,rfl,ih.1 a v d (by omega) (λt aK=>bI t (.inl aK)) R g1,ih.2 as eg ds (by omega) (λt aK=>bI t (.inr aK)) U g2⟩
    .cases he
theorem bm.ho (h:bm w0 F0 X F S s an w) {x:Nat} {q:ace} {d0 bd:j} {cn:ach} {a:Option (Nat×Nat)} {Sn:Nat->Prop}
  (ad:j.sub q (s x)=some d0) (bf:cM w q (s x) (bZ (an x)) none=some (d0,cn,a)) (U:∀vs,bd≠.tuple vs) (aK:q=[]->bd.tree=true/\cU bd (an x))
  (aw:∀k p,q=k::p->(s x).tree=true/\(∀v,hh d0 v->hh bd v)) (hw:bd.wd=d0.wd)
  (aE:al w F bd cn Sn) (cW:∀b,Sn b->b<w.heap.size) (aZ:∀b,Sn b->¬F b) (bI:∀u b,Sn b->¬S u b) (bg:∀b,Sn b->X b\/w0.heap.size<=b):
  bm w0 F0 X F (fg S x (λb=>S x b\/Sn b)) (cw (jP x s) x (j.put q bd (s x))) an w:=by
 have dv:cw an x (an x)=an:=by funext u;simp only[cw];split<;>simp_all
 have main:(j.put q bd (s x)).tree=true/\cU (j.put q bd (s x)) (an x)/\al w F (j.put q bd (s x)) (bZ (an x)) (λb=>S x b\/Sn b):=by
  cases q with
  |nil=>
   simp only[cM,Option.some.injEq,Prod.mk.injEq]at bf;obtain⟨aH,aN,aP⟩:=bf;obtain⟨g1,g2⟩:=aK rfl;simp only[j.put];refine⟨g1,?_,?_⟩
   .exact g2
   .rw[aN];exact al.mono (λ_ h=>h) _ _ _ _ (λb I=>.inr I) aE
  |cons k p=>
   obtain⟨g1,g2⟩:=aw k p rfl;have ae:=(az.b8 g1).1 (h.cz x);obtain⟨eZ,a2,dd,eG,k0,bO,b1,cX,cT,ev⟩:=ctx (k::p) (s x) (bZ (an x)) (S x) none d0 ae.2 ad;rw[bf]at k0;simp only[Option.some.injEq,Prod.mk.injEq,true_and]at k0;obtain⟨rfl,rfl⟩:=k0;refine⟨?_,?_,?_⟩
   .rcases qU k p bd (s x)with⟨ar,gs,aH,e⟩|⟨ar,gs,aH,e⟩|⟨sz,xs,b0,aH,e⟩|⟨y,z,aH,e⟩|e<;>rw[e]<;>first|rfl|exact g1
   .refine vT ae.1 ad g2 (λ_ vs e=>(U vs e).elim) hw
   .have mono:∀b,(dd b\/Sn b)->(S x b\/Sn b):=λb I=>I.imp (bO b) id;rcases ev with⟨l,r,aH,aN,aP⟩|⟨b,cur,ty,fr,l,r,aH,aN,aP,bQ,b_,bM⟩
    .rw[aH];exact al.mono (λ_ h=>h) _ _ _ _ mono (aP w bd cn Sn (λ_ _=>rfl) (λ_ _=>rfl) hw aE (λb I aj=>bI x b I (bO b aj)))
    .refine al.mono (λ_ h=>h) _ _ _ _ mono (bM w bd cn Sn (λ_ _=>rfl) (λ_ _ _=>rfl) ?_ hw aE (λb I aj=>bI x b I (bO b aj)));rw[aP,<-b_]
 have:=h.yE (t:=x) main.1 main.2.1 main.2.2 (by rintro b (I|I);exact h.dt x b I;exact cW b I) (by rintro b (I|I);exact h.eh x b I;exact aZ b I)
  (by rintro u b c9 (I|I);exact λhu=>h.dW u x b c9 hu I;exact bI u b I) (by rintro b (I|I);exact h.cS x b I;exact bg b I)
 rwa [dv]at this
end
mutual
def j.b5:j->Bool
 | .slice _=>false
 | .ref _=>false
 | .fn _ _=>false
 | .h _ _=>false
 | .ai _ _=>false
 | .I _ _=>false
 | .ao _ xs=>j.fU xs
 | .aV d=>d.b5
 | .agg ar=>j.fU ar
 | .tuple ar=>j.fU ar
 | .a8 _ ar=>j.fU ar
 | .cH _=>false
 |_=>true
def j.fU:acj->Bool
 |[]=>true
 |d::ds=>d.b5&&j.fU ds
end
mutual
theorem al.b5 {w:World} {F bh:Nat->Prop}:∀(d:j) (cs:ach) (S:Nat->Prop),d.b5=true->al w F d cs S->al w bh d cs S
 | .hole,_,_,_,h=>h
 | .bool _,_,_,_,h=>h
 | .eT,_,_,_,h=>h
 | .int _ _,_,_,_,h=>h
 | .str _,_,_,_,h=>h
 | .c6,_,_,_,h=>h
 | .bc,_,_,_,h=>h
 | .slice xs,cs,S,aO,h=>by simp[j.b5]at aO
 | .ref d,cs,S,aO,h=>by simp[j.b5]at aO
 | .ao sz xs,cs,S,aO,h=>by
   rw[al]at h⊢;rcases h with h|⟨b,cap,cur,e,fr,aG,R,U,aw,aQ,bk,bS,bL,da,hR,gu,k5⟩
   .exact .inl h
   .exact .inr ⟨b,cap,cur,e,fr,aG,R,U,aw,aQ,bk,bS,bL,da,aT.b5 xs _ _ aO hR,gu,k5⟩
 | .aV d,cs,S,aO,h=>by
   rw[al]at h⊢;obtain⟨b,cur,e,fr,aG,R,U,aw,aQ,bk,bS,bL⟩:=h;exact⟨b,cur,e,fr,aG,R,U,aw,aQ,al.b5 d _ _ aO bk,bS,bL⟩
 | .agg ar,cs,S,aO,h=>by rw[al]at h⊢;exact aT.b5 ar _ _ aO h
 | .tuple ar,cs,S,aO,h=>by rw[al]at h⊢;exact aT.b5 ar _ _ aO h
 | .fn _ _,_,_,aO,h=>by simp[j.b5]at aO
 | .h _ _,_,_,_,h=>h
 | .ai _ _,_,_,_,h=>h
 | .I _ _,_,_,_,h=>h
 | .b3 _,_,_,_,h=>h
 | .a8 _ caps,cs,S,aO,h=>by
   rw[al]at h⊢;obtain⟨arr,R,U,aw⟩:=h;exact⟨arr,R,U,aT.b5 caps _ _ aO aw⟩
 | .cH _,_,_,aO,h=>by simp[j.b5]at aO
theorem aT.b5 {w:World} {F bh:Nat->Prop}:∀(ds:acj) (cs:ach) (S:Nat->Prop),j.fU ds=true->aT w F ds cs S->aT w bh ds cs S
 |[],_,_,_,h=>h
 |d::ds,cs,S,aO,h=>by
  simp only[j.fU,Bool.and_eq_true]at aO;rw[aT]at h⊢;obtain⟨bK,bJ,bT,cI,R,U,aw,aQ,bk,bS⟩:=h;exact⟨bK,bJ,bT,cI,R,al.b5 d _ _ aO.1 U,aT.b5 ds _ _ aO.2 aw,aQ,bk,bS⟩
end
theorem H4:∀(q:ace) (av d e:j),j.sub q av=some d->j.sub q (j.put q e av)=some e:=by
 intro q;induction q with
 |nil=>intro av d e _;simp[j.put,j.sub]
 |cons k q ih=>
  intro av d e h;cases av with
  |agg ar=>
   simp only[j.sub]at h;split at h
   .rename_i x ae;have ak:k<ar.length:=(List.getElem?_eq_some_iff.1 ae).1;simp only[j.put,ae,j.sub,getElem?_set_self ak];exact ih _ _ _ h
   .cases h
  |tuple ar=>
   simp only[j.sub]at h;split at h
   .rename_i x ae;have ak:k<ar.length:=(List.getElem?_eq_some_iff.1 ae).1;simp only[j.put,ae,j.sub,getElem?_set_self ak];exact ih _ _ _ h
   .cases h
  |ao sz ar=>
   simp only[j.sub]at h;split at h
   .rename_i x ae;have ak:k<ar.length:=(List.getElem?_eq_some_iff.1 ae).1;simp only[j.put,ae,j.sub,getElem?_set_self ak];exact ih _ _ _ h
   .cases h
  |aV x=>
   cases k with
   |zero=>simp only[j.sub]at h;simp only[j.put,j.sub];exact ih _ _ _ h
   |succ k=>simp[j.sub]at h
  |_=>simp[j.sub]at h
structure bX where
 a:j
 g:Bool
 d:j
 o:j
def j.own:j->Bool
 | .ao _ _=>true
 | .aV _=>true
 |_=>false
def j.fh:j->Bool
 | .ao _ _=>true
 | .aV _=>true
 | .b3 _=>true
 | .a8 _ _=>true
 | .cH _=>true
 | .agg ar=> !j.dj ar
 |_=>false
def pg (d o:j):Bool:=match d,o with
 | .agg a,.agg b=>j.di a==j.di b
 | .agg _,_=>false
 |_,.agg _=>false
 |_,_=>true
theorem qc {d:j} (h:d.fh=true):d.plain=false/\d.tree=true/\∀vs,d≠.tuple vs:=by
 cases d<;>simp[j.fh]at h<;>first|exact⟨rfl,rfl,λvs e=>by cases e⟩|exact⟨by simp only[j.plain];exact h,rfl,λvs e=>by cases e⟩
theorem P2 {d o:j} (h:d.fh=true) (a_:o.fh=true) (hl:pg d o=true):o.wd=d.wd/\(∀v,cU d v->cU o v)/\∀v,hh d.cv v->hh o v:=by
 cases d<;>simp[j.fh]at h<;>cases o<;>simp[j.fh]at a_<;>simp[pg]at hl<;>first
  |exact⟨rfl,λ_ h=>h,λ_ h=>h⟩
  |exact⟨by simp only[j.wd];exact hl.symm,λ_ h=>h,λ_ h=>h⟩
def bX.ok (s:ag) (p:bX):Prop:=
 if p.g then(match p.a with| .h x q=>j.sub q (s x)=some p.d/\p.d.fh=true/\(p.o= .hole\/(p.o.fh=true/\pg p.d p.o=true))|_=>False)
 else view s p.a=some p.d
def fL:List bX->Bool
 |[]=>true
 |p::r=>(r.all λcm=> !(p.g||cm.g)||(p.a.J.all λu=> !cm.a.J.contains u))&&fL r
def bX.take (s:ag) (p:bX):ag:=
 if p.g then(match p.a with| .h x q=>cw (gO x s) x (j.put q p.d.cv (s x))|_=>s)else s
def bX.ho (s:ag) (p:bX):ag:=
 if p.g then(match p.a,p.o with|_,.hole=>s| .h x q,o=>cw (jP x s) x (j.put q o (s x))|_,_=>s)else s
def dx (s:ag) (ps:List bX):ag:=ps.foldl bX.take s
def eV (s:ag) (ps:List bX):ag:=ps.foldl bX.ho s
section
variable {w0 w au:World} {F0 X F Fc:Nat->Prop} {S:Nat->Nat->Prop} {s aq:ag} {an gP:Nat->Value}
def P3 (w:World) (F:Nat->Prop) (s1:ag) (an:Nat->Value) (p:bX) (v:Value) (Sn:Nat->Prop):Prop:=
 ∃x q a0,p.a= .h x q/\j.sub q (s1 x)=some p.d.cv/\cM w q (s1 x) (bZ (an x)) none=some (p.d.cv,bZ v,a0)/\(s1 x).J=[]/\(q=[]->cU p.d (an x))/\(q≠[]->(s1 x).tree=true)/\
  cU p.d v/\al w F p.d (bZ v) Sn
theorem P4 {p:bX} {x:Nat} (h:(s x).J=[]) (ai:p.g=true->x∉p.a.J):bX.take s p x=s x:=by
 unfold bX.take;split
 .rename_i bo;cases bx:p.a with
  |h y q=>
   have:x≠y:=by
    have:=ai bo;rw[bx]at this;simpa [j.J]using this
   simp only;rw[ia _ _ this];exact wy _ (by rw[h];simp)
  |_=>rfl
 .rfl
theorem Cw:∀{ps:List bX} {s:ag} {x:Nat},(s x).J=[]->(∀p∈ps,p.g=true->x∉p.a.J)->dx s ps x=s x:=by
 intro ps;induction ps with
 |nil=>intros;rfl
 |cons p ps ih=>
  intro s x h ai;have e:=P4 (s:=s) (p:=p) h (ai p (by simp));show dx (bX.take s p) ps x=s x;rw[ih (by rw[e];exact h) (λcm dF=>ai cm (by simp[dF])),e]
theorem sy {d:j} (h:d.own=true):d.plain=false/\d.tree=true/\d.cv= .hole/\d.one=true/\d.wd=1/\(∀v,cU d v↔Value.ej v=true):=by
 cases d<;>simp[j.own]at h<;>exact⟨rfl,rfl,rfl,rfl,rfl,λv=>Iff.rfl⟩
theorem P5:∀(ps:List bX) (vs:ach) (s:ag) (S:Nat->Nat->Prop),bm w0 F0 X F S s an w->ps.length=vs.length->
  (∀(i:Nat) (p:bX) (v:Value),ps[i]? =some p->vs[i]? =some v->p.a.plain=true/\az w F s an p.a v (λ_=>False)/\(p.g=true->p.ok s))->fL ps=true->
  ∃(Sn bT:Nat->Nat->Prop),bm w0 F0 X F bT (dx s ps) an w/\(∀u b,bT u b->S u b)/\
   (∀(i:Nat) (p:bX) (v:Value),ps[i]? =some p->vs[i]? =some v->p.g=true->P3 w F (dx s ps) an p v (Sn i))/\
   (∀i b,Sn i b->∃p,ps[i]? =some p/\p.g=true)/\
   (∀i b,Sn i b->∃u,S u b)/\(∀i u b,Sn i b->¬bT u b)/\(∀i aB b,i≠aB->Sn i b->¬Sn aB b)/\
   (∀(bd:j) (dD:Value) (aG:Nat->Prop),(∀p∈ps,p.g=true->∀u∈p.a.J,u∉bd.J)->az w F s an bd dD aG->az w F (dx s ps) an bd dD aG):=by
 intro ps;induction ps with
 |nil=>
  intro vs s S h hl _ _;exact⟨λ_ _=>False,S,h,λ_ _ h=>h,λi p v ai=>by simp at ai,λ_ _ h=>h.elim,λ_ _ h=>h.elim,λ_ _ _ h=>h.elim,λ_ _ _ _ h=>h.elim,λ_ _ _ _ h=>h⟩
 |cons p ps ih=>
  intro vs s S h hl wo jx;cases vs with
  |nil=>simp at hl
  |cons v vs=>
   simp only[length_cons,Nat.add_right_cancel_iff]at hl;simp only[fL,Bool.and_eq_true,List.all_eq_true,Bool.or_eq_true,Bool.not_eq_true']at jx;obtain⟨oh,nH⟩:=jx;have uh:∀cm∈ps,(p.g=true\/cm.g=true)->∀u∈p.a.J,u∉cm.a.J:=by
    intro cm dF bo u hu;rcases oh cm dF with e|e
    .rcases bo with bo|bo<;>simp[bo]at e
    .simpa using e u hu
   obtain⟨f1,f2,f3⟩:=wo 0 p v rfl rfl;cases bo:p.g with
   |false=>
    have fw:bX.take s p=s:=by simp[bX.take,bo]
    obtain⟨Sn,bT,g1,g2,g3,g4,g5,g6,g7,g8⟩:=ih vs s S h hl (λi cm dD ai aE=>wo (i+1) cm dD (by simpa using ai) (by simpa using aE)) nH;have aH:dx s (p::ps)=dx s ps:=by show dx (bX.take s p) ps=_;rw[fw]
    rw[aH];refine⟨λi=>match i with|0=>λ_=>False|i+1=>Sn i,bT,g1,g2,?_,?_,?_,?_,?_,λbd dD aG ad=>g8 bd dD aG λcm dF=>ad cm (by simp[dF])⟩
    .intro i cm dD ai aE gR;cases i with
     |zero=>simp at ai;subst ai;rw[bo]at gR;cases gR
     |succ i=>exact g3 i cm dD (by simpa using ai) (by simpa using aE) gR
    .intro i b I;cases i with
     |zero=>exact I.elim
     |succ i=>simpa using g4 i b I
    .intro i b I;cases i with
     |zero=>exact I.elim
     |succ i=>exact g5 i b I
    .intro i u b I;cases i with
     |zero=>exact I.elim
     |succ i=>exact g6 i u b I
    .intro i aB b c9 ax cp;cases i with
     |zero=>exact ax.elim
     |succ i=>
      cases aB with
      |zero=>exact cp.elim
      |succ aB=>exact g7 i aB b (by omega) ax cp
   |true=>
    have el:=f3 bo;simp only[bX.ok,bo,if_true]at el;split at el
    .rename_i x q bx;obtain⟨ef,Cx,r5⟩:=el;obtain⟨k9,mj,y5⟩:=qc Cx;have P6:cr s p.a=some (p.d,cw (gO x s) x (j.put q p.d.cv (s x))):=by
      rw[bx];simp only[cr,ef,k9];rfl
     obtain⟨bT,t1,t2,t3,P7,t4,t5,t6,t7,t8,t9,t10,t11⟩:=o0 h f1 f2 P6;have fw:bX.take s p=cw (gO x s) x (j.put q p.d.cv (s x)):=by simp[bX.take,bo,bx]
     have mP:∀cm∈ps,x∉cm.a.J:=λcm dF=>uh cm dF (.inl bo) x (by rw[bx];simp[j.J]);have q6:bX.take s p x=j.put q p.d.cv (s x):=by rw[fw,lA]
     have H5:(bX.take s p x).J=[]:=by
      rw[q6];exact uf q _ _ _ ef (.inl k9) (λ_=>by cases ad:p.d<;>first|rfl|(rw[ad]at Cx;simp[j.fh]at Cx))
     obtain⟨Sn,cI,g1,g2,g3,g4,g5,g6,g7,g8⟩:=ih vs (bX.take s p) bT (by rw[fw];exact t1) hl (by
      intro i cm dD ai aE;obtain⟨bO,b1,cX⟩:=wo (i+1) cm dD (by simpa using ai) (by simpa using aE);have hm:cm∈ps:=mem_of_getElem? ai;refine⟨bO,?_,?_⟩
      .have:=t11 _ _ _ b1;rw[bx]at this;rw[fw];simp only[j.owner,jQ]at this
       rwa [wy _ (mP cm hm)]at this
      .intro gR;have:=cX gR;simp only[bX.ok,gR,if_true]at this⊢;split at this
       .rename_i y iz sA;have c9:y≠x:=λe=>mP cm hm (by rw[sA,e];simp[j.J]);rw[fw,ia _ _ c9];have aK:=gN this.1 (.inl (qc this.2.1).1);simp only[gO,BD aK];exact this
       .exact this.elim) nH
     have aH:dx s (p::ps)=dx (bX.take s p) ps:=rfl;have q7:dx (bX.take s p) ps x=j.put q p.d.cv (s x):=by
      rw[Cw H5 (λcm dF _=>mP cm dF),q6]
     rw[aH];refine⟨λi=>match i with|0=>P7|i+1=>Sn i,cI,g1,λu b I=>t9 u b (g2 u b I),?_,?_,?_,?_,?_,?_⟩
     rotate_left 5
     .intro bd dD aG ad gZ;refine g8 bd dD aG (λcm dF=>ad cm (by simp[dF])) ?_;have:=t11 _ _ _ gZ;rw[bx]at this;rw[fw];simp only[j.owner,jQ]at this
      rwa [wy _ (ad p (by simp) bo x (by rw[bx];simp[j.J]))]at this
     .intro i cm dD ai aE gR;cases i with
      |zero=>
       simp at ai aE;subst ai aE;have y6:=f2;rw[bx,az]at y6;obtain⟨cn,a0,bK,bJ,kI⟩:=y6 _ ef k9;refine⟨x,q,a0,bx,?_,?_,?_,?_,?_,t3,t4⟩
       .rw[q7];exact H4 q _ _ _ ef
       .rw[q7,bJ];exact P1 w q _ _ _ _ _ _ _ ef (j.qS _) bK
       .rw[q7,<-q6];exact H5
       .intro cb;subst cb;simp only[j.sub,Option.some.injEq]at ef;have:=(az.b8 (by rw[ef];exact mj)).1 (h.cz x);rw[ef]at this;exact this.1
       .intro cb;have aK:=gN ef (.inl k9);rw[q7];cases q with
        |nil=>exact(cb rfl).elim
        |cons k q=>rcases qU k q p.d.cv (s x)with⟨ar,gs,aH,e⟩|⟨ar,gs,aH,e⟩|⟨sz,xs,b0,aH,e⟩|⟨y,z,aH,e⟩|e<;>rw[e]<;>first|rfl|exact aK
      |succ i=>exact g3 i cm dD (by simpa using ai) (by simpa using aE) gR
     .intro i b I;cases i with
      |zero=>exact⟨p,rfl,bo⟩
      |succ i=>simpa using g4 i b I
     .intro i b I;cases i with
      |zero=>exact t10 b I
      |succ i=>obtain⟨u,hu⟩:=g5 i b I;exact⟨u,t9 u b hu⟩
     .intro i u b I;cases i with
      |zero=>exact λhu=>t7 u b I (g2 u b hu)
      |succ i=>exact g6 i u b I
     .intro i aB b c9 ax cp;cases i with
      |zero=>
       cases aB with
       |zero=>exact c9 rfl
       |succ aB=>obtain⟨u,hu⟩:=g5 aB b cp;exact t7 u b ax hu
      |succ i=>
       cases aB with
       |zero=>obtain⟨u,hu⟩:=g5 i b ax;exact t7 u b cp hu
       |succ aB=>exact g7 i aB b (by omega) ax cp
    .exact el.elim
end
def im:acj->acj->acj
 |d::ds,.hole::us=>(if d.plain=true then d else .hole)::im ds us
 |_::ds,u::us=>u::im ds us
 |_,us=>us
def jz:j->j->j
 | .a8 _ ds,.a8 g us=>.a8 g (im ds us)
 |_,o=>o
theorem P8 {d o:j} (h:(jz d o).tree=true):o.tree=true:=by
 cases d<;>cases o<;>first|exact h|rfl
theorem y7 {d:j} (h:d.one=true):d.wd=1:=by cases d<;>first|rfl|(simp[j.one]at h)
theorem H6 {w au:World} {F lI:Nat->Prop} (aZ:∀b,F b->lI b) (hw:∀b,F b->au.heap[b]? =w.heap[b]?):∀(ds us:acj) (cs:ach) (S aG:Nat->Prop),(∀d∈ds,d.one=true)->(∀d∈us,d.one=true)->
  aT w F ds cs S->aT au lI us cs aG->aT au lI (im ds us) cs aG/\∀d∈im ds us,d.one=true
 |[],us,cs,S,aG,_,R,_,aw=>by
  have e:im [] us=us:=by cases us<;>rfl
  rw[e];exact⟨aw,R⟩
 |d::ds,[],cs,S,aG,_,_,_,aw=>by
  have e:im (d::ds) []=[]:=rfl;rw[e];exact⟨aw,λd h=>by cases h⟩
 |d::ds,u::us,cs,S,aG,bg,R,U,aw=>by
  rw[aT]at U aw;obtain⟨bK,bJ,bT,cI,aH,aa,a2,a3,a4,a5⟩:=U;obtain⟨ju,gQ,en,eE,aN,bO,b1,cX,cT,ev⟩:=aw;have eQ:=al.length _ _ _ aa;have l2:=al.length _ _ _ bO;rw[y7 (bg d (by simp))]at eQ;rw[y7 (R u (by simp))]at l2;have aP:bK=ju/\bJ=gQ:=append_inj (aH.symm.trans aN) (by rw[eQ,l2]);obtain⟨rfl,rfl⟩:=aP;obtain⟨cQ,bl⟩:=H6 aZ hw ds us bJ cI eE (λd ad=>bg d (by simp[ad])) (λd ad=>R d (by simp[ad])) a2 b1;have key:∀y:j,al au lI y bK en->y.one=true->aT au lI (y::im ds us) cs aG/\∀d∈y::im ds us,d.one=true:=by
   intro y a6 BZ;rw[aT];exact⟨⟨bK,bJ,en,eE,aN,a6,cQ,cX,cT,ev⟩,λd ad=>by
    rcases mem_cons.1 ad with rfl|ad
    .exact BZ
    .exact bl d ad⟩
  by_cases hu:u= .hole
  .subst hu;simp only[im];by_cases ai:d.plain=true
   .rw[if_pos ai];exact key d (al.plain _ _ _ _ ai (al.mono aZ _ _ _ _ (λ_ h=>h) (al.frame hw _ _ (λ_=>False) (λ_ h=>h.elim) (al.plain _ _ _ _ ai aa)))) (bg d (by simp))
   .rw[if_neg ai];exact key .hole bO rfl
  .have e:im (d::ds) (u::us)=u::im ds us:=by cases u<;>first|rfl|exact(hu rfl).elim
   rw[e];exact key u bO (R u (by simp))
theorem P9 {w au:World} {F lI:Nat->Prop} {d o:j} {cs:ach} {S aG:Nat->Prop} (aZ:∀b,F b->lI b) (hw:∀b,F b->au.heap[b]? =w.heap[b]?) (R:al w F d cs S) (U:al au lI o cs aG):al au lI (jz d o) cs aG:=by
 cases d with
 |a8 f ds=>
  cases o with
  |a8 g us=>
   simp only[jz];rw[al]at R U⊢;obtain⟨arr,rfl,a2,a3⟩:=R;obtain⟨H7,e,gQ,iN⟩:=U;simp only[cons.injEq,Value.func.injEq,and_true]at e;obtain⟨aH,aN,aP⟩:=e;subst aP;obtain⟨cQ,bl⟩:=H6 aZ hw ds us _ _ _ a2 gQ a3 iN;exact⟨arr,by simp_all,bl,cQ⟩
  |_=>exact U
 |_=>cases o<;>exact U
def eo (l:acj):ag:=λi=>l.getD i .hole
def fi (l:ach):Nat->Value:=λi=>l.getD i undef
def jA (P:Program) (f:FuncId) (args:Array Value) (w:World) (kJ:Value->World->Prop):Prop:=
 ((callFunc f args).run P w= .ok (.enter f args) w/\Calls P f args w (λe au=>∃v,e= .returned v/\kJ v au))\/
 ∃v au,(callFunc f args).run P w= .ok (.value v) au/\kJ v au
theorem jA.mono {P:Program} {f:FuncId} {args:Array Value} {w:World} {kJ H8:Value->World->Prop} (h:jA P f args w kJ) (aD:∀v au,kJ v au->H8 v au):jA P f args w H8:=by
 rcases h with⟨R,U⟩|⟨v,au,R,U⟩
 .exact .inl ⟨R,Calls.mono U λe au ⟨v,e,h⟩=>⟨v,e,aD v au h⟩⟩
 .exact .inr ⟨v,au,R,aD v au U⟩
def bb (C:bz) (f:FuncId) (as:acj) (r:j) (outs:acj):Prop:=
 ∀(w:World) (F X:Nat->Prop) (S:Nat->Nat->Prop) (vs:ach),vs.length=as.length->bm w F X F S (eo as) (fi vs) w->
  jA C.P f vs.toArray w λv au=>∃bh aG,bm w F X bh aG (eo (r::outs)) (fi (v::vs)) au
def j.res:j->Bool
 | .h _ _=>false
 | .ai _ _=>false
 | .I _ _=>false
 | .fn _ _=>false
 |_=>true
theorem H9 {d:j} (h:d.tree=true):d.J=[]:=by cases d<;>first|rfl|(simp[j.tree]at h)
mutual
theorem Cy {s aq:ag}:∀(a:j) (d:j),(∀u∈a.J,(s u).tree=true->aq u=s u)->view s a=some d->view aq a=some d
 | .h x q,d,hu,h=>by
   have aK:(s x).tree=true:=by
    simp only[view]at h;split at h
    .rename_i e ef;cases e<;>simp only at h<;>first
      |(cases h;done)
      |(split at h
        .cases h
        .rename_i ai;exact gN ef (.inl (by simpa using ai)))
    .cases h
   simp only[view]at h⊢;rw[hu x (by simp[j.J]) aK];exact h
 | .ai x q,d,hu,h=>by
   have aK:(s x).tree=true:=by
    simp only[view]at h;split at h
    .rename_i aj;split at h
     .rename_i e ef;exact gN ef (.inr aj)
     .cases h
    .cases h
   simp only[view]at h⊢;rw[hu x (by simp[j.J]) aK];exact h
 | .I x q,d,hu,h=>by simp[view]at h
 | .fn f cap,d,hu,h=>by
   simp only[view,Option.map_eq_some_iff]at h⊢;obtain⟨ds,R,U⟩:=h;exact⟨ds,H_ cap ds (by simpa [j.J]using hu) R,U⟩
 | .hole,d,hu,h=>h
 | .bool _,d,hu,h=>h
 | .eT,d,hu,h=>h
 | .int _ _,d,hu,h=>h
 | .str _,d,hu,h=>h
 | .c6,d,hu,h=>h
 | .bc,d,hu,h=>h
 | .slice _,d,hu,h=>h
 | .ao _ _,d,hu,h=>h
 | .ref _,d,hu,h=>h
 | .aV _,d,hu,h=>h
 | .agg _,d,hu,h=>h
 | .tuple _,d,hu,h=>h
 | .b3 _,d,hu,h=>h
 | .a8 _ _,d,hu,h=>h
 | .cH _,d,hu,h=>h
theorem H_ {s aq:ag}:∀(as:acj) (ds:acj),(∀u∈j.dG as,(s u).tree=true->aq u=s u)->views s as=some ds->views aq as=some ds
 |[],ds,hu,h=>h
 |a::as,ds,hu,h=>by
  simp only[j.dG,mem_append]at hu;simp only[views]at h⊢;split at h
  .rename_i x y R U;rw[Cy a x (λu hm=>hu u (.inl hm)) R,H_ as y (λu hm=>hu u (.inr hm)) U];exact h
  .cases h
end
section
variable {C:bz} {w0 w au:World} {F0 X F Fc:Nat->Prop} {S:Nat->Nat->Prop} {s aq:ag} {an gP:Nat->Value}
def P_ (w:World) (F:Nat->Prop) (s:ag) (an:Nat->Value) (p:bX) (v:Value) (nI:Nat->Prop):Prop:=
 p.g=true->p.o= .hole\/∃x q a0 d0,p.a= .h x q/\j.sub q (s x)=some d0/\cM w q (s x) (bZ (an x)) none=some (d0,bZ v,a0)/\(s x).J=[]/\
  (q=[]->cU p.o (an x))/\(q≠[]->(s x).tree=true)/\p.o.fh=true/\al w F p.o (bZ v) nI/\p.o.wd=d0.wd/\∀v,hh d0 v->hh p.o v
theorem Qa:∀(ps:List bX) (vs:ach) (s:ag) (S nI:Nat->Nat->Prop),bm w0 F0 X F S s an w->ps.length=vs.length->
  (∀(i:Nat) (p:bX) (v:Value),ps[i]? =some p->vs[i]? =some v->P_ w F s an p v (nI i))->
  (∀i b,nI i b->b<w.heap.size/\¬F b/\(X b\/w0.heap.size<=b)/\∀u,¬S u b)->(∀i aB b,i≠aB->nI i b->¬nI aB b)->fL ps=true->
  ∃cI,bm w0 F0 X F cI (eV s ps) an w/\∀u b,cI u b->S u b\/∃i,nI i b:=by
 intro ps;induction ps with
 |nil=>intro vs s S nI h _ _ _ _ _;exact⟨S,h,λu b I=>.inl I⟩
 |cons p ps ih=>
  intro vs s S nI h hl Cz I ad jx;cases vs with
  |nil=>simp at hl
  |cons v vs=>
   simp only[length_cons,Nat.add_right_cancel_iff]at hl;simp only[fL,Bool.and_eq_true,List.all_eq_true,Bool.or_eq_true,Bool.not_eq_true']at jx;obtain⟨oh,nH⟩:=jx;have uh:∀cm∈ps,(p.g=true\/cm.g=true)->∀u∈p.a.J,u∉cm.a.J:=by
    intro cm dF bo u hu;rcases oh cm dF with e|e
    .rcases bo with bo|bo<;>simp[bo]at e
    .simpa using e u hu
   have skip:bX.ho s p=s->∃cI,bm w0 F0 X F cI (eV s (p::ps)) an w/\∀u b,cI u b->S u b\/∃i,nI i b:=by
    intro fw;obtain⟨cI,g1,g2⟩:=ih vs s S (λi=>nI (i+1)) h hl (λi cm dD ai aE=>Cz (i+1) cm dD (by simpa using ai) (by simpa using aE)) (λi b h=>I (i+1) b h)
     (λi aB b c9=>ad (i+1) (aB+1) b (by omega)) nH
    refine⟨cI,?_,λu b hu=>(g2 u b hu).imp id λ⟨i,ax⟩=>⟨i+1,ax⟩⟩;show bm _ _ _ _ _ (eV (bX.ho s p) ps) _ _;rw[fw];exact g1
   cases bo:p.g with
   |false=>exact skip (by simp[bX.ho,bo])
   |true=>
    rcases Cz 0 p v rfl rfl bo with a_|⟨x,q,a0,d0,bx,bK,bJ,kI,hz,ka,e_,ph,iC,CA⟩
    .exact skip (by simp only[bX.ho,bo,a_,if_true])
    .obtain⟨k9,mj,Qb⟩:=qc e_;have fw:bX.ho s p=cw (jP x s) x (j.put q p.o (s x)):=by
      simp only[bX.ho,bo,if_true,bx];cases Qc:p.o<;>first|rfl|(rw[Qc]at e_;simp[j.fh]at e_)
     have step:=h.ho (x:=x) (q:=q) (bd:=p.o) bK bJ Qb (λcb=>⟨mj,hz cb⟩) (λk r cb=>⟨ka (by rw[cb];simp),CA⟩) iC ph
      (λb h=>(I 0 b h).1) (λb h=>(I 0 b h).2.1) (λu b h=>(I 0 b h).2.2.2 u) (λb h=>(I 0 b h).2.2.1)
     rw[<-fw]at step;obtain⟨cI,g1,g2⟩:=ih vs (bX.ho s p) _ (λi=>nI (i+1)) step hl (by
      intro i cm dD ai aE gR;have hm:cm∈ps:=mem_of_getElem? ai;rcases Cz (i+1) cm dD (by simpa using ai) (by simpa using aE) gR with a_|⟨y,iz,aa,d1,bO,b1,cX,cT,ev,dV,ij,cZ,lF⟩
      .exact .inl a_
      .have c9:y≠x:=λe=>uh cm hm (.inl bo) x (by rw[bx];simp[j.J]) (by rw[bO,e];simp[j.J]);have qV:bX.ho s p y=s y:=by
        rw[fw,ia _ _ c9];exact Ci _ (by rw[cT];simp)
       exact .inr ⟨y,iz,aa,d1,bO,by rw[qV];exact b1,by rw[qV];exact cX,by rw[qV];exact cT,ev,by rw[qV];exact dV,ij,cZ,lF⟩)
      (by
       intro i b ax;obtain⟨ju,gQ,iN,cK⟩:=I (i+1) b ax;refine⟨ju,gQ,iN,λu hu=>?_⟩;simp only[fg]at hu;split at hu
       .rcases hu with hu|hu
        .exact cK _ hu
        .exact ad 0 (i+1) b (by omega) hu ax
       .exact cK _ hu)
      (λi aB b c9=>ad (i+1) (aB+1) b (by omega)) nH
     refine⟨cI,g1,λu b hu=>?_⟩;rcases g2 u b hu with hu|⟨i,ax⟩
     .simp only[fg]at hu;split at hu
      .rename_i e;subst e;exact hu.imp id λh=>⟨0,h⟩
      .exact .inl hu
     .exact .inr ⟨i+1,ax⟩
def gE (ps:List bX):Bool:=ps.any λp=> !p.g&& !p.a.J.isEmpty
theorem y8 (h:bm w0 F0 X F S s an w) {ps:List bX} {vs vm:ach} {os:acj} {f:FuncId} {r:j} (hl:ps.length=vs.length) (Ia:∀(i:Nat) (p:bX),ps[i]? =some p->∃o,os[i]? =some o/\(p.o=o\/p.o=jz p.d o))
  (gZ:∀(i:Nat) (p:bX) (v:Value),ps[i]? =some p->vs[i]? =some v->p.a.plain=true/\az w F s an p.a v (λ_=>False))
  (el:∀p∈ps,p.ok s) (jx:fL ps=true) (bf:∀(Fc hX:Nat->Prop) (dd:Nat->Nat->Prop),(∀b,F b->Fc b)->(∀b,hX b->∃u,S u b)->bm w Fc hX Fc dd (eo (ps.map (·.d))) (fi vs) w->
   jA C.P f vm.toArray w λv au=>∃bh aG,bm w Fc hX bh aG (eo (r::os)) (fi (v::vs)) au) (aD:r.res=true)
  (aO:gE ps=true->r.b5=true/\∀(i:Nat) (p:bX) (o:j),ps[i]? =some p->os[i]? =some o->p.g=true->o.b5=true):
  jA C.P f vm.toArray w λv au=>∃bh aG,bm w0 F0 X bh aG (eV (dx s ps) ps) an au/\iK w0 X bh aG (eV (dx s ps) ps) an au r v/\∀b,F b->bh b/\au.heap[b]? =w.heap[b]? :=by
 obtain⟨Sn,bT,g1,g2,g3,g4,g5,g6,g7,g8⟩:=P5 ps vs s S h hl (λi p v ai aE=>⟨(gZ i p v ai aE).1,(gZ i p v ai aE).2,λ_=>el p (mem_of_getElem? ai)⟩) jx;have apart:∀(i aB:Nat) (p cm:bX),ps[i]? =some p->ps[aB]? =some cm->i≠aB->(p.g=true\/cm.g=true)->∀u∈p.a.J,u∉cm.a.J:=by
  clear gZ el bf aO g1 g3 g4 g8 hl Ia;induction ps with
  |nil=>intro i aB p cm ai;simp at ai
  |cons gL ps ih=>
   simp only[fL,Bool.and_eq_true,List.all_eq_true,Bool.or_eq_true,Bool.not_eq_true']at jx;obtain⟨oh,nH⟩:=jx;have uh:∀cm∈ps,(gL.g=true\/cm.g=true)->∀u∈gL.a.J,u∉cm.a.J:=by
    intro cm dF bo u hu;rcases oh cm dF with e|e
    .rcases bo with bo|bo<;>simp[bo]at e
    .simpa using e u hu
   intro i aB p cm ai dF c9 bo u hu;cases i with
   |zero=>
    simp at ai;subst ai;cases aB with
    |zero=>exact(c9 rfl).elim
    |succ aB=>exact uh cm (mem_of_getElem? (by simpa using dF)) bo u hu
   |succ i=>
    cases aB with
    |zero=>
     simp at dF;subst dF;exact λwA=>uh p (mem_of_getElem? (by simpa using ai)) bo.symm u wA hu
    |succ aB=>exact ih nH i aB p cm (by simpa using ai) (by simpa using dF) (by omega) bo u hu
 let Fc:Nat->Prop:=λb=>F b\/(gE ps=true/\∃u,bT u b)
 let hX:Nat->Prop:=λb=>∃i,Sn i b
 have y9:∀b,F b->¬hX b:=λb aZ ⟨i,ax⟩=>by obtain⟨u,hu⟩:=g5 i b ax;exact h.eh u b hu aZ
 have wB:∀u b,bT u b->¬hX b:=λu b hu ⟨i,ax⟩=>g6 i u b ax hu;have aS:∀b,hX b->(X b\/w0.heap.size<=b)/\b<w.heap.size:=λb ⟨i,ax⟩=>by obtain⟨u,hu⟩:=g5 i b ax;exact⟨h.cS u b hu,h.dt u b hu⟩
 have pre:bm w Fc hX Fc Sn (eo (ps.map (·.d))) (fi vs) w:=by
  refine⟨λ_ h=>h,λ_ h=>.inl h,?_,λi b ax=>(aS b ⟨i,ax⟩).2,?_,λi aB b c9=>g7 i aB b c9,λi b ax=>.inl ⟨i,ax⟩,?_,λ_ _ _=>rfl,Nat.le_refl _,rfl,rfl,Out.refl _,h.fu.next h.size h.old λb I=>(aS b I).1⟩
  .rintro b (I|⟨_,u,hu⟩)
   .exact h.dP b I
   .exact g1.dt u b hu
  .rintro i b ax (I|⟨_,u,hu⟩)
   .exact y9 b I ⟨i,ax⟩
   .exact g6 i u b ax hu
  .intro t;cases ai:ps[t]? with
   |none=>
    have:eo (ps.map (·.d)) t= .hole:=by simp[eo,List.getD,ai]
    rw[this,az];trivial
   |some p=>
    have cW:t<vs.length:=by rw[<-hl];exact(List.getElem?_eq_some_iff.1 ai).1
    have aE:vs[t]? =some vs[t]:=getElem?_eq_getElem cW;have aH:eo (ps.map (·.d)) t=p.d:=by simp[eo,List.getD,ai]
    have aN:fi vs t=vs[t]:=by simp[fi,List.getD,aE]
    rw[aH,aN];have hm:p∈ps:=mem_of_getElem? ai;have ak:=el p hm;cases bo:p.g with
    |true=>
     obtain⟨x,q,a0,bO,b1,cX,cT,ev,dV,ij,cZ⟩:=g3 t p _ ai aE bo;simp only[bX.ok,bo,if_true,bO]at ak;exact(az.b8 (qc ak.2.1).2.1).2 ⟨ij,al.mono (λb I=>.inl I) _ _ _ _ (λ_ h=>h) cZ⟩
    |false=>
     simp only[bX.ok,bo]at ak;obtain⟨f1,f2⟩:=gZ t p _ ai aE;have Ib:∀cm∈ps,cm.g=true->∀u∈cm.a.J,u∉p.a.J:=by
      intro cm dF gR u hu;obtain⟨aB,cp⟩:=getElem?_of_mem dF;refine apart aB t cm p cp ai (λe=>?_) (.inl gR) u hu;subst e;rw[ai]at cp;simp only[Option.some.injEq]at cp;rw[cp,gR]at bo;cases bo
     have y6:=g8 _ _ _ Ib f2;have iM:view (dx s ps) p.a=some p.d:=Cy _ _ (λu hu aK=>Cw (H9 aK) (λcm dF gR wA=>Ib cm dF gR u wA hu)) (by simpa using ak);refine az.nothing (H2 f1 iM) ((H3 g1 (Fc:=Fc) (λb I=>.inl I) (SizeOf.sizeOf p.a)).1 p.a _ p.d (Nat.le_refl _) ?_ iM y6);intro u hu b I;refine .inr ⟨?_,u,I⟩;simp only[gE,List.any_eq_true];refine⟨p,hm,?_⟩;cases j5:p.a.J with
     |nil=>rw[j5]at hu;cases hu
     |cons _ _=>simp[bo]
 refine jA.mono (bf Fc hX Sn (λb I=>.inl I) (λb ⟨i,ax⟩=>g5 i b ax) pre) ?_;rintro v au ⟨bh,aG,aj⟩;have keep:∀b,b<w.heap.size->¬hX b->au.heap[b]? =w.heap[b]? :=aj.old;let oi:Nat->Prop:=λb=>if gE ps=true then F b else bh b
 have Ic:∀b,F b->bh b:=λb I=>aj.ff b (.inl I);have q8:∀b,F b->oi b:=λb I=>by
  simp only[oi];split
  .exact I
  .exact Ic b I
 have lI:∀b,oi b->bh b:=λb I=>by
  simp only[oi]at I;split at I
  .exact Ic b I
  .exact I
 have wC:∀b,oi b->F b\/hX b\/w.heap.size<=b:=λb I=>by
  simp only[oi]at I;split at I
  .exact .inl I
  .rename_i q0;rcases aj.fI b I with(I|⟨R,_⟩)|I|I
   .exact .inl I
   .exact(q0 R).elim
   .exact .inr (.inl I)
   .exact .inr (.inr I)
 have mid:bm w0 F0 X oi bT (dx s ps) an au:=by
  refine⟨λb I=>q8 b (g1.ff b I),?_,λb I=>aj.dP b (lI b I),λt b I=>Nat.lt_of_lt_of_le (g1.dt t b I) aj.size,?_,g1.dW,g1.cS,?_,?_,Nat.le_trans g1.size aj.size,aj.os.trans g1.os,aj.tape.trans g1.tape,aj.output.trans g1.output,g1.fu⟩
  .intro b I;rcases wC b I with I|I|I
   .exact g1.fI b I
   .rcases(aS b I).1 with h|h
    .exact .inr (.inl h)
    .exact .inr (.inr h)
   .exact .inr (.inr (Nat.le_trans g1.size I))
  .intro t b aK I;rcases wC b I with I|I|I
   .exact g1.eh t b aK I
   .exact wB t b aK I
   .exact absurd (g1.dt t b aK) (by omega)
  .intro t;exact az.frame (Sx:=bT) (λb I=>keep b (h.dP b I) (y9 b I)) q8 (λx b I=>keep b (g1.dt x b I) (wB x b I)) g1.cz _ _ _ (λb I=>keep b (g1.dt t b I) (wB t b I)) (g1.cz t)
  .intro b I ib;refine(keep b (Nat.lt_of_lt_of_le I g1.size) λae=>?_).trans (g1.old b I ib);rcases(aS b ae).1 with h|h
   .exact ib h
   .omega
 have Ie:∀(d:j) (cs:ach) (cS:Nat->Prop),(gE ps=true->d.b5=true)->al au bh d cs cS->al au oi d cs cS:=by
  intro d cs cS mN eO;by_cases hle:gE ps=true
  .exact al.b5 d cs cS (mN hle) eO
  .exact al.mono (λb I=>by simp only[oi];rw[if_neg hle];exact I) _ _ _ _ (λ_ h=>h) eO
 have bound:∀i b,aG i b->b<au.heap.size/\¬oi b/\(X b\/w0.heap.size<=b)/\∀u,¬bT u b:=by
  intro i b I;refine⟨aj.dt i b I,λaZ=>aj.eh i b I (lI b aZ),?_,λu hu=>?_⟩
  .rcases aj.cS i b I with ae|ae
   .exact(aS b ae).1
   .exact .inr (Nat.le_trans g1.size ae)
  .rcases aj.cS i b I with ae|ae
   .exact wB u b hu ae
   .exact absurd (g1.dt u b hu) (by omega)
 obtain⟨cI,bO,b1⟩:=Qa ps vs (dx s ps) bT (λi=>aG (i+1)) mid hl (by
  intro i p dD ai aE bo;have hm:p∈ps:=mem_of_getElem? ai;have ak:=el p hm;obtain⟨x,q,a0,aH,aN,aP,bQ,b_,bM,bH,hy⟩:=g3 i p dD ai aE bo;simp only[bX.ok,bo,if_true,aH]at ak;rcases ak.2.2 with a_|a_
  .exact .inl a_
  .obtain⟨eQ,l2,CB⟩:=P2 ak.2.1 a_.1 a_.2;refine .inr ⟨x,q,a0,p.d.cv,aH,aN,?_,bQ,λcb=>l2 _ (b_ cb),bM,a_.1,?_,eQ.trans (j.qS _).symm,CB⟩
   .cases q with
    |nil=>simpa only[cM]using aP
    |cons k q=>
     have aK:=bM (by simp);rw[yC (k::q) _ _ (bT x) none _ ((az.b8 aK).1 (g1.cz x)).2 aN (λb I=>keep b (g1.dt x b I) (wB x b I))];exact aP
   .have:=aj.cz (i+1);obtain⟨o,k9,mj⟩:=Ia i p ai;have fC:eo (r::os) (i+1)=o:=by simp[eo,List.getD,k9]
    have lD:fi (v::vs) (i+1)=dD:=by simp[fi,List.getD,aE]
    rw[fC,lD]at this;have CC:o.tree=true:=by
     rcases mj with e|e
     .rw[<-e];exact(qc a_.1).2.1
     .exact P8 (d:=p.d) (by rw[<-e];exact(qc a_.1).2.1)
    have R:=Ie _ _ _ (λhle=>(aO hle).2 i p o ai k9 bo) ((az.b8 CC).1 this).2;rcases mj with e|e
    .rw[e];exact R
    .rw[e];exact P9 q8 (λb I=>keep b (h.dP b I) (y9 b I)) hy R)
  (λi b I=>bound (i+1) b I) (λi aB b c9=>aj.dW (i+1) (aB+1) b (by omega)) jx
 refine⟨oi,cI,bO,?_,λb I=>⟨q8 b I,keep b (h.dP b I) (y9 b I)⟩⟩;have bg:=aj.cz 0;have fC:eo (r::os) 0=r:=rfl;have lD:fi (v::vs) 0=v:=rfl;rw[fC,lD]at bg;cases aK:r.tree with
 |false=>
  cases r<;>first
   |(simp[j.tree]at aK;done)
   |(simp[j.res]at aD;done)
   |exact .inl ⟨rfl,by rw[az];trivial⟩
 |true=>
  obtain⟨s1,s2⟩:=(az.b8 aK).1 bg;have fD:=Ie _ _ _ (λhle=>(aO hle).1) s2;refine .inr ⟨aK,s1,aG 0,fD,λb I=>(bound 0 b I).1,λb I=>(bound 0 b I).2.1,λu b I hu=>?_,λb I=>(bound 0 b I).2.2.1⟩;rcases b1 u b hu with hu|⟨i,ax⟩
  .exact(bound 0 b I).2.2.2 u hu
  .exact aj.dW 0 (i+1) b (by omega) I ax
theorem Ig (h:bm w0 F0 X F S s an w) {ps:List bX} {vs:ach} {f:FuncId} {r:j} (hl:ps.length=vs.length)
  (gZ:∀(i:Nat) (p:bX) (v:Value),ps[i]? =some p->vs[i]? =some v->p.a.plain=true/\az w F s an p.a v (λ_=>False))
  (el:∀p∈ps,p.ok s) (jx:fL ps=true) (bf:∀(Fc hX:Nat->Prop) (dd:Nat->Nat->Prop),(∀b,F b->Fc b)->(∀b,hX b->∃u,S u b)->bm w Fc hX Fc dd (eo (ps.map (·.d))) (fi vs) w->
   jA C.P f vs.toArray w λv au=>∃bh aG,bm w Fc hX bh aG (eo (r::ps.map (·.o))) (fi (v::vs)) au) (aD:r.res=true)
  (aO:gE ps=true->r.b5=true/\∀p∈ps,p.o.b5=true):
  jA C.P f vs.toArray w λv au=>∃bh aG,bm w0 F0 X bh aG (eV (dx s ps) ps) an au/\iK w0 X bh aG (eV (dx s ps) ps) an au r v/\∀b,F b->bh b/\au.heap[b]? =w.heap[b]? :=
 y8 h hl (λi p ai=>⟨p.o,by simp[ai],.inl rfl⟩) gZ el jx bf aD λhle=>⟨(aO hle).1,λi p o ai a_ _=>by
  rw[getElem?_map,ai]at a_;have:=Option.some.inj a_;subst this;exact(aO hle).2 p (mem_of_getElem? ai)⟩
theorem Qd (h:bm w0 F0 X F S s an w) {ps:List bX} {vs:ach} {f:FuncId} {r:j} (hl:ps.length=vs.length)
  (gZ:∀(i:Nat) (p:bX) (v:Value),ps[i]? =some p->vs[i]? =some v->p.a.plain=true/\az w F s an p.a v (λ_=>False))
  (el:∀p∈ps,p.ok s) (jx:fL ps=true) (bf:bb C f (ps.map (·.d)) r (ps.map (·.o))) (aD:r.res=true)
  (aO:gE ps=true->r.b5=true/\∀p∈ps,p.o.b5=true):
  jA C.P f vs.toArray w λv au=>∃bh aG,bm w0 F0 X bh aG (eV (dx s ps) ps) an au/\iK w0 X bh aG (eV (dx s ps) ps) an au r v/\∀b,F b->bh b/\au.heap[b]? =w.heap[b]? :=
 Ig h hl gZ el jx (λFc hX dd _ _ ai=>bf w Fc hX dd vs (by simp[hl]) ai) aD aO
end
structure bn where
 dst:Option Nat
 bq:de
 guard:Option (Nat×Bool)
def wD (ops:Array Oper):Option (Nat×Bool)->Option (Option (Nat×Bool))
 |none=>some none
 |some (aB,b)=>match(ops[aB]?).bind (·.dst)with
  |some t=>some (some (t,b))
  |none=>none
structure Fr where
 n:Nat
 fx:ace
def jB (n:Fr):Option Nat->Bool
 |none=>true
 |some t=>decide (t<n.n)&& !n.fx.contains t
def oj (op:Op):de:=match cB op with
 |some bq=>bq
 |none=>.bad
def jT (n:Fr) (ops:Array Oper) (o:Oper):Option bn:=
 if jB n o.dst=true then match wD ops o.guard with
  |some g=>some ⟨o.dst,oj o.op,g⟩
  |none=>none
 else none
def jC (n:Fr) (ops:Array Oper):List Oper->Option (List bn)
 |[]=>some []
 |o::os=>match jT n ops o,jC n ops os with
  |some r,some rs=>some (r::rs)
  |_,_=>none
def CD (C:bz) (s:ag) (f:aR) (args:List aR) (K:j->ag->Prop):Prop:=
 ∃(g:FuncId) (caps:acj) (ps:List bX) (r:j),a7 s f= .fn g caps/\j.dj caps=true/\ps.map (·.a)=args.map (a7 s)++caps/\(∀p∈ps,p.ok s)/\fL ps=true/\
   bb C g (ps.map (·.d)) r (ps.map (·.o))/\r.res=true/\(gE ps=true->r.b5=true/\∀p∈ps,p.o.b5=true)/\K r (eV (dx s ps) ps)
mutual
def j.eL (s:ag):j->Bool
 | .h x q=>q.isEmpty&&(s x).own
 | .I x _=> !(s x).plain
 | .ai _ _=>false
 | .hole=>true
 | .fn _ cap=>j.nJ s cap
 |d=>d.plain
def j.nJ (s:ag):acj->Bool
 |[]=>true
 |d::ds=>d.eL s&&j.nJ s ds
end
def ml (s:ag):aci->ag
 |[]=>s
 |p::L=>ml (cw s p.1 p.2) L
def kK (s:ag):aci->Bool
 |[]=>true
 |p::L=>p.2.eL s&&kK s L
def iq (s:ag) (us:ace):aci:=us.map λu=>(u,s u)
def nK (C:bz) (s:ag) (bq:de) (K:j->ag->Prop):Prop:=
 match bq with
 | .call f args=>∃(g:FuncId) (caps:acj) (ps:List bX) (r:j),a7 s f= .fn g caps/\j.dj caps=true/\ps.map (·.a)=args.map (a7 s)++caps/\(∀p∈ps,p.ok s)/\fL ps=true/\
   bb C g (ps.map (·.d)) r (ps.map (·.o))/\r.res=true/\(gE ps=true->r.b5=true/\∀p∈ps,p.o.b5=true)/\K r (eV (dx s ps) ps)
 | .shr bq=>∃av s1,bE C s bq=some (av,s1)/\av.tree=true/\(∀vs,av≠.tuple vs)/\K av.share s1
 | .kG f args us=>kK s (iq s us)=true/\CD C s f args λav s1=>kK s1 (iq s us)=true/\K av (ml s1 (iq s us))
 |bq=>∃av s1,bE C s bq=some (av,s1)/\K av s1
theorem y_ {C:bz} {s:ag} {bq:de} {K cN:j->ag->Prop} (h:nK C s bq K) (ak:∀av s,K av s->cN av s):nK C s bq cN:=by
 cases bq with
 |call f args=>
  obtain⟨g,caps,ps,r,R,gd,U,aw,aQ,bk,bS,bL,da⟩:=h;exact⟨g,caps,ps,r,R,gd,U,aw,aQ,bk,bS,bL,ak _ _ da⟩
 |shr bq=>
  obtain⟨av,s1,R,U,aw,aQ⟩:=h;exact⟨av,s1,R,U,aw,ak _ _ aQ⟩
 |kG f args us=>
  obtain⟨b1,g,caps,ps,r,R,gd,U,aw,aQ,bk,bS,bL,da,hR⟩:=h;exact⟨b1,g,caps,ps,r,R,gd,U,aw,aQ,bk,bS,bL,da,ak _ _ hR⟩
 |_=>
  obtain⟨av,s1,R,U⟩:=h;exact⟨av,s1,R,ak _ _ U⟩
def k_ (C:bz) (s:ag) (o:bn) (K:ag->Prop):Prop:=
 match o.guard with
 |none=>nK C s o.bq λav s1=>K (fin s1 o.dst av)
 |some (t,b)=>match s t with
  | .bool eA=>if eA=b then nK C s o.bq (λav s1=>K (fin s1 o.dst av))else K (fin s o.dst (.tuple []))
  | .tuple []=>K (fin s o.dst (.tuple []))
  |_=>False
def hp (C:bz) (s:ag):List bn->(ag->Prop)->Prop
 |[],K=>K s
 |o::os,K=>k_ C s o λs1=>hp C s1 os K
def iY (C:bz) (ros:List bn) (s:ag):ace->(ag->Prop)->Prop
 |[],K=>K s
 |i::l,K=>match ros[i]? with
  |none=>iY C ros s l K
  |some o=>k_ C s o λs1=>iY C ros s1 l K
theorem Qe (C:bz) (K:ag->Prop):∀(rs pre:List bn) (s:ag),hp C s rs K->iY C (pre++rs) s ((range rs.length).map (·+pre.length)) K:=by
 intro rs;induction rs with
 |nil=>intro pre s h;exact h
 |cons r rs ih=>
  intro pre s h;rw[length_cons,range_succ_eq_map,map_cons,List.map_map];simp only[iY,Nat.zero_add];rw[getElem?_append_right (Nat.le_refl _)];simp only[Nat.sub_self,getElem?_cons_zero];have key:∀s1,hp C s1 rs K->iY C (pre++r::rs) s1 ((range rs.length).map ((λx=>x+pre.length)∘succ)) K:=by
   intro s1 R;have:=ih (pre++[r]) s1 R;simp only[append_assoc,singleton_append,length_append,length_singleton]at this;have e:((λx=>x+pre.length)∘succ)=λx=>x+(pre.length+1):=by funext x;simp;omega
   rw[e];exact this
  simp only[hp]at h;unfold k_ at h⊢;split
  .rename_i bo;rw[bo]at h;exact y_ h λav s1=>key _
  .rename_i t b bo;rw[bo]at h;simp only at h;split
   .rename_i eA J;rw[J]at h;simp only at h;split
    .rename_i I;rw[if_pos I]at h;exact y_ h λav s1=>key _
    .rename_i I;rw[if_neg I]at h;exact key _ h
   .rename_i J;rw[J]at h;exact key _ h
   .rename_i R U;split at h
    .exact R _ (by assumption)
    .exact U (by assumption)
    .exact h
structure Rel (w0:World) (F0 X:Nat->Prop) (n:Fr) (ρ:Nat->Value) (s:ag) (a:Act) (w:World):Prop where
 defers:a.defers=[]
 size:a.tmps.size=n.n
 fixed:∀i∈n.fx,a.tmps.getD i undef=ρ i
 rel:∃F S,bm w0 F0 X F S s (λt=>a.tmps.getD t undef) w
section
variable {C:bz} {w0 w:World} {F0 X:Nat->Prop} {n:Fr} {ρ:Nat->Value} {s s1:ag} {a:Act} {av:j} {Q:Exit->Act->World->Prop}
theorem za {dst:Option Nat} (v:Value) (J:a.tmps.size=n.n) (ad:jB n dst=true):
  (λt=>(a.put dst v).tmps.getD t undef)=mc (λt=>a.tmps.getD t undef) dst v/\(a.put dst v).tmps.size=n.n/\(a.put dst v).defers=a.defers:=by
 cases dst with
 |none=>exact⟨rfl,J,rfl⟩
 |some d=>
  simp only[jB,Bool.and_eq_true,decide_eq_true_eq]at ad;refine⟨?_,by simp[Act.put,J],rfl⟩;funext t;simp only[Act.put,mc,cw,Array.getD_eq_getD_getElem?];by_cases h:t=d
  .subst h;rw[if_pos rfl,Array.getElem?_setIfInBounds_self_of_lt (by omega)];rfl
  .rw[if_neg h,Array.getElem?_setIfInBounds_ne (λe=>h e.symm)]
theorem Rel.put {F S} (ad:a.defers=[]) (J:a.tmps.size=n.n) (bf:∀i∈n.fx,a.tmps.getD i undef=ρ i) {au:World} (aD:bm w0 F0 X F S s (λt=>a.tmps.getD t undef) au) {v:Value} (aE:iK w0 X F S s (λt=>a.tmps.getD t undef) au av v)
  {dst:Option Nat} (el:jB n dst=true):Rel w0 F0 X n ρ (fin s dst av) (a.put dst v) au:=by
 obtain⟨aH,aN,aP⟩:=za (n:=n) (dst:=dst) v J el;obtain⟨aG,bC⟩:=aD.fin aE dst;refine⟨aP.trans ad,aN,λi ax=>?_,F,aG,by rw[aH];exact bC⟩;rw[congrFun aH i];cases dst with
 |none=>exact bf i ax
 |some d=>
  simp only[jB,Bool.and_eq_true,Bool.not_eq_true',contains_eq_mem,decide_eq_false_iff_not]at el;have c9:i≠d:=λe=>el.2 (by rw[<-e];exact ax);simp only[mc];rw[ia _ _ c9];exact bf i ax
theorem Rel.skip (h:Rel w0 F0 X n ρ s a w) {dst:Option Nat} (el:jB n dst=true):Rel w0 F0 X n ρ (fin s dst (.tuple [])) (a.put dst undef) w:=by
 obtain⟨ad,J,bf,F,S,aD⟩:=h;refine Rel.put (av:=.tuple []) ad J bf aD (.inl ⟨rfl,(az.b8 (d:=.tuple []) rfl).2 ⟨?_,?_⟩⟩) el
 .exact⟨#[],rfl,rfl,λk d x ak=>by simp at ak⟩
 .rw[al,aT];rfl
theorem wE {F:Nat->Prop} {an:Nat->Value} {w:World}:∀{ds es:acj} {vs us:ach},cJ w F s an ds vs->cJ w F s an es us->cJ w F s an (ds++es) (vs++us):=by
 intro ds;induction ds with
 |nil=>intro es vs us R U;rw[cJ]at R;subst R;exact U
 |cons d ds ih=>
  intro es vs us R U;rw[cJ]at R;obtain⟨v,eg,rfl,g1,g2⟩:=R;rw[cons_append,cons_append,cJ];exact⟨v,_,rfl,g1,ih g2 U⟩
theorem ui {F:Nat->Prop} {an:Nat->Value} {w:World}:∀{ds:acj} {vs:ach},cJ w F s an ds vs->ds.length=vs.length/\∀(i:Nat) (d:j) (v:Value),ds[i]? =some d->vs[i]? =some v->az w F s an d v (λ_=>False):=by
 intro ds;induction ds with
 |nil=>intro vs h;rw[cJ]at h;subst h;exact⟨rfl,λi d v h=>by simp at h⟩
 |cons d ds ih=>
  intro vs h;rw[cJ]at h;obtain⟨v,eg,rfl,g1,g2⟩:=h;obtain⟨bO,b1⟩:=ih g2;refine⟨by simp[bO],λi bd dD ad aE=>?_⟩;cases i with
  |zero=>simp at ad aE;subst ad aE;exact g1
  |succ i=>exact b1 i bd dD (by simpa using ad) (by simpa using aE)
theorem pj {op:Op} {bq:de} (h:oj op=bq):bq= .bad\/cB op=some bq:=by
 unfold oj at h;split at h
 .subst h;right;assumption
 .exact .inl h.symm
theorem Qf {op:Op} {bq:de}:cB op≠some (.shr bq):=by
 intro h;unfold cB at h;split at h<;>(try split at h)<;>(try split at h)<;>(try split at h)<;>(try simp[Option.map_eq_some_iff]at h)
theorem Qg {op:Op} {f:aR} {args:List aR} {us:ace}:cB op≠some (.kG f args us):=by
 intro h;unfold cB at h;split at h<;>(try split at h)<;>(try split at h)<;>(try split at h)<;>(try simp[Option.map_eq_some_iff]at h)
theorem Qh {op:Op} {T:TypeId} {x:aR}:cB op≠some (.iA T x):=by
 intro h;unfold cB at h;split at h<;>(try split at h)<;>(try split at h)<;>(try split at h)<;>(try simp[Option.map_eq_some_iff]at h)
theorem Qi {op:Op} {T bV:TypeId} {x y:aR}:cB op≠some (.hI T bV x y):=by
 intro h;unfold cB at h;split at h<;>(try split at h)<;>(try split at h)<;>(try split at h)<;>(try simp[Option.map_eq_some_iff]at h)
theorem Qj {op:Op} {T bV:TypeId} {x y:aR} (h:cB op=some (.app T bV x y)):∃a b,op= .call ⟨.builtin .append,#[a,b],#[T,bV]⟩/\c2 a=some x/\c2 b=some y:=by
 cases op with
 |call c=>
  obtain⟨callee,args,argTypes⟩:=c;simp only[cB]at h;split at h
  .split at h<;>simp at h
  .split at h<;>simp at h
  .split at h<;>simp at h
  ·(split at h<;>try split at h)<;>simp at h
  ·(split at h<;>try split at h)<;>simp at h
  .split at h
   .rename_i a b uj y4 jR sv;split at h
    .rename_i cy j6 ae a6;simp only[Option.some.injEq,de.app.injEq]at h;obtain⟨rfl,rfl,rfl,rfl⟩:=h;refine⟨a,b,?_,ae,a6⟩;have aH:args= #[a,b]:=by apply Array.ext';exact jR
     have aN:argTypes= #[uj,y4]:=by apply Array.ext';exact sv
     subst aH aN;rfl
    .cases h
   .cases h
  .cases h
 |makeFunc fn first cs=>
  cases fn<;>simp only[cB]at h<;>first|(cases h;done)|(split at h<;>simp at h)
 |slice T x dY ax gz=>
  cases gz<;>simp only[cB]at h<;>first|(cases h;done)|(split at h<;>simp at h)
 |makeMap T r=>cases r<;>simp only[cB]at h<;>simp at h
 |lookup T x i c=>cases c<;>simp only[cB]at h<;>first|(cases h;done)|(split at h<;>simp at h)
 |_=>simp only[cB]at h<;>first|(cases h;done)|(simp at h;done)|(split at h<;>simp at h)
theorem bm.alias {F:Nat->Prop} {S:Nat->Nat->Prop} {an:Nat->Value} {u x:Nat} (h:bm w0 F0 X F S s an w) (hu:s u= .hole) (ae:(s x).own=true) (aE:bZ (an u)=bZ (an x)) (R:Value.ej (an u)=true):
  bm w0 F0 X F (fg S u (λ_=>False)) (cw s u (.h x [])) an w:=by
 have dv:cw an u (an u)=an:=by funext y;simp only[cw];split<;>simp_all
 have:=h.qT (t:=u) (d:=.h x []) (v:=an u) rfl (by
  rw[az];intro d ad ai;simp only[j.sub,Option.some.injEq]at ad;subst ad;exact⟨bZ (an x),none,rfl,aE,((sy ae).2.2.2.2.2 _).2 R⟩)
 rwa [dv]at this
theorem iK.less {F:Nat->Prop} {S aG:Nat->Nat->Prop} {an:Nat->Value} {s1:ag} {v:Value} (bI:∀u b,aG u b->S u b) (aD:av.res=true) (h:iK w0 X F S s an w av v):iK w0 X F aG s1 an w av v:=by
 rcases h with⟨R,U⟩|⟨R,U,Sn,aw,aQ,bk,bS,bL⟩
 .refine .inl ⟨R,?_⟩;cases av<;>first
   |(simp[j.res]at aD;done)
   |(rw[az];trivial)
   |(rw[az]at U⊢;exact U)
 .exact .inr ⟨R,U,Sn,aw,aQ,bk,λu b I hu=>bS u b I (bI u b hu),bL⟩
theorem Ih (a1:C.du) (h:Rel w0 F0 X n ρ s a w) {o:Oper} {f:aR} {args:List aR} (bB:cB o.op=some (.call f args)) (ad:jB n o.dst=true) {K:j->ag->Prop} {L:ag->Prop} {next:Act->World->Prop}
  (hw:CD C s f args K) (nL:∀F S bh aG w au av s1 v,bm w0 F0 X F S s (λt=>a.tmps.getD t undef) w->K av s1->av.res=true->bm w0 F0 X bh aG s1 (λt=>a.tmps.getD t undef) au->iK w0 X bh aG s1 (λt=>a.tmps.getD t undef) au av v->(∀b,F b->bh b/\au.heap[b]? =w.heap[b]?)->
   ∃s2 cI,L (fin s2 o.dst av)/\bm w0 F0 X bh cI s2 (λt=>a.tmps.getD t undef) au/\iK w0 X bh cI s2 (λt=>a.tmps.getD t undef) au av v)
  (aO:∀aq bG au,L aq->Rel w0 F0 X n ρ aq bG au->next bG au):o.wp C.P a w next Q:=by
 have hrel:=h;obtain⟨hJ,dm,gF,F,S,aD⟩:=h;obtain⟨g,caps,ps,r,R,gd,U,aw,aQ,bk,bS,bL,da⟩:=hw;obtain⟨dst,op,ty,pos,after,guard⟩:=o;simp only at bB ad nL;cases op with
 |call c=>
  obtain⟨callee,la,argTypes⟩:=c;simp only[cB]at bB;split at bB
  .split at bB
   .rename_i qd _ _ Ii xs bf mP;simp only[Option.some.injEq,de.call.injEq]at bB;obtain⟨rfl,rfl⟩:=bB;obtain⟨f1,f2⟩:=eB aD (λ_=>rfl) bf;rw[R,az]at f2;obtain⟨arr,f3,f4⟩:=f2;have om:execOp a.eval {dst,op:=.call {callee:=.value qd,args:=la,argTypes},type:=ty,pos,after,guard}=callFunc g ((la.toList.map a.eval++arr.toList).toArray):=by
     have:a.eval qd= .func (.func g) #[] arr:=f3;simp only[execOp,resolve,this,Deferred.ofValue,pure_bind,invoke];congr 1;apply Array.ext';simp
    unfold Oper.wp;rw[om];have wF:cJ w F s (λt=>a.tmps.getD t undef) (xs.map (a7 s)++caps) (la.toList.map a.eval++arr.toList):=wE (wm aD (λ_=>rfl) _ _ (qa mP)) f4;rw[<-U]at wF;obtain⟨eQ,l2⟩:=ui wF;have dQ:∀d∈xs.map (a7 s)++caps,d.plain=true:=by
     intro d ad;rcases mem_append.1 ad with ad|ad
     .obtain⟨x,ae,rfl⟩:=mem_map.1 ad;exact GO s x λav e=>by
       subst e;have hm:=qa mP;have:some (aR.c av)∈xs.map some:=mem_map.2 ⟨_,ae,rfl⟩;rw[<-hm]at this;obtain⟨o,_,a_⟩:=mem_map.1 this;cases o with
       |const v=>simp only[c2,Option.map_eq_some_iff]at a_;obtain⟨c,aj,e⟩:=a_;cases e;exact BJ aj
       |tmp n=>simp[c2]at a_
       |func g=>simp[c2]at a_
       |global g=>simp[c2]at a_
     .obtain⟨k,ak⟩:=getElem?_of_mem ad;exact yB gd ak
    have CE:=Qd (C:=C) aD (ps:=ps) (vs:=la.toList.map a.eval++arr.toList) (f:=g) (r:=r) (by simpa using eQ)
     (λi p v ai aE=>⟨dQ p.a (by rw[<-U];exact mem_map.2 ⟨p,mem_of_getElem? ai,rfl⟩),l2 i p.a v (by simp[ai]) aE⟩) aw aQ bk bS bL
    rcases CE with⟨cQ,bl⟩|⟨v,au,cQ,bh,aG,bl,cA,cc⟩
    .rw[cQ,Oper.upon_enter];refine Calls.mono bl ?_;rintro e au ⟨v,rfl,bh,aG,bO,b1,cX⟩;obtain⟨s2,cI,m1,m2,m3⟩:=nL _ _ _ _ _ _ _ _ _ aD da bS bO b1 cX;exact aO _ _ _ m1 (Rel.put hJ dm gF m2 m3 ad)
    .rw[cQ,Oper.upon_value];obtain⟨s2,cI,m1,m2,m3⟩:=nL _ _ _ _ _ _ _ _ _ aD da bS bl cA cc;exact aO _ _ _ m1 (Rel.put hJ dm gF m2 m3 ad)
   .cases bB
  .split at bB
   .simp only[Option.map_eq_some_iff]at bB;obtain⟨_,_,bB⟩:=bB;cases bB
   .cases bB
  .split at bB
   .simp only[Option.map_eq_some_iff]at bB;obtain⟨_,_,bB⟩:=bB;cases bB
   .cases bB
  iterate 3
   .split at bB
    .split at bB<;>cases bB
    .cases bB
  .cases bB
 |makeFunc fn first cs=>
  cases fn<;>simp only[cB]at bB<;>first|(cases bB;done)|(split at bB<;>simp at bB)
 |slice T x dY ax gz=>
  cases gz<;>simp only[cB]at bB<;>first|(cases bB;done)|(split at bB<;>simp at bB)
 |makeMap T r=>cases r<;>simp only[cB]at bB<;>simp at bB
 |lookup T x i c=>cases c<;>simp only[cB]at bB<;>first|(cases bB;done)|(split at bB<;>simp at bB)
 |_=>simp only[cB]at bB<;>first|(cases bB;done)|(simp at bB;done)|(split at bB<;>simp at bB)
theorem Qk (a1:C.du) (h:Rel w0 F0 X n ρ s a w) {o:Oper} {bq:de} (bB:cB o.op=some bq) (ad:jB n o.dst=true) {K:ag->Prop} {next:Act->World->Prop}
  (hw:nK C s bq λav s1=>K (fin s1 o.dst av)) (aO:∀aq bG au,K aq->Rel w0 F0 X n ρ aq bG au->next bG au):o.wp C.P a w next Q:=by
 have hrel:=h;obtain⟨hJ,dm,gF,F,S,aD⟩:=h;have plain:∀av s1,bE C s bq=some (av,s1)->K (fin s1 o.dst av)->o.wp C.P a w next Q:=by
  intro av s1 he ak;obtain⟨r,au,v,bh,aG,R,U,aw,aQ⟩:=HH (a:=a) a1 aD (λ_=>rfl) bB he;unfold Oper.wp;rw[R];rcases U with rfl|⟨rfl,rfl⟩
  .exact aO _ _ _ ak (Rel.put hJ dm gF aw aQ ad)
  .exact aO _ _ _ ak (Rel.put hJ dm gF aw aQ ad)
 cases bq with
 |shr bq=>exact(Qf bB).elim
 |hI T bV x y=>exact(Qi bB).elim
 |call f args=>exact Ih a1 ⟨hJ,dm,gF,F,S,aD⟩ bB ad (K:=λav s1=>K (fin s1 o.dst av)) hw (λ_ _ _ aG _ _ _ s1 _ _ U _ aw aQ _=>⟨s1,aG,U,aw,aQ⟩) aO
 |kG f args L=>exact(Qg bB).elim
 |iA T x=>exact(Qh bB).elim
 |_=>
  obtain⟨av,s1,he,ak⟩:=hw;exact plain av s1 he ak
theorem iK.share {F:Nat->Prop} {S:Nat->Nat->Prop} {an:Nat->Value} {v:Value} (h:bm w0 F0 X F S s an w) (aE:iK w0 X F S s an w av v) (aK:av.tree=true) (aO:∀vs,av≠.tuple vs):
  ∃bh,bm w0 F0 X bh S s an w/\iK w0 X bh S s an w av.share v:=by
 obtain⟨Sn,eR,eu,ga,fS,tU,wG⟩:∃Sn:Nat->Prop,cU av v/\al w F av (bZ v) Sn/\(∀b,Sn b->b<w.heap.size)/\(∀b,Sn b->¬F b)/\(∀u b,Sn b->¬S u b)/\(∀b,Sn b->X b\/w0.heap.size<=b):=by
  rcases aE with⟨R,U⟩|⟨_,U,Sn,aw,aQ,bk,bS,bL⟩
  .rw[az.b8 aK]at U;exact⟨λ_=>False,U.1,U.2,λ_ h=>h.elim,λ_ h=>h.elim,λ_ _ h=>h.elim,λ_ h=>h.elim⟩
  .exact⟨Sn,U,aw,aQ,bk,bS,bL⟩
 refine⟨λb=>F b\/Sn b,?_,.inl ⟨Cr av,?_⟩⟩
 .exact {
   ff:=λb I=>.inl (h.ff b I)
   fI:=λb I=>by
    rcases I with I|I
    .exact h.fI b I
    .exact .inr (wG b I)
   dP:=λb I=>I.elim (h.dP b) (ga b)
   dt:=h.dt
   eh:=λt b I bf=>bf.elim (h.eh t b I) (λJ=>tU t b J I)
   dW:=h.dW
   cS:=h.cS
   cz:=λt=>az.frame (λ_ _=>rfl) (λb I=>.inl I) (λ_ _ _=>rfl) h.cz _ _ _ (λ_ _=>rfl) (h.cz t)
   old:=h.old
   size:=h.size
   os:=h.os
   tape:=h.tape
   output:=h.output
   fu:=h.fu}
 .by_cases a_:∃o,av= .b3 o
  .obtain⟨o,rfl⟩:=a_;rw[j.share,az];trivial
  by_cases zb:∃f c,av= .a8 f c
  .obtain⟨f,c,rfl⟩:=zb;rw[j.share,az];trivial
  by_cases Ij:∃c,av= .cH c
  .obtain⟨c,rfl⟩:=Ij;rw[j.share,az];trivial
  have Ql:av.share.tree=true:=by cases av<;>first|exact aK|rfl|exact(a_ ⟨_,rfl⟩).elim|exact(zb ⟨_,_,rfl⟩).elim|exact(Ij ⟨_,rfl⟩).elim
  rw[az.b8 Ql];exact⟨Ct aO eR,al.shared (λb I=>.inl I) av _ Sn (λb I=>.inr I) eu⟩
theorem Qm {op:Op} {T:TypeId} {x:aR} (h:cB op=some (.hj T x)):∃a,op= .box T a/\c2 a=some x:=by
 cases op with
 |box uj a=>
  simp only[cB,Option.map_eq_some_iff,de.hj.injEq]at h;obtain⟨y,a6,rfl,rfl⟩:=h;exact⟨a,rfl,a6⟩
 |_=>
  exfalso;unfold cB at h;split at h<;>(try split at h)<;>(try split at h)<;>(try split at h)<;>(try simp[Option.map_eq_some_iff]at h)<;>contradiction
theorem Qn {au:World} {F bh:Nat->Prop} {s s1:ag} {an:Nat->Value} (aZ:∀b,F b->bh b/\au.heap[b]? =w.heap[b]?):∀(n:Nat),
  (∀(d:j) (v:Value) (S:Nat->Prop),SizeOf.sizeOf d<=n->d.eL s=true->d.eL s1=true->az w F s an d v S->az au bh s1 an d v (λ_=>False))/\
  (∀(ds:acj) (vs:ach),SizeOf.sizeOf ds<=n->j.nJ s ds=true->j.nJ s1 ds=true->cJ w F s an ds vs->cJ au bh s1 an ds vs):=by
 intro n;induction n with
 |zero=>
  refine⟨λd v S bD=>?_,λds vs bD=>?_⟩
  .cases d<;>simp at bD<;>omega
  .cases ds<;>simp at bD<;>omega
 |succ n ih=>
  refine⟨λd v S bD bO b1 h=>?_,λds vs bD bO b1 h=>?_⟩
  .cases d with
   |hole=>rw[az];trivial
   |h x q=>
    simp only[j.eL,Bool.and_eq_true,isEmpty_iff]at bO b1;obtain⟨rfl,bO⟩:=bO;rw[az]at h⊢;obtain⟨cn,a,e0,f_,gA⟩:=h (s x) (by simp only[j.sub]) (sy bO).1;simp only[cM,Option.some.injEq,Prod.mk.injEq,true_and]at e0;intro d ad _;simp only[j.sub,Option.some.injEq]at ad;subst ad;exact⟨bZ (an x),none,by simp only[cM],by rw[f_,<-e0.1],((sy b1.2).2.2.2.2.2 _).2 (((sy bO).2.2.2.2.2 _).1 gA)⟩
   |ai x q=>simp[j.eL]at bO
   |I x k=>
    simp only[j.eL,Bool.not_eq_true']at bO;rw[az]at h⊢;obtain⟨b,cur,e,fr,R,U,aw,aQ⟩:=h bO;exact λ_=>⟨b,cur,e,fr,R,(aZ b U).1,(aZ b U).2.trans aw,aQ⟩
   |fn f cap=>
    simp only[j.eL]at bO b1;rw[az]at h⊢;obtain⟨arr,rfl,aj⟩:=h;exact⟨arr,rfl,ih.2 _ _ (by simp at bD;omega) bO b1 aj⟩
   |_=>
    simp only[j.eL]at bO;have bC:=(az.b8 rfl).1 h;exact(az.b8 rfl).2 ⟨bC.1,al.mono (λb I=>(aZ b I).1) _ _ _ _ (λ_ h=>h) (al.frame (λb I=>(aZ b I).2) _ _ _ (λ_ h=>h.elim) (al.plain _ _ _ _ bO bC.2))⟩
  .cases ds with
   |nil=>rw[cJ]at h⊢;exact h
   |cons d ds=>
    simp only[j.nJ,Bool.and_eq_true]at bO b1;rw[cJ]at h⊢;obtain⟨v,eg,rfl,R,U⟩:=h;simp at bD;exact⟨v,eg,rfl,ih.1 _ _ _ (by omega) bO.1 b1.1 R,ih.2 _ _ (by omega) bO.2 b1.2 U⟩
theorem Qo {s:ag} {d:j} (h:d.eL s=true):d.plain=true:=by
 cases d<;>first|rfl|(simpa [j.eL]using h)
theorem bm.ml {F:Nat->Prop} {an:Nat->Value}:∀(L:aci) (s:ag) (S:Nat->Nat->Prop),bm w0 F0 X F S s an w->(∀p∈L,p.2.plain=true/\az w F s an p.2 (an p.1) (λ_=>False))->
  ∃aG,bm w0 F0 X F aG (cG.ml s L) an w/\∀u b,aG u b->S u b:=by
 intro L;induction L with
 |nil=>intro s S h _;exact⟨S,h,λ_ _ h=>h⟩
 |cons p L ih=>
  intro s S h nL;obtain⟨R,U⟩:=nL p (by simp);have dv:cw an p.1 (an p.1)=an:=by funext u;simp only[cw];split<;>simp_all
  have aw:=h.qT (t:=p.1) R U;rw[dv]at aw;have gj:∀x,x≠p.1->(cw s p.1 p.2 x).tree=true->cw s p.1 p.2 x=s x/\an x=an x:=λx ae _=>⟨ia _ _ ae,rfl⟩
  obtain⟨aG,g1,g2⟩:=ih _ _ aw (λq cb=>⟨(nL q (by simp[cb])).1,(az.void (t:=p.1) gj (by rw[lA];exact R) _).1 _ _ _ (Nat.le_refl _) (nL q (by simp[cb])).2⟩);refine⟨aG,g1,λu b I=>?_⟩;have:=g2 u b I;simp only[fg]at this;split at this
  .exact this.elim
  .exact this
theorem CF {s:ag}:∀{L:aci},kK s L=true->∀p∈L,p.2.eL s=true
 |q::L,R,p,ai=>by
  simp only[kK,Bool.and_eq_true]at R;rcases mem_cons.1 ai with rfl|ai
  .exact R.1
  .exact CF R.2 p ai
theorem Qp {s:ag} {us:ace} {p:Nat×j} (h:p∈iq s us):p.1∈us/\s p.1=p.2:=by
 obtain⟨u,hu,rfl⟩:=mem_map.1 h;exact⟨hu,rfl⟩
theorem Qq (a1:C.du) (h:Rel w0 F0 X n ρ s a w) {o:Oper} {bq:de} (bB:oj o.op=bq.base) (ad:jB n o.dst=true) {K:ag->Prop} {next:Act->World->Prop}
  (hw:nK C s bq λav s1=>K (fin s1 o.dst av)) (aO:∀aq bG au,K aq->Rel w0 F0 X n ρ aq bG au->next bG au):o.wp C.P a w next Q:=by
 cases bq with
 |shr bq=>
  obtain⟨av,s1,he,aK,mi,ak⟩:=hw;rcases pj bB with bB|bB
  .change bq= .bad at bB;subst bB;cases he
  obtain⟨hJ,dm,gF,F,S,aD⟩:=h;obtain⟨r,au,v,bh,aG,R,U,aw,aQ⟩:=HH (a:=a) a1 aD (λ_=>rfl) bB he;obtain⟨lI,g3,g4⟩:=iK.share aw aQ aK mi;unfold Oper.wp;rw[R];rcases U with rfl|⟨rfl,rfl⟩
  .exact aO _ _ _ ak (Rel.put hJ dm gF g3 g4 ad)
  .exact aO _ _ _ ak (Rel.put hJ dm gF g3 g4 ad)
 |bad=>obtain⟨av,s1,he,_⟩:=hw;cases he
 |kG f args L=>
  obtain⟨aN,hw⟩:=hw;rcases pj bB with I|I
  .cases I
  .refine Ih a1 h I ad hw ?_ aO;rintro F S bh aG w au av s1 v eR ⟨eu,fS⟩ tU wG CG Qr;obtain⟨cI,g1,g2⟩:=wG.ml (iq s L) s1 aG (λp ai=>by
    have cQ:=(Qp ai).2;have bl:=CF aN p ai;have cA:=CF eu p ai;refine⟨Qo bl,(Qn Qr _).1 _ _ (S p.1) (Nat.le_refl _) bl cA ?_⟩;have:=eR.cz p.1;rw[cQ]at this;exact this)
   exact⟨_,cI,fS,g1,CG.less g2 tU⟩
 |iA T x=>
  obtain⟨av,s1,he,ak⟩:=hw;rcases pj bB with I|I
  .cases I
  .obtain⟨cy,oo,ae⟩:=Qm I;obtain⟨hJ,dm,gF,F,S,aD⟩:=h;obtain⟨dst,op,ty,pos,after,guard⟩:=o;simp only at oo ad ak;subst oo;obtain⟨r,au,v,bh,aG,R,U,aw,aQ⟩:Next C w0 F0 X (λt=>a.tmps.getD t undef) w (execOp a.eval ⟨dst,.box T cy,ty,pos,after,guard⟩) av s1:=(On (T:=T) aD (eB aD (λ_=>rfl) ae).2 he).next;unfold Oper.wp;rw[R];rcases U with rfl|⟨rfl,rfl⟩
   .exact aO _ _ _ ak (Rel.put hJ dm gF aw aQ ad)
   .exact aO _ _ _ ak (Rel.put hJ dm gF aw aQ ad)
 |hI T bV x y=>
  obtain⟨av,s1,he,ak⟩:=hw;rcases pj bB with I|I
  .cases I
  .obtain⟨cy,j6,oo,ae,a6⟩:=Qj I;obtain⟨hJ,dm,gF,F,S,aD⟩:=h;simp only[bE,Option.map_eq_some_iff,Prod.mk.injEq]at he;obtain⟨d,fQ,rfl,rfl⟩:=he;obtain⟨v,au,bh,aG,R,U,aw⟩:=Pg (ty:=o.type) a1 aD (eB aD (λ_=>rfl) ae).2 (eB aD (λ_=>rfl) a6).2 fQ;have om:execOp a.eval o=(do pure (.value (<-Builtin.append_ #[T,bV] o.type #[a.eval cy,a.eval j6]))):=by
    obtain⟨dst,op,ty,pos,after,guard⟩:=o;simp only at oo;subst oo;simp[execOp,resolve,invoke,builtin]
   unfold Oper.wp;rw[om];simp only[Sem.run_bind,R,Result.andThen];exact aO _ _ _ ak (Rel.put hJ dm gF U aw ad)
 |_=>
  rcases pj bB with I|I
  .cases I
  .exact Qk a1 h I ad hw aO
end
end Go.cG
