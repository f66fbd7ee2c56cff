/- Part of a proof that a law returns true for every input. No condition. -/
import Derived.Test.YtndfcecbamffaaaGreatFwD
import Derived.Laws.Tables
namespace Go.cW
open List Go.IntKind Nat Or
section
variable {C:bI} {w0 w:World} {F0 X F:Nat->Prop} {S:Nat->Nat->Prop} {s s1:ah} {ao:Nat->Value} {av:j}
theorem yX (z:abL):∀n,(range (n*z.length)).map (λi=>z[i%z.length]!)=(replicate n z).flatten
 |0=>by simp
 |n+1=>by
  rw[Nat.add_mul,Nat.one_mul,range_add,map_append,yX z n,replicate_succ',flatten_append];congr 1;simp only[List.map_map,flatten_cons,flatten_nil,append_nil];apply ext_getElem
  .simp
  .intro i R U;have aw:i<z.length:=U;simp[mod_eq_of_lt aw,aw]
theorem aS.replicate {d:j} {cs:abL} (h:∀aF,ai w F d cs aF):∀n aF,aS w F (replicate n d) (replicate n cs).flatten aF
 |0,aF=>by simp only[replicate_zero,flatten_nil];rw[aS]
 |n+1,aF=>by
  rw[replicate_succ,replicate_succ,flatten_cons,aS];exact⟨cs,_,λ_=>False,λ_=>False,rfl,h _,aS.replicate h n _,λ_ h=>h.elim,λ_ h=>h.elim,λ_ h=>h.elim⟩
def d_ (C:bI) (T:TypeId) (l c:j):Option j:=
 match(C.T T).k,l,c with
 | .slice e,.int .i64 n,.int .i64 m=>if n=m/\0<=n/\(C.T e).ok=true/\(C.T e).zero.wd=(C.T e).sz/\(flat (C.T e).zero).isSome=true/\(C.T e).sz≠0/\(C.T e).bytes*n<=140737488355328/\n<=9223372036854775807 then
   some (.ad (C.T e).sz (replicate n.toNat (C.T e).zero))else none
 |_,_,_=>none
theorem OZ (a_:C.Ok) (h:bu w0 F0 X F S s ao w) {T:TypeId} {l c:j} {HJ HK:Value} (hl:aB w F s ao l HJ (λ_=>False)) (aj:aB w F s ao c HK (λ_=>False)) (he:d_ C T l c=some av):
  Good C w0 F0 X ao w (Instr.makeSlice T HJ HK) av s:=by
 unfold d_ at he;split at he
 .rename_i e n m ak;have:=nM hl;subst this;have:=nM aj;subst this;obtain⟨BU,d,BV,aK,aV,a1,b6,cH,bT,bK⟩:=a_.info (fa ak (by simp));rw[ak]at bK;have:=j8 bK;subst this;split at he
  .rename_i nK;obtain⟨rfl,a7,nP,oV,p2,cT,HL,BX⟩:=nK;simp only[Option.some.injEq]at he;subst he;obtain⟨i,BW,z,f1,f2,f3,f4,f5,f6,f7⟩:=a_.info nP;obtain⟨ey,lH⟩:=Option.isSome_iff_exists.1 p2;have p3:=f5 ey lH;have eJ:∀aF,ai w F (C.T e).zero ey aF:=λaF=>(ai.flat _).1 _ ey aF (Nat.le_refl _) lH;have nR:ey.length=(C.T e).sz:=by rw[ai.length _ _ _ (eJ (λ_=>False)),oV]
   obtain⟨n,rfl⟩:=Int.eq_ofNat_of_zero_le a7;simp only[Int.toNat_natCast];have tQ:i64.wrap (n:Int)=n:=by
    rw[wrap_i64];omega
   have tO:∀k (w:World),(askRoom k).run C.P w= .ok () w:=by
    intro k w;unfold askRoom;split<;>rfl
   have kV:((Array.range (n*(C.T e).sz)).map (ey.toArray[·%ey.toArray.size]!)).toList=(replicate n ey).flatten:=by
    have:=yX ey n;rw[nR]at this;simpa [nR]using this
   have cB:¬(281474976710656<(i.bytes:Int)*n):=by
    rw[f3];omega
   have yY:¬((n:Int)<0):=by omega
   have run:(Instr.makeSlice T (.int .i64 n) (.int .i64 n)).run C.P w= .ok (.slice (some ⟨w.heap.size,0,none⟩) n n)
     (w.alloc (.cells (if n*(C.T e).sz=0 then(Array.range (n*(C.T e).sz)).map (λ_=>default)else(Array.range (n*(C.T e).sz)).map (ey.toArray[·%ey.toArray.size]!)) e)):=by
    by_cases bq:n*(C.T e).sz=0
    .simp[Instr.makeSlice,run_underlying bT,asInt,asIntOf,rN f1,tQ,cB,yY,tO,iz f1,f2,bq,newRow]
    .simp only[bq,if_false];simp[Instr.makeSlice,run_underlying bT,asInt,asIntOf,rN f1,tQ,cB,yY,tO,iz f1,f2,bq,newRow,rO f1 f4,p3]
   have iv:(if n*(C.T e).sz=0 then(Array.range (n*(C.T e).sz)).map (λ_=>(default:Value))else(Array.range (n*(C.T e).sz)).map (ey.toArray[·%ey.toArray.size]!)).toList=(replicate n ey).flatten:=by
    split
    .rename_i bq;have:n=0:=by
      rcases mul_eq_zero.1 bq with h|h
      .exact h
      .exact(cT h).elim
     subst this;simp
    .exact kV
   generalize r4:(if n*(C.T e).sz=0 then(Array.range (n*(C.T e).sz)).map (λ_=>(default:Value))else(Array.range (n*(C.T e).sz)).map (ey.toArray[·%ey.toArray.size]!))=cur at run iv;have hZ:(replicate n ey).flatten.length=n*(C.T e).sz:=by simp[nR]
   have ga:cur.size=n*(C.T e).sz:=by
    have:cur.size=cur.toList.length:=by simp
    rw[this,iv,hZ]
   have jS:=h.wj (ax:=w.alloc (.cells cur e)) (sz:=(C.T e).sz) (cap:=n) (xs:=replicate n (C.T e).zero) (cur:=cur) (e:=e) (fr:=(0,0)) (Sn:=λ_=>False) rfl rfl rfl ⟨rfl,λ_=>Nat.le_refl _⟩
    (λo _ ⟨_,U⟩=>absurd U (not_lt_zero _)) (by simp) (by unfold maxLen;omega) ga (by intro d ae;rw[eq_of_mem_replicate ae];exact oV)
    (by rw[iv,length_replicate,take_of_length_le (by rw[hZ];exact Nat.le_refl _)];exact aS.replicate eJ n _) (λ_ h=>h.elim) (λ_ h=>h.elim) (λ_ _ h=>h.elim) (λ_ h=>h.elim)
   rw[length_replicate]at jS;exact⟨_,_,F,S,run,jS.1,jS.2⟩
  .cases he
 .cases he
def h_ (C:bI) (T bM:TypeId) (x y:j):Option j:=
 match(C.T T).k,(C.T bM).k,x,y with
 | .slice e,.int _,.aJ,.int .i64 n=>if 0<=n/\(C.T e).ok=true/\(C.T e).zero.wd=(C.T e).sz/\(flat (C.T e).zero).isSome=true/\(C.T e).sz≠0/\(C.T e).bytes*n<=140737488355328/\n<=9223372036854775807 then
   some (.ad (C.T e).sz (replicate n.toNat (C.T e).zero))else none
 |_,_,_,_=>none
theorem O0 {P:Program} {T bM ty e:TypeId} {k:IntKind} {i:TypeInfo} {z:Value} (aL:P.underlying T=some (.slice e)) (hu:P.underlying bM=some (.int k)) (aw:P.info? e=some i) (bA:i.zero=some z)
  (n:Nat) (bq:n≠0) (I:i.size≠0) (a7:n<=9223372036854775807) (J:n*i.bytes<=140737488355328):
  (Builtin.append_ #[T,bM] ty #[.slice none 0 0,.int .i64 n]).run P w= .ok (.slice (some ⟨w.heap.size,0,none⟩) n (grownCap w n 0 e))
   (w.drew.alloc (.cells (Builtin.zeroCells z.cells n++Builtin.zeroCells z.cells (grownCap w n 0 e-n)) e)):=by
 have tQ:i64.wrap (n:Int)=n:=by rw[wrap_i64];omega
 have yY:¬((n:Int)<0):=by omega
 have hmul:(n:Int)*(i.bytes:Int)=((n*i.bytes:Nat):Int):=by simp
 have cB:¬(281474976710656<(n:Int)*(i.bytes:Int)):=by rw[hmul];omega
 have gV:¬(281474976710656<Builtin.nextslicecap n 0*i.bytes):=by
  have:Builtin.nextslicecap n 0=n:=by unfold Builtin.nextslicecap;rw[if_pos (by omega)]
  rw[this];omega
 have tO:∀k (w:World),(askRoom k).run P w= .ok () w:=by
  intro k w;unfold askRoom;split<;>rfl
 have BR:¬(9223372036854775807<(n:Int)):=by omega
 have B2:n*i.size≠0:=Nat.mul_ne_zero bq I;simp[Builtin.append_,run_underlying aL,run_underlying hu,iz aw,rN aw,asInt,asIntOf,tQ,yY,cB,gV,bq,Question.forced,tO,BR,rO aw bA,newRow,grownCap,Builtin.firstCells];intro lD;exact(B2 lD).elim
theorem O1 (a_:C.Ok) (h:bu w0 F0 X F S s ao w) {T bM ty:TypeId} {x y:j} {fD fE:Value} (ag:aB w F s ao x fD (λ_=>False)) (bh:aB w F s ao y fE (λ_=>False)) (he:h_ C T bM x y=some av):
  Good C w0 F0 X ao w (Builtin.append_ #[T,bM] ty #[fD,fE]) av s:=by
 unfold h_ at he;split at he
 .rename_i e aar n ak r5;have:=pV ag;subst this;have:=nM bh;subst this;obtain⟨BU,d,BV,aK,aV,a1,b6,cH,bT,bK⟩:=a_.info (fa ak (by simp));rw[ak]at bK;have:=j8 bK;subst this;obtain⟨aas,aat,aau,B3,B4,HM,aav,aaw,HN,HO⟩:=a_.info (fa r5 (by simp));rw[r5]at HO;have:=v_ HO;subst this;split at he
  .rename_i nK;obtain⟨a7,nP,oV,p2,cT,HL,BX⟩:=nK;simp only[Option.some.injEq]at he;subst he;obtain⟨i,BW,z,f1,f2,f3,f4,f5,f6,f7⟩:=a_.info nP;obtain⟨ey,lH⟩:=Option.isSome_iff_exists.1 p2;have p3:=f5 ey lH;have eJ:∀aF,ai w F (C.T e).zero ey aF:=λaF=>(ai.flat _).1 _ ey aF (Nat.le_refl _) lH;have nR:ey.length=(C.T e).sz:=by rw[ai.length _ _ _ (eJ (λ_=>False)),oV]
   obtain⟨n,rfl⟩:=Int.eq_ofNat_of_zero_le a7;simp only[Int.toNat_natCast];by_cases bq:n=0
   .subst bq;have run:(Builtin.append_ #[T,bM] ty #[.slice none 0 0,.int .i64 ((0:Nat):Int)]).run C.P w= .ok (.slice none 0 0) w:=by
     have tQ:i64.wrap 0=0:=by decide
     simp[Builtin.append_,run_underlying bT,run_underlying HN,iz f1,rN f1,asInt,asIntOf,tQ]
    exact⟨_,w,F,S,run,h,.inr ⟨rfl,rfl,λ_=>False,by simp only[bR,gS];rw[ai];exact .inl ⟨rfl,_,rfl⟩,λ_ h=>h.elim,λ_ h=>h.elim,λ_ _ h=>h.elim,λ_ h=>h.elim⟩⟩
   .have run:=O0 (w:=w) (ty:=ty) bT HN f1 f4 n bq (by rw[f2];exact cT) (by omega) (by
     rw[f3];have:((C.T e).bytes:Int)*(n:Int)=(((C.T e).bytes*n:Nat):Int):=by simp
     rw[this]at HL;rw[Nat.mul_comm];omega)
    rw[p3]at run;have tK:=grownCap_ge w n 0 e;have wo:=grownCap_le_maxLen w n 0 e (by unfold maxLen;omega);have HP:∀m,(Builtin.zeroCells ey.toArray m).toList=(replicate m ey).flatten:=by
     intro m;have:=yX ey m;unfold Builtin.zeroCells;simpa [nR]using this
    have hZ:∀m,(replicate m ey).flatten.length=m*(C.T e).sz:=by intro m;simp[nR]
    generalize r4:Builtin.zeroCells ey.toArray n++Builtin.zeroCells ey.toArray (grownCap w n 0 e-n)=cur at run;have iv:cur.toList=(replicate n ey).flatten++(replicate (grownCap w n 0 e-n) ey).flatten:=by rw[<-r4,Array.toList_append,HP,HP]
    have ga:cur.size=grownCap w n 0 e*(C.T e).sz:=by
     have:cur.size=cur.toList.length:=by simp
     rw[this,iv,length_append,hZ,hZ,<-Nat.add_mul];congr 1;omega
    have jS:=h.wj (ax:=w.drew.alloc (.cells cur e)) (sz:=(C.T e).sz) (cap:=grownCap w n 0 e) (xs:=replicate n (C.T e).zero) (cur:=cur) (e:=e) (fr:=(0,0)) (Sn:=λ_=>False) rfl rfl rfl ⟨rfl,λ_=>le_succ _⟩
     (λo _ ⟨_,U⟩=>absurd U (not_lt_zero _)) (by simpa using tK) wo ga (by intro d ae;rw[eq_of_mem_replicate ae];exact oV)
     (by rw[iv,length_replicate,take_left' (hZ n)];exact aS.replicate eJ n _) (λ_ h=>h.elim) (λ_ h=>h.elim) (λ_ _ h=>h.elim) (λ_ h=>h.elim)
    rw[length_replicate]at jS;exact⟨_,_,F,S,run,jS.1,jS.2⟩
  .cases he
 .cases he
def m6 (s:ah) (f:FuncId) (cs:List aZ):Option j:=some (.fn f (cs.map (aX s)))
theorem yZ {a:Act} (h:bu w0 F0 X F S s ao w) (du:∀t,ao t=a.tmps.getD t undef):∀(os:List Operand) (xs:List aZ),os.map cZ=xs.map some->dk w F s ao (xs.map (aX s)) (os.map a.eval)
 |[],[],_=>by simp only[map_nil];rw[dk]
 |[],x::xs,h=>by simp at h
 |o::os,[],h=>by simp at h
 |o::os,x::xs,bz=>by
  simp only[map_cons,cons.injEq]at bz⊢;rw[dk];exact⟨_,_,rfl,(dZ h du bz.1).2,yZ h du os xs bz.2⟩
theorem HQ:∀(vs:abL) (k off:Nat) (A:Array Value) (l m r:abL),A.toList=l++(m++r)->l.length=off+k->m.length=vs.length->
  ((vs.zipIdx k).foldl (λcs (x:Value×Nat)=>cs.setIfInBounds (off+x.2) x.1) A).toList=l++(vs++r)
 |[],k,off,A,l,m,r,e5,hl,hm=>by
  have:m=[]:=by simpa using hm
  subst this;simpa using e5
 |v::vs,k,off,A,l,m,r,e5,hl,hm=>by
  obtain⟨x,m,rfl⟩:∃x ed,m=x::ed:=by
   cases m with
   |nil=>simp at hm
   |cons x m=>exact⟨x,m,rfl⟩
  rw[zipIdx_cons,foldl_cons];have:=HQ vs (k+1) off (A.setIfInBounds (off+k) v) (l++[v]) m r (by
   rw[Array.toList_setIfInBounds,e5,<-hl,set_append_right _ _ (Nat.le_refl _)];simp) (by simp;omega) (by simpa using hm)
  simpa using this
def jT (os:List (Option Nat)) (a:j):j:=os.foldl (λa o=>jl o a) a
def ja (place:Nat->Option (Nat×Nat)):ah->abN->List (Option Nat)->abM->Option (abN×ah)
 |s,zs,_,[]=>some (zs,s)
 |s,zs,os,(k,a)::r=>match cg s (jT os a),place k,zs[k]? with
  |some (d,s1),some (off,n),some z=>match d with
   | .tuple _=>none
   |d=>if d.wd=n/\z.wd=n/\j.c6 (zs.take k)=off then ja place s1 (zs.set k d) (os++[(jT os a).owner]) r else none
  |_,_,_=>none
def m7 (w:World) (F:Nat->Prop) (s:ah) (ao:Nat->Value):abM->List (Nat×Value)->Prop
 |[],[]=>True
 |(k,a)::r,(cY,v)::gX=>k=cY/\a.plain=true/\aB w F s ao a v (λ_=>False)/\m7 w F s ao r gX
 |_,_=>False
theorem O2 (x:Nat):∀d:j,d.plain=true->(bV x d).plain=true
 | .h y q,_=>by simp only[bV];split<;>(try split)<;>rfl
 | .al y q,_=>by simp only[bV];split<;>rfl
 | .J y q,_=>rfl
 | .fn f c,_=>by simp only[bV];rfl
 | .hole,h=>h
 | .bool _,h=>h
 | .eF,h=>h
 | .int _ _,h=>h
 | .str _,h=>h
 | .c8,h=>h
 | .aJ,h=>h
 | .slice _,h=>h
 | .ad _ _,h=>h
 | .ref _,h=>h
 | .aD _,h=>h
 | .agg _,h=>h
 | .tuple _,h=>h
theorem O3 (o:Option Nat) (d:j) (h:d.plain=true):(jl o d).plain=true:=by
 cases o with
 |none=>exact h
 |some x=>exact O2 x d h
theorem m7.bV {w:World} {F:Nat->Prop} {s s1:ah} {ao:Nat->Value} {o:Option Nat} (al:∀(bb:j) (fh:Value) (aF:Nat->Prop),aB w F s ao bb fh aF->aB w F s1 ao (jl o bb) fh aF):
  ∀(r:abM) (gX:List (Nat×Value)),m7 w F s ao r gX->m7 w F s1 ao (r.map λp=>(p.1,jl o p.2)) gX
 |[],[],_=>trivial
 |(k,a)::r,(cY,v)::gX,h=>by
  obtain⟨R,U,aA,aU⟩:=h;exact⟨R,O3 _ _ U,al _ _ _ aA,m7.bV al r gX aU⟩
 |[],_::_,h=>h.elim
 |_::_,[],h=>h.elim
theorem B5 {place:Nat->Option (Nat×Nat)}:∀(ps:abM) (vs:List (Nat×Value)) (os:List (Option Nat)) (s:ah) (S:Nat->Nat->Prop) (zs:abN) (A:Array Value) (gC:Nat->Prop),
  bu w0 F0 X F S s ao w->m7 w F s ao (ps.map λp=>(p.1,jT os p.2)) vs->aS w F zs A.toList gC->(∀b,gC b->b<w.heap.size)->(∀b,gC b->¬F b)->(∀u b,gC b->¬S u b)->(∀b,gC b->X b\/w0.heap.size<=b)->
  ∀ds s1,ja place s zs os ps=some (ds,s1)->∃kZ bJ fK,Instr.fill place A vs=some kZ/\bu w0 F0 X F bJ s1 ao w/\aS w F ds kZ.toList fK/\(∀b,fK b->b<w.heap.size)/\(∀b,fK b->¬F b)/\(∀u b,fK b->¬bJ u b)/\
   (∀b,fK b->X b\/w0.heap.size<=b)/\ds.length=zs.length/\j.c6 ds=j.c6 zs/\(∀n,(∀d∈zs,d.wd=n)->∀d∈ds,d.wd=n)
 |[],[],os,s,S,zs,A,gC,h,_,R,U,aA,aU,bt,ds,s1,he=>by
  simp only[ja,Option.some.injEq,Prod.mk.injEq]at he;obtain⟨rfl,rfl⟩:=he;exact⟨A,S,gC,rfl,h,R,U,aA,aU,bt,rfl,rfl,λ_ h=>h⟩
 |(k,a)::ps,(cY,v)::vs,os,s,S,zs,A,gC,h,al,R,U,aA,aU,bt,ds,s1,he=>by
  obtain⟨rfl,jb,nI,wx⟩:=al;simp only[ja]at he;split at he
  .rename_i d wy off n z aL f_ bA;have key:∀d:j,(∀ar,d≠.tuple ar)->cg s (jT os a)=some (d,wy)->(if d.wd=n/\z.wd=n/\j.c6 (zs.take k)=off then ja place wy (zs.set k d) (os++[(jT os a).owner]) ps else none)=some (ds,s1)->
     ∃kZ bJ fK,Instr.fill place A ((k,v)::vs)=some kZ/\bu w0 F0 X F bJ s1 ao w/\aS w F ds kZ.toList fK/\(∀b,fK b->b<w.heap.size)/\(∀b,fK b->¬F b)/\(∀u b,fK b->¬bJ u b)/\
     (∀b,fK b->X b\/w0.heap.size<=b)/\ds.length=zs.length/\j.c6 ds=j.c6 zs/\(∀n,(∀d∈zs,d.wd=n)->∀d∈ds,d.wd=n):=by
    intro d ma aL he;split at he
    .rename_i aj;obtain⟨y0,rP,HR⟩:=aj;obtain⟨bJ,e9,aQ,a2,Sn,bQ,c4,dR,gn,gW,j9,wt,yS⟩:=mU h jb nI aL;obtain⟨bD,dz,bH,Sx,fJ,e5,eN,dX,eG,fY,dw,h8⟩:=aS.pick zs _ _ k z R bA;have kV:=rR a2 ma;have qL:=ai.length _ _ _ bQ;have HS:=ai.length _ _ _ dw;have qF:=h8 w d (bR v) Sn (λ_ _=>rfl) (λ_ _=>rfl) bQ (λb O4 O5=>by obtain⟨u,hu⟩:=wt b O4;exact aU u b (dX b O5) hu);have HT:=HQ (bR v) 0 off A bD dz bH e5 (by rw[eN,HR];rfl) (by rw[HS,qL,y0,rP]);generalize wz:((bR v).zipIdx 0).foldl (λcs (x:Value×Nat)=>cs.setIfInBounds (off+x.2) x.1) A=yL at HT;obtain⟨kZ,cS,fK,ee,fb,gy,jm,jP,kU,mb,hL,B6,tR⟩:=B5 (place:=place) ps vs (os++[(jT os a).owner]) wy bJ (zs.set k d) yL (λb=>Sx b\/Sn b) e9 (by have:=m7.bV yS _ _ wx;simpa [jT,foldl_append,Function.comp_def]using this) (by rw[HT];exact qF)
      (by rintro b (J|J);exact U b (dX b J);exact c4 b J) (by rintro b (J|J);exact aA b (dX b J);exact dR b J)
      (by rintro u b (J|J);exact λhu=>aU u b (dX b J) (j9 u b hu);exact gn u b J) (by rintro b (J|J);exact bt b (dX b J);exact gW b J) ds s1 he
     refine⟨kZ,cS,fK,?_,fb,gy,jm,jP,kU,mb,by rw[hL];simp,by rw[B6];exact Bk _ _ _ _ bA (by rw[y0,rP]),?_⟩
     .have B7:off+n<=A.size:=by
       have:A.size=A.toList.length:=by simp
       rw[this,e5];simp[eN,HR,HS,rP]
      simp only[Instr.fill,f_,kV,List.size_toArray,qL,y0];have i4:¬(n≠n\/A.size<off+n):=by omega
      have B8:(bR v).toArray.zipIdx.foldl (λcs (x:Value×Nat)=>cs.setIfInBounds (off+x.2) x.1) A=yL:=by
       rw[<-wz,<-Array.foldl_toList];simp
      simp only[ne_eq,not_true_eq_false,decide_false,Bool.false_or,decide_eq_true_eq,gt_iff_lt];rw[if_neg (by simp;omega)];rw[show(bR v).toArray.zipIdx.foldl (λcs x=>match x with|(c,au)=>cs.setIfInBounds (off+au) c) A=yL from B8];exact ee
     .intro O6 wA;refine tR O6 (Bl wA ?_);rw[y0,<-rP];exact wA z (mem_of_getElem? bA)
    .cases he
   split at he
   .cases he
   .rename_i ma;exact key _ (λar e=>ma ar e) aL he
  .cases he
 |[],_::_,_,_,_,_,_,_,_,al,_,_,_,_,_,_,_,_=>al.elim
 |_::_,[],_,_,_,_,_,_,_,al,_,_,_,_,_,_,_,_=>al.elim
def gm (C:bI) (s:ah) (T:TypeId) (ps:abM):Option (j×ah):=
 match(C.T T).k,(C.T T).zero with
 | .struct ar,.agg zs=>if(flat (.agg zs)).isSome=true/\(∀f∈ar,(C.T f.1).ok=true)then
   (match ja (λk=>(ar[k]?).map λf=>(f.2,(C.T f.1).sz)) s zs [] ps with
   |some (ds,s1)=>some (.agg ds,s1)
   |none=>none)else none
 |_,_=>none
def ef (C:bI) (s:ah) (T:TypeId) (n:Nat) (ps:abM):Option (j×ah):=
 match(C.T T).k with
 | .slice e=>if(C.T e).ok=true/\(C.T e).zero.wd=(C.T e).sz/\(flat (C.T e).zero).isSome=true/\(C.T e).sz≠0/\n*(C.T e).sz<=16777216 then
   (match ja (λk=>some (k*(C.T e).sz,(C.T e).sz)) s (replicate n (C.T e).zero) [] ps with
   |some (ds,s1)=>some (.ad (C.T e).sz ds,s1)
   |none=>none)else none
 |_=>none
theorem O7 (a_:C.Ok):∀(gs:List Field),(∀g∈gs,(C.T g.type).ok=true)->
  gs.mapM (λf=>(C.P.info? f.type).map λi=>(f.offset,i.size))=some (gs.map λg=>(g.offset,(C.T g.type).sz)):=by
 intro gs;induction gs with
 |nil=>intro _;simp
 |cons g gs ih=>
  intro bm;obtain⟨i,d,z,f1,f2,f3,f4,f5,f6,f7⟩:=a_.info (bm g (by simp));have:=ih (λg fF=>bm g (by simp[fF]));simp[mapM_cons,f1,f2,this]
theorem O8 (a_:C.Ok) (h:bu w0 F0 X F S s ao w) {T:TypeId} {ps:abM} {vs:List (Nat×Value)} (al:m7 w F s ao ps vs) (he:gm C s T ps=some (av,s1)):
  Good C w0 F0 X ao w (Instr.build T vs.toArray) av s1:=by
 unfold gm at he;split at he
 .rename_i ar zs ak bA;split at he
  .rename_i aj;obtain⟨p2,O9⟩:=aj;split at he
   .rename_i ds s2 hZ;simp only[Option.some.injEq,Prod.mk.injEq]at he;obtain⟨rfl,rfl⟩:=he;obtain⟨i,d,z,aK,aV,a1,b6,cH,bT,bK⟩:=a_.info (fa ak (by simp));rw[ak]at bK;obtain⟨gs,rfl,HU⟩:=v8 bK;obtain⟨ey,lH⟩:=Option.isSome_iff_exists.1 p2;have p3:=cH ey (by rw[bA];exact lH);have eJ:aS w F zs ey.toArray.toList (λ_=>False):=by
     have:=(ai.flat (w:=w) (F:=F) _).1 (.agg zs) ey (λ_=>False) (Nat.le_refl _) lH;rw[ai]at this;simpa using this
    have dp:m7 w F s ao (ps.map λp=>(p.1,jT [] p.2)) vs:=by simpa [jT]using al
    obtain⟨kZ,bJ,fK,ee,fb,gy,jm,jP,kU,mb,hL,B6,tR⟩:=B5 ps vs [] s S zs ey.toArray (λ_=>False) h dp eJ (λ_ h=>h.elim) (λ_ h=>h.elim) (λ_ _ h=>h.elim) (λ_ h=>h.elim) ds s2 hZ;have f_:=O7 a_ gs.toList (λg bm=>O9 (g.type,g.offset) (by rw[<-HU];exact List.mem_map_of_mem bm));have O_:(λ(k:Nat)=>(ar[k]?).map λ(f:TypeId×Nat)=>(f.2,(C.T f.1).sz))=λ(k:Nat)=>((gs.toList.map λg=>(g.offset,(C.T g.type).sz)).toArray)[k]? :=by
     funext k;rw[<-HU];simp only[getElem?_map,getElem?_toArray,Option.map_map];rfl
    rw[O_]at ee;refine⟨.agg kZ,w,F,bJ,run_build w T vs.toArray kZ ?_,fb,.inr ⟨rfl,⟨_,rfl⟩,fK,by simp only[bR,gS];rw[ai];exact gy,jm,jP,kU,mb⟩⟩;unfold Program.built;simp only[aK,bT,b6,f_,p3];exact ee
   .cases he
  .cases he
 .cases he
theorem Pa (a_:C.Ok) (h:bu w0 F0 X F S s ao w) {T:TypeId} {n:Nat} {ps:abM} {vs:List (Nat×Value)} (al:m7 w F s ao ps vs) (he:ef C s T n ps=some (av,s1)):
  Good C w0 F0 X ao w (Instr.buildSlice T n vs.toArray) av s1:=by
 unfold ef at he;split at he
 .rename_i e ak;split at he
  .rename_i aj;obtain⟨nP,oV,p2,cT,aax⟩:=aj;split at he
   .rename_i ds s2 hZ;simp only[Option.some.injEq,Prod.mk.injEq]at he;obtain⟨rfl,rfl⟩:=he;obtain⟨BU,d,BV,aK,aV,a1,b6,cH,bT,bK⟩:=a_.info (fa ak (by simp));rw[ak]at bK;have:=j8 bK;subst this;obtain⟨i,BW,z,f1,f2,f3,f4,f5,f6,f7⟩:=a_.info nP;obtain⟨ey,lH⟩:=Option.isSome_iff_exists.1 p2;have p3:=f5 ey lH;have eJ:∀aF,ai w F (C.T e).zero ey aF:=λaF=>(ai.flat _).1 _ ey aF (Nat.le_refl _) lH;have nR:ey.length=(C.T e).sz:=by rw[ai.length _ _ _ (eJ (λ_=>False)),oV]
    generalize e5:((Array.range (n*(C.T e).sz)).map ((if n*(C.T e).sz=0 then #[]else ey.toArray)[·%(if n*(C.T e).sz=0 then(#[]:Array Value)else ey.toArray).size]!))=A;have B7:A.toList=(replicate n ey).flatten:=by
     rw[<-e5];by_cases bq:n*(C.T e).sz=0
     .have:n=0:=by
       rcases mul_eq_zero.1 bq with h|h
       .exact h
       .exact(cT h).elim
      subst this;simp
     .simp only[bq,if_false];have:=yX ey n;rw[nR]at this;simpa [nR]using this
    have dp:m7 w F s ao (ps.map λp=>(p.1,jT [] p.2)) vs:=by simpa [jT]using al
    obtain⟨kZ,bJ,fK,ee,fb,gy,jm,jP,kU,mb,hL,B6,tR⟩:=B5 ps vs [] s S (replicate n (C.T e).zero) A (λ_=>False) h dp (by rw[B7];exact aS.replicate eJ n _) (λ_ h=>h.elim) (λ_ h=>h.elim) (λ_ _ h=>h.elim) (λ_ h=>h.elim) ds s2 hZ;have hlen:ds.length=n:=by rw[hL];simp
    have HV:=tR (C.T e).sz (by intro d ae;rw[eq_of_mem_replicate ae];exact oV);have Pb:kZ.toList.length=n*(C.T e).sz:=by rw[aS.rZ gy HV,hlen]
    have Pc:kZ.size=n*(C.T e).sz:=by rw[<-Pb];simp
    have aay:n<=16777216:=by
     have:n*1<=n*(C.T e).sz:=mul_le_mul_left _ (by omega);omega
    have jS:=fb.wj (ax:=w.alloc (.cells kZ e)) (sz:=(C.T e).sz) (cap:=n) (xs:=ds) (cur:=kZ) (e:=e) (fr:=(0,0)) (Sn:=fK) rfl rfl rfl ⟨rfl,λ_=>Nat.le_refl _⟩
     (λo _ ⟨_,U⟩=>absurd U (not_lt_zero _)) (by omega) (by unfold maxLen;omega) Pc HV (by rw[hlen,take_of_length_le (by omega)];exact gy) jm jP kU mb
    rw[hlen]at jS;refine⟨_,_,F,bJ,?_,jS.1,jS.2⟩;by_cases bq:n*(C.T e).sz=0
    .simp only[bq,if_true]at e5;have tS:(Array.map (λ_=>(default:Value)) (Array.range 0))=A:=by
      have:n=0:=by
       rcases mul_eq_zero.1 bq with h|h
       .exact h
       .exact(cT h).elim
      apply Array.ext';rw[B7,this];simp
     simp[Instr.buildSlice,run_underlying bT,iz f1,f2,bq,newRow];rw[tS,ee];simp
    .simp only[bq,if_false]at e5;have i4:¬(16777216<n*(C.T e).sz):=by omega
     simp[Instr.buildSlice,run_underlying bT,iz f1,f2,bq,i4,rO f1 f4,p3,newRow];have tS:(Array.map (λx=>ey[x%ey.length]?.getD default) (Array.range (n*(C.T e).sz)))=A:=by
      rw[<-e5];simp
     rw[tS,ee];simp
   .cases he
  .cases he
 .cases he
end
inductive c9 where
 |fT (x:aZ)
 |k1 (x:aZ)
 |pick (c a b:aZ)
 |kW (T:TypeId)
 |gK (T:TypeId) (x:aZ)
 |gm (T:TypeId) (ps:List (Nat×aZ))
 |ef (T:TypeId) (n:Nat) (ps:List (Nat×aZ))
 |e0 (T:TypeId) (x:aZ)
 |gp (T:TypeId) (x y:aZ)
 |h1 (x:aZ)
 |el (op:BinOp) (T:TypeId) (x y:aZ)
 |un (op:UnOp) (x:aZ)
 |hJ (A B:TypeId) (x:aZ)
 |m6 (f:FuncId) (cs:List aZ)
 |d_ (T:TypeId) (l c:aZ)
 |fl (T:TypeId) (x:aZ) (dU aw:Option aZ)
 |hb (T:TypeId) (x:aZ) (k:Nat)
 |iP (T:TypeId) (x i:aZ)
 |idx (T:TypeId) (x i:aZ)
 |ex (x:aZ) (k:Nat)
 |kX (T:TypeId) (x:aZ) (k:Nat)
 |call (f:aZ) (args:List aZ)
 |len (T:TypeId) (x:aZ)
 |app (T bM:TypeId) (x y:aZ)
 |shr (bp:c9)
 |h_ (T bM:TypeId) (x y:aZ)
 |cap (T:TypeId) (x:aZ)
 |oX (gJ:Bool) (x y:aZ)
 |bad
 |iT (f:aZ) (args:List aZ) (us:abI)
 |h0 (T:TypeId) (x:aZ)
 |ext (x:aZ) (k:Nat)
 |kt (T:TypeId) (x y:aZ) (u:Nat)
 |wB
 |m5 (T:TypeId) (x i:aZ)
 |lI (T:TypeId) (x i v:aZ)
def c9.base:c9->c9
 | .shr bp=>bp
 | .h_ T bM x y=>.app T bM x y
 | .iT f args _=>.call f args
 | .h0 T x=>.gK T x
 | .ext x k=>.ex x k
 | .kt T x y _=>.gp T x y
 |bp=>bp
def tT:List Operand->Option (List aZ)
 |[]=>some []
 |o::os=>match cZ o,tT os with
  |some x,some xs=>some (x::xs)
  |_,_=>none
def tU:List (Nat×Operand)->Option (List (Nat×aZ))
 |[]=>some []
 |(k,o)::os=>match cZ o,tU os with
  |some x,some xs=>some ((k,x)::xs)
  |_,_=>none
def wC:Option Operand->Option (Option aZ)
 |none=>some none
 |some o=>(cZ o).map some
def cC:Op->Option c9
 | .move x=>(cZ x).map .fT
 | .assign x=>(cZ x).map .k1
 | .pick c a b=>match cZ c,cZ a,cZ b with
   |some c,some a,some b=>some (.pick c a b)
   |_,_,_=>none
 | .alloc T=>some (.kW T)
 | .box T x=>(cZ x).map (.gK T)
 | .build T ps=>(tU ps.toList).map (.gm T)
 | .buildSlice T n ps=>(tU ps.toList).map (.ef T n)
 | .load T x=>(cZ x).map (.e0 T)
 | .store T x y=>match cZ x,cZ y with
   |some x,some y=>some (.gp T x y)
   |_,_=>none
 | .nilCheck x=>(cZ x).map .h1
 | .binOp op T x y _=>match cZ x,cZ y with
   |some x,some y=>some (.el op T x y)
   |_,_=>none
 | .unOp op _ x=>(cZ x).map (.un op)
 | .convert A B x=>(cZ x).map (.hJ A B)
 | .makeFunc (.func f) first cs=>if first.isEmpty then(tT cs.toList).map (.m6 f)else none
 | .makeSlice T l c=>match cZ l,cZ c with
   |some l,some c=>some (.d_ T l c)
   |_,_=>none
 | .slice T x dU aw none=>match cZ x,wC dU,wC aw with
   |some x,some dU,some aw=>some (.fl T x dU aw)
   |_,_,_=>none
 | .fieldAddr T x k=>(cZ x).map λx=>.hb T x k
 | .indexAddr T x i=>match cZ x,cZ i with
   |some x,some i=>some (.iP T x i)
   |_,_=>none
 | .index T x i=>match cZ x,cZ i with
   |some x,some i=>some (.idx T x i)
   |_,_=>none
 | .extract x k=>(cZ x).map λx=>.ex x k
 | .field T x k=>(cZ x).map λx=>.kX T x k
 | .makeMap _ none=>some .wB
 | .lookup T x i false=>match cZ x,cZ i with
   |some x,some i=>some (.m5 T x i)
   |_,_=>none
 | .mapUpdate T x i v=>match cZ x,cZ i,cZ v with
   |some x,some i,some v=>some (.lI T x i v)
   |_,_,_=>none
 | .call c=>match c.callee with
   | .value f=>match cZ f,tT c.args.toList with
     |some f,some xs=>some (.call f xs)
     |_,_=>none
   | .builtin .len=>match c.args.toList,c.argTypes.toList with
     |[x],[T]=>(cZ x).map (.len T)
     |_,_=>none
   | .builtin .cap=>match c.args.toList,c.argTypes.toList with
     |[x],[T]=>(cZ x).map (.cap T)
     |_,_=>none
   | .builtin .min=>match c.args.toList with
     |[x,y]=>match cZ x,cZ y with
      |some x,some y=>some (.oX false x y)
      |_,_=>none
     |_=>none
   | .builtin .max=>match c.args.toList with
     |[x,y]=>match cZ x,cZ y with
      |some x,some y=>some (.oX true x y)
      |_,_=>none
     |_=>none
   | .builtin .append=>match c.args.toList,c.argTypes.toList with
     |[x,y],[T,bM]=>match cZ x,cZ y with
      |some x,some y=>some (.app T bM x y)
      |_,_=>none
     |_,_=>none
   |_=>none
 |_=>none
def oX (gJ:Bool):j->j->Option j
 | .str a,.str b=>some (.str (yw gJ a b))
 | .int k a,.int cY b=>if k=cY then some (.int k (Bg gJ a b))else none
 |_,_=>none
def wD (s:ah):j->Option (j×ah)
 | .h y q=>cg s (.h y q)
 |d=>some (d,s)
def qM (s:ah) (x:j) (k:Nat):Option (j×ah):=
 match x,ex s x k with
 | .h y _,some (.h z p)=>if z=y then cg s (.h z p)else none
 |_,_=>none
theorem HW {s s1:ah} {x av:j} {k:Nat} (h:qM s x k=some (av,s1)):∃y q p,x= .h y q/\ex s x k=some (.h y p)/\cg s (.h y p)=some (av,s1):=by
 unfold qM at h;split at h
 .rename_i y q z p he;split at h
  .rename_i e;subst e;exact⟨z,q,p,rfl,he,h⟩
  .cases h
 .cases h
def bE (C:bI) (s:ah):c9->Option (j×ah)
 | .fT x=>some (aX s x,s)
 | .k1 x=>match aX s x with
   | .h y q=>cg s (.h y q)
   |d=>some (d,s)
 | .pick c a b=>match aX s c with
   | .bool eI=>some (if eI then aX s a else aX s b,s)
   |_=>none
 | .kW T=>(kW C T).map λd=>(d,s)
 | .gK _ x=>gK s (aX s x)
 | .gm T ps=>gm C s T (ps.map λp=>(p.1,aX s p.2))
 | .ef T n ps=>ef C s T n (ps.map λp=>(p.1,aX s p.2))
 | .e0 T x=>(e0 C s T (aX s x)).map λd=>(d,s)
 | .gp T x y=>(gp C s T (aX s x) (aX s y)).map λs1=>(.hole,s1)
 | .h1 x=>(h1 s (aX s x)).map λd=>(d,s)
 | .el op T x y=>(el C s op T (aX s x) (aX s y)).map λd=>(d,s)
 | .un op x=>(un op (aX s x)).map λd=>(d,s)
 | .hJ A B x=>(hJ C s A B (aX s x)).map λd=>(d,s)
 | .m6 f cs=>some (.fn f (cs.map (aX s)),s)
 | .d_ T l c=>(d_ C T (aX s l) (aX s c)).map λd=>(d,s)
 | .fl T x dU aw=>fl C s T (aX s x) (dU.map (aX s)) (aw.map (aX s))
 | .hb T x k=>(hb C s T (aX s x) k).map λd=>(d,s)
 | .iP T x i=>(iP C s T (aX s x) (aX s i)).map λd=>(d,s)
 | .idx T x i=>(idx C T (aX s x) (aX s i)).map λd=>(d,s)
 | .ex x k=>(ex s (aX s x) k).map λd=>(d,s)
 | .kX T x k=>(kX C s T (aX s x) k).bind (wD s)
 | .call _ _=>none
 | .len T x=>(pY C s T (aX s x)).map λd=>(d,s)
 | .app T bM x y=>p1 C s T bM (aX s x) (aX s y)
 | .shr _=>none
 | .iT _ _ _=>none
 | .kt _ _ _ _=>none
 | .h0 _ x=>h0 s (aX s x)
 | .ext x k=>qM s (aX s x) k
 | .wB=>some (.dc (.mp []),s)
 | .m5 T x i=>(m5 C s T (aX s x) (aX s i)).map λd=>(d,s)
 | .lI T x i v=>(lI C s T (aX s x) (aX s i) (aX s v)).map λs1=>(.hole,s1)
 | .h_ T bM x y=>(h_ C T bM (aX s x) (aX s y)).map λd=>(d,s)
 | .cap T x=>match(C.T T).k,aX s x with
   | .slice _,.aJ=>some (.int .i64 0,s)
   |_,_=>none
 | .oX gJ x y=>(oX gJ (aX s x) (aX s y)).map λd=>(d,s)
 | .bad=>none
section
variable {C:bI} {w0 w:World} {F0 X F:Nat->Prop} {S:Nat->Nat->Prop} {s s1:ah} {a:Act} {av:j}
theorem r6:∀{os:List Operand} {xs:List aZ},tT os=some xs->os.map cZ=xs.map some
 |[],xs,h=>by simp[tT]at h;subst h;rfl
 |o::os,xs,h=>by
  simp only[tT]at h;split at h
  .rename_i x r7 R U;simp at h;subst h;simp[R,r6 U]
  .cases h
theorem B9 {ao:Nat->Value} (h:bu w0 F0 X F S s ao w) (du:∀t,ao t=a.tmps.getD t undef):∀{ps:List (Nat×Operand)} {xs:List (Nat×aZ)},tU ps=some xs->
  m7 w F s ao (xs.map λp=>(p.1,aX s p.2)) (ps.map λp=>(p.1,a.eval p.2))
 |[],xs,h=>by simp[tU]at h;subst h;trivial
 |(k,o)::ps,xs,bz=>by
  simp only[tU]at bz;split at bz
  .rename_i x r7 R U;simp at bz;subst bz;obtain⟨aQ,a2⟩:=dZ h du R;exact⟨rfl,aQ,a2,B9 h du U⟩
  .cases bz
def Next (C:bI) (w0:World) (F0 X:Nat->Prop) (ao:Nat->Value) (w:World) (m:Sem Go.Next) (av:j) (s1:ah):Prop:=
 ∃r ax v bC aF,m.run C.P w= .ok r ax/\(r= .value v\/r= .skip/\v=undef)/\bu w0 F0 X bC aF s1 ao ax/\jN w0 X bC aF s1 ao ax av v
theorem Good.next {ao:Nat->Value} {m:Sem Value} (h:Good C w0 F0 X ao w m av s1):Next C w0 F0 X ao w (do pure (.value (<-m))) av s1:=by
 obtain⟨v,ax,bC,aF,R,U,aA⟩:=h;exact⟨.value v,ax,v,bC,aF,by simp[R],.inl rfl,U,aA⟩
theorem HX {ao:Nat->Value} (h:bu w0 F0 X F S s ao w) {gJ:Bool} {x y:j} {fD fE:Value} {m:Sem Go.Next} (R:aB w F s ao x fD (λ_=>False)) (U:aB w F s ao y fE (λ_=>False))
  (he:(oX gJ x y).map (λd=>(d,s))=some (av,s1)) (hm:m=(do pure (.value (<-if gJ then Builtin.max2 fD fE else Builtin.min2 fD fE)))):Next C w0 F0 X ao w m av s1:=by
 simp only[Option.map_eq_some_iff,Prod.mk.injEq]at he;obtain⟨d,ae,rfl,rfl⟩:=he;unfold oX at ae;split at ae
 .rename_i a b;simp only[Option.some.injEq]at ae;subst ae;have aK:=mX R;have aV:=mX U;subst aK aV;subst hm;refine⟨.value (.string ⟨⟨yw gJ a b⟩⟩),w,_,F,S,?_,.inl rfl,h,.inl ⟨rfl,nN _⟩⟩;cases gJ
  .simp only[Builtin.min2,Op.stringOp,wg,yw,Bool.false_eq_true,if_false];cases J:(Op.bytesLess a b||a==b)<;>simp[asBool]
  .simp only[Builtin.max2,Op.stringOp,wg,yw,if_true];cases J:Op.bytesLess a b<;>simp[asBool]
 .rename_i k a cY b;split at ae
  .rename_i ak;subst ak;simp only[Option.some.injEq]at ae;subst ae;have aK:=nM R;have aV:=nM U;subst aK aV;subst hm;refine⟨.value (.int k (Bg gJ a b)),w,_,F,S,?_,.inl rfl,h,.inl ⟨rfl,of_int _ _⟩⟩;cases gJ<;>simp[Builtin.min2,Builtin.max2,Bg]
  .cases ae
 .cases ae
theorem HY (a_:C.Ok) {ao:Nat->Value} (h:bu w0 F0 X F S s ao w) (du:∀t,ao t=a.tmps.getD t undef) {o:Oper} {bp:c9} (I:cC o.op=some bp) (he:bE C s bp=some (av,s1)):
  Next C w0 F0 X ao w (execOp a.eval o) av s1:=by
 obtain⟨dst,op,ty,pos,after,guard⟩:=o;simp only at I;cases op with
 |move x=>
  simp only[cC,Option.map_eq_some_iff]at I;obtain⟨cq,ag,rfl⟩:=I;obtain⟨aQ,a2⟩:=dZ h du ag;simp only[bE,Option.some.injEq,Prod.mk.injEq]at he;obtain⟨rfl,rfl⟩:=he;exact⟨_,w,_,F,S,rfl,.inl rfl,h,.inl ⟨aQ,a2⟩⟩
 |assign x=>
  simp only[cC,Option.map_eq_some_iff]at I;obtain⟨cq,ag,rfl⟩:=I;obtain⟨aQ,a2⟩:=dZ h du ag;simp only[bE]at he;split at he
  .rename_i y q bh;rw[bh]at aQ a2;obtain⟨bJ,k0,bU,cc,Sn,de,cQ,dT,dH,hx,_⟩:=mU h aQ a2 he;exact⟨_,w,_,F,bJ,rfl,.inl rfl,k0,.inr ⟨bU,cc,Sn,de,cQ,dT,dH,hx⟩⟩
  .simp only[Option.some.injEq,Prod.mk.injEq]at he;obtain⟨rfl,rfl⟩:=he;exact⟨_,w,_,F,S,rfl,.inl rfl,h,.inl ⟨aQ,a2⟩⟩
 |pick c x y=>
  simp only[cC]at I;split at I
  .rename_i HZ cq iy aj ag bh;simp only[Option.some.injEq]at I;subst I;simp only[bE]at he;split at he
   .rename_i b J;simp only[Option.some.injEq,Prod.mk.injEq]at he;obtain⟨rfl,rfl⟩:=he;have r4:=(dZ h du aj).2;rw[J]at r4;have r4:=qG r4;obtain⟨af,aH⟩:=dZ h du ag;obtain⟨e7,ia⟩:=dZ h du bh;refine⟨.value (if b then a.eval x else a.eval y),w,_,F,S,?_,.inl rfl,h,.inl ?_⟩
    .simp[execOp,r4,asBool]
    .cases b
     .exact⟨e7,ia⟩
     .exact⟨af,aH⟩
   .cases he
  .cases I
 |alloc T=>
  simp only[cC,Option.some.injEq]at I;subst I;simp only[bE,Option.map_eq_some_iff,Prod.mk.injEq]at he;obtain⟨d,ae,rfl,rfl⟩:=he;exact(N5 a_ h ae).next
 |box T x=>
  simp only[cC,Option.map_eq_some_iff]at I;obtain⟨cq,ag,rfl⟩:=I;obtain⟨aQ,a2⟩:=dZ h du ag;exact(N9 h aQ a2 he).next
 |build T ps=>
  simp only[cC,Option.map_eq_some_iff]at I;obtain⟨Pd,al,rfl⟩:=I;obtain⟨ps⟩:=ps;have:=(O8 a_ h (B9 h du al) he).next;simpa [execOp]using this
 |buildSlice T n ps=>
  simp only[cC,Option.map_eq_some_iff]at I;obtain⟨Pd,al,rfl⟩:=I;obtain⟨ps⟩:=ps;have:=(Pa a_ h (B9 h du al) he).next;simpa [execOp]using this
 |load T x=>
  simp only[cC,Option.map_eq_some_iff]at I;obtain⟨cq,ag,rfl⟩:=I;obtain⟨aQ,a2⟩:=dZ h du ag;simp only[bE,Option.map_eq_some_iff,Prod.mk.injEq]at he;obtain⟨d,ae,rfl,rfl⟩:=he;exact(N1 a_ h a2 ae).next
 |store T x y=>
  simp only[cC]at I;split at I
  .rename_i cq iy ag bh;simp only[Option.some.injEq]at I;subst I;simp only[bE,Option.map_eq_some_iff,Prod.mk.injEq]at he;obtain⟨s2,ae,rfl,rfl⟩:=he;obtain⟨ax,aF,R,U⟩:=N4 a_ h (dZ h du ag).2 (dZ h du bh).1 (dZ h du bh).2 ae;exact⟨.skip,ax,undef,F,aF,by simp[execOp,R],.inr ⟨rfl,rfl⟩,U,.inl ⟨rfl,by rw[aB];trivial⟩⟩
  .cases I
 |nilCheck x=>
  simp only[cC,Option.map_eq_some_iff]at I;obtain⟨cq,ag,rfl⟩:=I;obtain⟨aQ,a2⟩:=dZ h du ag;simp only[bE,Option.map_eq_some_iff,Prod.mk.injEq]at he;obtain⟨d,ae,rfl,rfl⟩:=he;obtain⟨rfl,al,ay⟩:=Om h a2 ae;refine⟨.value (a.eval x),w,_,F,S,?_,.inl rfl,h,.inl ⟨al,a2⟩⟩;rcases ay with⟨b,J⟩|⟨f,c,J⟩<;>simp[execOp,J]
 |binOp op T x y aaz=>
  simp only[cC]at I;split at I
  .rename_i cq iy ag bh;simp only[Option.some.injEq]at I;subst I;simp only[bE,Option.map_eq_some_iff,Prod.mk.injEq]at he;obtain⟨d,ae,rfl,rfl⟩:=he;exact(Oi a_ h x y (dZ h du ag).2 (dZ h du bh).2 ae).next
  .cases I
 |unOp op T x=>
  simp only[cC,Option.map_eq_some_iff]at I;obtain⟨cq,ag,rfl⟩:=I;simp only[bE,Option.map_eq_some_iff,Prod.mk.injEq]at he;obtain⟨d,ae,rfl,rfl⟩:=he;exact(Oj h (dZ h du ag).2 ae).next
 |convert A B x=>
  simp only[cC,Option.map_eq_some_iff]at I;obtain⟨cq,ag,rfl⟩:=I;simp only[bE,Option.map_eq_some_iff,Prod.mk.injEq]at he;obtain⟨d,ae,rfl,rfl⟩:=he;exact(Ox a_ h (dZ h du ag).2 ae).next
 |makeFunc fn first cs=>
  cases fn with
  |func f=>
   simp only[cC]at I;split at I
   .rename_i Pe;simp only[Option.map_eq_some_iff]at I;obtain⟨qN,ga,rfl⟩:=I;simp only[bE,Option.some.injEq,Prod.mk.injEq]at he;obtain⟨rfl,rfl⟩:=he;have B_:first= #[]:=by simpa using Pe
    subst B_;refine⟨_,w,_,F,S,rfl,.inl rfl,h,.inl ⟨rfl,?_⟩⟩;rw[aB];refine⟨cs.map a.eval,by simp,?_⟩;simpa using yZ h du _ _ (r6 ga)
   .cases I
  |_=>simp[cC]at I
 |makeSlice T l c=>
  simp only[cC]at I;split at I
  .rename_i cq iy ag bh;simp only[Option.some.injEq]at I;subst I;simp only[bE,Option.map_eq_some_iff,Prod.mk.injEq]at he;obtain⟨d,ae,rfl,rfl⟩:=he;exact(OZ a_ h (dZ h du ag).2 (dZ h du bh).2 ae).next
  .cases I
 |slice T x dU aw gJ=>
  cases gJ with
  |some m=>simp[cC]at I
  |none=>
   simp only[cC]at I;split at I
   .rename_i cq aaA oY ag m0 m1;simp only[Option.some.injEq]at I;subst I;obtain⟨aQ,a2⟩:=dZ h du ag;have opt:∀{o:Option Operand} {mg:Option aZ},wC o=some mg->pZ w F s ao (mg.map (aX s)) (o.map a.eval):=by
     intro o mg br;cases o with
     |none=>simp[wC]at br;subst br;trivial
     |some o=>
      simp only[wC,Option.map_eq_some_iff]at br;obtain⟨x,ag,rfl⟩:=br;exact(dZ h du ag).2
    exact(OA a_ h aQ a2 (opt m0) (opt m1) he).next
   .cases I
 |fieldAddr T x k=>
  simp only[cC,Option.map_eq_some_iff]at I;obtain⟨cq,ag,rfl⟩:=I;obtain⟨aQ,a2⟩:=dZ h du ag;simp only[bE,Option.map_eq_some_iff,Prod.mk.injEq]at he;obtain⟨d,ae,rfl,rfl⟩:=he;exact(NV a_ h aQ a2 ae).next
 |indexAddr T x i=>
  simp only[cC]at I;split at I
  .rename_i cq iy ag bh;simp only[Option.some.injEq]at I;subst I;simp only[bE,Option.map_eq_some_iff,Prod.mk.injEq]at he;obtain⟨d,ae,rfl,rfl⟩:=he;exact(NW a_ h (dZ h du ag).2 (dZ h du bh).2 ae).next
  .cases I
 |index T x i=>
  simp only[cC]at I;split at I
  .rename_i cq iy ag bh;simp only[Option.some.injEq]at I;subst I;simp only[bE,Option.map_eq_some_iff,Prod.mk.injEq]at he;obtain⟨d,ae,rfl,rfl⟩:=he;exact(Ou a_ h (dZ h du ag).2 (dZ h du bh).2 ae).next
  .cases I
 |makeMap t r=>
  cases r with
  |none=>
   simp only[cC,Option.some.injEq]at I;subst I;simp only[bE,Option.some.injEq,Prod.mk.injEq]at he;obtain⟨rfl,rfl⟩:=he;exact(OY h t).next
  |some r=>simp[cC]at I
 |lookup T x i c=>
  cases c with
  |true=>simp[cC]at I
  |false=>
   simp only[cC]at I;split at I
   .rename_i cq l9 ag aw;simp only[Option.some.injEq]at I;subst I;simp only[bE,Option.map_eq_some_iff,Prod.mk.injEq]at he;obtain⟨d,ae,rfl,rfl⟩:=he;exact(OV a_ h (dZ h du ag).2 (dZ h du aw).2 ae).next
   .cases I
 |mapUpdate T x i v=>
  simp only[cC]at I;split at I
  .rename_i cq l9 fh ag aw ay;simp only[Option.some.injEq]at I;subst I;simp only[bE,Option.map_eq_some_iff,Prod.mk.injEq]at he;obtain⟨s2,ae,rfl,rfl⟩:=he;obtain⟨ax,aF,R,U⟩:=OW a_ h (dZ h du ag).2 (dZ h du aw).2 (dZ h du ay).2 ae;exact⟨.skip,ax,undef,F,aF,by simp[execOp,R],.inr ⟨rfl,rfl⟩,U,.inl ⟨rfl,by rw[aB];trivial⟩⟩
  .cases I
 |extract x k=>
  simp only[cC,Option.map_eq_some_iff]at I;obtain⟨cq,ag,rfl⟩:=I;simp only[bE,Option.map_eq_some_iff,Prod.mk.injEq]at he;obtain⟨d,ae,rfl,rfl⟩:=he;exact(Hp h (dZ h du ag).2 ae).next
 |field T x k=>
  simp only[cC,Option.map_eq_some_iff]at I;obtain⟨cq,ag,rfl⟩:=I;simp only[bE,Option.bind_eq_some_iff]at he;obtain⟨d,ae,he⟩:=he;obtain⟨v,ax,bC,aF,aN,eV,l8⟩:=Oq a_ h (dZ h du ag).2 ae;unfold wD at he;split at he
  .rename_i y q;have Ca:aB ax bC s ao (.h y q) v (λ_=>False):=by
    rcases l8 with⟨_,a2⟩|⟨aQ,_⟩
    .exact a2
    .cases aQ
   obtain⟨bJ,k0,bU,cc,Sn,de,cQ,dT,dH,hx,_⟩:=mU eV rfl Ca he;exact⟨.value v,ax,v,bC,bJ,by simp[execOp,aN],.inl rfl,k0,.inr ⟨bU,cc,Sn,de,cQ,dT,dH,hx⟩⟩
  .simp only[Option.some.injEq,Prod.mk.injEq]at he;obtain⟨rfl,rfl⟩:=he;exact⟨.value v,ax,v,bC,aF,by simp[execOp,aN],.inl rfl,eV,l8⟩
 |call c=>
  obtain⟨callee,args,argTypes⟩:=c;simp only[cC]at I;split at I
  .split at I
   .simp only[Option.some.injEq]at I;subst I;simp[bE]at he
   .cases I
  .split at I
   .rename_i x T lJ r8;simp only[Option.map_eq_some_iff]at I;obtain⟨cq,ag,rfl⟩:=I;simp only[bE,Option.map_eq_some_iff,Prod.mk.injEq]at he;obtain⟨d,ae,rfl,rfl⟩:=he;have:=(Ov (ty:=ty) a_ h (dZ h du ag).2 ae).next;have aK:args= #[x]:=by apply Array.ext';exact lJ
    have aV:argTypes= #[T]:=by apply Array.ext';exact r8
    subst aK aV;simpa [execOp,resolve,invoke,builtin]using this
   .cases I
  .split at I
   .rename_i x T lJ r8;simp only[Option.map_eq_some_iff]at I;obtain⟨cq,ag,rfl⟩:=I;simp only[bE]at he;split at he
    .rename_i e ak Pf;simp only[Option.some.injEq,Prod.mk.injEq]at he;obtain⟨rfl,rfl⟩:=he;have ay:=(dZ h du ag).2;rw[Pf]at ay;have:=pV ay;obtain⟨i,d,z,aK,aV,a1,b6,cH,bT,bK⟩:=a_.info (fa ak (by simp));rw[ak]at bK;have ae:=j8 bK;subst ae;have Pg:args= #[x]:=by apply Array.ext';exact lJ
     have Ph:argTypes= #[T]:=by apply Array.ext';exact r8
     subst Pg Ph;have aN:(Builtin.cap_ #[T] ty #[a.eval x]).run C.P w= .ok (.int .i64 0) w:=by
      rw[this];simp[Builtin.cap_,run_underlying bT,goInt]
     have:=(Good.same (av:=.int .i64 0) h aN rfl (of_int _ _)).next;simpa [execOp,resolve,invoke,builtin]using this
    .cases he
   .cases I
  .split at I
   .rename_i x y lJ;split at I
    .rename_i cq iy ag bh;simp only[Option.some.injEq]at I;subst I;have aK:args= #[x,y]:=by apply Array.ext';exact lJ
     subst aK;exact HX h (dZ h du ag).2 (dZ h du bh).2 he (by simp[execOp,resolve,invoke,builtin,Builtin.min_])
    .cases I
   .cases I
  .split at I
   .rename_i x y lJ;split at I
    .rename_i cq iy ag bh;simp only[Option.some.injEq]at I;subst I;have aK:args= #[x,y]:=by apply Array.ext';exact lJ
     subst aK;exact HX h (dZ h du ag).2 (dZ h du bh).2 he (by simp[execOp,resolve,invoke,builtin,Builtin.max_])
    .cases I
   .cases I
  .split at I
   .rename_i x y T bM lJ r8;split at I
    .rename_i cq iy ag bh;simp only[Option.some.injEq]at I;subst I;have:=(OL (ty:=ty) a_ h (dZ h du ag).2 (dZ h du bh).2 he).next;have aK:args= #[x,y]:=by apply Array.ext';exact lJ
     have aV:argTypes= #[T,bM]:=by apply Array.ext';exact r8
     subst aK aV;simpa [execOp,resolve,invoke,builtin]using this
    .cases I
   .cases I
  .cases I
 |_=>simp[cC]at I
end
mutual
def j.I:j->abI
 | .h x _=>[x]
 | .al x _=>[x]
 | .J x _=>[x]
 | .fn _ cap=>j.dv cap
 |_=>[]
def j.dv:abN->abI
 |[]=>[]
 |d::ds=>d.I++j.dv ds
end
inductive oZ where
 |no
 |bV
 |ch
structure fN where
 k:oZ
 x:Nat
 d:j
def oZ.app (k:oZ) (x:Nat) (a:j):j:=match k with
 | .no=>a
 | .bV=>cW.bV x a
 | .ch=>cW.ch x a
def fN.at (m:fN) (u:Nat) (a:j):j:=if u=m.x then m.d else m.k.app m.x a
def iU:List fN->Nat->j->j
 |[],_,a=>a
 |m::ms,u,a=>iU ms u (m.at u a)
def cU (ms:List fN) (s:ah):ah:=λu=>iU ms u (s u)
theorem H0:∀(ms jU:List fN) (u:Nat) (a:j),iU (ms++jU) u a=iU jU u (iU ms u a)
 |[],_,_,_=>rfl
 |m::ms,jU,u,a=>by simp only[cons_append,iU];exact H0 ms jU u _
theorem ku (ms jU:List fN) (s:ah):cU (ms++jU) s=cU jU (cU ms s):=by
 funext u;simp[cU,H0]
theorem Pj {ms:List fN} {s aq:ah} {u:Nat} (h:aq u=s u):cU ms aq u=cU ms s u:=by simp[cU,h]
theorem r9 (s:ah) (x:Nat) (d:j):ck (e_ x s) x d=cU [⟨.bV,x,d⟩] s:=by
 funext u;simp only[cU,iU,fN.at,ck,e_,oZ.app]
theorem H2 (s:ah) (x:Nat) (d:j):ck (kr x s) x d=cU [⟨.ch,x,d⟩] s:=by
 funext u;simp only[cU,iU,fN.at,ck,kr,oZ.app]
theorem H3 (s:ah) (x:Nat) (d:j):ck s x d=cU [⟨.no,x,d⟩] s:=by
 funext u;simp only[cU,iU,fN.at,ck,oZ.app]
mutual
theorem wE {x:Nat}:∀a:j,x∉a.I->bV x a=a
 | .h y q,h=>by
   simp only[j.I,mem_singleton]at h;simp only[bV];rw[if_neg (λe=>h e.symm)]
 | .al y q,h=>by
   simp only[j.I,mem_singleton]at h;simp only[bV];rw[if_neg (λe=>h e.symm)]
 | .J y q,h=>rfl
 | .fn f cap,h=>by simp only[bV];rw[H4 cap (by simpa [j.I]using h)]
 | .hole,_=>rfl
 | .bool _,_=>rfl
 | .eF,_=>rfl
 | .int _ _,_=>rfl
 | .str _,_=>rfl
 | .c8,_=>rfl
 | .aJ,_=>rfl
 | .slice _,_=>rfl
 | .ad _ _,_=>rfl
 | .ref _,_=>rfl
 | .aD _,_=>rfl
 | .agg _,_=>rfl
 | .tuple _,_=>rfl
 | .dc _,_=>rfl
 | .eU _ _,_=>rfl
 | .fB _,_=>rfl
theorem H4 {x:Nat}:∀ds:abN,x∉j.dv ds->hv x ds=ds
 |[],_=>rfl
 |d::ds,h=>by
  simp only[j.dv,mem_append,not_or]at h;simp only[hv];rw[wE d h.1,H4 ds h.2]
end
mutual
theorem Cb {x:Nat}:∀a:j,x∉a.I->ch x a=a
 | .h y q,h=>by
   simp only[j.I,mem_singleton]at h;simp only[ch];rw[if_neg (λe=>h e.symm)]
 | .al y q,h=>by
   simp only[j.I,mem_singleton]at h;simp only[ch];rw[if_neg (λe=>h e.symm)]
 | .J y q,h=>by
   simp only[j.I,mem_singleton]at h;simp only[ch];rw[if_neg (λe=>h e.symm)]
 | .fn f cap,h=>by simp only[ch];rw[H5 cap (by simpa [j.I]using h)]
 | .hole,_=>rfl
 | .bool _,_=>rfl
 | .eF,_=>rfl
 | .int _ _,_=>rfl
 | .str _,_=>rfl
 | .c8,_=>rfl
 | .aJ,_=>rfl
 | .slice _,_=>rfl
 | .ad _ _,_=>rfl
 | .ref _,_=>rfl
 | .aD _,_=>rfl
 | .agg _,_=>rfl
 | .tuple _,_=>rfl
 | .dc _,_=>rfl
 | .eU _ _,_=>rfl
 | .fB _,_=>rfl
theorem H5 {x:Nat}:∀ds:abN,x∉j.dv ds->hW x ds=ds
 |[],_=>rfl
 |d::ds,h=>by
  simp only[j.dv,mem_append,not_or]at h;simp only[hW];rw[Cb d h.1,H5 ds h.2]
end
theorem wF {k:oZ} {x:Nat} {a:j} (h:k= .no\/x∉a.I):k.app x a=a:=by
 cases k with
 |no=>rfl
 |bV=>exact wE a (by simpa using h)
 |ch=>exact Cb a (by simpa using h)
mutual
theorem H6 (x y:Nat):∀a:j,bV x (bV y a)=bV y (bV x a)
 | .h z q=>by simp only[bV];by_cases R:z=x<;>by_cases U:z=y<;>by_cases aA:q=[]<;>simp[R,U,aA,bV]<;>(subst_vars;simp_all [bV])
 | .al z q=>by simp only[bV];by_cases R:z=x<;>by_cases U:z=y<;>simp[R,U,bV]<;>(subst_vars;simp_all [bV])
 | .J z q=>rfl
 | .fn f cap=>by simp only[bV];rw[H7 x y cap]
 | .hole=>rfl
 | .bool _=>rfl
 | .eF=>rfl
 | .int _ _=>rfl
 | .str _=>rfl
 | .c8=>rfl
 | .aJ=>rfl
 | .slice _=>rfl
 | .ad _ _=>rfl
 | .ref _=>rfl
 | .aD _=>rfl
 | .agg _=>rfl
 | .tuple _=>rfl
 | .dc _=>rfl
 | .eU _ _=>rfl
 | .fB _=>rfl
theorem H7 (x y:Nat):∀ds:abN,hv x (hv y ds)=hv y (hv x ds)
 |[]=>rfl
 |d::ds=>by simp only[hv];rw[H6 x y d,H7 x y ds]
end
mutual
theorem H8 (x y:Nat):∀a:j,ch x (ch y a)=ch y (ch x a)
 | .h z q=>by simp only[ch];by_cases R:z=x<;>by_cases U:z=y<;>simp[R,U,ch]<;>(subst_vars;simp_all [ch])
 | .al z q=>by simp only[ch];by_cases R:z=x<;>by_cases U:z=y<;>simp[R,U,ch]<;>(subst_vars;simp_all [ch])
 | .J z q=>by simp only[ch];by_cases R:z=x<;>by_cases U:z=y<;>simp[R,U,ch]<;>(subst_vars;simp_all [ch])
 | .fn f cap=>by simp only[ch];rw[H9 x y cap]
 | .hole=>rfl
 | .bool _=>rfl
 | .eF=>rfl
 | .int _ _=>rfl
 | .str _=>rfl
 | .c8=>rfl
 | .aJ=>rfl
 | .slice _=>rfl
 | .ad _ _=>rfl
 | .ref _=>rfl
 | .aD _=>rfl
 | .agg _=>rfl
 | .tuple _=>rfl
 | .dc _=>rfl
 | .eU _ _=>rfl
 | .fB _=>rfl
theorem H9 (x y:Nat):∀ds:abN,hW x (hW y ds)=hW y (hW x ds)
 |[]=>rfl
 |d::ds=>by simp only[hW];rw[H8 x y d,H9 x y ds]
end
mutual
theorem Cc (x y:Nat):∀a:j,bV x (ch y a)=ch y (bV x a)
 | .h z q=>by simp only[ch,bV];by_cases R:z=x<;>by_cases U:z=y<;>by_cases aA:q=[]<;>simp[R,U,aA,ch,bV]<;>(subst_vars;simp_all [ch,bV])
 | .al z q=>by simp only[ch,bV];by_cases R:z=x<;>by_cases U:z=y<;>simp[R,U,ch,bV]<;>(subst_vars;simp_all [ch,bV])
 | .J z q=>by simp only[ch,bV];by_cases U:z=y<;>simp[U,bV]
 | .fn f cap=>by simp only[ch,bV];rw[H_ x y cap]
 | .hole=>rfl
 | .bool _=>rfl
 | .eF=>rfl
 | .int _ _=>rfl
 | .str _=>rfl
 | .c8=>rfl
 | .aJ=>rfl
 | .slice _=>rfl
 | .ad _ _=>rfl
 | .ref _=>rfl
 | .aD _=>rfl
 | .agg _=>rfl
 | .tuple _=>rfl
 | .dc _=>rfl
 | .eU _ _=>rfl
 | .fB _=>rfl
theorem H_ (x y:Nat):∀ds:abN,hv x (hW y ds)=hW y (hv x ds)
 |[]=>rfl
 |d::ds=>by simp only[hW,hv];rw[Cc x y d,H_ x y ds]
end
theorem Pk (k l:oZ) (x y:Nat) (a:j):k.app x (l.app y a)=l.app y (k.app x a):=by
 cases k<;>cases l<;>simp only[oZ.app]<;>first|rfl|exact H6 .. |exact H8 .. |exact Cc .. |exact(Cc ..).symm
def aZ.use (s:ah):aZ->abI
 | .t n=>n::(s n).I
 | .c av=>av.I
 | .f _=>[]
def aZ.nT (s:ah):List aZ->abI
 |[]=>[]
 |x::xs=>x.use s++aZ.nT s xs
def Cd (s:ah):Option aZ->abI
 |none=>[]
 |some x=>x.use s
def use (s:ah):c9->abI
 | .fT x=>x.use s
 | .k1 x=>x.use s
 | .pick c a b=>c.use s++(a.use s++b.use s)
 | .kW _=>[]
 | .gK _ x=>x.use s
 | .gm _ ps=>aZ.nT s (ps.map (·.2))
 | .ef _ _ ps=>aZ.nT s (ps.map (·.2))
 | .e0 _ x=>x.use s
 | .gp _ x y=>x.use s++y.use s
 | .h1 x=>x.use s
 | .el _ _ x y=>x.use s++y.use s
 | .un _ x=>x.use s
 | .hJ _ _ x=>x.use s
 | .m6 _ cs=>aZ.nT s cs
 | .d_ _ l c=>l.use s++c.use s
 | .fl _ x dU aw=>x.use s++(Cd s dU++Cd s aw)
 | .hb _ x _=>x.use s
 | .iP _ x i=>x.use s++i.use s
 | .idx _ x i=>x.use s++i.use s
 | .ex x _=>x.use s
 | .kX _ x _=>x.use s
 | .call f args=>f.use s++aZ.nT s args
 | .len _ x=>x.use s
 | .app _ _ x y=>x.use s++y.use s
 | .shr bp=>use s bp
 | .iT f args us=>us.flatMap (λu=>u::(s u).I)++(f.use s++aZ.nT s args)
 | .kt _ x y u=>(u::(s u).I)++(x.use s++y.use s)
 | .h0 _ x=>x.use s
 | .ext x _=>x.use s
 | .wB=>[]
 | .m5 _ x i=>x.use s++i.use s
 | .lI _ x i v=>x.use s++(i.use s++v.use s)
 | .h_ _ _ x y=>x.use s++y.use s
 | .cap _ x=>x.use s
 | .oX _ x y=>x.use s++y.use s
 | .bad=>[]
def kc (s:ah):c9->abI
 | .k1 x=>(aX s x).I
 | .gK _ x=>(aX s x).I
 | .gm _ ps=>j.dv (ps.map λp=>aX s p.2)
 | .ef _ _ ps=>j.dv (ps.map λp=>aX s p.2)
 | .gp _ x y=>(aX s x).I++(aX s y).I
 | .kX _ x _=>(aX s x).I
 | .ext x _=>(aX s x).I
 | .lI _ x _ _=>(aX s x).I
 | .fl _ x _ _=>(aX s x).I
 | .app _ _ x y=>(aX s x).I++(aX s y).I
 | .shr bp=>kc s bp
 |_=>[]
def cP (bM:abI) (aq s:ah):Prop:=∀u∈bM,aq u=s u
theorem cP.left {bM V:abI} {aq s:ah} (h:cP (bM++V) aq s):cP bM aq s:=λu hu=>h u (mem_append_left _ hu)
theorem cP.right {bM V:abI} {aq s:ah} (h:cP (bM++V) aq s):cP V aq s:=λu hu=>h u (mem_append_right _ hu)
theorem cP.cU {bM:abI} {aq s:ah} (h:cP bM aq s) (ms:List fN):cP bM (cU ms aq) (cU ms s):=λu hu=>Pj (h u hu)
theorem cP.sub {bM V:abI} {aq s:ah} (h:cP bM aq s) (I:∀u∈V,u∈bM):cP V aq s:=λu hu=>h u (I u hu)
theorem aZ.r_ {s:ah} {x:aZ}:∀u∈(aX s x).I,u∈x.use s:=by
 intro u hu;cases x with
 |t n=>
  simp only[aX,mT]at hu;split at hu
  .simp[aZ.use,hu]
  .simp only[j.I,mem_singleton]at hu;simp[aZ.use,hu]
 |c av=>exact hu
 |f g=>simp[aX,j.I,j.dv]at hu
theorem aZ.eO {s aq:ah} {x:aZ} (h:cP (x.use s) aq s):aX aq x=aX s x:=by
 cases x with
 |t n=>simp only[aX];rw[h n (by simp[aZ.use])]
 |c av=>rfl
 |f g=>rfl
theorem cP.aX {s aq:ah} {x:aZ} (h:cP (x.use s) aq s):cP (aX s x).I aq s:=h.sub aZ.r_
theorem Ia {s aq:ah} {x:Option aZ} (h:cP (Cd s x) aq s):x.map (aX aq)=x.map (aX s):=by
 cases x with
 |none=>rfl
 |some x=>simp only[Option.map_some];rw[aZ.eO h]
theorem aZ.Ce {s aq:ah}:∀{xs:List aZ},cP (aZ.nT s xs) aq s->xs.map (aX aq)=xs.map (aX s)
 |[],_=>rfl
 |x::xs,h=>by
  simp only[map_cons];rw[aZ.eO (h.left),aZ.Ce (h.right)]
theorem aZ.Cf {s aq:ah}:∀{ps:List (Nat×aZ)},cP (aZ.nT s (ps.map (·.2))) aq s->(ps.map λp=>(p.1,aX aq p.2))=ps.map λp=>(p.1,aX s p.2)
 |[],_=>rfl
 |x::xs,h=>by
  simp only[map_cons]at h⊢;rw[aZ.eO (h.left),aZ.Cf (h.right)]
theorem aZ.y1 {s:ah}:∀{xs:List aZ},∀u∈j.dv (xs.map (aX s)),u∈aZ.nT s xs
 |[],u,h=>by simp[j.dv]at h
 |x::xs,u,h=>by
  simp only[map_cons,j.dv,mem_append]at h;simp only[aZ.nT,mem_append];exact h.imp (aZ.r_ u) (aZ.y1 u)
section
variable {C:bI} {s aq:ah} {x y i:j} {T A B:TypeId}
theorem Cg (h:cP x.I aq s):loc aq x=loc s x:=by
 cases x<;>first
  |rfl
  |(simp only[loc];rw[h _ (by simp[j.I])])
theorem Ch {z:Nat} {q:abI} (h:loc s x=some (z,q)):z∈x.I:=by
 cases x with
 |h y p=>
  simp only[loc]at h;split at h
  .simp only[Option.some.injEq,Prod.mk.injEq]at h;simp[j.I,h.1]
  .cases h
 |al y p=>
  simp only[loc]at h;split at h
  .simp only[Option.some.injEq,Prod.mk.injEq]at h;simp[j.I,h.1]
  .cases h
 |_=>simp[loc]at h
theorem Pl (h:cP x.I aq s):e0 C aq T x=e0 C s T x:=by
 have hl:=Cg h;unfold e0;split
 .rfl
 .rw[h _ (by simp[j.I])]
 .rw[hl];split
  .rename_i e;rw[h _ (Ch e)]
  .rfl
theorem Pm {k:Nat} (h:cP x.I aq s):hb C aq T x k=hb C s T x k:=by
 have hl:=Cg h;unfold hb;split
 .split
  .split
   .split
    .rfl
    .rw[h _ (by simp[j.I])]
    .rw[hl];split
     .rename_i e;rw[h _ (Ch e)]
     .rfl
   .rfl
  .rfl
 .rfl
theorem Pn (h:cP x.I aq s):iP C aq T x i=iP C s T x i:=by
 cases x<;>first
  |rfl
  |(simp only[iP];rw[h _ (by simp[j.I])])
theorem Po (h:cP x.I aq s):pY C aq T x=pY C s T x:=by
 unfold pY;cases(C.T T).k<;>cases x<;>first
  |rfl
  |(simp only;rw[h _ (by simp[j.I])])
theorem Pp (h:cP x.I aq s):hJ C aq A B x=hJ C s A B x:=by
 unfold hJ;cases(C.T B).k<;>cases x<;>first
  |rfl
  |(simp only;rw[h _ (by simp[j.I])])
theorem Pq (h:cP x.I aq s):iB aq x=iB s x:=by
 cases x<;>first
  |rfl
  |(simp only[iB];rw[h _ (by simp[j.I])])
theorem Pr (h:cP x.I aq s):j_ aq x=j_ s x:=by
 cases x<;>first
  |rfl
  |(simp only[j_];rw[h _ (by simp[j.I])])
theorem Ps {op:BinOp} (h:cP x.I aq s):el C aq op T x y=el C s op T x y:=by
 have R:=Pq h;have U:=Pr h;unfold el;split<;>first|rfl|simp only[R,U]
theorem Pt (h:cP x.I aq s):h1 aq x=h1 s x:=by
 cases x<;>first
  |rfl
  |(simp only[h1];rw[h _ (by simp[j.I])])
theorem Pu {k y:Nat} {q:abI} (h:kX C s T x k=some (.h y q)):x.I=[y]:=by
 unfold kX at h;split at h<;>try (cases h;done)
 split at h<;>try (cases h;done)
 split at h
 .split at h<;>try (cases h;done)
  split at h
  .rename_i aj;simp only[Option.some.injEq]at h;rw[h]at aj;exact absurd aj.2.2.2 (by simp[j.tree])
  .cases h
 .split at h<;>try (cases h;done)
  split at h<;>try (cases h;done)
  split at h<;>try (cases h;done)
  rename_i d ae aj;by_cases al:d.plain=true
  .simp only[al,if_true,Option.some.injEq]at h;rw[h]at aj;exact absurd aj.2.2.2 (by simp[j.tree])
  .simp only[al,Option.some.injEq]at h;injection h with R U;subst R;rfl
 .cases h
theorem Ib {k:Nat} (h:cP x.I aq s):kX C aq T x k=kX C s T x k:=by
 unfold kX;split<;>try rfl
 split<;>try rfl
 cases x<;>first
  |rfl
  |(simp only[];rw[h _ (by simp[j.I])])
theorem Ic {k:Nat} (h:cP x.I aq s):ex aq x k=ex s x k:=by
 cases x<;>first
  |rfl
  |(simp only[ex];rw[h _ (by simp[j.I])])
theorem tV:∀(q:abI) (a d e:j),j.sub q a=some d->(d.plain=false\/q≠[])->(q=[]->e.I=[])->(j.put q e a).I=[]:=by
 intro q a d e h al he;cases q with
 |nil=>rw[j.put];exact he rfl
 |cons k q=>
  cases a<;>first
   |(simp[j.sub]at h;done)
   |skip
  all_goals
   unfold j.put
   repeat' split
   all_goals first|rfl|(simp_all;done)
end
def Loc {α:Type} (bM sa:abI) (f:ah->Option (α×ah)) (s:ah) (av:α) (s1:ah):Prop:=
 ∃ms,s1=cU ms s/\(∀m∈ms,m.x∈sa/\m.d.I=[])/\∀aq,cP bM aq s->f aq=some (av,cU ms aq)
theorem Loc.pure {α:Type} {bM sa:abI} {f:ah->Option (α×ah)} {s:ah} {av:α} (h:∀aq,cP bM aq s->f aq=some (av,aq)):Loc bM sa f s av s:=
 ⟨[],rfl,by simp,λaq I=>h aq I⟩
theorem Loc.mono {α:Type} {bM sa y2 Ie:abI} {f:ah->Option (α×ah)} {s s1:ah} {av:α} (h:Loc bM sa f s av s1) (oW:∀u∈bM,u∈y2) (fg:∀u∈sa,u∈Ie):Loc y2 Ie f s av s1:=by
 obtain⟨ms,R,U,aA⟩:=h;exact⟨ms,R,λm hm=>⟨fg _ (U m hm).1,(U m hm).2⟩,λaq I=>aA aq (I.sub oW)⟩
section
variable {C:bI} {s s1:ah} {x y d:j} {T A B:TypeId}
theorem p4 (h:cg s x=some (d,s1)):Loc x.I x.I (λs=>cg s x) s d s1:=by
 cases x with
 |h y q=>
  simp only[cg]at h;split at h
  .rename_i e he;split at h
   .cases h
   .rename_i al;simp only[Option.some.injEq,Prod.mk.injEq]at h;obtain⟨rfl,rfl⟩:=h;have al:e.plain=false:=by simpa using al
    refine⟨[⟨.bV,y,j.put q e.cf (s y)⟩],r9 _ _ _,?_,?_⟩
    .intro m hm;simp only[mem_singleton]at hm;subst hm;refine⟨by simp[j.I],tV q _ _ _ he (.inl al) λcp=>?_⟩;subst cp;cases e<;>first|(simp[j.plain]at al;done)|rfl
    .intro aq I;have aK:aq y=s y:=I y (by simp[j.I]);simp only[cg,aK,he,al];rw[<-r9];rfl
  .cases h
 |al y q=>simp[cg]at h
 |J y q=>simp[cg]at h
 |fn f c=>simp[cg]at h
 |hole=>simp[cg]at h
 |_=>
  simp only[cg,Option.some.injEq,Prod.mk.injEq]at h;obtain⟨rfl,rfl⟩:=h;exact .pure λaq _=>rfl
mutual
theorem Ig (x:Nat):∀a:j,∀u∈(bV x a).I,u∈a.I
 | .h y q,u,h=>by
   simp only[bV]at h;split at h
   .split at h
    .exact h
    .simp[j.I]at h
   .exact h
 | .al y q,u,h=>by
   simp only[bV]at h;split at h
   .simp[j.I]at h
   .exact h
 | .J y q,u,h=>h
 | .fn f cap,u,h=>by simp only[bV,j.I]at h⊢;exact Ih x cap u h
 | .hole,u,h=>h
 | .bool _,u,h=>h
 | .eF,u,h=>h
 | .int _ _,u,h=>h
 | .str _,u,h=>h
 | .c8,u,h=>h
 | .aJ,u,h=>h
 | .slice _,u,h=>h
 | .ad _ _,u,h=>h
 | .ref _,u,h=>h
 | .aD _,u,h=>h
 | .agg _,u,h=>h
 | .tuple _,u,h=>h
theorem Ih (x:Nat):∀ds:abN,∀u∈j.dv (hv x ds),u∈j.dv ds
 |[],u,h=>h
 |d::ds,u,h=>by
  simp only[hv,j.dv,mem_append]at h⊢;exact h.imp (Ig x d u) (Ih x ds u)
end
theorem Ci (o:Option Nat) (a:j):∀u∈(jl o a).I,u∈a.I:=by
 intro u h;cases o with
 |none=>exact h
 |some x=>exact Ig x a u h
theorem Ii:∀(os:List (Option Nat)) (a:j),∀u∈(jT os a).I,u∈a.I:=by
 intro os;induction os with
 |nil=>intro a u h;exact h
 |cons o os ih=>intro a u h;exact Ci o a u (ih (jl o a) u h)
theorem Ij {place:Nat->Option (Nat×Nat)}:∀{ps:abM} {s s1:ah} {zs ds:abN} {os:List (Option Nat)},ja place s zs os ps=some (ds,s1)->
  Loc (j.dv (ps.map (·.2))) (j.dv (ps.map (·.2))) (λs=>ja place s zs os ps) s ds s1:=by
 intro ps;induction ps with
 |nil=>
  intro s s1 zs ds os h;simp only[ja,Option.some.injEq,Prod.mk.injEq]at h;obtain⟨rfl,rfl⟩:=h;exact .pure λaq _=>rfl
 |cons p ps ih=>
  intro s s1 zs ds os h;obtain⟨k,a⟩:=p;simp only[ja]at h;split at h
  .rename_i d s2 off n z aL f_ bA;split at h
   .cases h
   .rename_i bb lK;split at h
    .rename_i aj;obtain⟨nU,rfl,U,aA⟩:=p4 aL;obtain⟨qK,rfl,bt,b5⟩:=ih h;refine⟨nU++qK,(ku _ _ _).symm,?_,?_⟩
     .intro m hm;simp only[map_cons,j.dv,mem_append]at hm⊢;rcases hm with hm|hm
      .exact⟨.inl (Ii _ _ _ (U m hm).1),(U m hm).2⟩
      .exact⟨.inr (bt m hm).1,(bt m hm).2⟩
     .intro aq I;simp only[map_cons,j.dv]at I;have aK:=aA aq (I.left.sub (Ii _ _));have aV:=b5 (cU nU aq) (I.right.cU nU);simp only at aK aV;simp only[ja,aK,f_,bA,ku];rw[if_pos aj];exact aV
    .cases h
  .cases h
theorem Pv {ps:abM} {av:j} (h:gm C s T ps=some (av,s1)):Loc (j.dv (ps.map (·.2))) (j.dv (ps.map (·.2))) (λs=>gm C s T ps) s av s1:=by
 unfold gm at h;split at h
 .rename_i ar zs ak bA;split at h
  .rename_i aj;split at h
   .rename_i ds s2 a6;simp only[Option.some.injEq,Prod.mk.injEq]at h;obtain⟨rfl,rfl⟩:=h;obtain⟨ms,R,U,aA⟩:=Ij a6;refine⟨ms,R,U,λaq I=>?_⟩;have:=aA aq I;simp only at this;simp only[gm,ak,bA,if_pos aj,this]
   .cases h
  .cases h
 .cases h
theorem Pw {n:Nat} {ps:abM} {av:j} (h:ef C s T n ps=some (av,s1)):Loc (j.dv (ps.map (·.2))) (j.dv (ps.map (·.2))) (λs=>ef C s T n ps) s av s1:=by
 unfold ef at h;split at h
 .rename_i e ak;split at h
  .rename_i aj;split at h
   .rename_i ds s2 a6;simp only[Option.some.injEq,Prod.mk.injEq]at h;obtain⟨rfl,rfl⟩:=h;obtain⟨ms,R,U,aA⟩:=Ij a6;refine⟨ms,R,U,λaq I=>?_⟩;have:=aA aq I;simp only at this;simp only[ef,ak,if_pos aj,this]
   .cases h
  .cases h
 .cases h
theorem Px {av:j} (h:gK s x=some (av,s1)):Loc x.I x.I (λs=>gK s x) s av s1:=by
 unfold gK at h;split at h
 .cases h
 .rename_i d s2 lK aL;simp only[Option.some.injEq,Prod.mk.injEq]at h;obtain⟨rfl,rfl⟩:=h;obtain⟨ms,R,U,aA⟩:=p4 aL;refine⟨ms,R,U,λaq I=>?_⟩;have:=aA aq I;simp only at this;simp only[gK,this]
 .cases h
theorem Py {av:j} (h:h0 s x=some (av,s1)):Loc x.I [] (λs=>h0 s x) s av s1:=by
 unfold h0 at h;split at h
 .rename_i y q;split at h
  .rename_i BG;simp only[Option.some.injEq,Prod.mk.injEq]at h;obtain⟨rfl,rfl⟩:=h;refine .pure λaq I=>?_;have e:aq y=s y:=I y (by simp[j.I]);simp only[h0,e,if_pos BG]
  .cases h
 .split at h
  .rename_i aj;simp only[Option.some.injEq,Prod.mk.injEq]at h;obtain⟨rfl,rfl⟩:=h;exact .pure λaq I=>by simp only[h0,aj,if_true]
  .cases h
 .cases h
theorem Ik {s2:ah} (h:gp C s T x y=some s2):Loc (x.I++y.I) (x.I++y.I) (λs=>(gp C s T x y).map λs1=>(j.hole,s1)) s .hole s2:=by
 unfold gp at h;split at h
 .rename_i d s1 z q aL hl;obtain⟨ms,R,U,aA⟩:=p4 aL;have bA:=Ch hl;have cp:q≠[]:=by
   cases x with
   |h y p=>
    simp only[loc]at hl;split at hl
    .simp only[Option.some.injEq,Prod.mk.injEq]at hl;simp[<-hl.2]
    .cases hl
   |al y p=>
    simp only[loc]at hl;split at hl
    .rename_i i5;simp only[Option.some.injEq,Prod.mk.injEq]at hl;obtain⟨rfl,rfl⟩:=hl;intro e;subst e;simp[j.dG]at i5
    .cases hl
   |_=>simp[loc]at hl
  split at h
  .cases h
  .rename_i bb lK;split at h
   .rename_i d0 hc;split at h
    .rename_i aj;simp only[Option.some.injEq]at h;subst h;refine⟨ms++[⟨.bV,z,j.put q d (s z)⟩],?_,?_,?_⟩
     .rw[ku,<-R,r9]
     .intro m hm;simp only[mem_append,mem_singleton]at hm⊢;rcases hm with hm|rfl
      .exact⟨.inr (U m hm).1,(U m hm).2⟩
      .exact⟨.inl bA,tV q _ _ _ hc (.inr cp) λe=>(cp e).elim⟩
     .intro aq I;have aK:=aA aq I.right;simp only at aK;simp only[gp,aK,Cg I.left,hl,I.left z bA,hc];cases d<;>first|(simp only[if_pos aj,Option.map_some,ku,r9];done)|exact(lK _ rfl).elim
    .cases h
   .cases h
 .cases h
theorem Pz {dU aw:Option j} {av:j} (h:fl C s T x dU aw=some (av,s1)):Loc x.I x.I (λs=>fl C s T x dU aw) s av s1:=by
 cases x with
 |h y q=>
  unfold fl at h;split at h<;>first|(cases h;done)|skip
  all_goals (rename_i ag;try cases ag)
  rename_i e ak;split at h
  .rename_i sz xs eH;split at h
   .rename_i b m0 m1;split at h
    .rename_i aj;split at h
     .rename_i d s2 aL;simp only[Option.some.injEq,Prod.mk.injEq]at h;obtain⟨rfl,rfl⟩:=h;obtain⟨ms,R,U,aA⟩:=p4 aL;refine⟨ms,R,U,λaq I=>?_⟩;have:=aA aq I;simp only at this;have aK:aq y=s y:=I y (by simp[j.I]);simp only[fl,ak,aK,eH,m0,m1,if_pos aj,this]
     .cases h
    .cases h
   .cases h
  .cases h
 |_=>
  have p5:s1=s:=by
   unfold fl at h
   repeat' split at h
   all_goals first|(cases h;done)|(simp only[Option.some.injEq,Prod.mk.injEq]at h;exact h.2.symm)|simp_all
  subst p5;refine .pure λaq _=>?_;unfold fl at h⊢
  repeat' split at h
  all_goals first
   |(cases h;done)
   |(simp only[Option.some.injEq,Prod.mk.injEq]at h
     obtain⟨rfl,_⟩:=h;simp_all)
def o0 (C:bI) (e:TypeId) (s:ah):j->Option (j×ah)
 | .aJ=>some (j.ad (C.T e).sz [],s)
 | .h a q=>cg s (.h a q)
 |_=>none
def kd (s1:ah):j->Option (abN×ah)
 | .aJ=>some ([],s1)
 | .slice bO=>some (bO,s1)
 | .str l=>some (l.map jR,s1)
 | .h a q=>match cg s1 (.h a q)with
   |some (.ad _ bO,s2)=>some (bO,s2)
   |_=>none
 |_=>none
theorem Cj (C:bI) (s:ah) (T bM:TypeId) (x y:j):p1 C s T bM x y=(match(C.T T).k with
 | .slice e=>if(C.T e).ok=true/\(C.T e).zero.wd=(C.T e).sz/\(flat (C.T e).zero).isSome=true/\yQ C e bM=true then
   match o0 C e s x with
   |some (.ad sz xs,s1)=>if sz=(C.T e).sz then
     match kd s1 (jl x.owner y)with
     |some (bO,s2)=>if(∀d∈bO,d.wd=(C.T e).sz)/\(xs.length+bO.length)*(C.T e).bytes<=140737488355328/\xs.length+bO.length<=9223372036854775807 then some (.ad sz (xs++bO),s2)else none
     |none=>none
    else none
   |_=>none
   else none
 |_=>none):=by
 unfold p1;generalize jl x.owner y=iy;cases(C.T T).k<;>first
  |rfl
  |(cases x<;>cases iy<;>rfl)
theorem PA {e:TypeId} {d:j} (R:o0 C e s x=some (d,s1)):Loc x.I x.I (λs=>o0 C e s x) s d s1:=by
 cases x with
 |aJ=>
  simp only[o0,Option.some.injEq,Prod.mk.injEq]at R;obtain⟨R,rfl⟩:=R;exact .pure λaq _=>by simp only[o0,R]
 |h a q=>exact p4 R
 |_=>simp[o0]at R
theorem PB {bO:abN} (U:kd s y=some (bO,s1)):Loc y.I y.I (λs=>kd s y) s bO s1:=by
 cases y with
 |aJ=>
  simp only[kd,Option.some.injEq,Prod.mk.injEq]at U;obtain⟨rfl,rfl⟩:=U;exact .pure λaq _=>rfl
 |slice bO=>
  simp only[kd,Option.some.injEq,Prod.mk.injEq]at U;obtain⟨rfl,rfl⟩:=U;exact .pure λaq _=>rfl
 |str l=>
  simp only[kd,Option.some.injEq,Prod.mk.injEq]at U;obtain⟨rfl,rfl⟩:=U;exact .pure λaq _=>rfl
 |h a q=>
  simp only[kd]at U;split at U
  .rename_i ON aaB kv aL;simp only[Option.some.injEq,Prod.mk.injEq]at U;obtain⟨rfl,rfl⟩:=U;obtain⟨ms,aQ,a2,bQ⟩:=p4 aL;refine⟨ms,aQ,a2,λaq I=>?_⟩;have:=bQ aq I;simp only at this;simp only[kd,this]
  .cases U
 |_=>simp[kd]at U
theorem PC {av:j} (h:p1 C s T A x y=some (av,s1)):Loc (x.I++y.I) (x.I++y.I) (λs=>p1 C s T A x y) s av s1:=by
 rw[Cj]at h;split at h
 .rename_i e ak;split at h
  .rename_i aj;split at h
   .rename_i sz xs s2 R;split at h
    .rename_i cT;split at h
     .rename_i bO hM U;split at h
      .rename_i rP;simp only[Option.some.injEq,Prod.mk.injEq]at h;obtain⟨rfl,rfl⟩:=h;obtain⟨nU,rfl,bF,a3⟩:=PA R;obtain⟨qK,rfl,gz,i9⟩:=(PB U).mono (Ci _ _) (Ci _ _);refine⟨nU++qK,(ku _ _ _).symm,?_,?_⟩
       .intro m hm;simp only[mem_append]at hm⊢;rcases hm with hm|hm
        .exact⟨.inl (bF m hm).1,(bF m hm).2⟩
        .exact⟨.inr (gz m hm).1,(gz m hm).2⟩
       .intro aq I;have aK:=a3 aq I.left;have aV:=i9 (cU nU aq) (I.right.cU nU);simp only at aK aV;simp only[Cj,ak,if_pos aj,aK,if_pos cT,aV,if_pos rP,ku]
      .cases h
     .cases h
    .cases h
   .cases h
  .cases h
 .cases h
theorem PD {aq:ah} {i:j} (h:cP x.I aq s):m5 C aq T x i=m5 C s T x i:=by
 cases x with
 |h y q=>cases i<;>simp only[m5,h y (by simp[j.I])]
 |_=>rfl
theorem PE {i v:j} {s2:ah} (h:lI C s T x i v=some s2):Loc x.I x.I (λs=>(lI C s T x i v).map λs1=>(j.hole,s1)) s .hole s2:=by
 unfold lI at h;split at h
 .rename_i y q k b;split at h
  .rename_i m ae;split at h
   .rename_i fg;simp only[Option.some.injEq]at h;subst h;refine⟨[⟨.bV,y,j.put q (.dc (.mp (oL k b m))) (s y)⟩],r9 _ _ _,?_,λaq I=>?_⟩
    .intro n a7;simp only[mem_singleton]at a7;subst a7;exact⟨by simp[j.I],tV q _ _ _ ae (.inl rfl) λ_=>rfl⟩
    .have aK:aq y=s y:=I y (by simp[j.I]);simp only[lI,aK,ae,fg,if_true,Option.map_some];rw[<-r9]
   .cases h
  .cases h
 .cases h
theorem Il {bp:c9} {av:j} (h:bE C s bp=some (av,s1)):Loc (use s bp) (kc s bp) (λs=>bE C s bp) s av s1:=by
 cases bp with
 |shr bp=>simp[bE]at h
 |iT f args L=>simp[bE]at h
 |kt T x y u=>simp[bE]at h
 |h0 T x=>
  obtain⟨ms,R,U,aA⟩:=Py h;refine⟨ms,R,U,λaq I=>?_⟩;simp only[bE,aZ.eO (x:=x) I];exact aA aq (cP.aX I)
 |h_ T bM x y=>
  simp only[bE,Option.map_eq_some_iff,Prod.mk.injEq]at h;obtain⟨d,ae,rfl,rfl⟩:=h;exact .pure λaq I=>by
   simp only[use]at I;simp only[bE,aZ.eO (x:=x) I.left,aZ.eO (x:=y) I.right,ae,Option.map_some]
 |bad=>simp[bE]at h
 |oX gJ x y=>
  simp only[bE,Option.map_eq_some_iff,Prod.mk.injEq]at h;obtain⟨d,ae,rfl,rfl⟩:=h;exact .pure λaq I=>by
   simp only[use]at I;simp only[bE,aZ.eO (x:=x) I.left,aZ.eO (x:=y) I.right,ae,Option.map_some]
 |cap T x=>
  simp only[bE]at h;split at h
  .rename_i e ak ag;simp only[Option.some.injEq,Prod.mk.injEq]at h;obtain⟨rfl,rfl⟩:=h;exact .pure λaq I=>by simp only[bE,aZ.eO (x:=x) I,ak,ag]
  .cases h
 |fT x=>
  simp only[bE,Option.some.injEq,Prod.mk.injEq]at h;obtain⟨rfl,rfl⟩:=h;exact .pure λaq I=>by simp only[bE,aZ.eO (x:=x) I]
 |k1 x=>
  simp only[bE]at h;split at h
  .rename_i y q ag;obtain⟨ms,R,U,aA⟩:=p4 h;refine⟨ms,R,by simpa only[kc,ag]using U,λaq I=>?_⟩;have e:=aZ.eO (x:=x) I;have aV:=aA aq (by rw[<-ag];exact cP.aX I);simp only[bE,e,ag];exact aV
  .rename_i PF;simp only[Option.some.injEq,Prod.mk.injEq]at h;obtain⟨rfl,rfl⟩:=h;refine .pure λaq I=>?_;have e:=aZ.eO (x:=x) I;simp only[bE,e]
 |pick c a b=>
  simp only[bE]at h;split at h
  .rename_i eI J;simp only[Option.some.injEq,Prod.mk.injEq]at h;obtain⟨rfl,rfl⟩:=h;refine .pure λaq I=>?_;simp only[use]at I;simp only[bE,aZ.eO (x:=c) I.left,aZ.eO (x:=a) I.right.left,aZ.eO (x:=b) I.right.right,J]
  .cases h
 |kW T=>
  simp only[bE,Option.map_eq_some_iff,Prod.mk.injEq]at h;obtain⟨d,ae,rfl,rfl⟩:=h;exact .pure λaq I=>by simp only[bE,ae,Option.map_some]
 |gK T x=>
  obtain⟨ms,R,U,aA⟩:=Px h;refine⟨ms,R,U,λaq I=>?_⟩;simp only[bE,aZ.eO (x:=x) I];exact aA aq (cP.aX I)
 |gm T ps=>
  obtain⟨ms,R,U,aA⟩:=Pv h;simp only[List.map_map,Function.comp_def]at U aA;refine⟨ms,R,U,λaq I=>?_⟩;simp only[bE,aZ.Cf (ps:=ps) I];refine aA aq (I.sub λu hu=>?_);simp only[use];exact aZ.y1 u (by simpa [List.map_map,Function.comp_def]using hu)
 |ef T n ps=>
  obtain⟨ms,R,U,aA⟩:=Pw h;simp only[List.map_map,Function.comp_def]at U aA;refine⟨ms,R,U,λaq I=>?_⟩;simp only[bE,aZ.Cf (ps:=ps) I];refine aA aq (I.sub λu hu=>?_);simp only[use];exact aZ.y1 u (by simpa [List.map_map,Function.comp_def]using hu)
 |e0 T x=>
  simp only[bE,Option.map_eq_some_iff,Prod.mk.injEq]at h;obtain⟨d,ae,rfl,rfl⟩:=h;exact .pure λaq I=>by simp only[bE,aZ.eO (x:=x) I,Pl (cP.aX I),ae,Option.map_some]
 |gp T x y=>
  simp only[bE,Option.map_eq_some_iff,Prod.mk.injEq]at h;obtain⟨s2,ae,rfl,rfl⟩:=h;obtain⟨ms,R,U,aA⟩:=Ik ae;refine⟨ms,R,U,λaq I=>?_⟩;simp only[use]at I;simp only[bE,aZ.eO (x:=x) I.left,aZ.eO (x:=y) I.right];exact aA aq (I.sub λu hu=>by simp only[mem_append]at hu⊢;exact hu.imp (aZ.r_ u) (aZ.r_ u))
 |h1 x=>
  simp only[bE,Option.map_eq_some_iff,Prod.mk.injEq]at h;obtain⟨d,ae,rfl,rfl⟩:=h;exact .pure λaq I=>by simp only[bE,aZ.eO (x:=x) I,Pt (cP.aX I),ae,Option.map_some]
 |el op T x y=>
  simp only[bE,Option.map_eq_some_iff,Prod.mk.injEq]at h;obtain⟨d,ae,rfl,rfl⟩:=h;refine .pure λaq I=>?_;simp only[use]at I;simp only[bE,aZ.eO (x:=x) I.left,aZ.eO (x:=y) I.right,Ps (cP.aX I.left),ae,Option.map_some]
 |un op x=>
  simp only[bE,Option.map_eq_some_iff,Prod.mk.injEq]at h;obtain⟨d,ae,rfl,rfl⟩:=h;exact .pure λaq I=>by simp only[bE,aZ.eO (x:=x) I,ae,Option.map_some]
 |hJ A B x=>
  simp only[bE,Option.map_eq_some_iff,Prod.mk.injEq]at h;obtain⟨d,ae,rfl,rfl⟩:=h;exact .pure λaq I=>by simp only[bE,aZ.eO (x:=x) I,Pp (cP.aX I),ae,Option.map_some]
 |m6 f cs=>
  simp only[bE,Option.some.injEq,Prod.mk.injEq]at h;obtain⟨rfl,rfl⟩:=h;exact .pure λaq I=>by simp only[bE,aZ.Ce (xs:=cs) I]
 |d_ T l c=>
  simp only[bE,Option.map_eq_some_iff,Prod.mk.injEq]at h;obtain⟨d,ae,rfl,rfl⟩:=h;refine .pure λaq I=>?_;simp only[use]at I;simp only[bE,aZ.eO (x:=l) I.left,aZ.eO (x:=c) I.right,ae,Option.map_some]
 |fl T x dU aw=>
  simp only[bE]at h;obtain⟨ms,R,U,aA⟩:=Pz h;refine⟨ms,R,U,λaq I=>?_⟩;simp only[use]at I;simp only[bE,aZ.eO (x:=x) I.left,Ia I.right.left,Ia I.right.right];exact aA aq (cP.aX I.left)
 |hb T x k=>
  simp only[bE,Option.map_eq_some_iff,Prod.mk.injEq]at h;obtain⟨d,ae,rfl,rfl⟩:=h;exact .pure λaq I=>by simp only[bE,aZ.eO (x:=x) I,Pm (cP.aX I),ae,Option.map_some]
 |iP T x i=>
  simp only[bE,Option.map_eq_some_iff,Prod.mk.injEq]at h;obtain⟨d,ae,rfl,rfl⟩:=h;refine .pure λaq I=>?_;simp only[use]at I;simp only[bE,aZ.eO (x:=x) I.left,aZ.eO (x:=i) I.right,Pn (cP.aX I.left),ae,Option.map_some]
 |idx T x i=>
  simp only[bE,Option.map_eq_some_iff,Prod.mk.injEq]at h;obtain⟨d,ae,rfl,rfl⟩:=h;refine .pure λaq I=>?_;simp only[use]at I;simp only[bE,aZ.eO (x:=x) I.left,aZ.eO (x:=i) I.right,ae,Option.map_some]
 |ext x k=>
  simp only[bE]at h;obtain⟨y,q,p,R,U,aA⟩:=HW h;obtain⟨ms,aQ,a2,bQ⟩:=p4 aA;refine⟨ms,aQ,by simpa only[kc,R,j.I]using a2,λaq I=>?_⟩;have b8:cP (aX s x).I aq s:=cP.aX I;have aK:ex aq (aX s x) k=some (.h y p):=(Ic b8).trans U;have aV:=bQ aq (λv ay=>b8 v (by rw[R];exact ay));simp only[bE,aZ.eO (x:=x) I];unfold qM;rw[aK,R];simp only[if_true];exact aV
 |ex x k=>
  simp only[bE,Option.map_eq_some_iff,Prod.mk.injEq]at h;obtain⟨d,ae,rfl,rfl⟩:=h;exact .pure λaq I=>by simp only[bE,aZ.eO (x:=x) I,Ic (cP.aX I),ae,Option.map_some]
 |wB=>
  simp only[bE,Option.some.injEq,Prod.mk.injEq]at h;obtain⟨rfl,rfl⟩:=h;exact .pure λaq I=>rfl
 |m5 T x i=>
  simp only[bE,Option.map_eq_some_iff,Prod.mk.injEq]at h;obtain⟨d,ae,rfl,rfl⟩:=h;refine .pure λaq I=>?_;simp only[use]at I;simp only[bE,aZ.eO (x:=x) I.left,aZ.eO (x:=i) I.right,PD (cP.aX I.left),ae,Option.map_some]
 |lI T x i v=>
  simp only[bE,Option.map_eq_some_iff,Prod.mk.injEq]at h;obtain⟨s2,ae,rfl,rfl⟩:=h;obtain⟨ms,R,U,aA⟩:=PE ae;refine⟨ms,R,U,λaq I=>?_⟩;simp only[use]at I;simp only[bE,aZ.eO (x:=x) I.left,aZ.eO (x:=i) I.right.left,aZ.eO (x:=v) I.right.right];exact aA aq (cP.aX I.left)
 |kX T x k=>
  simp only[bE,Option.bind_eq_some_iff]at h;obtain⟨d,ae,h⟩:=h;unfold wD at h;split at h
  .rename_i y q;have ag:=Pu ae;obtain⟨ms,R,U,aA⟩:=p4 h;refine⟨ms,R,by simpa only[kc,ag,j.I]using U,λaq I=>?_⟩;have aV:=aA aq (by rw[show(j.h y q).I=(aX s x).I from ag.symm];exact cP.aX I);simp only[bE,aZ.eO (x:=x) I,Ib (cP.aX I),ae,Option.bind_some,wD];exact aV
  .rename_i PF;simp only[Option.some.injEq,Prod.mk.injEq]at h;obtain⟨rfl,rfl⟩:=h;refine .pure λaq I=>?_;simp only[bE,aZ.eO (x:=x) I,Ib (cP.aX I),ae,Option.bind_some,wD]
 |call f args=>simp[bE]at h
 |len T x=>
  simp only[bE,Option.map_eq_some_iff,Prod.mk.injEq]at h;obtain⟨d,ae,rfl,rfl⟩:=h;exact .pure λaq I=>by simp only[bE,aZ.eO (x:=x) I,Po (cP.aX I),ae,Option.map_some]
 |app T bM x y=>
  obtain⟨ms,R,U,aA⟩:=PC h;refine⟨ms,R,U,λaq I=>?_⟩;simp only[use]at I;simp only[bE,aZ.eO (x:=x) I.left,aZ.eO (x:=y) I.right];exact aA aq (I.sub λu hu=>by simp only[mem_append]at hu⊢;exact hu.imp (aZ.r_ u) (aZ.r_ u))
end
mutual
def view (s:ah):j->Option j
 | .h x q=>match j.sub q (s x)with
   |some d=>(match d with| .tuple _=>none| .dc _=>none| .eU _ _=>none| .fB _=>none|d=>if d.plain then none else some d.share)
   |none=>none
 | .al x q=>if j.dG q (s x)then(match j.sub q (s x)with
   |some d=>(match d with| .tuple _=>none|d=>some (.ref d.share))
   |none=>none)else none
 | .J _ _=>none
 | .fn f cap=>(views s cap).map (.fn f)
 | .hole=>none
 |d=>some d
def views (s:ah):abN->Option abN
 |[]=>some []
 |d::ds=>match view s d,views s ds with
  |some a,some b=>some (a::b)
  |_,_=>none
end
mutual
theorem Ck:∀d:j,d.share.plain=true
 | .hole=>rfl
 | .bool _=>rfl
 | .eF=>rfl
 | .int _ _=>rfl
 | .str _=>rfl
 | .c8=>rfl
 | .aJ=>rfl
 | .slice _=>rfl
 | .ad _ _=>rfl
 | .ref _=>rfl
 | .aD _=>rfl
 | .agg ar=>by simp only[j.share,j.plain];exact Cl ar
 | .tuple ar=>by simp only[j.share,j.plain];exact Cl ar
 | .fn _ _=>rfl
 | .h _ _=>rfl
 | .al _ _=>rfl
 | .J _ _=>rfl
 | .dc _=>rfl
 | .eU _ _=>rfl
 | .fB _=>rfl
theorem Cl:∀ds:abN,j.dF (j.shares ds)=true
 |[]=>rfl
 |d::ds=>by simp only[j.shares,j.dF];rw[Ck d,Cl ds];rfl
end
theorem PG {s:ah} {a d:j} (h:a.plain=true) (he:view s a=some d):d.plain=true:=by
 cases a with
 |h x q=>
  simp only[view]at he;split at he
  .rename_i e eH;cases e<;>simp only at he<;>first
    |(cases he;done)
    |(split at he
      .cases he
      .simp only[Option.some.injEq]at he;subst he;exact Ck _)
  .cases he
 |al x q=>
  simp only[view]at he;split at he
  .split at he
   .rename_i e eH;cases e<;>simp only at he<;>first
     |(cases he;done)
     |(simp only[Option.some.injEq]at he;subst he;rfl)
   .cases he
  .cases he
 |fn f cap=>
  simp only[view,Option.map_eq_some_iff]at he;obtain⟨ds,_,rfl⟩:=he;rfl
 |hole=>simp[view]at he
 |J y q=>simp[view]at he
 |_=>simp only[view,Option.some.injEq]at he;subst he;exact h
theorem Cm {d:j} {v:Value} (R:∀vs,d≠.tuple vs) (h:c0 d v):c0 d.share v:=by
 cases d<;>first|exact h|exact(R _ rfl).elim
theorem Cn (w:World):∀(q:abI) (av d bb:j) (cs b0:abL) (a b3:Option (Nat×Nat)),j.sub q av=some d->bb.wd=d.wd->cb w q av cs a=some (d,b0,b3)->
  cb w q (j.put q bb av) cs a=some (bb,b0,b3):=by
 intro q;induction q with
 |nil=>
  intro av d bb cs b0 a b3 ae hw h;simp only[cb,Option.some.injEq,Prod.mk.injEq]at h;obtain⟨rfl,rfl,rfl⟩:=h;simp only[j.put,cb]
 |cons k q ih=>
  intro av d bb cs b0 a b3 ae hw h;cases av with
  |agg ar=>
   simp only[j.sub]at ae;split at ae
   .rename_i x ag;have ak:k<ar.length:=(List.getElem?_eq_some_iff.1 ag).1;simp only[cb,ag]at h;simp only[j.put,ag,cb];rw[getElem?_set_self ak];simp only[take_set_of_le (Nat.le_refl k),j.tF q x d bb ae hw];exact ih _ _ _ _ _ _ _ ae hw h
   .cases ae
  |tuple ar=>
   simp only[j.sub]at ae;split at ae
   .rename_i x ag;have ak:k<ar.length:=(List.getElem?_eq_some_iff.1 ag).1;simp only[cb,ag]at h;simp only[j.put,ag,cb];rw[getElem?_set_self ak];simp only[take_set_of_le (Nat.le_refl k),j.tF q x d bb ae hw];exact ih _ _ _ _ _ _ _ ae hw h
   .cases ae
  |ad sz ar=>
   simp only[j.sub]at ae;split at ae
   .rename_i x ag;have ak:k<ar.length:=(List.getElem?_eq_some_iff.1 ag).1;have hd:(ar.set k (j.put q bb x))[k]? =some (j.put q bb x):=getElem?_set_self ak;simp only[j.put,ag];rw[cb.eq_def]at h⊢;simp only[ag]at h;simp only;rw[hd];split at h
    .rename_i aK;simp only[Option.some.injEq]at aK;subst aK;exact ih _ _ _ _ _ _ _ ae hw h
    .cases h
   .cases ae
  |aD x=>
   cases k with
   |zero=>
    simp only[j.sub]at ae;rw[cb.eq_def]at h⊢;simp only at h;simp only[j.put];split at h
    .rw[j.tF q x d bb ae hw];exact ih _ _ _ _ _ _ _ ae hw h
    .cases h
   |succ k=>simp[j.sub]at ae
  |_=>simp[j.sub]at ae
section
variable {w0 w ax:World} {F0 X F Fc:Nat->Prop} {S:Nat->Nat->Prop} {s aq:ah} {ao gT:Nat->Value}
theorem PH (h:bu w0 F0 X F S s ao w) (aY:∀b,F b->Fc b):∀n,
  (∀(a:j) (v:Value) (d:j),SizeOf.sizeOf a<=n->(∀t∈a.I,∀b,S t b->Fc b)->view s a=some d->aB w F s ao a v (λ_=>False)->aB w Fc aq gT d v (λ_=>False))/\
  (∀(as:abN) (vs:abL) (ds:abN),SizeOf.sizeOf as<=n->(∀t∈j.dv as,∀b,S t b->Fc b)->views s as=some ds->dk w F s ao as vs->dk w Fc aq gT ds vs):=by
 intro n;induction n with
 |zero=>exact⟨λa _ _ bA=>by cases a<;>simp at bA<;>omega,λas _ _ bA=>by cases as<;>simp at bA<;>omega⟩
 |succ n ih=>
  refine⟨λa v d bA bg he ay=>?_,λas vs ds bA bg he ay=>?_⟩
  .cases a with
   |h x q=>
    simp only[view]at he;split at he
    .rename_i e eH;have key:(∀ar,e≠.tuple ar)/\e.plain=false/\d=e.share/\(∀o,e≠.dc o)/\(∀f c,e≠.eU f c)/\∀c,e≠.fB c:=by
      cases e<;>simp only at he<;>first
       |(cases he;done)
       |(split at he
         .cases he
         .rename_i f_;simp only[Option.some.injEq]at he;exact⟨(λ_ h=>by cases h),by simpa using f_,he.symm,(λ_ h=>by cases h),(λ_ _ h=>by cases h),λ_ h=>by cases h⟩)
     obtain⟨lK,f_,rfl,i4,Co,Cp⟩:=key;rw[aB]at ay;obtain⟨b0,b3,aQ,a2,bQ⟩:=ay e eH f_;have aL:=fQ eH (.inl f_);have ag:=(aB.b4 aL).1 (h.cK x);obtain⟨e4,bF,dj,ej,k0,bU,cc,de,cQ,dT⟩:=ctx q (s x) (bR (ao x)) (S x) none e ag.2 eH;rw[aQ]at k0;simp only[Option.some.injEq,Prod.mk.injEq,true_and]at k0;obtain⟨rfl,rfl⟩:=k0;have Bz:e.share.tree=true:=by cases e<;>first|rfl|(simp[j.plain]at f_;done)|exact(i4 _ rfl).elim|exact(Co _ _ rfl).elim|exact(Cp _ rfl).elim
     have aN:=ai.shared aY e b0 ej (λb J=>bg x (by simp[j.I]) b (cc b J)) cQ;exact(aB.b4 Bz).2 ⟨Cm lK bQ,by rw[a2];exact aN⟩
    .cases he
   |al x q=>
    simp only[view]at he;split at he
    .rename_i i5;split at he
     .rename_i e eH;have key:(∀ar,e≠.tuple ar)/\d= .ref e.share:=by
       cases e<;>simp only at he<;>first
        |(cases he;done)
        |(simp only[Option.some.injEq]at he;exact⟨(λ_ h=>by cases h),he.symm⟩)
      obtain⟨lK,rfl⟩:=key;rw[aB]at ay;obtain⟨b0,b,o,aQ,rfl⟩:=ay e eH i5;have aL:=fQ eH (.inr i5);have ag:=(aB.b4 aL).1 (h.cK x);obtain⟨e4,bF,dj,ej,k0,bU,cc,de,cQ,dT⟩:=ctx q (s x) (bR (ao x)) (S x) none e ag.2 eH;rw[aQ]at k0;simp only[Option.some.injEq,Prod.mk.injEq,true_and]at k0;obtain⟨rfl,rfl⟩:=k0;have aN:=ai.shared aY e b0 ej (λb J=>bg x (by simp[j.I]) b (cc b J)) cQ;rcases dT with⟨l,r,_,aV,_⟩|⟨eI,cur,ty,fr,l,r,aK,aV,a1,b6,cH,_⟩
      .simp at aV
      .simp only[Option.some.injEq,Prod.mk.injEq]at aK;obtain⟨rfl,rfl⟩:=aK;refine(aB.b4 rfl).2 ⟨rfl,?_⟩;rw[ai];refine⟨b,l.length,b0,rfl,bg x (by simp[j.I]) b (bU b aV),?_,aN⟩;intro au c bN;simp only[World.cell?,a1];have aj:cur[l.length+au]? =some c:=by
        rw[<-Array.getElem?_toList,cH,getElem?_append_right (by omega),getElem?_append_left (by
         have:=(List.getElem?_eq_some_iff.1 bN).1;omega)]
        rw[<-bN];congr 1;omega
       simpa using aj
     .cases he
    .cases he
   |fn f cap=>
    simp only[view,Option.map_eq_some_iff]at he;obtain⟨ds,ib,rfl⟩:=he;rw[aB]at ay;obtain⟨arr,rfl,aj⟩:=ay;rw[aB];exact⟨arr,rfl,ih.2 cap _ _ (by simp at bA;omega) (by simpa [j.I]using bg) ib aj⟩
   |hole=>simp[view]at he
   |J y q=>simp[view]at he
   |_=>
    simp only[view,Option.some.injEq]at he;subst he;have jO:=(aB.b4 rfl).1 ay;exact(aB.b4 rfl).2 ⟨jO.1,ai.mono aY _ _ _ _ (λ_ h=>h) jO.2⟩
  .cases as with
   |nil=>
    simp only[views,Option.some.injEq]at he;subst he;rw[dk]at ay⊢;exact ay
   |cons a as=>
    simp only[views]at he;split at he
    .rename_i d ds R U;simp only[Option.some.injEq]at he;subst he;rw[dk]at ay⊢;obtain⟨v,iw,rfl,aQ,a2⟩:=ay;simp at bA;simp only[j.dv,mem_append]at bg;exact⟨v,iw,rfl,ih.1 a v d (by omega) (λt aL=>bg t (.inl aL)) R aQ,ih.2 as iw ds (by omega) (λt aL=>bg t (.inr aL)) U a2⟩
    .cases he
theorem bu.hy (h:bu w0 F0 X F S s ao w) {x:Nat} {q:abI} {d0 bb:j} {b0:abL} {a:Option (Nat×Nat)} {Sn:Nat->Prop}
  (ae:j.sub q (s x)=some d0) (a6:cb w q (s x) (bR (ao x)) none=some (d0,b0,a)) (U:∀vs,bb≠.tuple vs) (aL:q=[]->bb.tree=true/\c0 bb (ao x))
  (aA:∀k p,q=k::p->(s x).tree=true/\(∀v,g_ d0 v->g_ bb v)) (hw:bb.wd=d0.wd)
  (ay:ai w F bb b0 Sn) (cB:∀b,Sn b->b<w.heap.size) (aY:∀b,Sn b->¬F b) (bg:∀u b,Sn b->¬S u b) (bq:∀b,Sn b->X b\/w0.heap.size<=b):
  bu w0 F0 X F (fy S x (λb=>S x b\/Sn b)) (ck (kr x s) x (j.put q bb (s x))) ao w:=by
 have du:ck ao x (ao x)=ao:=by funext u;simp only[ck];split<;>simp_all
 have main:(j.put q bb (s x)).tree=true/\c0 (j.put q bb (s x)) (ao x)/\ai w F (j.put q bb (s x)) (bR (ao x)) (λb=>S x b\/Sn b):=by
  cases q with
  |nil=>
   simp only[cb,Option.some.injEq,Prod.mk.injEq]at a6;obtain⟨aK,aV,a1⟩:=a6;obtain⟨aQ,a2⟩:=aL rfl;simp only[j.put];refine⟨aQ,?_,?_⟩
   .exact a2
   .rw[aV];exact ai.mono (λ_ h=>h) _ _ _ _ (λb J=>.inr J) ay
  |cons k p=>
   obtain⟨aQ,a2⟩:=aA k p rfl;have ag:=(aB.b4 aQ).1 (h.cK x);obtain⟨e4,bF,dj,ej,k0,bU,cc,de,cQ,dT⟩:=ctx (k::p) (s x) (bR (ao x)) (S x) none d0 ag.2 ae;rw[a6]at k0;simp only[Option.some.injEq,Prod.mk.injEq,true_and]at k0;obtain⟨rfl,rfl⟩:=k0;refine⟨?_,?_,?_⟩
   .rcases qC k p bb (s x)with⟨ar,gs,aK,e⟩|⟨ar,gs,aK,e⟩|⟨sz,xs,bO,aK,e⟩|⟨y,z,aK,e⟩|e<;>rw[e]<;>first|rfl|exact aQ
   .refine vW ag.1 ae a2 (λ_ vs e=>(U vs e).elim) hw
   .have mono:∀b,(dj b\/Sn b)->(S x b\/Sn b):=λb J=>J.imp (bU b) id;rcases dT with⟨l,r,aK,aV,a1⟩|⟨b,cur,ty,fr,l,r,aK,aV,a1,b6,cH,bT⟩
    .rw[aK];exact ai.mono (λ_ h=>h) _ _ _ _ mono (a1 w bb b0 Sn (λ_ _=>rfl) (λ_ _=>rfl) hw ay (λb J aj=>bg x b J (bU b aj)))
    .refine ai.mono (λ_ h=>h) _ _ _ _ mono (bT w bb b0 Sn (λ_ _=>rfl) (λ_ _ _=>rfl) ?_ hw ay (λb J aj=>bg x b J (bU b aj)));rw[a1,<-cH]
 have:=h.GV (t:=x) main.1 main.2.1 main.2.2 (by rintro b (J|J);exact h.dD x b J;exact cB b J) (by rintro b (J|J);exact h.eW x b J;exact aY b J)
  (by rintro u b cO (J|J);exact λhu=>h.ev u x b cO hu J;exact bg u b J) (by rintro b (J|J);exact h.cN x b J;exact bq b J)
 rwa [du]at this
end
mutual
def j.cL:j->Bool
 | .slice _=>false
 | .ref _=>false
 | .fn _ _=>false
 | .h _ _=>false
 | .al _ _=>false
 | .J _ _=>false
 | .ad _ xs=>j.hN xs
 | .aD d=>d.cL
 | .agg ar=>j.hN ar
 | .tuple ar=>j.hN ar
 | .eU _ ar=>j.hN ar
 | .fB _=>false
 |_=>true
def j.hN:abN->Bool
 |[]=>true
 |d::ds=>d.cL&&j.hN ds
end
mutual
theorem ai.cL {w:World} {F bC:Nat->Prop}:∀(d:j) (cs:abL) (S:Nat->Prop),d.cL=true->ai w F d cs S->ai w bC d cs S
 | .hole,_,_,_,h=>h
 | .bool _,_,_,_,h=>h
 | .eF,_,_,_,h=>h
 | .int _ _,_,_,_,h=>h
 | .str _,_,_,_,h=>h
 | .c8,_,_,_,h=>h
 | .aJ,_,_,_,h=>h
 | .slice xs,cs,S,a7,h=>by simp[j.cL]at a7
 | .ref d,cs,S,a7,h=>by simp[j.cL]at a7
 | .ad sz xs,cs,S,a7,h=>by
   rw[ai]at h⊢;rcases h with h|⟨b,cap,cur,e,fr,aF,R,U,aA,aU,bt,b5,cd,dQ,gQ,gx,iN⟩
   .exact .inl h
   .exact .inr ⟨b,cap,cur,e,fr,aF,R,U,aA,aU,bt,b5,cd,dQ,aS.cL xs _ _ a7 gQ,gx,iN⟩
 | .aD d,cs,S,a7,h=>by
   rw[ai]at h⊢;obtain⟨b,cur,e,fr,aF,R,U,aA,aU,bt,b5,cd⟩:=h;exact⟨b,cur,e,fr,aF,R,U,aA,aU,ai.cL d _ _ a7 bt,b5,cd⟩
 | .agg ar,cs,S,a7,h=>by rw[ai]at h⊢;exact aS.cL ar _ _ a7 h
 | .tuple ar,cs,S,a7,h=>by rw[ai]at h⊢;exact aS.cL ar _ _ a7 h
 | .fn _ _,_,_,a7,h=>by simp[j.cL]at a7
 | .h _ _,_,_,_,h=>h
 | .al _ _,_,_,_,h=>h
 | .J _ _,_,_,_,h=>h
 | .dc _,_,_,_,h=>h
 | .eU _ caps,cs,S,a7,h=>by
   rw[ai]at h⊢;obtain⟨arr,R,U,aA⟩:=h;exact⟨arr,R,U,aS.cL caps _ _ a7 aA⟩
 | .fB _,_,_,a7,h=>by simp[j.cL]at a7
theorem aS.cL {w:World} {F bC:Nat->Prop}:∀(ds:abN) (cs:abL) (S:Nat->Prop),j.hN ds=true->aS w F ds cs S->aS w bC ds cs S
 |[],_,_,_,h=>h
 |d::ds,cs,S,a7,h=>by
  simp only[j.hN,Bool.and_eq_true]at a7;rw[aS]at h⊢;obtain⟨bD,bH,bJ,cS,R,U,aA,aU,bt,b5⟩:=h;exact⟨bD,bH,bJ,cS,R,ai.cL d _ _ a7.1 U,aS.cL ds _ _ a7.2 aA,aU,bt,b5⟩
end
theorem y3:∀(q:abI) (av d e:j),j.sub q av=some d->j.sub q (j.put q e av)=some e:=by
 intro q;induction q with
 |nil=>intro av d e _;simp[j.put,j.sub]
 |cons k q ih=>
  intro av d e h;cases av with
  |agg ar=>
   simp only[j.sub]at h;split at h
   .rename_i x ag;have ak:k<ar.length:=(List.getElem?_eq_some_iff.1 ag).1;simp only[j.put,ag,j.sub,getElem?_set_self ak];exact ih _ _ _ h
   .cases h
  |tuple ar=>
   simp only[j.sub]at h;split at h
   .rename_i x ag;have ak:k<ar.length:=(List.getElem?_eq_some_iff.1 ag).1;simp only[j.put,ag,j.sub,getElem?_set_self ak];exact ih _ _ _ h
   .cases h
  |ad sz ar=>
   simp only[j.sub]at h;split at h
   .rename_i x ag;have ak:k<ar.length:=(List.getElem?_eq_some_iff.1 ag).1;simp only[j.put,ag,j.sub,getElem?_set_self ak];exact ih _ _ _ h
   .cases h
  |aD x=>
   cases k with
   |zero=>simp only[j.sub]at h;simp only[j.put,j.sub];exact ih _ _ _ h
   |succ k=>simp[j.sub]at h
  |_=>simp[j.sub]at h
structure b_ where
 a:j
 g:Bool
 d:j
 o:j
def j.own:j->Bool
 | .ad _ _=>true
 | .aD _=>true
 |_=>false
def j.fv:j->Bool
 | .ad _ _=>true
 | .aD _=>true
 | .dc _=>true
 | .eU _ _=>true
 | .fB _=>true
 | .agg ar=> !j.dF ar
 |_=>false
def qO (d o:j):Bool:=match d,o with
 | .agg a,.agg b=>j.c6 a==j.c6 b
 | .agg _,_=>false
 |_,.agg _=>false
 |_,_=>true
theorem p6 {d:j} (h:d.fv=true):d.plain=false/\d.tree=true/\∀vs,d≠.tuple vs:=by
 cases d<;>simp[j.fv]at h<;>first|exact⟨rfl,rfl,λvs e=>by cases e⟩|exact⟨by simp only[j.plain];exact h,rfl,λvs e=>by cases e⟩
theorem PI {d o:j} (h:d.fv=true) (br:o.fv=true) (hl:qO d o=true):o.wd=d.wd/\(∀v,c0 d v->c0 o v)/\∀v,g_ d.cf v->g_ o v:=by
 cases d<;>simp[j.fv]at h<;>cases o<;>simp[j.fv]at br<;>simp[qO]at hl<;>first
  |exact⟨rfl,λ_ h=>h,λ_ h=>h⟩
  |exact⟨by simp only[j.wd];exact hl.symm,λ_ h=>h,λ_ h=>h⟩
def b_.ok (s:ah) (p:b_):Prop:=
 if p.g then(match p.a with| .h x q=>j.sub q (s x)=some p.d/\p.d.fv=true/\(p.o= .hole\/(p.o.fv=true/\qO p.d p.o=true))|_=>False)
 else view s p.a=some p.d
def gY:List b_->Bool
 |[]=>true
 |p::r=>(r.all λb7=> !(p.g||b7.g)||(p.a.I.all λu=> !b7.a.I.contains u))&&gY r
def b_.take (s:ah) (p:b_):ah:=
 if p.g then(match p.a with| .h x q=>ck (e_ x s) x (j.put q p.d.cf (s x))|_=>s)else s
def b_.hy (s:ah) (p:b_):ah:=
 if p.g then(match p.a,p.o with|_,.hole=>s| .h x q,o=>ck (kr x s) x (j.put q o (s x))|_,_=>s)else s
def dV (s:ah) (ps:List b_):ah:=ps.foldl b_.take s
def gd (s:ah) (ps:List b_):ah:=ps.foldl b_.hy s
section
variable {w0 w ax:World} {F0 X F Fc:Nat->Prop} {S:Nat->Nat->Prop} {s aq:ah} {ao gT:Nat->Value}
def PJ (w:World) (F:Nat->Prop) (s1:ah) (ao:Nat->Value) (p:b_) (v:Value) (Sn:Nat->Prop):Prop:=
 ∃x q a0,p.a= .h x q/\j.sub q (s1 x)=some p.d.cf/\cb w q (s1 x) (bR (ao x)) none=some (p.d.cf,bR v,a0)/\(s1 x).I=[]/\(q=[]->c0 p.d (ao x))/\(q≠[]->(s1 x).tree=true)/\
  c0 p.d v/\ai w F p.d (bR v) Sn
theorem PK {p:b_} {x:Nat} (h:(s x).I=[]) (al:p.g=true->x∉p.a.I):b_.take s p x=s x:=by
 unfold b_.take;split
 .rename_i bm;cases b8:p.a with
  |h y q=>
   have:x≠y:=by
    have:=al bm;rw[b8]at this;simpa [j.I]using this
   simp only;rw[hX _ _ this];exact wE _ (by rw[h];simp)
  |_=>rfl
 .rfl
theorem Cq:∀{ps:List b_} {s:ah} {x:Nat},(s x).I=[]->(∀p∈ps,p.g=true->x∉p.a.I)->dV s ps x=s x:=by
 intro ps;induction ps with
 |nil=>intros;rfl
 |cons p ps ih=>
  intro s x h al;have e:=PK (s:=s) (p:=p) h (al p (by simp));show dV (b_.take s p) ps x=s x;rw[ih (by rw[e];exact h) (λb7 dp=>al b7 (by simp[dp])),e]
theorem sb {d:j} (h:d.own=true):d.plain=false/\d.tree=true/\d.cf= .hole/\d.one=true/\d.wd=1/\(∀v,c0 d v↔Value.ft v=true):=by
 cases d<;>simp[j.own]at h<;>exact⟨rfl,rfl,rfl,rfl,rfl,λv=>Iff.rfl⟩
theorem PL:∀(ps:List b_) (vs:abL) (s:ah) (S:Nat->Nat->Prop),bu w0 F0 X F S s ao w->ps.length=vs.length->
  (∀(i:Nat) (p:b_) (v:Value),ps[i]? =some p->vs[i]? =some v->p.a.plain=true/\aB w F s ao p.a v (λ_=>False)/\(p.g=true->p.ok s))->gY ps=true->
  ∃(Sn bJ:Nat->Nat->Prop),bu w0 F0 X F bJ (dV s ps) ao w/\(∀u b,bJ u b->S u b)/\
   (∀(i:Nat) (p:b_) (v:Value),ps[i]? =some p->vs[i]? =some v->p.g=true->PJ w F (dV s ps) ao p v (Sn i))/\
   (∀i b,Sn i b->∃p,ps[i]? =some p/\p.g=true)/\
   (∀i b,Sn i b->∃u,S u b)/\(∀i u b,Sn i b->¬bJ u b)/\(∀i au b,i≠au->Sn i b->¬Sn au b)/\
   (∀(bb:j) (fh:Value) (aF:Nat->Prop),(∀p∈ps,p.g=true->∀u∈p.a.I,u∉bb.I)->aB w F s ao bb fh aF->aB w F (dV s ps) ao bb fh aF):=by
 intro ps;induction ps with
 |nil=>
  intro vs s S h hl _ _;exact⟨λ_ _=>False,S,h,λ_ _ h=>h,λi p v al=>by simp at al,λ_ _ h=>h.elim,λ_ _ h=>h.elim,λ_ _ _ h=>h.elim,λ_ _ _ _ h=>h.elim,λ_ _ _ _ h=>h⟩
 |cons p ps ih=>
  intro vs s S h hl wx jb;cases vs with
  |nil=>simp at hl
  |cons v vs=>
   simp only[length_cons,Nat.add_right_cancel_iff]at hl;simp only[gY,Bool.and_eq_true,List.all_eq_true,Bool.or_eq_true,Bool.not_eq_true']at jb;obtain⟨nV,m8⟩:=jb;have tW:∀b7∈ps,(p.g=true\/b7.g=true)->∀u∈p.a.I,u∉b7.a.I:=by
    intro b7 dp bm u hu;rcases nV b7 dp with e|e
    .rcases bm with bm|bm<;>simp[bm]at e
    .simpa using e u hu
   obtain⟨f1,f2,f3⟩:=wx 0 p v rfl rfl;cases bm:p.g with
   |false=>
    have fi:b_.take s p=s:=by simp[b_.take,bm]
    obtain⟨Sn,bJ,aQ,a2,bQ,c4,dR,gn,gW,j9⟩:=ih vs s S h hl (λi b7 fh al ay=>wx (i+1) b7 fh (by simpa using al) (by simpa using ay)) m8;have aK:dV s (p::ps)=dV s ps:=by show dV (b_.take s p) ps=_;rw[fi]
    rw[aK];refine⟨λi=>match i with|0=>λ_=>False|i+1=>Sn i,bJ,aQ,a2,?_,?_,?_,?_,?_,λbb fh aF ae=>j9 bb fh aF λb7 dp=>ae b7 (by simp[dp])⟩
    .intro i b7 fh al ay fF;cases i with
     |zero=>simp at al;subst al;rw[bm]at fF;cases fF
     |succ i=>exact bQ i b7 fh (by simpa using al) (by simpa using ay) fF
    .intro i b J;cases i with
     |zero=>exact J.elim
     |succ i=>simpa using c4 i b J
    .intro i b J;cases i with
     |zero=>exact J.elim
     |succ i=>exact dR i b J
    .intro i u b J;cases i with
     |zero=>exact J.elim
     |succ i=>exact gn i u b J
    .intro i au b cO aw bN;cases i with
     |zero=>exact aw.elim
     |succ i=>
      cases au with
      |zero=>exact bN.elim
      |succ au=>exact gW i au b (by omega) aw bN
   |true=>
    have eP:=f3 bm;simp only[b_.ok,bm,if_true]at eP;split at eP
    .rename_i x q b8;obtain⟨eH,wG,rK⟩:=eP;obtain⟨jV,kx,tX⟩:=p6 wG;have PM:cg s p.a=some (p.d,ck (e_ x s) x (j.put q p.d.cf (s x))):=by
      rw[b8];simp only[cg,eH,jV];rfl
     obtain⟨bJ,t1,t2,t3,PN,t4,t5,t6,t7,t8,t9,t10,t11⟩:=mU h f1 f2 PM;have fi:b_.take s p=ck (e_ x s) x (j.put q p.d.cf (s x)):=by simp[b_.take,bm,b8]
     have nW:∀b7∈ps,x∉b7.a.I:=λb7 dp=>tW b7 dp (.inl bm) x (by rw[b8];simp[j.I]);have Cr:b_.take s p x=j.put q p.d.cf (s x):=by rw[fi,ks]
     have Im:(b_.take s p x).I=[]:=by
      rw[Cr];exact tV q _ _ _ eH (.inl jV) (λ_=>by cases ae:p.d<;>first|rfl|(rw[ae]at wG;simp[j.fv]at wG))
     obtain⟨Sn,cS,aQ,a2,bQ,c4,dR,gn,gW,j9⟩:=ih vs (b_.take s p) bJ (by rw[fi];exact t1) hl (by
      intro i b7 fh al ay;obtain⟨bU,cc,de⟩:=wx (i+1) b7 fh (by simpa using al) (by simpa using ay);have hm:b7∈ps:=mem_of_getElem? al;refine⟨bU,?_,?_⟩
      .have:=t11 _ _ _ cc;rw[b8]at this;rw[fi];simp only[j.owner,jl]at this
       rwa [wE _ (nW b7 hm)]at this
      .intro fF;have:=de fF;simp only[b_.ok,fF,if_true]at this⊢;split at this
       .rename_i y h9 sc;have cO:y≠x:=λe=>nW b7 hm (by rw[sc,e];simp[j.I]);rw[fi,hX _ _ cO];have aL:=fQ this.1 (.inl (p6 this.2.1).1);simp only[e_,Bt aL];exact this
       .exact this.elim) m8
     have aK:dV s (p::ps)=dV (b_.take s p) ps:=rfl;have qP:dV (b_.take s p) ps x=j.put q p.d.cf (s x):=by
      rw[Cq Im (λb7 dp _=>nW b7 dp),Cr]
     rw[aK];refine⟨λi=>match i with|0=>PN|i+1=>Sn i,cS,aQ,λu b J=>t9 u b (a2 u b J),?_,?_,?_,?_,?_,?_⟩
     rotate_left 5
     .intro bb fh aF ae hz;refine j9 bb fh aF (λb7 dp=>ae b7 (by simp[dp])) ?_;have:=t11 _ _ _ hz;rw[b8]at this;rw[fi];simp only[j.owner,jl]at this
      rwa [wE _ (ae p (by simp) bm x (by rw[b8];simp[j.I]))]at this
     .intro i b7 fh al ay fF;cases i with
      |zero=>
       simp at al ay;subst al ay;have y4:=f2;rw[b8,aB]at y4;obtain⟨b0,a0,bD,bH,y5⟩:=y4 _ eH jV;refine⟨x,q,a0,b8,?_,?_,?_,?_,?_,t3,t4⟩
       .rw[qP];exact y3 q _ _ _ eH
       .rw[qP,bH];exact Cn w q _ _ _ _ _ _ _ eH (j.oN _) bD
       .rw[qP,<-Cr];exact Im
       .intro cp;subst cp;simp only[j.sub,Option.some.injEq]at eH;have:=(aB.b4 (by rw[eH];exact kx)).1 (h.cK x);rw[eH]at this;exact this.1
       .intro cp;have aL:=fQ eH (.inl jV);rw[qP];cases q with
        |nil=>exact(cp rfl).elim
        |cons k q=>rcases qC k q p.d.cf (s x)with⟨ar,gs,aK,e⟩|⟨ar,gs,aK,e⟩|⟨sz,xs,bO,aK,e⟩|⟨y,z,aK,e⟩|e<;>rw[e]<;>first|rfl|exact aL
      |succ i=>exact bQ i b7 fh (by simpa using al) (by simpa using ay) fF
     .intro i b J;cases i with
      |zero=>exact⟨p,rfl,bm⟩
      |succ i=>simpa using c4 i b J
     .intro i b J;cases i with
      |zero=>exact t10 b J
      |succ i=>obtain⟨u,hu⟩:=dR i b J;exact⟨u,t9 u b hu⟩
     .intro i u b J;cases i with
      |zero=>exact λhu=>t7 u b J (a2 u b hu)
      |succ i=>exact gn i u b J
     .intro i au b cO aw bN;cases i with
      |zero=>
       cases au with
       |zero=>exact cO rfl
       |succ au=>obtain⟨u,hu⟩:=dR au b bN;exact t7 u b aw hu
      |succ i=>
       cases au with
       |zero=>obtain⟨u,hu⟩:=dR i b aw;exact t7 u b bN hu
       |succ au=>exact gW i au b (by omega) aw bN
    .exact eP.elim
end
def m9:abN->abN->abN
 |d::ds,.hole::us=>(if d.plain=true then d else .hole)::m9 ds us
 |_::ds,u::us=>u::m9 ds us
 |_,us=>us
def y6:j->j->j
 | .eU _ ds,.eU g us=>.eU g (m9 ds us)
 |_,o=>o
theorem PO {d o:j} (h:(y6 d o).tree=true):o.tree=true:=by
 cases d<;>cases o<;>first|exact h|rfl
theorem Io {d:j} (h:d.one=true):d.wd=1:=by cases d<;>first|rfl|(simp[j.one]at h)
theorem Ip {w ax:World} {F k2:Nat->Prop} (aY:∀b,F b->k2 b) (hw:∀b,F b->ax.heap[b]? =w.heap[b]?):∀(ds us:abN) (cs:abL) (S aF:Nat->Prop),(∀d∈ds,d.one=true)->(∀d∈us,d.one=true)->
  aS w F ds cs S->aS ax k2 us cs aF->aS ax k2 (m9 ds us) cs aF/\∀d∈m9 ds us,d.one=true
 |[],us,cs,S,aF,_,R,_,aA=>by
  have e:m9 [] us=us:=by cases us<;>rfl
  rw[e];exact⟨aA,R⟩
 |d::ds,[],cs,S,aF,_,_,_,aA=>by
  have e:m9 (d::ds) []=[]:=rfl;rw[e];exact⟨aA,λd h=>by cases h⟩
 |d::ds,u::us,cs,S,aF,bq,R,U,aA=>by
  rw[aS]at U aA;obtain⟨bD,bH,bJ,cS,aK,ab,bF,a3,a4,a5⟩:=U;obtain⟨i7,gz,y7,Iq,aV,bU,cc,de,cQ,dT⟩:=aA;have en:=ai.length _ _ _ ab;have l2:=ai.length _ _ _ bU;rw[Io (bq d (by simp))]at en;rw[Io (R u (by simp))]at l2;have a1:bD=i7/\bH=gz:=append_inj (aK.symm.trans aV) (by rw[en,l2]);obtain⟨rfl,rfl⟩:=a1;obtain⟨dK,bL⟩:=Ip aY hw ds us bH cS Iq (λd ae=>bq d (by simp[ae])) (λd ae=>R d (by simp[ae])) bF cc;have key:∀y:j,ai ax k2 y bD y7->y.one=true->aS ax k2 (y::m9 ds us) cs aF/\∀d∈y::m9 ds us,d.one=true:=by
   intro y bh BL;rw[aS];exact⟨⟨bD,bH,y7,Iq,aV,bh,dK,de,cQ,dT⟩,λd ae=>by
    rcases mem_cons.1 ae with rfl|ae
    .exact BL
    .exact bL d ae⟩
  by_cases hu:u= .hole
  .subst hu;simp only[m9];by_cases al:d.plain=true
   .rw[if_pos al];exact key d (ai.plain _ _ _ _ al (ai.mono aY _ _ _ _ (λ_ h=>h) (ai.frame hw _ _ (λ_=>False) (λ_ h=>h.elim) (ai.plain _ _ _ _ al ab)))) (bq d (by simp))
   .rw[if_neg al];exact key .hole bU rfl
  .have e:m9 (d::ds) (u::us)=u::m9 ds us:=by cases u<;>first|rfl|exact(hu rfl).elim
   rw[e];exact key u bU (R u (by simp))
theorem PQ {w ax:World} {F k2:Nat->Prop} {d o:j} {cs:abL} {S aF:Nat->Prop} (aY:∀b,F b->k2 b) (hw:∀b,F b->ax.heap[b]? =w.heap[b]?) (R:ai w F d cs S) (U:ai ax k2 o cs aF):ai ax k2 (y6 d o) cs aF:=by
 cases d with
 |eU f ds=>
  cases o with
  |eU g us=>
   simp only[y6];rw[ai]at R U⊢;obtain⟨arr,rfl,bF,a3⟩:=R;obtain⟨aaC,e,gz,i9⟩:=U;simp only[cons.injEq,Value.func.injEq,and_true]at e;obtain⟨aK,aV,a1⟩:=e;subst a1;obtain⟨dK,bL⟩:=Ip aY hw ds us _ _ _ bF gz a3 i9;exact⟨arr,by simp_all,bL,dK⟩
  |_=>exact U
 |_=>cases o<;>exact U
def fc (l:abN):ah:=λi=>l.getD i .hole
def fU (l:abL):Nat->Value:=λi=>l.getD i undef
def mh (P:Program) (f:FuncId) (args:Array Value) (w:World) (ke:Value->World->Prop):Prop:=
 ((callFunc f args).run P w= .ok (.enter f args) w/\Calls P f args w (λe ax=>∃v,e= .returned v/\ke v ax))\/
 ∃v ax,(callFunc f args).run P w= .ok (.value v) ax/\ke v ax
theorem mh.mono {P:Program} {f:FuncId} {args:Array Value} {w:World} {ke Ir:Value->World->Prop} (h:mh P f args w ke) (aN:∀v ax,ke v ax->Ir v ax):mh P f args w Ir:=by
 rcases h with⟨R,U⟩|⟨v,ax,R,U⟩
 .exact .inl ⟨R,Calls.mono U λe ax ⟨v,e,h⟩=>⟨v,e,aN v ax h⟩⟩
 .exact .inr ⟨v,ax,R,aN v ax U⟩
def bx (C:bI) (f:FuncId) (as:abN) (r:j) (outs:abN):Prop:=
 ∀(w:World) (F X:Nat->Prop) (S:Nat->Nat->Prop) (vs:abL),vs.length=as.length->bu w F X F S (fc as) (fU vs) w->
  mh C.P f vs.toArray w λv ax=>∃bC aF,bu w F X bC aF (fc (r::outs)) (fU (v::vs)) ax
def j.res:j->Bool
 | .h _ _=>false
 | .al _ _=>false
 | .J _ _=>false
 | .fn _ _=>false
 |_=>true
theorem Is {d:j} (h:d.tree=true):d.I=[]:=by cases d<;>first|rfl|(simp[j.tree]at h)
mutual
theorem Cs {s aq:ah}:∀(a:j) (d:j),(∀u∈a.I,(s u).tree=true->aq u=s u)->view s a=some d->view aq a=some d
 | .h x q,d,hu,h=>by
   have aL:(s x).tree=true:=by
    simp only[view]at h;split at h
    .rename_i e eH;cases e<;>simp only at h<;>first
      |(cases h;done)
      |(split at h
        .cases h
        .rename_i al;exact fQ eH (.inl (by simpa using al)))
    .cases h
   simp only[view]at h⊢;rw[hu x (by simp[j.I]) aL];exact h
 | .al x q,d,hu,h=>by
   have aL:(s x).tree=true:=by
    simp only[view]at h;split at h
    .rename_i aj;split at h
     .rename_i e eH;exact fQ eH (.inr aj)
     .cases h
    .cases h
   simp only[view]at h⊢;rw[hu x (by simp[j.I]) aL];exact h
 | .J x q,d,hu,h=>by simp[view]at h
 | .fn f cap,d,hu,h=>by
   simp only[view,Option.map_eq_some_iff]at h⊢;obtain⟨ds,R,U⟩:=h;exact⟨ds,It cap ds (by simpa [j.I]using hu) R,U⟩
 | .hole,d,hu,h=>h
 | .bool _,d,hu,h=>h
 | .eF,d,hu,h=>h
 | .int _ _,d,hu,h=>h
 | .str _,d,hu,h=>h
 | .c8,d,hu,h=>h
 | .aJ,d,hu,h=>h
 | .slice _,d,hu,h=>h
 | .ad _ _,d,hu,h=>h
 | .ref _,d,hu,h=>h
 | .aD _,d,hu,h=>h
 | .agg _,d,hu,h=>h
 | .tuple _,d,hu,h=>h
 | .dc _,d,hu,h=>h
 | .eU _ _,d,hu,h=>h
 | .fB _,d,hu,h=>h
theorem It {s aq:ah}:∀(as:abN) (ds:abN),(∀u∈j.dv as,(s u).tree=true->aq u=s u)->views s as=some ds->views aq as=some ds
 |[],ds,hu,h=>h
 |a::as,ds,hu,h=>by
  simp only[j.dv,mem_append]at hu;simp only[views]at h⊢;split at h
  .rename_i x y R U;rw[Cs a x (λu hm=>hu u (.inl hm)) R,It as y (λu hm=>hu u (.inr hm)) U];exact h
  .cases h
end
section
variable {C:bI} {w0 w ax:World} {F0 X F Fc:Nat->Prop} {S:Nat->Nat->Prop} {s aq:ah} {ao gT:Nat->Value}
def PR (w:World) (F:Nat->Prop) (s:ah) (ao:Nat->Value) (p:b_) (v:Value) (So:Nat->Prop):Prop:=
 p.g=true->p.o= .hole\/∃x q a0 d0,p.a= .h x q/\j.sub q (s x)=some d0/\cb w q (s x) (bR (ao x)) none=some (d0,bR v,a0)/\(s x).I=[]/\
  (q=[]->c0 p.o (ao x))/\(q≠[]->(s x).tree=true)/\p.o.fv=true/\ai w F p.o (bR v) So/\p.o.wd=d0.wd/\∀v,g_ d0 v->g_ p.o v
theorem PS:∀(ps:List b_) (vs:abL) (s:ah) (S So:Nat->Nat->Prop),bu w0 F0 X F S s ao w->ps.length=vs.length->
  (∀(i:Nat) (p:b_) (v:Value),ps[i]? =some p->vs[i]? =some v->PR w F s ao p v (So i))->
  (∀i b,So i b->b<w.heap.size/\¬F b/\(X b\/w0.heap.size<=b)/\∀u,¬S u b)->(∀i au b,i≠au->So i b->¬So au b)->gY ps=true->
  ∃cS,bu w0 F0 X F cS (gd s ps) ao w/\∀u b,cS u b->S u b\/∃i,So i b:=by
 intro ps;induction ps with
 |nil=>intro vs s S So h _ _ _ _ _;exact⟨S,h,λu b J=>.inl J⟩
 |cons p ps ih=>
  intro vs s S So h hl Ct J ae jb;cases vs with
  |nil=>simp at hl
  |cons v vs=>
   simp only[length_cons,Nat.add_right_cancel_iff]at hl;simp only[gY,Bool.and_eq_true,List.all_eq_true,Bool.or_eq_true,Bool.not_eq_true']at jb;obtain⟨nV,m8⟩:=jb;have tW:∀b7∈ps,(p.g=true\/b7.g=true)->∀u∈p.a.I,u∉b7.a.I:=by
    intro b7 dp bm u hu;rcases nV b7 dp with e|e
    .rcases bm with bm|bm<;>simp[bm]at e
    .simpa using e u hu
   have skip:b_.hy s p=s->∃cS,bu w0 F0 X F cS (gd s (p::ps)) ao w/\∀u b,cS u b->S u b\/∃i,So i b:=by
    intro fi;obtain⟨cS,aQ,a2⟩:=ih vs s S (λi=>So (i+1)) h hl (λi b7 fh al ay=>Ct (i+1) b7 fh (by simpa using al) (by simpa using ay)) (λi b h=>J (i+1) b h)
     (λi au b cO=>ae (i+1) (au+1) b (by omega)) m8
    refine⟨cS,?_,λu b hu=>(a2 u b hu).imp id λ⟨i,aw⟩=>⟨i+1,aw⟩⟩;show bu _ _ _ _ _ (gd (b_.hy s p) ps) _ _;rw[fi];exact aQ
   cases bm:p.g with
   |false=>exact skip (by simp[b_.hy,bm])
   |true=>
    rcases Ct 0 p v rfl rfl bm with br|⟨x,q,a0,d0,b8,bD,bH,y5,i6,o1,fV,PT,gE,PU⟩
    .exact skip (by simp only[b_.hy,bm,br,if_true])
    .obtain⟨jV,kx,PV⟩:=p6 fV;have fi:b_.hy s p=ck (kr x s) x (j.put q p.o (s x)):=by
      simp only[b_.hy,bm,if_true,b8];cases PW:p.o<;>first|rfl|(rw[PW]at fV;simp[j.fv]at fV)
     have step:=h.hy (x:=x) (q:=q) (bb:=p.o) bD bH PV (λcp=>⟨kx,i6 cp⟩) (λk r cp=>⟨o1 (by rw[cp];simp),PU⟩) gE PT
      (λb h=>(J 0 b h).1) (λb h=>(J 0 b h).2.1) (λu b h=>(J 0 b h).2.2.2 u) (λb h=>(J 0 b h).2.2.1)
     rw[<-fi]at step;obtain⟨cS,aQ,a2⟩:=ih vs (b_.hy s p) _ (λi=>So (i+1)) step hl (by
      intro i b7 fh al ay fF;have hm:b7∈ps:=mem_of_getElem? al;rcases Ct (i+1) b7 fh (by simpa using al) (by simpa using ay) fF with br|⟨y,h9,ab,d1,bU,cc,de,cQ,dT,dH,hx,cE,kY⟩
      .exact .inl br
      .have cO:y≠x:=λe=>tW b7 hm (.inl bm) x (by rw[b8];simp[j.I]) (by rw[bU,e];simp[j.I]);have qE:b_.hy s p y=s y:=by
        rw[fi,hX _ _ cO];exact Cb _ (by rw[cQ];simp)
       exact .inr ⟨y,h9,ab,d1,bU,by rw[qE];exact cc,by rw[qE];exact de,by rw[qE];exact cQ,dT,by rw[qE];exact dH,hx,cE,kY⟩)
      (by
       intro i b aw;obtain⟨i7,gz,i9,c1⟩:=J (i+1) b aw;refine⟨i7,gz,i9,λu hu=>?_⟩;simp only[fy]at hu;split at hu
       .rcases hu with hu|hu
        .exact c1 _ hu
        .exact ae 0 (i+1) b (by omega) hu aw
       .exact c1 _ hu)
      (λi au b cO=>ae (i+1) (au+1) b (by omega)) m8
     refine⟨cS,aQ,λu b hu=>?_⟩;rcases a2 u b hu with hu|⟨i,aw⟩
     .simp only[fy]at hu;split at hu
      .rename_i e;subst e;exact hu.imp id λh=>⟨0,h⟩
      .exact .inl hu
     .exact .inr ⟨i+1,aw⟩
def iD (ps:List b_):Bool:=ps.any λp=> !p.g&& !p.a.I.isEmpty
theorem PX (h:bu w0 F0 X F S s ao w) {ps:List b_} {vs Iu:abL} {os:abN} {f:FuncId} {r:j} (hl:ps.length=vs.length) (tY:∀(i:Nat) (p:b_),ps[i]? =some p->∃o,os[i]? =some o/\(p.o=o\/p.o=y6 p.d o))
  (hz:∀(i:Nat) (p:b_) (v:Value),ps[i]? =some p->vs[i]? =some v->p.a.plain=true/\aB w F s ao p.a v (λ_=>False))
  (eP:∀p∈ps,p.ok s) (jb:gY ps=true) (a6:∀(Fc jn:Nat->Prop) (dj:Nat->Nat->Prop),(∀b,F b->Fc b)->(∀b,jn b->∃u,S u b)->bu w Fc jn Fc dj (fc (ps.map (·.d))) (fU vs) w->
   mh C.P f Iu.toArray w λv ax=>∃bC aF,bu w Fc jn bC aF (fc (r::os)) (fU (v::vs)) ax) (aN:r.res=true)
  (a7:iD ps=true->r.cL=true/\∀(i:Nat) (p:b_) (o:j),ps[i]? =some p->os[i]? =some o->p.g=true->o.cL=true):
  mh C.P f Iu.toArray w λv ax=>∃bC aF,bu w0 F0 X bC aF (gd (dV s ps) ps) ao ax/\jN w0 X bC aF (gd (dV s ps) ps) ao ax r v/\∀b,F b->bC b/\ax.heap[b]? =w.heap[b]? :=by
 obtain⟨Sn,bJ,aQ,a2,bQ,c4,dR,gn,gW,j9⟩:=PL ps vs s S h hl (λi p v al ay=>⟨(hz i p v al ay).1,(hz i p v al ay).2,λ_=>eP p (mem_of_getElem? al)⟩) jb;have apart:∀(i au:Nat) (p b7:b_),ps[i]? =some p->ps[au]? =some b7->i≠au->(p.g=true\/b7.g=true)->∀u∈p.a.I,u∉b7.a.I:=by
  clear hz eP a6 a7 aQ bQ c4 j9 hl tY;induction ps with
  |nil=>intro i au p b7 al;simp at al
  |cons eN ps ih=>
   simp only[gY,Bool.and_eq_true,List.all_eq_true,Bool.or_eq_true,Bool.not_eq_true']at jb;obtain⟨nV,m8⟩:=jb;have tW:∀b7∈ps,(eN.g=true\/b7.g=true)->∀u∈eN.a.I,u∉b7.a.I:=by
    intro b7 dp bm u hu;rcases nV b7 dp with e|e
    .rcases bm with bm|bm<;>simp[bm]at e
    .simpa using e u hu
   intro i au p b7 al dp cO bm u hu;cases i with
   |zero=>
    simp at al;subst al;cases au with
    |zero=>exact(cO rfl).elim
    |succ au=>exact tW b7 (mem_of_getElem? (by simpa using dp)) bm u hu
   |succ i=>
    cases au with
    |zero=>
     simp at dp;subst dp;exact λwH=>tW p (mem_of_getElem? (by simpa using al)) bm.symm u wH hu
    |succ au=>exact ih m8 i au p b7 (by simpa using al) (by simpa using dp) (by omega) bm u hu
 let Fc:Nat->Prop:=λb=>F b\/(iD ps=true/\∃u,bJ u b)
 let jn:Nat->Prop:=λb=>∃i,Sn i b
 have y8:∀b,F b->¬jn b:=λb aY ⟨i,aw⟩=>by obtain⟨u,hu⟩:=dR i b aw;exact h.eW u b hu aY
 have wI:∀u b,bJ u b->¬jn b:=λu b hu ⟨i,aw⟩=>gn i u b aw hu;have X0:∀b,jn b->(X b\/w0.heap.size<=b)/\b<w.heap.size:=λb ⟨i,aw⟩=>by obtain⟨u,hu⟩:=dR i b aw;exact⟨h.cN u b hu,h.dD u b hu⟩
 have pre:bu w Fc jn Fc Sn (fc (ps.map (·.d))) (fU vs) w:=by
  refine⟨λ_ h=>h,λ_ h=>.inl h,?_,λi b aw=>(X0 b ⟨i,aw⟩).2,?_,λi au b cO=>gW i au b cO,λi b aw=>.inl ⟨i,aw⟩,?_,λ_ _ _=>rfl,Nat.le_refl _,rfl,rfl,Out.refl _,h.fL.next h.size h.old λb J=>(X0 b J).1⟩
  .rintro b (J|⟨_,u,hu⟩)
   .exact h.eu b J
   .exact aQ.dD u b hu
  .rintro i b aw (J|⟨_,u,hu⟩)
   .exact y8 b J ⟨i,aw⟩
   .exact gn i u b aw hu
  .intro t;cases al:ps[t]? with
   |none=>
    have:fc (ps.map (·.d)) t= .hole:=by simp[fc,List.getD,al]
    rw[this,aB];trivial
   |some p=>
    have cB:t<vs.length:=by rw[<-hl];exact(List.getElem?_eq_some_iff.1 al).1
    have ay:vs[t]? =some vs[t]:=getElem?_eq_getElem cB;have aK:fc (ps.map (·.d)) t=p.d:=by simp[fc,List.getD,al]
    have aV:fU vs t=vs[t]:=by simp[fU,List.getD,ay]
    rw[aK,aV];have hm:p∈ps:=mem_of_getElem? al;have ak:=eP p hm;cases bm:p.g with
    |true=>
     obtain⟨x,q,a0,bU,cc,de,cQ,dT,dH,hx,cE⟩:=bQ t p _ al ay bm;simp only[b_.ok,bm,if_true,bU]at ak;exact(aB.b4 (p6 ak.2.1).2.1).2 ⟨hx,ai.mono (λb J=>.inl J) _ _ _ _ (λ_ h=>h) cE⟩
    |false=>
     simp only[b_.ok,bm]at ak;obtain⟨f1,f2⟩:=hz t p _ al ay;have Iv:∀b7∈ps,b7.g=true->∀u∈b7.a.I,u∉p.a.I:=by
      intro b7 dp fF u hu;obtain⟨au,bN⟩:=getElem?_of_mem dp;refine apart au t b7 p bN al (λe=>?_) (.inl fF) u hu;subst e;rw[al]at bN;simp only[Option.some.injEq]at bN;rw[bN,fF]at bm;cases bm
     have y4:=j9 _ _ _ Iv f2;have hd:view (dV s ps) p.a=some p.d:=Cs _ _ (λu hu aL=>Cq (Is aL) (λb7 dp fF wH=>Iv b7 dp fF u wH hu)) (by simpa using ak);refine aB.nothing (PG f1 hd) ((PH aQ (Fc:=Fc) (λb J=>.inl J) (SizeOf.sizeOf p.a)).1 p.a _ p.d (Nat.le_refl _) ?_ hd y4);intro u hu b J;refine .inr ⟨?_,u,J⟩;simp only[iD,List.any_eq_true];refine⟨p,hm,?_⟩;cases lD:p.a.I with
     |nil=>rw[lD]at hu;cases hu
     |cons _ _=>simp[bm]
 refine mh.mono (a6 Fc jn Sn (λb J=>.inl J) (λb ⟨i,aw⟩=>dR i b aw) pre) ?_;rintro v ax ⟨bC,aF,aj⟩;have keep:∀b,b<w.heap.size->¬jn b->ax.heap[b]? =w.heap[b]? :=aj.old;let nX:Nat->Prop:=λb=>if iD ps=true then F b else bC b
 have Iw:∀b,F b->bC b:=λb J=>aj.fR b (.inl J);have sd:∀b,F b->nX b:=λb J=>by
  simp only[nX];split
  .exact J
  .exact Iw b J
 have k2:∀b,nX b->bC b:=λb J=>by
  simp only[nX]at J;split at J
  .exact Iw b J
  .exact J
 have Ix:∀b,nX b->F b\/jn b\/w.heap.size<=b:=λb J=>by
  simp only[nX]at J;split at J
  .exact .inl J
  .rename_i qJ;rcases aj.gl b J with(J|⟨R,_⟩)|J|J
   .exact .inl J
   .exact(qJ R).elim
   .exact .inr (.inl J)
   .exact .inr (.inr J)
 have mid:bu w0 F0 X nX bJ (dV s ps) ao ax:=by
  refine⟨λb J=>sd b (aQ.fR b J),?_,λb J=>aj.eu b (k2 b J),λt b J=>Nat.lt_of_lt_of_le (aQ.dD t b J) aj.size,?_,aQ.ev,aQ.cN,?_,?_,Nat.le_trans aQ.size aj.size,aj.os.trans aQ.os,aj.tape.trans aQ.tape,aj.output.trans aQ.output,aQ.fL⟩
  .intro b J;rcases Ix b J with J|J|J
   .exact aQ.gl b J
   .rcases(X0 b J).1 with h|h
    .exact .inr (.inl h)
    .exact .inr (.inr h)
   .exact .inr (.inr (Nat.le_trans aQ.size J))
  .intro t b aL J;rcases Ix b J with J|J|J
   .exact aQ.eW t b aL J
   .exact wI t b aL J
   .exact absurd (aQ.dD t b aL) (by omega)
  .intro t;exact aB.frame (Sx:=bJ) (λb J=>keep b (h.eu b J) (y8 b J)) sd (λx b J=>keep b (aQ.dD x b J) (wI x b J)) aQ.cK _ _ _ (λb J=>keep b (aQ.dD t b J) (wI t b J)) (aQ.cK t)
  .intro b J ix;refine(keep b (Nat.lt_of_lt_of_le J aQ.size) λag=>?_).trans (aQ.old b J ix);rcases(X0 b ag).1 with h|h
   .exact ix h
   .omega
 have Iy:∀(d:j) (cs:abL) (cN:Nat->Prop),(iD ps=true->d.cL=true)->ai ax bC d cs cN->ai ax nX d cs cN:=by
  intro d cs cN B2 eJ;by_cases hle:iD ps=true
  .exact ai.cL d cs cN (B2 hle) eJ
  .exact ai.mono (λb J=>by simp only[nX];rw[if_neg hle];exact J) _ _ _ _ (λ_ h=>h) eJ
 have bound:∀i b,aF i b->b<ax.heap.size/\¬nX b/\(X b\/w0.heap.size<=b)/\∀u,¬bJ u b:=by
  intro i b J;refine⟨aj.dD i b J,λaY=>aj.eW i b J (k2 b aY),?_,λu hu=>?_⟩
  .rcases aj.cN i b J with ag|ag
   .exact(X0 b ag).1
   .exact .inr (Nat.le_trans aQ.size ag)
  .rcases aj.cN i b J with ag|ag
   .exact wI u b hu ag
   .exact absurd (aQ.dD u b hu) (by omega)
 obtain⟨cS,bU,cc⟩:=PS ps vs (dV s ps) bJ (λi=>aF (i+1)) mid hl (by
  intro i p fh al ay bm;have hm:p∈ps:=mem_of_getElem? al;have ak:=eP p hm;obtain⟨x,q,a0,aK,aV,a1,b6,cH,bT,bK,hY⟩:=bQ i p fh al ay bm;simp only[b_.ok,bm,if_true,aK]at ak;rcases ak.2.2 with br|br
  .exact .inl br
  .obtain⟨en,l2,Cu⟩:=PI ak.2.1 br.1 br.2;refine .inr ⟨x,q,a0,p.d.cf,aK,aV,?_,b6,λcp=>l2 _ (cH cp),bT,br.1,?_,en.trans (j.oN _).symm,Cu⟩
   .cases q with
    |nil=>simpa only[cb]using a1
    |cons k q=>
     have aL:=bT (by simp);rw[yz (k::q) _ _ (bJ x) none _ ((aB.b4 aL).1 (aQ.cK x)).2 aV (λb J=>keep b (aQ.dD x b J) (wI x b J))];exact a1
   .have:=aj.cK (i+1);obtain⟨o,jV,kx⟩:=tY i p al;have iC:fc (r::os) (i+1)=o:=by simp[fc,List.getD,jV]
    have ka:fU (v::vs) (i+1)=fh:=by simp[fU,List.getD,ay]
    rw[iC,ka]at this;have PY:o.tree=true:=by
     rcases kx with e|e
     .rw[<-e];exact(p6 br.1).2.1
     .exact PO (d:=p.d) (by rw[<-e];exact(p6 br.1).2.1)
    have R:=Iy _ _ _ (λhle=>(a7 hle).2 i p o al jV bm) ((aB.b4 PY).1 this).2;rcases kx with e|e
    .rw[e];exact R
    .rw[e];exact PQ sd (λb J=>keep b (h.eu b J) (y8 b J)) hY R)
  (λi b J=>bound (i+1) b J) (λi au b cO=>aj.ev (i+1) (au+1) b (by omega)) jb
 refine⟨nX,cS,bU,?_,λb J=>⟨sd b J,keep b (h.eu b J) (y8 b J)⟩⟩;have bq:=aj.cK 0;have iC:fc (r::os) 0=r:=rfl;have ka:fU (v::vs) 0=v:=rfl;rw[iC,ka]at bq;cases aL:r.tree with
 |false=>
  cases r<;>first
   |(simp[j.tree]at aL;done)
   |(simp[j.res]at aN;done)
   |exact .inl ⟨rfl,by rw[aB];trivial⟩
 |true=>
  obtain⟨s1,s2⟩:=(aB.b4 aL).1 bq;have hM:=Iy _ _ _ (λhle=>(a7 hle).1) s2;refine .inr ⟨aL,s1,aF 0,hM,λb J=>(bound 0 b J).1,λb J=>(bound 0 b J).2.1,λu b J hu=>?_,λb J=>(bound 0 b J).2.2.1⟩;rcases cc u b hu with hu|⟨i,aw⟩
  .exact(bound 0 b J).2.2.2 u hu
  .exact aj.ev 0 (i+1) b (by omega) J aw
theorem Iz (h:bu w0 F0 X F S s ao w) {ps:List b_} {vs:abL} {f:FuncId} {r:j} (hl:ps.length=vs.length)
  (hz:∀(i:Nat) (p:b_) (v:Value),ps[i]? =some p->vs[i]? =some v->p.a.plain=true/\aB w F s ao p.a v (λ_=>False))
  (eP:∀p∈ps,p.ok s) (jb:gY ps=true) (a6:∀(Fc jn:Nat->Prop) (dj:Nat->Nat->Prop),(∀b,F b->Fc b)->(∀b,jn b->∃u,S u b)->bu w Fc jn Fc dj (fc (ps.map (·.d))) (fU vs) w->
   mh C.P f vs.toArray w λv ax=>∃bC aF,bu w Fc jn bC aF (fc (r::ps.map (·.o))) (fU (v::vs)) ax) (aN:r.res=true)
  (a7:iD ps=true->r.cL=true/\∀p∈ps,p.o.cL=true):
  mh C.P f vs.toArray w λv ax=>∃bC aF,bu w0 F0 X bC aF (gd (dV s ps) ps) ao ax/\jN w0 X bC aF (gd (dV s ps) ps) ao ax r v/\∀b,F b->bC b/\ax.heap[b]? =w.heap[b]? :=
 PX h hl (λi p al=>⟨p.o,by simp[al],.inl rfl⟩) hz eP jb a6 aN λhle=>⟨(a7 hle).1,λi p o al br _=>by
  rw[getElem?_map,al]at br;have:=Option.some.inj br;subst this;exact(a7 hle).2 p (mem_of_getElem? al)⟩
theorem PZ (h:bu w0 F0 X F S s ao w) {ps:List b_} {vs:abL} {f:FuncId} {r:j} (hl:ps.length=vs.length)
  (hz:∀(i:Nat) (p:b_) (v:Value),ps[i]? =some p->vs[i]? =some v->p.a.plain=true/\aB w F s ao p.a v (λ_=>False))
  (eP:∀p∈ps,p.ok s) (jb:gY ps=true) (a6:bx C f (ps.map (·.d)) r (ps.map (·.o))) (aN:r.res=true)
  (a7:iD ps=true->r.cL=true/\∀p∈ps,p.o.cL=true):
  mh C.P f vs.toArray w λv ax=>∃bC aF,bu w0 F0 X bC aF (gd (dV s ps) ps) ao ax/\jN w0 X bC aF (gd (dV s ps) ps) ao ax r v/\∀b,F b->bC b/\ax.heap[b]? =w.heap[b]? :=
 Iz h hl hz eP jb (λFc jn dj _ _ al=>a6 w Fc jn dj vs (by simp[hl]) al) aN a7
end
structure bG where
 dst:Option Nat
 bp:c9
 guard:Option (Nat×Bool)
def tZ (ops:Array Oper):Option (Nat×Bool)->Option (Option (Nat×Bool))
 |none=>some none
 |some (au,b)=>match(ops[au]?).bind (·.dst)with
  |some t=>some (some (t,b))
  |none=>none
structure Fr where
 n:Nat
 fx:abI
def ky (n:Fr):Option Nat->Bool
 |none=>true
 |some t=>decide (t<n.n)&& !n.fx.contains t
def o2 (op:Op):c9:=match cC op with
 |some bp=>bp
 |none=>.bad
def kz (n:Fr) (ops:Array Oper) (o:Oper):Option bG:=
 if ky n o.dst=true then match tZ ops o.guard with
  |some g=>some ⟨o.dst,o2 o.op,g⟩
  |none=>none
 else none
def nY (n:Fr) (ops:Array Oper):List Oper->Option (List bG)
 |[]=>some []
 |o::os=>match kz n ops o,nY n ops os with
  |some r,some rs=>some (r::rs)
  |_,_=>none
def Cv (C:bI) (s:ah) (f:aZ) (args:List aZ) (K:j->ah->Prop):Prop:=
 ∃(g:FuncId) (caps:abN) (ps:List b_) (r:j),aX s f= .fn g caps/\j.dF caps=true/\ps.map (·.a)=args.map (aX s)++caps/\(∀p∈ps,p.ok s)/\gY ps=true/\
   bx C g (ps.map (·.d)) r (ps.map (·.o))/\r.res=true/\(iD ps=true->r.cL=true/\∀p∈ps,p.o.cL=true)/\K r (gd (dV s ps) ps)
theorem IA (w:World):∀(q:abI) (x e:j) (cs cX:abL) (l:Nat×Nat) (b o:Nat),j.dG q x=false->cb w q x cs (some l)=some (e,cX,some (b,o))->b=l.1:=by
 intro q;induction q with
 |nil=>intro x e cs cX l b o _ h;simp only[cb,Option.some.injEq,Prod.mk.injEq]at h;rw[h.2.2]
 |cons k q ih=>
  intro x e cs cX l b o aj h;cases x with
  |agg ar=>simp only[cb]at h;split at h
           .rename_i y bh;simp only[j.dG,bh]at aj;simpa using ih _ _ _ _ _ _ _ aj h
           .cases h
  |tuple ar=>simp only[cb]at h;split at h
             .rename_i y bh;simp only[j.dG,bh]at aj;simpa using ih _ _ _ _ _ _ _ aj h
             .cases h
  |ad sz xs=>simp[j.dG]at aj
  |aD y=>simp[j.dG]at aj
  |_=>simp[cb]at h
theorem P0 {w:World} {F:Nat->Prop}:∀(q:abI) (av e:j) (cs cX:abL) (S:Nat->Prop) (a:Option (Nat×Nat)) (b o:Nat),ai w F av cs S->j.dG q av=true->cb w q av cs a=some (e,cX,some (b,o))->S b:=by
 intro q;induction q with
 |nil=>intro av e cs cX S a b o _ aj;simp[j.dG]at aj
 |cons k q ih=>
  intro av e cs cX S a b o h aj a6;cases av with
  |agg ar=>
   simp only[cb]at a6;split at a6
   .rename_i x ag;rw[ai]at h;simp only[j.dG,ag]at aj;obtain⟨bD,dz,bH,bJ,fJ,rfl,eN,dX,eG,fY,dw,h8⟩:=aS.pick ar cs S k x h ag;rw[mQ bD dz bH _ _ eN (ai.length _ _ _ dw)]at a6;exact eG _ (ih _ _ _ _ _ _ _ _ dw aj a6)
   .cases a6
  |tuple ar=>
   simp only[cb]at a6;split at a6
   .rename_i x ag;rw[ai]at h;simp only[j.dG,ag]at aj;obtain⟨bD,dz,bH,bJ,fJ,rfl,eN,dX,eG,fY,dw,h8⟩:=aS.pick ar cs S k x h ag;rw[mQ bD dz bH _ _ eN (ai.length _ _ _ dw)]at a6;exact eG _ (ih _ _ _ _ _ _ _ _ dw aj a6)
   .cases a6
  |ad sz xs=>
   rw[ai]at h;rcases h with⟨rfl,_,rfl⟩|⟨fS,cap,cur,fi,fr,cN,rfl,U,aA,aU,bt,b5,cd,dQ,gQ,gx,iN⟩
   .simp[cb]at a6
   .rw[cb.eq_def]at a6;simp only at a6;split at a6
    .rename_i x eI _ _ _ _ ag ga;simp only[cons.injEq,Value.slice.injEq,Option.some.injEq,Addr.mk.injEq,and_true]at ga;obtain⟨⟨rfl,_⟩,_⟩:=ga;cases wJ:j.dG q x
     .rw[IA w q x e _ cX _ b o wJ a6];exact U
     .obtain⟨bD,dz,bH,bJ,fJ,p,eN,dX,eG,fY,dw,h8⟩:=aS.pick xs _ cN k x gQ ag;have hl:=ai.length _ _ _ dw;have Bn:k<xs.length:=(List.getElem?_eq_some_iff.1 ag).1;have oM:x.wd=sz:=dQ x (mem_of_getElem? ag);have br:j.c6 (xs.take k)=k*sz:=by
       rw[pP _ (λd ae=>dQ d (mem_of_mem_take ae))];rw[length_take,Nat.min_eq_left (by omega)]
      obtain⟨kT,iv⟩:∃kT,cur.toList=bD++(dz++(bH++kT)):=by
       refine⟨cur.toList.drop (xs.length*sz),?_⟩;have:=(take_append_drop (xs.length*sz) cur.toList).symm;rw[p]at this;simpa using this
      have gR:jj w fS (k*sz) sz=dz:=by
       have:=mR aA iv
       rwa [eN,br,hl,oM]at this
      rw[gR]at a6;exact gx _ (eG _ (ih _ _ _ _ _ _ _ _ dw wJ a6))
    .cases a6
  |aD x=>
   cases k with
   |succ k=>simp[cb]at a6
   |zero=>
    rw[ai]at h;obtain⟨fS,cur,fi,fr,cN,rfl,U,aA,aU,bt,b5,cd⟩:=h;have hl:=ai.length _ _ _ bt;have gR:jj w fS 0 x.wd=cur.toList:=by
     have:=mR (l:=[]) (m:=cur.toList) (r:=[]) aA (by simp)
     rwa [hl]at this
    simp only[cb,gR]at a6;cases wJ:j.dG q x
    .rw[IA w q x e _ cX _ b o wJ a6];exact U
    .exact b5 _ (ih _ _ _ _ _ _ _ _ bt wJ a6)
  |_=>simp[cb]at a6
theorem P1 {w ax:World} {F:Nat->Prop} {b k o:Nat} {r:abI} (hw:∀c,c≠b->ax.heap[c]? =w.heap[c]?):∀(p:abI) (av d e:j) (cs b0 cX:abL) (S:Nat->Prop) (a ab:Option (Nat×Nat)),ai w F av cs S->j.dG (k::r) d=true->
  cb w p av cs a=some (d,b0,ab)->cb w (k::r) d b0 ab=some (e,cX,some (b,o))->cb ax p av cs a=some (d,b0,ab)/\S b:=by
 intro p;induction p with
 |nil=>
  intro av d e cs b0 cX S a ab h aj a6 bm;have B_:=a6;simp only[cb,Option.some.injEq,Prod.mk.injEq]at a6;obtain⟨rfl,rfl,rfl⟩:=a6;exact⟨B_,P0 _ _ _ _ _ _ _ _ _ h aj bm⟩
 |cons au p ih=>
  intro av d e cs b0 cX S a ab h aj a6 bm;cases av with
  |agg ar=>
   simp only[cb]at a6⊢;split at a6
   .rename_i x ag;rw[ai]at h;obtain⟨bD,dz,bH,bJ,fJ,rfl,eN,dX,eG,fY,dw,h8⟩:=aS.pick ar cs S au x h ag;rw[mQ bD dz bH _ _ eN (ai.length _ _ _ dw)]at a6⊢;obtain⟨aQ,a2⟩:=ih _ _ _ _ _ _ _ _ _ dw aj a6 bm;exact⟨aQ,eG _ a2⟩
   .cases a6
  |tuple ar=>
   simp only[cb]at a6⊢;split at a6
   .rename_i x ag;rw[ai]at h;obtain⟨bD,dz,bH,bJ,fJ,rfl,eN,dX,eG,fY,dw,h8⟩:=aS.pick ar cs S au x h ag;rw[mQ bD dz bH _ _ eN (ai.length _ _ _ dw)]at a6⊢;obtain⟨aQ,a2⟩:=ih _ _ _ _ _ _ _ _ _ dw aj a6 bm;exact⟨aQ,eG _ a2⟩
   .cases a6
  |ad sz xs=>
   rw[ai]at h;rcases h with⟨rfl,_,rfl⟩|⟨fS,cap,cur,fi,fr,cN,rfl,U,aA,aU,bt,b5,cd,dQ,gQ,gx,iN⟩
   .simp[cb]at a6
   .rw[cb.eq_def]at a6⊢;simp only at a6⊢;split at a6
    .rename_i x eI _ _ _ _ ag ga;simp only[cons.injEq,Value.slice.injEq,Option.some.injEq,Addr.mk.injEq,and_true]at ga;obtain⟨⟨rfl,_⟩,_⟩:=ga;obtain⟨bD,dz,bH,bJ,fJ,b7,eN,dX,eG,fY,dw,h8⟩:=aS.pick xs _ cN au x gQ ag;have hl:=ai.length _ _ _ dw;have Bn:au<xs.length:=(List.getElem?_eq_some_iff.1 ag).1;have oM:x.wd=sz:=dQ x (mem_of_getElem? ag);have br:j.c6 (xs.take au)=au*sz:=by
      rw[pP _ (λd ae=>dQ d (mem_of_mem_take ae))];rw[length_take,Nat.min_eq_left (by omega)]
     obtain⟨kT,iv⟩:∃kT,cur.toList=bD++(dz++(bH++kT)):=by
      refine⟨cur.toList.drop (xs.length*sz),?_⟩;have:=(take_append_drop (xs.length*sz) cur.toList).symm;rw[b7]at this;simpa using this
     have gR:jj w fS (au*sz) sz=dz:=by
      have:=mR aA iv
      rwa [eN,br,hl,oM]at this
     rw[gR]at a6;obtain⟨aQ,a2⟩:=ih _ _ _ _ _ _ _ _ _ dw aj a6 bm;have cO:fS≠b:=λe=>iN (e▸eG _ a2);have rI:jj ax fS (au*sz) sz=dz:=by
      have:=mR ((hw fS cO).trans aA) iv
      rwa [eN,br,hl,oM]at this
     refine⟨?_,gx _ (eG _ a2)⟩;rw[rI];exact aQ
    .cases a6
  |aD x=>
   cases au with
   |succ k=>simp[cb]at a6
   |zero=>
    rw[ai]at h;obtain⟨fS,cur,fi,fr,cN,rfl,U,aA,aU,bt,b5,cd⟩:=h;have hl:=ai.length _ _ _ bt;have gR:jj w fS 0 x.wd=cur.toList:=by
     have:=mR (l:=[]) (m:=cur.toList) (r:=[]) aA (by simp)
     rwa [hl]at this
    simp only[cb,gR]at a6⊢;obtain⟨aQ,a2⟩:=ih _ _ _ _ _ _ _ _ _ bt aj a6 bm;have cO:fS≠b:=λe=>cd (e▸a2);have rI:jj ax fS 0 x.wd=cur.toList:=by
     have:=mR (l:=[]) (m:=cur.toList) (r:=[]) ((hw fS cO).trans aA) (by simp)
     rwa [hl]at this
    rw[rI];exact⟨aQ,b5 _ a2⟩
  |_=>simp[cb]at a6
theorem IB:∀(p:abI) (av e d:j) (r:abI),j.sub p av=some e->j.put (p++r) d av=j.put p (j.put r d e) av:=by
 intro p;induction p with
 |nil=>intro av e d r h;simp only[j.sub,Option.some.injEq]at h;subst h;rfl
 |cons k p ih=>
  intro av e d r h;cases av with
  |agg ar=>simp only[j.sub]at h;split at h
           .rename_i x ag;simp only[cons_append,j.put,ag,ih _ _ d r h]
           .cases h
  |tuple ar=>simp only[j.sub]at h;split at h
             .rename_i x ag;simp only[cons_append,j.put,ag,ih _ _ d r h]
             .cases h
  |ad sz ar=>simp only[j.sub]at h;split at h
             .rename_i x ag;simp only[cons_append,j.put,ag,ih _ _ d r h]
             .cases h
  |aD x=>cases k with
   |succ k=>simp[j.sub]at h
   |zero=>simp only[j.sub]at h;simp only[cons_append,j.put,ih _ _ d r h]
  |_=>simp[j.sub]at h
def jo:abI->abI->Option abI
 |[],r=>some r
 |a::p,b::q=>if a=b then jo p q else none
 |_::_,[]=>none
theorem Cw:∀{p q r:abI},jo p q=some r->q=p++r
 |[],q,r,h=>by simp only[jo,Option.some.injEq]at h;rw[h];rfl
 |a::p,[],r,h=>by simp[jo]at h
 |a::p,b::q,r,h=>by
  simp only[jo]at h;split at h
  .rename_i e;rw[e,Cw h];rfl
  .cases h
def se:Option abI->Option j->Bool
 |some (_::_),some (.ad _ _)=>true
 |_,_=>false
def k3 (s:ah) (x a:j):Bool:=match x,a with
 | .al z q,.h y p=>decide (y=z)&&se (jo p q) (j.sub p (s z))
 |_,_=>false
theorem P2 {C:bI} {w0 w:World} {F0 X F:Nat->Prop} {S:Nat->Nat->Prop} {s:ah} {ao:Nat->Value} (a_:C.Ok) (h:bu w0 F0 X F S s ao w) {T:TypeId} {x y:j} {fD fE:Value} (rS:aB w F s ao x fD (λ_=>False)) (bh:y.plain=true) (we:aB w F s ao y fE (λ_=>False))
  {s2:ah} (he:gp C s T x y=some s2) {u:Nat} {hu:j} (r5:k3 s x hu=true) (t_:aB w F s ao hu (ao u) (λ_=>False)):
  ∃ax aF,(Instr.storeAt T fD fE).run C.P w= .ok () ax/\bu w0 F0 X F aF s2 ao ax/\aB ax F s2 ao hu (ao u) (λ_=>False):=by
 unfold gp at he;split at he
 .rename_i d s1 z q aL hl;have key:∀d:j,(∀ar,d≠.tuple ar)->cg s y=some (d,s1)->(match j.sub q (s z)with
   |some d0=>if d.wd=d0.wd/\d.wd=(C.T T).sz/\(C.T T).ok=true/\y.owner≠some z then some (ck (e_ z s1) z (j.put q d (s z)))else none
   |none=>none)=some s2->∃ax aF,(Instr.storeAt T fD fE).run C.P w= .ok () ax/\bu w0 F0 X F aF s2 ao ax/\aB ax F s2 ao hu (ao u) (λ_=>False):=by
   intro d ma aL he;split at he
   .rename_i d0 hc;split at he
    .rename_i nK;obtain⟨R,U,aA,aU⟩:=nK;simp only[Option.some.injEq]at he;subst he;obtain⟨i5,b0,b,o,rfl,ha⟩:=wa h rS hl hc;obtain⟨bJ,e9,aQ,a2,Sn,bQ,c4,dR,gn,gW,j9⟩:=mU h bh we aL;have cT:s1 z=s z:=G_ aL (fQ hc (.inr i5)) aU;have aaD:=hc;have P3:=ha;rw[<-cT]at hc i5 ha⊢;obtain⟨e4,eI,l,r,cur,e,fr,k0,bU,cc,de,cQ⟩:=e9.store hc i5 bQ R c4 dR gn gW;rw[ha]at k0;simp only[Option.some.injEq,Prod.mk.injEq,true_and]at k0;obtain⟨rfl,rfl,rfl⟩:=k0;obtain⟨i,rU,mV,aK,aV,a1,b6,cH,bT,bK⟩:=a_.info aA;have hlen:=ai.length _ _ _ bQ;have hm:b0.length=(bR fE).length:=by
      have nL:=e9.cK z;rw[aB.b4 (fQ hc (.inr i5))]at nL;obtain⟨_,_,_,_,h7,_,_,_,i6,_⟩:=ctx q (s1 z) (bR (ao z)) (bJ z) none _ nL.2 hc;rw[ha]at h7;simp only[Option.some.injEq,Prod.mk.injEq,true_and]at h7;rw[h7.1,ai.length _ _ _ i6,hlen,R]
     obtain⟨ax,ee,fb,gy,jm,jP,kU,mb⟩:=wc (P:=C.P) (b:=b) (o:=l.length) (e:=e) (fr:=fr) (bR fE) 0 cur w l b0 r bU de cc rfl hm (ai.pT _ _ _ bQ);obtain⟨aF,dT⟩:=cQ ax fb gy jm jP kU mb;refine⟨ax,aF,?_,dT,?_⟩
     rotate_left
     .cases x with
      |al IC gb=>
       simp only[loc]at hl;split at hl
       .simp only[Option.some.injEq,Prod.mk.injEq]at hl;obtain⟨rfl,rfl⟩:=hl;cases hu with
        |h e7 p=>
         simp only[k3,Bool.and_eq_true,decide_eq_true_eq]at r5;obtain⟨rfl,jQ⟩:=r5;cases sf:jo p gb with
         |none=>rw[sf]at jQ;simp[se]at jQ
         |some kA=>
          rw[sf]at jQ;have cp:=Cw sf;cases lL:j.sub p (s e7)with
          |none=>rw[lL]at jQ;cases kA<;>simp[se]at jQ
          |some d2=>
           rw[lL]at jQ;cases kA with
           |nil=>simp[se]at jQ
           |cons k kA=>
            cases d2 with
            |ad sz xs=>
             rw[aB]at t_⊢;obtain⟨y9,a0,f1,f2,f3⟩:=t_ _ lL rfl;have nL:=h.cK e7;rw[aB.b4 (fQ lL (.inl rfl))]at nL;have f4:=rM w p (s e7) _ _ y9 none a0 (k::kA) f1;rw[<-cp,P3]at f4;obtain⟨f5,_⟩:=P1 (ax:=ax) (b:=b) (o:=l.length) gy p _ _ _ _ _ _ _ _ _ nL.2 rfl f1 f4.symm;have ua:=IB p (s e7) _ d (k::kA) lL;intro aK k4 f_;rw[ks,cT,cp,ua]at k4⊢;obtain⟨r7,mZ⟩:∃r7,j.put (k::kA) d (.ad sz xs)= .ad sz r7:=by
              simp only[j.put];split
              .exact⟨_,rfl⟩
              .exact⟨_,rfl⟩
             rw[mZ]at k4⊢;rw[y3 p (s e7) _ _ lL]at k4;have k4:=Option.some.inj k4;subst k4;exact⟨y9,a0,Cn ax p (s e7) _ _ _ _ _ _ lL rfl f5,f2,f3⟩
            |_=>simp[se]at jQ
        |_=>simp[k3]at r5
       .cases hl
      |_=>simp[k3]at r5
     have kV:=rR a2 ma;simp[Instr.storeAt,Instr.sureAddr,storeVar,iz aK,aV,kV,hlen,U,ee]
    .cases he
   .cases he
  split at he
  .cases he
  .rename_i ma;exact key _ (λar e=>ma ar e) aL he
 .cases he
mutual
def j.eQ (s:ah):j->Bool
 | .h x q=>q.isEmpty&&(s x).own
 | .J x _=> !(s x).plain
 | .al _ _=>false
 | .hole=>true
 | .fn _ cap=>j.na s cap
 |d=>d.plain
def j.na (s:ah):abN->Bool
 |[]=>true
 |d::ds=>d.eQ s&&j.na s ds
end
def jc (s:ah):abM->ah
 |[]=>s
 |p::L=>jc (ck s p.1 p.2) L
def jq (s:ah):abM->Bool
 |[]=>true
 |p::L=>p.2.eQ s&&jq s L
def hj (s:ah) (us:abI):abM:=us.map λu=>(u,s u)
def nb (C:bI) (s:ah) (bp:c9) (K:j->ah->Prop):Prop:=
 match bp with
 | .call f args=>∃(g:FuncId) (caps:abN) (ps:List b_) (r:j),aX s f= .fn g caps/\j.dF caps=true/\ps.map (·.a)=args.map (aX s)++caps/\(∀p∈ps,p.ok s)/\gY ps=true/\
   bx C g (ps.map (·.d)) r (ps.map (·.o))/\r.res=true/\(iD ps=true->r.cL=true/\∀p∈ps,p.o.cL=true)/\K r (gd (dV s ps) ps)
 | .shr bp=>∃av s1,bE C s bp=some (av,s1)/\av.tree=true/\(∀vs,av≠.tuple vs)/\K av.share s1
 | .iT f args us=>jq s (hj s us)=true/\Cv C s f args λav s1=>jq s1 (hj s us)=true/\K av (jc s1 (hj s us))
 | .kt T x y u=>k3 s (aX s x) (s u)=true/\∃s1,gp C s T (aX s x) (aX s y)=some s1/\K .hole (jc s1 [(u,s u)])
 |bp=>∃av s1,bE C s bp=some (av,s1)/\K av s1
theorem y_ {C:bI} {s:ah} {bp:c9} {K cR:j->ah->Prop} (h:nb C s bp K) (ak:∀av s,K av s->cR av s):nb C s bp cR:=by
 cases bp with
 |call f args=>
  obtain⟨g,caps,ps,r,R,fG,U,aA,aU,bt,b5,cd,dQ⟩:=h;exact⟨g,caps,ps,r,R,fG,U,aA,aU,bt,b5,cd,ak _ _ dQ⟩
 |shr bp=>
  obtain⟨av,s1,R,U,aA,aU⟩:=h;exact⟨av,s1,R,U,aA,ak _ _ aU⟩
 |iT f args us=>
  obtain⟨cc,g,caps,ps,r,R,fG,U,aA,aU,bt,b5,cd,dQ,gQ⟩:=h;exact⟨cc,g,caps,ps,r,R,fG,U,aA,aU,bt,b5,cd,dQ,ak _ _ gQ⟩
 |kt T x y u=>obtain⟨bU,s1,R,U⟩:=h;exact⟨bU,s1,R,ak _ _ U⟩
 |_=>
  obtain⟨av,s1,R,U⟩:=h;exact⟨av,s1,R,ak _ _ U⟩
def kB (C:bI) (s:ah) (o:bG) (K:ah->Prop):Prop:=
 match o.guard with
 |none=>nb C s o.bp λav s1=>K (fin s1 o.dst av)
 |some (t,b)=>match s t with
  | .bool eI=>if eI=b then nb C s o.bp (λav s1=>K (fin s1 o.dst av))else K (fin s o.dst (.tuple []))
  | .tuple []=>K (fin s o.dst (.tuple []))
  |_=>False
def ic (C:bI) (s:ah):List bG->(ah->Prop)->Prop
 |[],K=>K s
 |o::os,K=>kB C s o λs1=>ic C s1 os K
def iV (C:bI) (ros:List bG) (s:ah):abI->(ah->Prop)->Prop
 |[],K=>K s
 |i::l,K=>match ros[i]? with
  |none=>iV C ros s l K
  |some o=>kB C s o λs1=>iV C ros s1 l K
theorem P4 (C:bI) (K:ah->Prop):∀(rs pre:List bG) (s:ah),ic C s rs K->iV C (pre++rs) s ((range rs.length).map (·+pre.length)) K:=by
 intro rs;induction rs with
 |nil=>intro pre s h;exact h
 |cons r rs ih=>
  intro pre s h;rw[length_cons,range_succ_eq_map,map_cons,List.map_map];simp only[iV,Nat.zero_add];rw[getElem?_append_right (Nat.le_refl _)];simp only[Nat.sub_self,getElem?_cons_zero];have key:∀s1,ic C s1 rs K->iV C (pre++r::rs) s1 ((range rs.length).map ((λx=>x+pre.length)∘succ)) K:=by
   intro s1 R;have:=ih (pre++[r]) s1 R;simp only[append_assoc,singleton_append,length_append,length_singleton]at this;have e:((λx=>x+pre.length)∘succ)=λx=>x+(pre.length+1):=by funext x;simp;omega
   rw[e];exact this
  simp only[ic]at h;unfold kB at h⊢;split
  .rename_i bm;rw[bm]at h;exact y_ h λav s1=>key _
  .rename_i t b bm;rw[bm]at h;simp only at h;split
   .rename_i eI I;rw[I]at h;simp only at h;split
    .rename_i J;rw[if_pos J]at h;exact y_ h λav s1=>key _
    .rename_i J;rw[if_neg J]at h;exact key _ h
   .rename_i I;rw[I]at h;exact key _ h
   .rename_i R U;split at h
    .exact R _ (by assumption)
    .exact U (by assumption)
    .exact h
structure Rel (w0:World) (F0 X:Nat->Prop) (n:Fr) (ρ:Nat->Value) (s:ah) (a:Act) (w:World):Prop where
 defers:a.defers=[]
 size:a.tmps.size=n.n
 fixed:∀i∈n.fx,a.tmps.getD i undef=ρ i
 rel:∃F S,bu w0 F0 X F S s (λt=>a.tmps.getD t undef) w
section
variable {C:bI} {w0 w:World} {F0 X:Nat->Prop} {n:Fr} {ρ:Nat->Value} {s s1:ah} {a:Act} {av:j} {Q:Exit->Act->World->Prop}
theorem Cx {dst:Option Nat} (v:Value) (I:a.tmps.size=n.n) (ae:ky n dst=true):
  (λt=>(a.put dst v).tmps.getD t undef)=pS (λt=>a.tmps.getD t undef) dst v/\(a.put dst v).tmps.size=n.n/\(a.put dst v).defers=a.defers:=by
 cases dst with
 |none=>exact⟨rfl,I,rfl⟩
 |some d=>
  simp only[ky,Bool.and_eq_true,decide_eq_true_eq]at ae;refine⟨?_,by simp[Act.put,I],rfl⟩;funext t;simp only[Act.put,pS,ck,Array.getD_eq_getD_getElem?];by_cases h:t=d
  .subst h;rw[if_pos rfl,Array.getElem?_setIfInBounds_self_of_lt (by omega)];rfl
  .rw[if_neg h,Array.getElem?_setIfInBounds_ne (λe=>h e.symm)]
theorem Rel.put {F S} (ae:a.defers=[]) (I:a.tmps.size=n.n) (a6:∀i∈n.fx,a.tmps.getD i undef=ρ i) {ax:World} (aN:bu w0 F0 X F S s (λt=>a.tmps.getD t undef) ax) {v:Value} (ay:jN w0 X F S s (λt=>a.tmps.getD t undef) ax av v)
  {dst:Option Nat} (eP:ky n dst=true):Rel w0 F0 X n ρ (fin s dst av) (a.put dst v) ax:=by
 obtain⟨aK,aV,a1⟩:=Cx (n:=n) (dst:=dst) v I eP;obtain⟨aF,bz⟩:=aN.fin ay dst;refine⟨a1.trans ae,aV,λi aw=>?_,F,aF,by rw[aK];exact bz⟩;rw[congrFun aK i];cases dst with
 |none=>exact a6 i aw
 |some d=>
  simp only[ky,Bool.and_eq_true,Bool.not_eq_true',contains_eq_mem,decide_eq_false_iff_not]at eP;have cO:i≠d:=λe=>eP.2 (by rw[<-e];exact aw);simp only[pS];rw[hX _ _ cO];exact a6 i aw
theorem Rel.skip (h:Rel w0 F0 X n ρ s a w) {dst:Option Nat} (eP:ky n dst=true):Rel w0 F0 X n ρ (fin s dst (.tuple [])) (a.put dst undef) w:=by
 obtain⟨ae,I,a6,F,S,aN⟩:=h;refine Rel.put (av:=.tuple []) ae I a6 aN (.inl ⟨rfl,(aB.b4 (d:=.tuple []) rfl).2 ⟨?_,?_⟩⟩) eP
 .exact⟨#[],rfl,rfl,λk d x ak=>by simp at ak⟩
 .rw[ai,aS];rfl
theorem ID {F:Nat->Prop} {ao:Nat->Value} {w:World}:∀{ds es:abN} {vs us:abL},dk w F s ao ds vs->dk w F s ao es us->dk w F s ao (ds++es) (vs++us):=by
 intro ds;induction ds with
 |nil=>intro es vs us R U;rw[dk]at R;subst R;exact U
 |cons d ds ih=>
  intro es vs us R U;rw[dk]at R;obtain⟨v,iw,rfl,aQ,a2⟩:=R;rw[cons_append,cons_append,dk];exact⟨v,_,rfl,aQ,ih a2 U⟩
theorem IE {F:Nat->Prop} {ao:Nat->Value} {w:World}:∀{ds:abN} {vs:abL},dk w F s ao ds vs->ds.length=vs.length/\∀(i:Nat) (d:j) (v:Value),ds[i]? =some d->vs[i]? =some v->aB w F s ao d v (λ_=>False):=by
 intro ds;induction ds with
 |nil=>intro vs h;rw[dk]at h;subst h;exact⟨rfl,λi d v h=>by simp at h⟩
 |cons d ds ih=>
  intro vs h;rw[dk]at h;obtain⟨v,iw,rfl,aQ,a2⟩:=h;obtain⟨bU,cc⟩:=ih a2;refine⟨by simp[bU],λi bb fh ae ay=>?_⟩;cases i with
  |zero=>simp at ae ay;subst ae ay;exact aQ
  |succ i=>exact cc i bb fh (by simpa using ae) (by simpa using ay)
theorem o3 {op:Op} {bp:c9} (h:o2 op=bp):bp= .bad\/cC op=some bp:=by
 unfold o2 at h;split at h
 .subst h;right;assumption
 .exact .inl h.symm
theorem P5 {op:Op} {bp:c9}:cC op≠some (.shr bp):=by
 intro h;unfold cC at h;split at h<;>(try split at h)<;>(try split at h)<;>(try split at h)<;>(try simp[Option.map_eq_some_iff]at h)
theorem P6 {op:Op} {f:aZ} {args:List aZ} {us:abI}:cC op≠some (.iT f args us):=by
 intro h;unfold cC at h;split at h<;>(try split at h)<;>(try split at h)<;>(try split at h)<;>(try simp[Option.map_eq_some_iff]at h)
theorem P7 {op:Op} {x:aZ} {k:Nat}:cC op≠some (.ext x k):=by
 intro h;unfold cC at h;split at h<;>(try split at h)<;>(try split at h)<;>(try split at h)<;>(try simp[Option.map_eq_some_iff]at h)
theorem P8 {op:Op} {x:aZ} {k:Nat} (h:cC op=some (.ex x k)):∃cq,op= .extract cq k/\cZ cq=some x:=by
 cases op with
 |extract cq cY=>
  simp only[cC,Option.map_eq_some_iff,c9.ex.injEq]at h;obtain⟨y,bh,rfl,rfl⟩:=h;exact⟨cq,rfl,bh⟩
 |_=>
  exfalso;unfold cC at h;split at h<;>(try split at h)<;>(try split at h)<;>(try split at h)<;>(try simp[Option.map_eq_some_iff]at h)<;>contradiction
theorem P9 {op:Op} {T:TypeId} {x y:aZ} {u:Nat}:cC op≠some (.kt T x y u):=by
 intro h;unfold cC at h;split at h<;>(try split at h)<;>(try split at h)<;>(try split at h)<;>(try simp[Option.map_eq_some_iff]at h)
theorem P_ {op:Op} {T:TypeId} {x:aZ}:cC op≠some (.h0 T x):=by
 intro h;unfold cC at h;split at h<;>(try split at h)<;>(try split at h)<;>(try split at h)<;>(try simp[Option.map_eq_some_iff]at h)
theorem Qa {op:Op} {T bM:TypeId} {x y:aZ}:cC op≠some (.h_ T bM x y):=by
 intro h;unfold cC at h;split at h<;>(try split at h)<;>(try split at h)<;>(try split at h)<;>(try simp[Option.map_eq_some_iff]at h)
theorem Qb {op:Op} {T bM:TypeId} {x y:aZ} (h:cC op=some (.app T bM x y)):∃a b,op= .call ⟨.builtin .append,#[a,b],#[T,bM]⟩/\cZ a=some x/\cZ b=some y:=by
 cases op with
 |call c=>
  obtain⟨callee,args,argTypes⟩:=c;simp only[cC]at h;split at h
  .split at h<;>simp at h
  .split at h<;>simp at h
  .split at h<;>simp at h
  ·(split at h<;>try split at h)<;>simp at h
  ·(split at h<;>try split at h)<;>simp at h
  .split at h
   .rename_i a b za y2 lJ r8;split at h
    .rename_i cq iy ag bh;simp only[Option.some.injEq,c9.app.injEq]at h;obtain⟨rfl,rfl,rfl,rfl⟩:=h;refine⟨a,b,?_,ag,bh⟩;have aK:args= #[a,b]:=by apply Array.ext';exact lJ
     have aV:argTypes= #[za,y2]:=by apply Array.ext';exact r8
     subst aK aV;rfl
    .cases h
   .cases h
  .cases h
 |makeFunc fn first cs=>
  cases fn<;>simp only[cC]at h<;>first|(cases h;done)|(split at h<;>simp at h)
 |slice T x dU aw gJ=>
  cases gJ<;>simp only[cC]at h<;>first|(cases h;done)|(split at h<;>simp at h)
 |makeMap T r=>cases r<;>simp only[cC]at h<;>simp at h
 |lookup T x i c=>cases c<;>simp only[cC]at h<;>first|(cases h;done)|(split at h<;>simp at h)
 |_=>simp only[cC]at h<;>first|(cases h;done)|(simp at h;done)|(split at h<;>simp at h)
theorem bu.alias {F:Nat->Prop} {S:Nat->Nat->Prop} {ao:Nat->Value} {u x:Nat} (h:bu w0 F0 X F S s ao w) (hu:s u= .hole) (ag:(s x).own=true) (ay:bR (ao u)=bR (ao x)) (R:Value.ft (ao u)=true):
  bu w0 F0 X F (fy S u (λ_=>False)) (ck s u (.h x [])) ao w:=by
 have du:ck ao u (ao u)=ao:=by funext y;simp only[ck];split<;>simp_all
 have:=h.tH (t:=u) (d:=.h x []) (v:=ao u) rfl (by
  rw[aB];intro d ae al;simp only[j.sub,Option.some.injEq]at ae;subst ae;exact⟨bR (ao x),none,rfl,ay,((sb ag).2.2.2.2.2 _).2 R⟩)
 rwa [du]at this
theorem jN.less {F:Nat->Prop} {S aF:Nat->Nat->Prop} {ao:Nat->Value} {s1:ah} {v:Value} (bg:∀u b,aF u b->S u b) (aN:av.res=true) (h:jN w0 X F S s ao w av v):jN w0 X F aF s1 ao w av v:=by
 rcases h with⟨R,U⟩|⟨R,U,Sn,aA,aU,bt,b5,cd⟩
 .refine .inl ⟨R,?_⟩;cases av<;>first
   |(simp[j.res]at aN;done)
   |(rw[aB];trivial)
   |(rw[aB]at U⊢;exact U)
 .exact .inr ⟨R,U,Sn,aA,aU,bt,λu b J hu=>b5 u b J (bg u b hu),cd⟩
theorem IF (a_:C.Ok) (h:Rel w0 F0 X n ρ s a w) {o:Oper} {f:aZ} {args:List aZ} (bX:cC o.op=some (.call f args)) (ae:ky n o.dst=true) {K:j->ah->Prop} {L:ah->Prop} {next:Act->World->Prop}
  (hw:Cv C s f args K) (sg:∀F S bC aF w ax av s1 v,bu w0 F0 X F S s (λt=>a.tmps.getD t undef) w->K av s1->av.res=true->bu w0 F0 X bC aF s1 (λt=>a.tmps.getD t undef) ax->jN w0 X bC aF s1 (λt=>a.tmps.getD t undef) ax av v->(∀b,F b->bC b/\ax.heap[b]? =w.heap[b]?)->
   ∃s2 cS,L (fin s2 o.dst av)/\bu w0 F0 X bC cS s2 (λt=>a.tmps.getD t undef) ax/\jN w0 X bC cS s2 (λt=>a.tmps.getD t undef) ax av v)
  (a7:∀aq b3 ax,L aq->Rel w0 F0 X n ρ aq b3 ax->next b3 ax):o.wp C.P a w next Q:=by
 have hrel:=h;obtain⟨hk,cT,gq,F,S,aN⟩:=h;obtain⟨g,caps,ps,r,R,fG,U,aA,aU,bt,b5,cd,dQ⟩:=hw;obtain⟨dst,op,ty,pos,after,guard⟩:=o;simp only at bX ae sg;cases op with
 |call c=>
  obtain⟨callee,nZ,argTypes⟩:=c;simp only[cC]at bX;split at bX
  .split at bX
   .rename_i wK _ _ Qc xs a6 nW;simp only[Option.some.injEq,c9.call.injEq]at bX;obtain⟨rfl,rfl⟩:=bX;obtain⟨f1,f2⟩:=dZ aN (λ_=>rfl) a6;rw[R,aB]at f2;obtain⟨arr,f3,f4⟩:=f2;have p7:execOp a.eval {dst,op:=.call {callee:=.value wK,args:=nZ,argTypes},type:=ty,pos,after,guard}=callFunc g ((nZ.toList.map a.eval++arr.toList).toArray):=by
     have:a.eval wK= .func (.func g) #[] arr:=f3;simp only[execOp,resolve,this,Deferred.ofValue,pure_bind,invoke];congr 1;apply Array.ext';simp
    unfold Oper.wp;rw[p7];have wL:dk w F s (λt=>a.tmps.getD t undef) (xs.map (aX s)++caps) (nZ.toList.map a.eval++arr.toList):=ID (yZ aN (λ_=>rfl) _ _ (r6 nW)) f4;rw[<-U]at wL;obtain⟨en,l2⟩:=IE wL;have f_:∀d∈xs.map (aX s)++caps,d.plain=true:=by
     intro d ae;rcases mem_append.1 ae with ae|ae
     .obtain⟨x,ag,rfl⟩:=mem_map.1 ae;exact G2 s x λav e=>by
       subst e;have hm:=r6 nW;have:some (aZ.c av)∈xs.map some:=mem_map.2 ⟨_,ag,rfl⟩;rw[<-hm]at this;obtain⟨o,_,br⟩:=mem_map.1 this;cases o with
       |const v=>simp only[cZ,Option.map_eq_some_iff]at br;obtain⟨c,aj,e⟩:=br;cases e;exact Bx aj
       |tmp n=>simp[cZ]at br
       |func g=>simp[cZ]at br
       |global g=>simp[cZ]at br
     .obtain⟨k,ak⟩:=getElem?_of_mem ae;exact vT fG ak
    have Cy:=PZ (C:=C) aN (ps:=ps) (vs:=nZ.toList.map a.eval++arr.toList) (f:=g) (r:=r) (by simpa using en)
     (λi p v al ay=>⟨f_ p.a (by rw[<-U];exact mem_map.2 ⟨p,mem_of_getElem? al,rfl⟩),l2 i p.a v (by simp[al]) ay⟩) aA aU bt b5 cd
    rcases Cy with⟨dK,bL⟩|⟨v,ax,dK,bC,aF,bL,eZ,cy⟩
    .rw[dK,Oper.upon_enter];refine Calls.mono bL ?_;rintro e ax ⟨v,rfl,bC,aF,bU,cc,de⟩;obtain⟨s2,cS,ee,fb,gy⟩:=sg _ _ _ _ _ _ _ _ _ aN dQ b5 bU cc de;exact a7 _ _ _ ee (Rel.put hk cT gq fb gy ae)
    .rw[dK,Oper.upon_value];obtain⟨s2,cS,ee,fb,gy⟩:=sg _ _ _ _ _ _ _ _ _ aN dQ b5 bL eZ cy;exact a7 _ _ _ ee (Rel.put hk cT gq fb gy ae)
   .cases bX
  .split at bX
   .simp only[Option.map_eq_some_iff]at bX;obtain⟨_,_,bX⟩:=bX;cases bX
   .cases bX
  .split at bX
   .simp only[Option.map_eq_some_iff]at bX;obtain⟨_,_,bX⟩:=bX;cases bX
   .cases bX
  iterate 3
   .split at bX
    .split at bX<;>cases bX
    .cases bX
  .cases bX
 |makeFunc fn first cs=>
  cases fn<;>simp only[cC]at bX<;>first|(cases bX;done)|(split at bX<;>simp at bX)
 |slice T x dU aw gJ=>
  cases gJ<;>simp only[cC]at bX<;>first|(cases bX;done)|(split at bX<;>simp at bX)
 |makeMap T r=>cases r<;>simp only[cC]at bX<;>simp at bX
 |lookup T x i c=>cases c<;>simp only[cC]at bX<;>first|(cases bX;done)|(split at bX<;>simp at bX)
 |_=>simp only[cC]at bX<;>first|(cases bX;done)|(simp at bX;done)|(split at bX<;>simp at bX)
theorem Qd (a_:C.Ok) (h:Rel w0 F0 X n ρ s a w) {o:Oper} {bp:c9} (bX:cC o.op=some bp) (ae:ky n o.dst=true) {K:ah->Prop} {next:Act->World->Prop}
  (hw:nb C s bp λav s1=>K (fin s1 o.dst av)) (a7:∀aq b3 ax,K aq->Rel w0 F0 X n ρ aq b3 ax->next b3 ax):o.wp C.P a w next Q:=by
 have hrel:=h;obtain⟨hk,cT,gq,F,S,aN⟩:=h;have plain:∀av s1,bE C s bp=some (av,s1)->K (fin s1 o.dst av)->o.wp C.P a w next Q:=by
  intro av s1 he ak;obtain⟨r,ax,v,bC,aF,R,U,aA,aU⟩:=HY (a:=a) a_ aN (λ_=>rfl) bX he;unfold Oper.wp;rw[R];rcases U with rfl|⟨rfl,rfl⟩
  .exact a7 _ _ _ ak (Rel.put hk cT gq aA aU ae)
  .exact a7 _ _ _ ak (Rel.put hk cT gq aA aU ae)
 cases bp with
 |shr bp=>exact(P5 bX).elim
 |h_ T bM x y=>exact(Qa bX).elim
 |call f args=>exact IF a_ ⟨hk,cT,gq,F,S,aN⟩ bX ae (K:=λav s1=>K (fin s1 o.dst av)) hw (λ_ _ _ aF _ _ _ s1 _ _ U _ aA aU _=>⟨s1,aF,U,aA,aU⟩) a7
 |iT f args L=>exact(P6 bX).elim
 |kt T x y u=>exact(P9 bX).elim
 |h0 T x=>exact(P_ bX).elim
 |ext x k=>exact(P7 bX).elim
 |_=>
  obtain⟨av,s1,he,ak⟩:=hw;exact plain av s1 he ak
theorem jN.share {F:Nat->Prop} {S:Nat->Nat->Prop} {ao:Nat->Value} {v:Value} (h:bu w0 F0 X F S s ao w) (ay:jN w0 X F S s ao w av v) (aL:av.tree=true) (a7:∀vs,av≠.tuple vs):
  ∃bC,bu w0 F0 X bC S s ao w/\jN w0 X bC S s ao w av.share v:=by
 obtain⟨Sn,gb,fC,iR,hI,qH,wM⟩:∃Sn:Nat->Prop,c0 av v/\ai w F av (bR v) Sn/\(∀b,Sn b->b<w.heap.size)/\(∀b,Sn b->¬F b)/\(∀u b,Sn b->¬S u b)/\(∀b,Sn b->X b\/w0.heap.size<=b):=by
  rcases ay with⟨R,U⟩|⟨_,U,Sn,aA,aU,bt,b5,cd⟩
  .rw[aB.b4 aL]at U;exact⟨λ_=>False,U.1,U.2,λ_ h=>h.elim,λ_ h=>h.elim,λ_ _ h=>h.elim,λ_ h=>h.elim⟩
  .exact⟨Sn,U,aA,aU,bt,b5,cd⟩
 refine⟨λb=>F b\/Sn b,?_,.inl ⟨Ck av,?_⟩⟩
 .exact {
   fR:=λb J=>.inl (h.fR b J)
   gl:=λb J=>by
    rcases J with J|J
    .exact h.gl b J
    .exact .inr (wM b J)
   eu:=λb J=>J.elim (h.eu b) (iR b)
   dD:=h.dD
   eW:=λt b J a6=>a6.elim (h.eW t b J) (λI=>qH t b I J)
   ev:=h.ev
   cN:=h.cN
   cK:=λt=>aB.frame (λ_ _=>rfl) (λb J=>.inl J) (λ_ _ _=>rfl) h.cK _ _ _ (λ_ _=>rfl) (h.cK t)
   old:=h.old
   size:=h.size
   os:=h.os
   tape:=h.tape
   output:=h.output
   fL:=h.fL}
 .by_cases br:∃o,av= .dc o
  .obtain⟨o,rfl⟩:=br;rw[j.share,aB];trivial
  by_cases zb:∃f c,av= .eU f c
  .obtain⟨f,c,rfl⟩:=zb;rw[j.share,aB];trivial
  by_cases IG:∃c,av= .fB c
  .obtain⟨c,rfl⟩:=IG;rw[j.share,aB];trivial
  have Qe:av.share.tree=true:=by cases av<;>first|exact aL|rfl|exact(br ⟨_,rfl⟩).elim|exact(zb ⟨_,_,rfl⟩).elim|exact(IG ⟨_,rfl⟩).elim
  rw[aB.b4 Qe];exact⟨Cm a7 gb,ai.shared (λb J=>.inl J) av _ Sn (λb J=>.inr J) fC⟩
theorem IH {op:Op} {T:TypeId} {x y:aZ} (h:cC op=some (.gp T x y)):∃a b,op= .store T a b/\cZ a=some x/\cZ b=some y:=by
 cases op with
 |store za a b=>
  simp only[cC]at h;split at h
  .rename_i cq iy ag bh;simp only[Option.some.injEq,c9.gp.injEq]at h;obtain⟨rfl,rfl,rfl⟩:=h;exact⟨a,b,rfl,ag,bh⟩
  .cases h
 |_=>
  exfalso;unfold cC at h;split at h<;>(try split at h)<;>(try split at h)<;>(try split at h)<;>(try simp[Option.map_eq_some_iff]at h)<;>contradiction
theorem Qf {op:Op} {T:TypeId} {x:aZ} (h:cC op=some (.gK T x)):∃a,op= .box T a/\cZ a=some x:=by
 cases op with
 |box za a=>
  simp only[cC,Option.map_eq_some_iff,c9.gK.injEq]at h;obtain⟨y,bh,rfl,rfl⟩:=h;exact⟨a,rfl,bh⟩
 |_=>
  exfalso;unfold cC at h;split at h<;>(try split at h)<;>(try split at h)<;>(try split at h)<;>(try simp[Option.map_eq_some_iff]at h)<;>contradiction
theorem Qg {ax:World} {F bC:Nat->Prop} {s s1:ah} {ao:Nat->Value} (aY:∀b,F b->bC b/\ax.heap[b]? =w.heap[b]?):∀(n:Nat),
  (∀(d:j) (v:Value) (S:Nat->Prop),SizeOf.sizeOf d<=n->d.eQ s=true->d.eQ s1=true->aB w F s ao d v S->aB ax bC s1 ao d v (λ_=>False))/\
  (∀(ds:abN) (vs:abL),SizeOf.sizeOf ds<=n->j.na s ds=true->j.na s1 ds=true->dk w F s ao ds vs->dk ax bC s1 ao ds vs):=by
 intro n;induction n with
 |zero=>
  refine⟨λd v S bA=>?_,λds vs bA=>?_⟩
  .cases d<;>simp at bA<;>omega
  .cases ds<;>simp at bA<;>omega
 |succ n ih=>
  refine⟨λd v S bA bU cc h=>?_,λds vs bA bU cc h=>?_⟩
  .cases d with
   |hole=>rw[aB];trivial
   |h x q=>
    simp only[j.eQ,Bool.and_eq_true,isEmpty_iff]at bU cc;obtain⟨rfl,bU⟩:=bU;rw[aB]at h⊢;obtain⟨b0,a,dX,eG,fY⟩:=h (s x) (by simp only[j.sub]) (sb bU).1;simp only[cb,Option.some.injEq,Prod.mk.injEq,true_and]at dX;intro d ae _;simp only[j.sub,Option.some.injEq]at ae;subst ae;exact⟨bR (ao x),none,by simp only[cb],by rw[eG,<-dX.1],((sb cc.2).2.2.2.2.2 _).2 (((sb bU).2.2.2.2.2 _).1 fY)⟩
   |al x q=>simp[j.eQ]at bU
   |J x k=>
    simp only[j.eQ,Bool.not_eq_true']at bU;rw[aB]at h⊢;obtain⟨b,cur,e,fr,R,U,aA,aU⟩:=h bU;exact λ_=>⟨b,cur,e,fr,R,(aY b U).1,(aY b U).2.trans aA,aU⟩
   |fn f cap=>
    simp only[j.eQ]at bU cc;rw[aB]at h⊢;obtain⟨arr,rfl,aj⟩:=h;exact⟨arr,rfl,ih.2 _ _ (by simp at bA;omega) bU cc aj⟩
   |_=>
    simp only[j.eQ]at bU;have bz:=(aB.b4 rfl).1 h;exact(aB.b4 rfl).2 ⟨bz.1,ai.mono (λb J=>(aY b J).1) _ _ _ _ (λ_ h=>h) (ai.frame (λb J=>(aY b J).2) _ _ _ (λ_ h=>h.elim) (ai.plain _ _ _ _ bU bz.2))⟩
  .cases ds with
   |nil=>rw[dk]at h⊢;exact h
   |cons d ds=>
    simp only[j.na,Bool.and_eq_true]at bU cc;rw[dk]at h⊢;obtain⟨v,iw,rfl,R,U⟩:=h;simp at bA;exact⟨v,iw,rfl,ih.1 _ _ _ (by omega) bU.1 cc.1 R,ih.2 _ _ (by omega) bU.2 cc.2 U⟩
theorem Qh {s:ah} {d:j} (h:d.eQ s=true):d.plain=true:=by
 cases d<;>first|rfl|(simpa [j.eQ]using h)
theorem bu.jc {F:Nat->Prop} {ao:Nat->Value}:∀(L:abM) (s:ah) (S:Nat->Nat->Prop),bu w0 F0 X F S s ao w->(∀p∈L,p.2.plain=true/\aB w F s ao p.2 (ao p.1) (λ_=>False))->
  ∃aF,bu w0 F0 X F aF (cW.jc s L) ao w/\∀u b,aF u b->S u b:=by
 intro L;induction L with
 |nil=>intro s S h _;exact⟨S,h,λ_ _ h=>h⟩
 |cons p L ih=>
  intro s S h sg;obtain⟨R,U⟩:=sg p (by simp);have du:ck ao p.1 (ao p.1)=ao:=by funext u;simp only[ck];split<;>simp_all
  have aA:=h.tH (t:=p.1) R U;rw[du]at aA;have fZ:∀x,x≠p.1->(ck s p.1 p.2 x).tree=true->ck s p.1 p.2 x=s x/\ao x=ao x:=λx ag _=>⟨hX _ _ ag,rfl⟩
  obtain⟨aF,aQ,a2⟩:=ih _ _ aA (λq cp=>⟨(sg q (by simp[cp])).1,(aB.void (t:=p.1) fZ (by rw[ks];exact R) _).1 _ _ _ (Nat.le_refl _) (sg q (by simp[cp])).2⟩);refine⟨aF,aQ,λu b J=>?_⟩;have:=a2 u b J;simp only[fy]at this;split at this
  .exact this.elim
  .exact this
theorem Cz {s:ah}:∀{L:abM},jq s L=true->∀p∈L,p.2.eQ s=true
 |q::L,R,p,al=>by
  simp only[jq,Bool.and_eq_true]at R;rcases mem_cons.1 al with rfl|al
  .exact R.1
  .exact Cz R.2 p al
theorem Qi {s:ah} {us:abI} {p:Nat×j} (h:p∈hj s us):p.1∈us/\s p.1=p.2:=by
 obtain⟨u,hu,rfl⟩:=mem_map.1 h;exact⟨hu,rfl⟩
theorem Qj (a_:C.Ok) (h:Rel w0 F0 X n ρ s a w) {o:Oper} {bp:c9} (bX:o2 o.op=bp.base) (ae:ky n o.dst=true) {K:ah->Prop} {next:Act->World->Prop}
  (hw:nb C s bp λav s1=>K (fin s1 o.dst av)) (a7:∀aq b3 ax,K aq->Rel w0 F0 X n ρ aq b3 ax->next b3 ax):o.wp C.P a w next Q:=by
 cases bp with
 |shr bp=>
  obtain⟨av,s1,he,aL,lK,ak⟩:=hw;rcases o3 bX with bX|bX
  .change bp= .bad at bX;subst bX;cases he
  obtain⟨hk,cT,gq,F,S,aN⟩:=h;obtain⟨r,ax,v,bC,aF,R,U,aA,aU⟩:=HY (a:=a) a_ aN (λ_=>rfl) bX he;obtain⟨k2,bQ,c4⟩:=jN.share aA aU aL lK;unfold Oper.wp;rw[R];rcases U with rfl|⟨rfl,rfl⟩
  .exact a7 _ _ _ ak (Rel.put hk cT gq bQ c4 ae)
  .exact a7 _ _ _ ak (Rel.put hk cT gq bQ c4 ae)
 |bad=>obtain⟨av,s1,he,_⟩:=hw;cases he
 |iT f args L=>
  obtain⟨aV,hw⟩:=hw;rcases o3 bX with J|J
  .cases J
  .refine IF a_ h J ae hw ?_ a7;rintro F S bC aF w ax av s1 v gb ⟨fC,hI⟩ qH wM CA Qk;obtain⟨cS,aQ,a2⟩:=wM.jc (hj s L) s1 aF (λp al=>by
    have dK:=(Qi al).2;have bL:=Cz aV p al;have eZ:=Cz fC p al;refine⟨Qh bL,(Qg Qk _).1 _ _ (S p.1) (Nat.le_refl _) bL eZ ?_⟩;have:=gb.cK p.1;rw[dK]at this;exact this)
   exact⟨_,cS,hI,aQ,CA.less a2 qH⟩
 |kt T x y u=>
  obtain⟨aK,s1,he,ak⟩:=hw;rcases o3 bX with J|J
  .cases J
  .obtain⟨cq,iy,kC,ag,bh⟩:=IH J;obtain⟨hk,cT,gq,F,S,aN⟩:=h;obtain⟨dst,op,ty,pos,after,guard⟩:=o;simp only at kC ae ak;subst kC;have t_:aB w F s (λt=>a.tmps.getD t undef) (s u) (a.tmps.getD u undef) (λ_=>False):=by
    have:=aN.cK u;revert aK this;cases s u with
    |h y p=>intro _ this;rw[aB]at this⊢;exact this
    |_=>intro aK;cases aX s x<;>simp[k3]at aK
   have tY:(s u).plain=true:=by
    revert aK;cases s u with
    |h y p=>intro _;rfl
    |_=>intro aK;cases aX s x<;>simp[k3]at aK
   obtain⟨ax,aF,R,U,aA⟩:=P2 a_ aN (dZ aN (λ_=>rfl) ag).2 (dZ aN (λ_=>rfl) bh).1 (dZ aN (λ_=>rfl) bh).2 he (u:=u) aK t_;obtain⟨cS,aQ,_⟩:=U.jc [(u,s u)] s1 aF (λp al=>by
    rw[mem_singleton]at al;subst al;exact⟨tY,aA⟩)
   have Ql:Next C w0 F0 X (λt=>a.tmps.getD t undef) w (execOp a.eval ⟨dst,.store T cq iy,ty,pos,after,guard⟩) .hole (jc s1 [(u,s u)]):=
    ⟨.skip,ax,undef,F,cS,by simp[execOp,R],.inr ⟨rfl,rfl⟩,aQ,.inl ⟨rfl,by rw[aB];trivial⟩⟩
   obtain⟨r,aaE,v,bC,aaF,gb,fC,iR,hI⟩:=Ql;unfold Oper.wp;rw[gb];rcases fC with rfl|⟨rfl,rfl⟩
   .exact a7 _ _ _ ak (Rel.put hk cT gq iR hI ae)
   .exact a7 _ _ _ ak (Rel.put hk cT gq iR hI ae)
 |h0 T x=>
  obtain⟨av,s1,he,ak⟩:=hw;rcases o3 bX with J|J
  .cases J
  .obtain⟨cq,kC,ag⟩:=Qf J;obtain⟨hk,cT,gq,F,S,aN⟩:=h;obtain⟨dst,op,ty,pos,after,guard⟩:=o;simp only at kC ae ak;subst kC;obtain⟨r,ax,v,bC,aF,R,U,aA,aU⟩:Next C w0 F0 X (λt=>a.tmps.getD t undef) w (execOp a.eval ⟨dst,.box T cq,ty,pos,after,guard⟩) av s1:=(N8 (T:=T) aN (dZ aN (λ_=>rfl) ag).2 he).next;unfold Oper.wp;rw[R];rcases U with rfl|⟨rfl,rfl⟩
   .exact a7 _ _ _ ak (Rel.put hk cT gq aA aU ae)
   .exact a7 _ _ _ ak (Rel.put hk cT gq aA aU ae)
 |ext x k=>
  obtain⟨av,s1,he,ak⟩:=hw;rcases o3 bX with J|J
  .cases J
  .obtain⟨cq,kC,ag⟩:=P8 J;obtain⟨hk,cT,gq,F,S,aN⟩:=h;obtain⟨dst,op,ty,pos,after,guard⟩:=o;simp only at kC ae ak;subst kC;simp only[bE]at he;obtain⟨y,q,p,f1,f2,f3⟩:=HW he;obtain⟨r,ax,v,bC,aF,R,U,aA,aU⟩:Next C w0 F0 X (λt=>a.tmps.getD t undef) w (execOp a.eval ⟨dst,.extract cq k,ty,pos,after,guard⟩) av s1:=by
    obtain⟨v,ax,bC,aF,BK,eV,l8⟩:=Hp (C:=C) aN (dZ aN (λ_=>rfl) ag).2 f2;have Ca:aB ax bC s (λt=>a.tmps.getD t undef) (.h y p) v (λ_=>False):=by
     rcases l8 with⟨_,a2⟩|⟨aQ,_⟩
     .exact a2
     .cases aQ
    obtain⟨bJ,k0,bU,cc,Sn,de,cQ,dT,dH,hx,_⟩:=mU eV rfl Ca f3;exact⟨.value v,ax,v,bC,bJ,by simp[execOp,BK],.inl rfl,k0,.inr ⟨bU,cc,Sn,de,cQ,dT,dH,hx⟩⟩
   unfold Oper.wp;rw[R];rcases U with rfl|⟨rfl,rfl⟩
   .exact a7 _ _ _ ak (Rel.put hk cT gq aA aU ae)
   .exact a7 _ _ _ ak (Rel.put hk cT gq aA aU ae)
 |h_ T bM x y=>
  obtain⟨av,s1,he,ak⟩:=hw;rcases o3 bX with J|J
  .cases J
  .obtain⟨cq,iy,kC,ag,bh⟩:=Qb J;obtain⟨hk,cT,gq,F,S,aN⟩:=h;simp only[bE,Option.map_eq_some_iff,Prod.mk.injEq]at he;obtain⟨d,gj,rfl,rfl⟩:=he;obtain⟨v,ax,bC,aF,R,U,aA⟩:=O1 (ty:=o.type) a_ aN (dZ aN (λ_=>rfl) ag).2 (dZ aN (λ_=>rfl) bh).2 gj;have p7:execOp a.eval o=(do pure (.value (<-Builtin.append_ #[T,bM] o.type #[a.eval cq,a.eval iy]))):=by
    obtain⟨dst,op,ty,pos,after,guard⟩:=o;simp only at kC;subst kC;simp[execOp,resolve,invoke,builtin]
   unfold Oper.wp;rw[p7];simp only[Sem.run_bind,R,Result.andThen];exact a7 _ _ _ ak (Rel.put hk cT gq U aA ae)
 |_=>
  rcases o3 bX with J|J
  .cases J
  .exact Qd a_ h J ae hw a7
end
end Go.cW
