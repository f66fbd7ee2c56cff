/- Part of a proof that a law returns true for every input. No condition. -/
import Derived.Test.YtmaenemdkobeeaaGreatFwD
import Derived.Laws.Tables
namespace Go.ek
open List Go.IntKind Nat Or
section
variable {C:ch} {w0 w:World} {F0 X F:Nat->Prop} {S:Nat->Nat->Prop} {s s1:az} {aJ:Nat->Value} {av:J}
theorem EI (z:arK):∀n,(range (n*z.length)).map (λi=>z[i%z.length]!)=(replicate n z).flatten
 |0=>by simp
 |n+1=>by
  rw[Nat.add_mul,Nat.one_mul,range_add,map_append,EI z n,replicate_succ',flatten_append];congr 1;simp only[List.map_map,flatten_cons,flatten_nil,append_nil];apply ext_getElem
  .simp
  .intro i ae ag;have al:i<z.length:=ag;simp[mod_eq_of_lt al,al]
theorem bm.replicate {d:J} {cs:arK} (h:∀a0,aD w F d cs a0):∀n a0,bm w F (replicate n d) (replicate n cs).flatten a0
 |0,a0=>by simp only[replicate_zero,flatten_nil];rw[bm]
 |n+1,a0=>by
  rw[replicate_succ,replicate_succ,flatten_cons,bm];exact⟨cs,_,λ_=>False,λ_=>False,rfl,h _,bm.replicate h n _,λ_ h=>h.elim,λ_ h=>h.elim,λ_ h=>h.elim⟩
def fi (C:ch) (T:TypeId) (l c:J):Option J:=
 match(C.T T).k,l,c with
 | .slice e,.int .i64 n,.int .i64 m=>if n=m/\0<=n/\(C.T e).ok=true/\(C.T e).zero.wd=(C.T e).sz/\(flat (C.T e).zero).isSome=true/\(C.T e).sz≠0/\(C.T e).bytes*n<=140737488355328/\n<=9223372036854775807 then
   some (.af (C.T e).sz (replicate n.toNat (C.T e).zero))else none
 |_,_,_=>none
theorem X_ (bB:C.fI) (h:b4 w0 F0 X F S s aJ w) {T:TypeId} {l c:J} {Qp Qq:Value} (hl:aU w F s aJ l Qp (λ_=>False)) (ax:aU w F s aJ c Qq (λ_=>False)) (he:fi C T l c=some av):
  Good C w0 F0 X aJ w (Instr.makeSlice T Qp Qq) av s:=by
 unfold fi at he;split at he
 .rename_i e n m ao;have:=q5 hl;subst this;have:=q5 ax;subst this;obtain⟨I9,d,I_,aW,a8,aY,bT,cF,cj,b0⟩:=bB.info (gY ao (by simp));rw[ao]at b0;have:=mV b0;subst this;split at he
  .rename_i wj;obtain⟨rfl,aZ,q8,sl,tv,e4,Qr,Jc⟩:=wj;simp only[Option.some.injEq]at he;subst he;obtain⟨i,Ja,z,f1,f2,f3,f4,f5,f6,f7⟩:=bB.info q8;obtain⟨gf,ns⟩:=Option.isSome_iff_exists.1 tv;have tw:=f5 gf ns;have hN:∀a0,aD w F (C.T e).zero gf a0:=λa0=>(aD.flat _).1 _ gf a0 (Nat.le_refl _) ns;have q_:gf.length=(C.T e).sz:=by rw[aD.length _ _ _ (hN (λ_=>False)),sl]
   obtain⟨n,rfl⟩:=Int.eq_ofNat_of_zero_le aZ;simp only[Int.toNat_natCast];have yn:i64.wrap (n:Int)=n:=by
    rw[wrap_i64];omega
   have yl:∀k (w:World),(askRoom k).run C.P w= .ok () w:=by
    intro k w;unfold askRoom;split<;>rfl
   have q4:((Array.range (n*(C.T e).sz)).map (gf.toArray[·%gf.toArray.size]!)).toList=(replicate n gf).flatten:=by
    have:=EI gf n;rw[q_]at this;simpa [q_]using this
   have e2:¬(281474976710656<(i.bytes:Int)*n):=by
    rw[f3];omega
   have EJ:¬((n:Int)<0):=by omega
   have run:(Instr.makeSlice T (.int .i64 n) (.int .i64 n)).run C.P w= .ok (.slice (some ⟨w.heap.size,0,none⟩) n n)
     (w.alloc (.cells (if n*(C.T e).sz=0 then(Array.range (n*(C.T e).sz)).map (λ_=>default)else(Array.range (n*(C.T e).sz)).map (gf.toArray[·%gf.toArray.size]!)) e)):=by
    by_cases a5:n*(C.T e).sz=0
    .simp[Instr.makeSlice,run_underlying cj,asInt,asIntOf,wg f1,yn,e2,EJ,yl,k7 f1,f2,a5,newRow]
    .simp only[a5,if_false];simp[Instr.makeSlice,run_underlying cj,asInt,asIntOf,wg f1,yn,e2,EJ,yl,k7 f1,f2,a5,newRow,uJ f1 f4,tw]
   have mR:(if n*(C.T e).sz=0 then(Array.range (n*(C.T e).sz)).map (λ_=>(default:Value))else(Array.range (n*(C.T e).sz)).map (gf.toArray[·%gf.toArray.size]!)).toList=(replicate n gf).flatten:=by
    split
    .rename_i a5;have:n=0:=by
      rcases mul_eq_zero.1 a5 with h|h
      .exact h
      .exact(e4 h).elim
     subst this;simp
    .exact q4
   generalize nt:(if n*(C.T e).sz=0 then(Array.range (n*(C.T e).sz)).map (λ_=>(default:Value))else(Array.range (n*(C.T e).sz)).map (gf.toArray[·%gf.toArray.size]!))=cur at run mR;have hs:(replicate n gf).flatten.length=n*(C.T e).sz:=by simp[q_]
   have iB:cur.size=n*(C.T e).sz:=by
    have:cur.size=cur.toList.length:=by simp
    rw[this,mR,hs]
   have lA:=h.AY (aQ:=w.alloc (.cells cur e)) (sz:=(C.T e).sz) (cap:=n) (xs:=replicate n (C.T e).zero) (cur:=cur) (e:=e) (fr:=(0,0)) (Sn:=λ_=>False) rfl rfl rfl ⟨rfl,λ_=>Nat.le_refl _⟩
    (λo _ ⟨_,ag⟩=>absurd ag (not_lt_zero _)) (by simp) (by unfold maxLen;omega) iB (by intro d ak;rw[eq_of_mem_replicate ak];exact sl)
    (by rw[mR,length_replicate,take_of_length_le (by rw[hs];exact Nat.le_refl _)];exact bm.replicate hN n _) (λ_ h=>h.elim) (λ_ h=>h.elim) (λ_ _ h=>h.elim) (λ_ h=>h.elim)
   rw[length_replicate]at lA;exact⟨_,_,F,S,run,lA.1,lA.2⟩
  .cases he
 .cases he
def jP (C:ch) (T cC:TypeId) (x y:J):Option J:=
 match(C.T T).k,(C.T cC).k,x,y with
 | .slice e,.int _,.au,.int .i64 n=>if 0<=n/\(C.T e).ok=true/\(C.T e).zero.wd=(C.T e).sz/\(flat (C.T e).zero).isSome=true/\(C.T e).sz≠0/\(C.T e).bytes*n<=140737488355328/\n<=9223372036854775807 then
   some (.af (C.T e).sz (replicate n.toNat (C.T e).zero))else none
 |_,_,_,_=>none
theorem Ya {P:Program} {T cC ty e:TypeId} {k:IntKind} {i:TypeInfo} {z:Value} (bc:P.underlying T=some (.slice e)) (hu:P.underlying cC=some (.int k)) (al:P.info? e=some i) (ca:i.zero=some z)
  (n:Nat) (a5:n≠0) (ad:i.size≠0) (aZ:n<=9223372036854775807) (ab:n*i.bytes<=140737488355328):
  (Builtin.append_ #[T,cC] ty #[.slice none 0 0,.int .i64 n]).run P w= .ok (.slice (some ⟨w.heap.size,0,none⟩) n (grownCap w n 0 e))
   (w.drew.alloc (.cells (Builtin.zeroCells z.cells n++Builtin.zeroCells z.cells (grownCap w n 0 e-n)) e)):=by
 have yn:i64.wrap (n:Int)=n:=by rw[wrap_i64];omega
 have EJ:¬((n:Int)<0):=by omega
 have hmul:(n:Int)*(i.bytes:Int)=((n*i.bytes:Nat):Int):=by simp
 have e2:¬(281474976710656<(n:Int)*(i.bytes:Int)):=by rw[hmul];omega
 have i_:¬(281474976710656<Builtin.nextslicecap n 0*i.bytes):=by
  have:Builtin.nextslicecap n 0=n:=by unfold Builtin.nextslicecap;rw[if_pos (by omega)]
  rw[this];omega
 have yl:∀k (w:World),(askRoom k).run P w= .ok () w:=by
  intro k w;unfold askRoom;split<;>rfl
 have I6:¬(9223372036854775807<(n:Int)):=by omega
 have Jh:n*i.size≠0:=Nat.mul_ne_zero a5 ad;simp[Builtin.append_,run_underlying bc,run_underlying hu,k7 al,wg al,asInt,asIntOf,yn,EJ,e2,i_,a5,Question.forced,yl,I6,uJ al ca,newRow,grownCap,Builtin.firstCells];intro k6;exact(Jh k6).elim
theorem Yb (bB:C.fI) (h:b4 w0 F0 X F S s aJ w) {T cC ty:TypeId} {x y:J} {iY jN:Value} (ay:aU w F s aJ x iY (λ_=>False)) (bz:aU w F s aJ y jN (λ_=>False)) (he:jP C T cC x y=some av):
  Good C w0 F0 X aJ w (Builtin.append_ #[T,cC] ty #[iY,jN]) av s:=by
 unfold jP at he;split at he
 .rename_i e aps n ao Qs;have:=tq ay;subst this;have:=q5 bz;subst this;obtain⟨I9,d,I_,aW,a8,aY,bT,cF,cj,b0⟩:=bB.info (gY ao (by simp));rw[ao]at b0;have:=mV b0;subst this;obtain⟨apt,apu,apv,so,sq,EK,A6,apw,Ji,Qt⟩:=bB.info (gY Qs (by simp));rw[Qs]at Qt;have:=AP Qt;subst this;split at he
  .rename_i wj;obtain⟨aZ,q8,sl,tv,e4,Qr,Jc⟩:=wj;simp only[Option.some.injEq]at he;subst he;obtain⟨i,Ja,z,f1,f2,f3,f4,f5,f6,f7⟩:=bB.info q8;obtain⟨gf,ns⟩:=Option.isSome_iff_exists.1 tv;have tw:=f5 gf ns;have hN:∀a0,aD w F (C.T e).zero gf a0:=λa0=>(aD.flat _).1 _ gf a0 (Nat.le_refl _) ns;have q_:gf.length=(C.T e).sz:=by rw[aD.length _ _ _ (hN (λ_=>False)),sl]
   obtain⟨n,rfl⟩:=Int.eq_ofNat_of_zero_le aZ;simp only[Int.toNat_natCast];by_cases a5:n=0
   .subst a5;have run:(Builtin.append_ #[T,cC] ty #[.slice none 0 0,.int .i64 ((0:Nat):Int)]).run C.P w= .ok (.slice none 0 0) w:=by
     have yn:i64.wrap 0=0:=by decide
     simp[Builtin.append_,run_underlying cj,run_underlying Ji,k7 f1,wg f1,asInt,asIntOf,yn]
    exact⟨_,w,F,S,run,h,.inr ⟨rfl,rfl,λ_=>False,by simp only[cP,jn];rw[aD];exact .inl ⟨rfl,_,rfl⟩,λ_ h=>h.elim,λ_ h=>h.elim,λ_ _ h=>h.elim,λ_ h=>h.elim⟩⟩
   .have run:=Ya (w:=w) (ty:=ty) cj Ji f1 f4 n a5 (by rw[f2];exact e4) (by omega) (by
     rw[f3];have:((C.T e).bytes:Int)*(n:Int)=(((C.T e).bytes*n:Nat):Int):=by simp
     rw[this]at Qr;rw[Nat.mul_comm];omega)
    rw[tw]at run;have yg:=grownCap_ge w n 0 e;have A1:=grownCap_le_maxLen w n 0 e (by unfold maxLen;omega);have Qu:∀m,(Builtin.zeroCells gf.toArray m).toList=(replicate m gf).flatten:=by
     intro m;have:=EI gf m;unfold Builtin.zeroCells;simpa [q_]using this
    have hs:∀m,(replicate m gf).flatten.length=m*(C.T e).sz:=by intro m;simp[q_]
    generalize nt:Builtin.zeroCells gf.toArray n++Builtin.zeroCells gf.toArray (grownCap w n 0 e-n)=cur at run;have mR:cur.toList=(replicate n gf).flatten++(replicate (grownCap w n 0 e-n) gf).flatten:=by rw[<-nt,Array.toList_append,Qu,Qu]
    have iB:cur.size=grownCap w n 0 e*(C.T e).sz:=by
     have:cur.size=cur.toList.length:=by simp
     rw[this,mR,length_append,hs,hs,<-Nat.add_mul];congr 1;omega
    have lA:=h.AY (aQ:=w.drew.alloc (.cells cur e)) (sz:=(C.T e).sz) (cap:=grownCap w n 0 e) (xs:=replicate n (C.T e).zero) (cur:=cur) (e:=e) (fr:=(0,0)) (Sn:=λ_=>False) rfl rfl rfl ⟨rfl,λ_=>le_succ _⟩
     (λo _ ⟨_,ag⟩=>absurd ag (not_lt_zero _)) (by simpa using yg) A1 iB (by intro d ak;rw[eq_of_mem_replicate ak];exact sl)
     (by rw[mR,length_replicate,take_left' (hs n)];exact bm.replicate hN n _) (λ_ h=>h.elim) (λ_ h=>h.elim) (λ_ _ h=>h.elim) (λ_ h=>h.elim)
    rw[length_replicate]at lA;exact⟨_,_,F,S,run,lA.1,lA.2⟩
  .cases he
 .cases he
def nW (s:az) (f:FuncId) (cs:List bl):Option J:=some (.fn f (cs.map (bs s)))
theorem EL {a:Act} (h:b4 w0 F0 X F S s aJ w) (e9:∀t,aJ t=a.tmps.getD t undef):∀(os:List Operand) (xs:List bl),os.map ei=xs.map some->e3 w F s aJ (xs.map (bs s)) (os.map a.eval)
 |[],[],_=>by simp only[map_nil];rw[e3]
 |[],x::xs,h=>by simp at h
 |o::os,[],h=>by simp at h
 |o::os,x::xs,bM=>by
  simp only[map_cons,cons.injEq]at bM⊢;rw[e3];exact⟨_,_,rfl,(gj h e9 bM.1).2,EL h e9 os xs bM.2⟩
theorem Qv:∀(vs:arK) (k off:Nat) (A:Array Value) (l m r:arK),A.toList=l++(m++r)->l.length=off+k->m.length=vs.length->
  ((vs.zipIdx k).foldl (λcs (x:Value×Nat)=>cs.setIfInBounds (off+x.2) x.1) A).toList=l++(vs++r)
 |[],k,off,A,l,m,r,h4,hl,hm=>by
  have:m=[]:=by simpa using hm
  subst this;simpa using h4
 |v::vs,k,off,A,l,m,r,h4,hl,hm=>by
  obtain⟨x,m,rfl⟩:∃x ja,m=x::ja:=by
   cases m with
   |nil=>simp at hm
   |cons x m=>exact⟨x,m,rfl⟩
  rw[zipIdx_cons,foldl_cons];have:=Qv vs (k+1) off (A.setIfInBounds (off+k) v) (l++[v]) m r (by
   rw[Array.toList_setIfInBounds,h4,<-hl,set_append_right _ _ (Nat.le_refl _)];simp) (by simp;omega) (by simpa using hm)
  simpa using this
def mw (os:List (Option Nat)) (a:J):J:=os.foldl (λa o=>l5 o a) a
def dZ (place:Nat->Option (Nat×Nat)):az->arM->List (Option Nat)->arL->Option (arM×az)
 |s,fC,_,[]=>some (fC,s)
 |s,fC,os,(k,a)::r=>match dq s (mw os a),place k,fC[k]? with
  |some (d,s1),some (off,n),some z=>match d with
   | .tuple _=>none
   |d=>if d.wd=n/\z.wd=n/\J.e1 (fC.take k)=off then dZ place s1 (fC.set k d) (os++[(mw os a).owner]) r else none
  |_,_,_=>none
def qe (w:World) (F:Nat->Prop) (s:az) (aJ:Nat->Value):arL->List (Nat×Value)->Prop
 |[],[]=>True
 |(k,a)::r,(cZ,v)::hE=>k=cZ/\a.plain=true/\aU w F s aJ a v (λ_=>False)/\qe w F s aJ r hE
 |_,_=>False
theorem Yc (x:Nat):∀d:J,d.plain=true->(cB x d).plain=true
 | .h y q,_=>by simp only[cB];split<;>(try split)<;>rfl
 | .aw y q,_=>by simp only[cB];split<;>rfl
 | .ab y q,_=>rfl
 | .fn f c,_=>by simp only[cB];rfl
 | .hole,h=>h
 | .bool _,h=>h
 | .fW,h=>h
 | .int _ _,h=>h
 | .str _,h=>h
 | .eh,h=>h
 | .au,h=>h
 | .slice _,h=>h
 | .af _ _,h=>h
 | .ref _,h=>h
 | .aG _,h=>h
 | .agg _,h=>h
 | .tuple _,h=>h
theorem Yd (o:Option Nat) (d:J) (h:d.plain=true):(l5 o d).plain=true:=by
 cases o with
 |none=>exact h
 |some x=>exact Yc x d h
theorem qe.cB {w:World} {F:Nat->Prop} {s s1:az} {aJ:Nat->Value} {o:Option Nat} (aw:∀(bE:J) (gd:Value) (a0:Nat->Prop),aU w F s aJ bE gd a0->aU w F s1 aJ (l5 o bE) gd a0):
  ∀(r:arL) (hE:List (Nat×Value)),qe w F s aJ r hE->qe w F s1 aJ (r.map λp=>(p.1,l5 o p.2)) hE
 |[],[],_=>trivial
 |(k,a)::r,(cZ,v)::hE,h=>by
  obtain⟨ae,ag,aK,a3⟩:=h;exact⟨ae,Yd _ _ ag,aw _ _ _ aK,qe.cB aw r hE a3⟩
 |[],_::_,h=>h.elim
 |_::_,[],h=>h.elim
theorem Jj {place:Nat->Option (Nat×Nat)}:∀(ps:arL) (vs:List (Nat×Value)) (os:List (Option Nat)) (s:az) (S:Nat->Nat->Prop) (fC:arM) (A:Array Value) (iH:Nat->Prop),
  b4 w0 F0 X F S s aJ w->qe w F s aJ (ps.map λp=>(p.1,mw os p.2)) vs->bm w F fC A.toList iH->(∀b,iH b->b<w.heap.size)->(∀b,iH b->¬F b)->(∀u b,iH b->¬S u b)->(∀b,iH b->X b\/w0.heap.size<=b)->
  ∀ds s1,dZ place s fC os ps=some (ds,s1)->∃nX cA hW,Instr.fill place A vs=some nX/\b4 w0 F0 X F cA s1 aJ w/\bm w F ds nX.toList hW/\(∀b,hW b->b<w.heap.size)/\(∀b,hW b->¬F b)/\(∀u b,hW b->¬cA u b)/\
   (∀b,hW b->X b\/w0.heap.size<=b)/\ds.length=fC.length/\J.e1 ds=J.e1 fC/\(∀n,(∀d∈fC,d.wd=n)->∀d∈ds,d.wd=n)
 |[],[],os,s,S,fC,A,iH,h,_,ae,ag,aK,a3,bI,ds,s1,he=>by
  simp only[dZ,Option.some.injEq,Prod.mk.injEq]at he;obtain⟨rfl,rfl⟩:=he;exact⟨A,S,iH,rfl,h,ae,ag,aK,a3,bI,rfl,rfl,λ_ h=>h⟩
 |(k,a)::ps,(cZ,v)::vs,os,s,S,fC,A,iH,h,aw,ae,ag,aK,a3,bI,ds,s1,he=>by
  obtain⟨rfl,mx,qX,A7⟩:=aw;simp only[dZ]at he;split at he
  .rename_i d yo off n z bc ew ca;have key:∀d:J,(∀aH,d≠.tuple aH)->dq s (mw os a)=some (d,yo)->(if d.wd=n/\z.wd=n/\J.e1 (fC.take k)=off then dZ place yo (fC.set k d) (os++[(mw os a).owner]) ps else none)=some (ds,s1)->
     ∃nX cA hW,Instr.fill place A ((k,v)::vs)=some nX/\b4 w0 F0 X F cA s1 aJ w/\bm w F ds nX.toList hW/\(∀b,hW b->b<w.heap.size)/\(∀b,hW b->¬F b)/\(∀u b,hW b->¬cA u b)/\
     (∀b,hW b->X b\/w0.heap.size<=b)/\ds.length=fC.length/\J.e1 ds=J.e1 fC/\(∀n,(∀d∈fC,d.wd=n)->∀d∈ds,d.wd=n):=by
    intro d tn bc he;split at he
    .rename_i ax;obtain⟨k_,jM,Qw⟩:=ax;obtain⟨cA,fM,a2,bq,Sn,ck,eE,fP,g0,j1,nq,A4,EC⟩:=qY h mx qX bc;obtain⟨b2,gV,cc,Sx,iW,h4,iI,gr,hD,i7,gO,nQ⟩:=bm.pick fC _ _ k z ae ca;have q4:=AR bq tn;have hO:=aD.length _ _ _ ck;have Qx:=aD.length _ _ _ gO;have uK:=nQ w d (cP v) Sn (λ_ _=>rfl) (λ_ _=>rfl) ck (λb Ye Yf=>by obtain⟨u,hu⟩:=A4 b Ye;exact a3 u b (gr b Yf) hu);have Qy:=Qv (cP v) 0 off A b2 gV cc h4 (by rw[iI,Qw];rfl) (by rw[Qx,hO,k_,jM]);generalize A8:((cP v).zipIdx 0).foldl (λcs (x:Value×Nat)=>cs.setIfInBounds (off+x.2) x.1) A=Ew at Qy;obtain⟨nX,eo,hW,gk,ht,iJ,kS,nr,q2,q3,jA,Jk,EM⟩:=Jj (place:=place) ps vs (os++[(mw os a).owner]) yo cA (fC.set k d) Ew (λb=>Sx b\/Sn b) fM (by have:=qe.cB EC _ _ A7;simpa [mw,foldl_append,Function.comp_def]using this) (by rw[Qy];exact uK)
      (by rintro b (ab|ab);exact ag b (gr b ab);exact eE b ab) (by rintro b (ab|ab);exact aK b (gr b ab);exact fP b ab)
      (by rintro u b (ab|ab);exact λhu=>a3 u b (gr b ab) (nq u b hu);exact g0 u b ab) (by rintro b (ab|ab);exact bI b (gr b ab);exact j1 b ab) ds s1 he
     refine⟨nX,eo,hW,?_,ht,iJ,kS,nr,q2,q3,by rw[jA];simp,by rw[Jk];exact Iv _ _ _ _ ca (by rw[k_,jM]),?_⟩
     .have Jl:off+n<=A.size:=by
       have:A.size=A.toList.length:=by simp
       rw[this,h4];simp[iI,Qw,Qx,jM]
      simp only[Instr.fill,ew,q4,List.size_toArray,hO,k_];have nn:¬(n≠n\/A.size<off+n):=by omega
      have Yg:(cP v).toArray.zipIdx.foldl (λcs (x:Value×Nat)=>cs.setIfInBounds (off+x.2) x.1) A=Ew:=by
       rw[<-A8,<-Array.foldl_toList];simp
      simp only[ne_eq,not_true_eq_false,decide_false,Bool.false_or,decide_eq_true_eq,gt_iff_lt];rw[if_neg (by simp;omega)];rw[show(cP v).toArray.zipIdx.foldl (λcs x=>match x with|(c,j)=>cs.setIfInBounds (off+j) c) A=Ew from Yg];exact gk
     .intro A9 A_;refine EM A9 (Iw A_ ?_);rw[k_,<-jM];exact A_ z (mem_of_getElem? ca)
    .cases he
   split at he
   .cases he
   .rename_i tn;exact key _ (λaH e=>tn aH e) bc he
  .cases he
 |[],_::_,_,_,_,_,_,_,_,aw,_,_,_,_,_,_,_,_=>aw.elim
 |_::_,[],_,_,_,_,_,_,_,aw,_,_,_,_,_,_,_,_=>aw.elim
def ey (C:ch) (s:az) (T:TypeId) (ps:arL):Option (J×az):=
 match(C.T T).k,(C.T T).zero with
 | .struct aH,.agg fC=>if(flat (.agg fC)).isSome=true/\(∀f∈aH,(C.T f.1).ok=true)then
   (match dZ (λk=>(aH[k]?).map λf=>(f.2,(C.T f.1).sz)) s fC [] ps with
   |some (ds,s1)=>some (.agg ds,s1)
   |none=>none)else none
 |_,_=>none
def dz (C:ch) (s:az) (T:TypeId) (n:Nat) (ps:arL):Option (J×az):=
 match(C.T T).k with
 | .slice e=>if(C.T e).ok=true/\(C.T e).zero.wd=(C.T e).sz/\(flat (C.T e).zero).isSome=true/\(C.T e).sz≠0/\n*(C.T e).sz<=16777216 then
   (match dZ (λk=>some (k*(C.T e).sz,(C.T e).sz)) s (replicate n (C.T e).zero) [] ps with
   |some (ds,s1)=>some (.af (C.T e).sz ds,s1)
   |none=>none)else none
 |_=>none
theorem Yh (bB:C.fI):∀(gs:List Field),(∀g∈gs,(C.T g.type).ok=true)->
  gs.mapM (λf=>(C.P.info? f.type).map λi=>(f.offset,i.size))=some (gs.map λg=>(g.offset,(C.T g.type).sz)):=by
 intro gs;induction gs with
 |nil=>intro _;simp
 |cons g gs ih=>
  intro bC;obtain⟨i,d,z,f1,f2,f3,f4,f5,f6,f7⟩:=bB.info (bC g (by simp));have:=ih (λg iL=>bC g (by simp[iL]));simp[mapM_cons,f1,f2,this]
theorem Yi (bB:C.fI) (h:b4 w0 F0 X F S s aJ w) {T:TypeId} {ps:arL} {vs:List (Nat×Value)} (aw:qe w F s aJ ps vs) (he:ey C s T ps=some (av,s1)):
  Good C w0 F0 X aJ w (Instr.build T vs.toArray) av s1:=by
 unfold ey at he;split at he
 .rename_i aH fC ao ca;split at he
  .rename_i ax;obtain⟨tv,Yj⟩:=ax;split at he
   .rename_i ds s2 hs;simp only[Option.some.injEq,Prod.mk.injEq]at he;obtain⟨rfl,rfl⟩:=he;obtain⟨i,d,z,aW,a8,aY,bT,cF,cj,b0⟩:=bB.info (gY ao (by simp));rw[ao]at b0;obtain⟨gs,rfl,EN⟩:=AO b0;obtain⟨gf,ns⟩:=Option.isSome_iff_exists.1 tv;have tw:=cF gf (by rw[ca];exact ns);have hN:bm w F fC gf.toArray.toList (λ_=>False):=by
     have:=(aD.flat (w:=w) (F:=F) _).1 (.agg fC) gf (λ_=>False) (Nat.le_refl _) ns;rw[aD]at this;simpa using this
    have eR:qe w F s aJ (ps.map λp=>(p.1,mw [] p.2)) vs:=by simpa [mw]using aw
    obtain⟨nX,cA,hW,gk,ht,iJ,kS,nr,q2,q3,jA,Jk,EM⟩:=Jj ps vs [] s S fC gf.toArray (λ_=>False) h eR hN (λ_ h=>h.elim) (λ_ h=>h.elim) (λ_ _ h=>h.elim) (λ_ h=>h.elim) ds s2 hs;have ew:=Yh bB gs.toList (λg bC=>Yj (g.type,g.offset) (by rw[<-EN];exact List.mem_map_of_mem bC));have Yk:(λ(k:Nat)=>(aH[k]?).map λ(f:TypeId×Nat)=>(f.2,(C.T f.1).sz))=λ(k:Nat)=>((gs.toList.map λg=>(g.offset,(C.T g.type).sz)).toArray)[k]? :=by
     funext k;rw[<-EN];simp only[getElem?_map,getElem?_toArray,Option.map_map];rfl
    rw[Yk]at gk;refine⟨.agg nX,w,F,cA,run_build w T vs.toArray nX ?_,ht,.inr ⟨rfl,⟨_,rfl⟩,hW,by simp only[cP,jn];rw[aD];exact iJ,kS,nr,q2,q3⟩⟩;unfold Program.built;simp only[aW,cj,bT,ew,tw];exact gk
   .cases he
  .cases he
 .cases he
theorem Yl (bB:C.fI) (h:b4 w0 F0 X F S s aJ w) {T:TypeId} {n:Nat} {ps:arL} {vs:List (Nat×Value)} (aw:qe w F s aJ ps vs) (he:dz C s T n ps=some (av,s1)):
  Good C w0 F0 X aJ w (Instr.buildSlice T n vs.toArray) av s1:=by
 unfold dz at he;split at he
 .rename_i e ao;split at he
  .rename_i ax;obtain⟨q8,sl,tv,e4,apx⟩:=ax;split at he
   .rename_i ds s2 hs;simp only[Option.some.injEq,Prod.mk.injEq]at he;obtain⟨rfl,rfl⟩:=he;obtain⟨I9,d,I_,aW,a8,aY,bT,cF,cj,b0⟩:=bB.info (gY ao (by simp));rw[ao]at b0;have:=mV b0;subst this;obtain⟨i,Ja,z,f1,f2,f3,f4,f5,f6,f7⟩:=bB.info q8;obtain⟨gf,ns⟩:=Option.isSome_iff_exists.1 tv;have tw:=f5 gf ns;have hN:∀a0,aD w F (C.T e).zero gf a0:=λa0=>(aD.flat _).1 _ gf a0 (Nat.le_refl _) ns;have q_:gf.length=(C.T e).sz:=by rw[aD.length _ _ _ (hN (λ_=>False)),sl]
    generalize h4:((Array.range (n*(C.T e).sz)).map ((if n*(C.T e).sz=0 then #[]else gf.toArray)[·%(if n*(C.T e).sz=0 then(#[]:Array Value)else gf.toArray).size]!))=A;have Jl:A.toList=(replicate n gf).flatten:=by
     rw[<-h4];by_cases a5:n*(C.T e).sz=0
     .have:n=0:=by
       rcases mul_eq_zero.1 a5 with h|h
       .exact h
       .exact(e4 h).elim
      subst this;simp
     .simp only[a5,if_false];have:=EI gf n;rw[q_]at this;simpa [q_]using this
    have eR:qe w F s aJ (ps.map λp=>(p.1,mw [] p.2)) vs:=by simpa [mw]using aw
    obtain⟨nX,cA,hW,gk,ht,iJ,kS,nr,q2,q3,jA,Jk,EM⟩:=Jj ps vs [] s S (replicate n (C.T e).zero) A (λ_=>False) h eR (by rw[Jl];exact bm.replicate hN n _) (λ_ h=>h.elim) (λ_ h=>h.elim) (λ_ _ h=>h.elim) (λ_ h=>h.elim) ds s2 hs;have hlen:ds.length=n:=by rw[jA];simp
    have Qz:=EM (C.T e).sz (by intro d ak;rw[eq_of_mem_replicate ak];exact sl);have Ym:nX.toList.length=n*(C.T e).sz:=by rw[bm.wu iJ Qz,hlen]
    have Yn:nX.size=n*(C.T e).sz:=by rw[<-Ym];simp
    have apy:n<=16777216:=by
     have:n*1<=n*(C.T e).sz:=mul_le_mul_left _ (by omega);omega
    have lA:=ht.AY (aQ:=w.alloc (.cells nX e)) (sz:=(C.T e).sz) (cap:=n) (xs:=ds) (cur:=nX) (e:=e) (fr:=(0,0)) (Sn:=hW) rfl rfl rfl ⟨rfl,λ_=>Nat.le_refl _⟩
     (λo _ ⟨_,ag⟩=>absurd ag (not_lt_zero _)) (by omega) (by unfold maxLen;omega) Yn Qz (by rw[hlen,take_of_length_le (by omega)];exact iJ) kS nr q2 q3
    rw[hlen]at lA;refine⟨_,_,F,cA,?_,lA.1,lA.2⟩;by_cases a5:n*(C.T e).sz=0
    .simp only[a5,if_true]at h4;have yp:(Array.map (λ_=>(default:Value)) (Array.range 0))=A:=by
      have:n=0:=by
       rcases mul_eq_zero.1 a5 with h|h
       .exact h
       .exact(e4 h).elim
      apply Array.ext';rw[Jl,this];simp
     simp[Instr.buildSlice,run_underlying cj,k7 f1,f2,a5,newRow];rw[yp,gk];simp
    .simp only[a5,if_false]at h4;have nn:¬(16777216<n*(C.T e).sz):=by omega
     simp[Instr.buildSlice,run_underlying cj,k7 f1,f2,a5,nn,uJ f1 f4,tw,newRow];have yp:(Array.map (λx=>gf[x%gf.length]?.getD default) (Array.range (n*(C.T e).sz)))=A:=by
      rw[<-h4];simp
     rw[yp,gk];simp
   .cases he
  .cases he
 .cases he
end
inductive eP where
 |hF (x:bl)
 |mY (x:bl)
 |pick (c a b:bl)
 |lz (T:TypeId)
 |ic (T:TypeId) (x:bl)
 |ey (T:TypeId) (ps:List (Nat×bl))
 |dz (T:TypeId) (n:Nat) (ps:List (Nat×bl))
 |fo (T:TypeId) (x:bl)
 |j2 (T:TypeId) (x y:bl)
 |j6 (x:bl)
 |ff (op:BinOp) (T:TypeId) (x y:bl)
 |un (op:UnOp) (x:bl)
 |j7 (A B:TypeId) (x:bl)
 |nW (f:FuncId) (cs:List bl)
 |fi (T:TypeId) (l c:bl)
 |gR (T:TypeId) (x:bl) (fB al:Option bl)
 |gQ (T:TypeId) (x:bl) (k:Nat)
 |j0 (T:TypeId) (x i:bl)
 |idx (T:TypeId) (x i:bl)
 |ex (x:bl) (k:Nat)
 |nT (T:TypeId) (x:bl) (k:Nat)
 |call (f:bl) (args:List bl)
 |len (T:TypeId) (x:bl)
 |app (T cC:TypeId) (x y:bl)
 |shr (bO:eP)
 |jP (T cC:TypeId) (x y:bl)
 |cap (T:TypeId) (x:bl)
 |jQ (fs:Bool) (x y:bl)
 |bad
 |la (f:bl) (args:List bl) (us:arH)
 |kA (T:TypeId) (x:bl)
 |nY (x:bl)
 |nZ (x:bl)
 |Ba
 |qd (T:TypeId) (x i:bl)
 |oC (T:TypeId) (x i v:bl)
def eP.base:eP->eP
 | .shr bO=>bO
 | .jP T cC x y=>.app T cC x y
 | .la f args _=>.call f args
 | .kA T x=>.ic T x
 | .nY x=>.mY x
 | .nZ x=>.hF x
 |bO=>bO
def rb:List Operand->Option (List bl)
 |[]=>some []
 |o::os=>match ei o,rb os with
  |some x,some xs=>some (x::xs)
  |_,_=>none
def yq:List (Nat×Operand)->Option (List (Nat×bl))
 |[]=>some []
 |(k,o)::os=>match ei o,yq os with
  |some x,some xs=>some ((k,x)::xs)
  |_,_=>none
def Bb:Option Operand->Option (Option bl)
 |none=>some none
 |some o=>(ei o).map some
def cU:Op->Option eP
 | .move x=>(ei x).map .hF
 | .assign x=>(ei x).map .mY
 | .pick c a b=>match ei c,ei a,ei b with
   |some c,some a,some b=>some (.pick c a b)
   |_,_,_=>none
 | .alloc T=>some (.lz T)
 | .box T x=>(ei x).map (.ic T)
 | .build T ps=>(yq ps.toList).map (.ey T)
 | .buildSlice T n ps=>(yq ps.toList).map (.dz T n)
 | .load T x=>(ei x).map (.fo T)
 | .store T x y=>match ei x,ei y with
   |some x,some y=>some (.j2 T x y)
   |_,_=>none
 | .nilCheck x=>(ei x).map .j6
 | .binOp op T x y _=>match ei x,ei y with
   |some x,some y=>some (.ff op T x y)
   |_,_=>none
 | .unOp op _ x=>(ei x).map (.un op)
 | .convert A B x=>(ei x).map (.j7 A B)
 | .makeFunc (.func f) first cs=>if first.isEmpty then(rb cs.toList).map (.nW f)else none
 | .makeSlice T l c=>match ei l,ei c with
   |some l,some c=>some (.fi T l c)
   |_,_=>none
 | .slice T x fB al none=>match ei x,Bb fB,Bb al with
   |some x,some fB,some al=>some (.gR T x fB al)
   |_,_,_=>none
 | .fieldAddr T x k=>(ei x).map λx=>.gQ T x k
 | .indexAddr T x i=>match ei x,ei i with
   |some x,some i=>some (.j0 T x i)
   |_,_=>none
 | .index T x i=>match ei x,ei i with
   |some x,some i=>some (.idx T x i)
   |_,_=>none
 | .extract x k=>(ei x).map λx=>.ex x k
 | .field T x k=>(ei x).map λx=>.nT T x k
 | .makeMap _ none=>some .Ba
 | .lookup T x i false=>match ei x,ei i with
   |some x,some i=>some (.qd T x i)
   |_,_=>none
 | .mapUpdate T x i v=>match ei x,ei i,ei v with
   |some x,some i,some v=>some (.oC T x i v)
   |_,_,_=>none
 | .call c=>match c.callee with
   | .value f=>match ei f,rb c.args.toList with
     |some f,some xs=>some (.call f xs)
     |_,_=>none
   | .builtin .len=>match c.args.toList,c.argTypes.toList with
     |[x],[T]=>(ei x).map (.len T)
     |_,_=>none
   | .builtin .cap=>match c.args.toList,c.argTypes.toList with
     |[x],[T]=>(ei x).map (.cap T)
     |_,_=>none
   | .builtin .min=>match c.args.toList with
     |[x,y]=>match ei x,ei y with
      |some x,some y=>some (.jQ false x y)
      |_,_=>none
     |_=>none
   | .builtin .max=>match c.args.toList with
     |[x,y]=>match ei x,ei y with
      |some x,some y=>some (.jQ true x y)
      |_,_=>none
     |_=>none
   | .builtin .append=>match c.args.toList,c.argTypes.toList with
     |[x,y],[T,cC]=>match ei x,ei y with
      |some x,some y=>some (.app T cC x y)
      |_,_=>none
     |_,_=>none
   |_=>none
 |_=>none
def jQ (fs:Bool):J->J->Option J
 | .str a,.str b=>some (.str (Ei fs a b))
 | .int k a,.int cZ b=>if k=cZ then some (.int k (ti fs a b))else none
 |_,_=>none
def sr (s:az):J->Option (J×az)
 | .h y q=>dq s (.h y q)
 |d=>some (d,s)
def bY (C:ch) (s:az):eP->Option (J×az)
 | .hF x=>some (bs s x,s)
 | .mY x=>match bs s x with
   | .h y q=>dq s (.h y q)
   |d=>some (d,s)
 | .pick c a b=>match bs s c with
   | .bool gJ=>some (if gJ then bs s a else bs s b,s)
   |_=>none
 | .lz T=>(lz C T).map λd=>(d,s)
 | .ic _ x=>ic s (bs s x)
 | .ey T ps=>ey C s T (ps.map λp=>(p.1,bs s p.2))
 | .dz T n ps=>dz C s T n (ps.map λp=>(p.1,bs s p.2))
 | .fo T x=>(fo C s T (bs s x)).map λd=>(d,s)
 | .j2 T x y=>(j2 C s T (bs s x) (bs s y)).map λs1=>(.hole,s1)
 | .j6 x=>(j6 s (bs s x)).map λd=>(d,s)
 | .ff op T x y=>(ff C s op T (bs s x) (bs s y)).map λd=>(d,s)
 | .un op x=>(un op (bs s x)).map λd=>(d,s)
 | .j7 A B x=>(j7 C s A B (bs s x)).map λd=>(d,s)
 | .nW f cs=>some (.fn f (cs.map (bs s)),s)
 | .fi T l c=>(fi C T (bs s l) (bs s c)).map λd=>(d,s)
 | .gR T x fB al=>gR C s T (bs s x) (fB.map (bs s)) (al.map (bs s))
 | .gQ T x k=>(gQ C s T (bs s x) k).map λd=>(d,s)
 | .j0 T x i=>(j0 C s T (bs s x) (bs s i)).map λd=>(d,s)
 | .idx T x i=>(idx C T (bs s x) (bs s i)).map λd=>(d,s)
 | .ex x k=>(ex s (bs s x) k).map λd=>(d,s)
 | .nT T x k=>(nT C s T (bs s x) k).bind (sr s)
 | .call _ _=>none
 | .len T x=>(tr C s T (bs s x)).map λd=>(d,s)
 | .app T cC x y=>tu C s T cC (bs s x) (bs s y)
 | .shr _=>none
 | .la _ _ _=>none
 | .kA _ x=>kA s (bs s x)
 | .nY x=>some (bs s x,s)
 | .nZ x=>sr s (bs s x)
 | .Ba=>some (.eM (.mp []),s)
 | .qd T x i=>(qd C s T (bs s x) (bs s i)).map λd=>(d,s)
 | .oC T x i v=>(oC C s T (bs s x) (bs s i) (bs s v)).map λs1=>(.hole,s1)
 | .jP T cC x y=>(jP C T cC (bs s x) (bs s y)).map λd=>(d,s)
 | .cap T x=>match(C.T T).k,bs s x with
   | .slice _,.au=>some (.int .i64 0,s)
   |_,_=>none
 | .jQ fs x y=>(jQ fs (bs s x) (bs s y)).map λd=>(d,s)
 | .bad=>none
section
variable {C:ch} {w0 w:World} {F0 X F:Nat->Prop} {S:Nat->Nat->Prop} {s s1:az} {a:Act} {av:J}
theorem wx:∀{os:List Operand} {xs:List bl},rb os=some xs->os.map ei=xs.map some
 |[],xs,h=>by simp[rb]at h;subst h;rfl
 |o::os,xs,h=>by
  simp only[rb]at h;split at h
  .rename_i x QA ae ag;simp at h;subst h;simp[ae,wx ag]
  .cases h
theorem Jm {aJ:Nat->Value} (h:b4 w0 F0 X F S s aJ w) (e9:∀t,aJ t=a.tmps.getD t undef):∀{ps:List (Nat×Operand)} {xs:List (Nat×bl)},yq ps=some xs->
  qe w F s aJ (xs.map λp=>(p.1,bs s p.2)) (ps.map λp=>(p.1,a.eval p.2))
 |[],xs,h=>by simp[yq]at h;subst h;trivial
 |(k,o)::ps,xs,bM=>by
  simp only[yq]at bM;split at bM
  .rename_i x QA ae ag;simp at bM;subst bM;obtain⟨a2,bq⟩:=gj h e9 ae;exact⟨rfl,a2,bq,Jm h e9 ag⟩
  .cases bM
def Next (C:ch) (w0:World) (F0 X:Nat->Prop) (aJ:Nat->Value) (w:World) (m:Sem Go.Next) (av:J) (s1:az):Prop:=
 ∃r aQ v b9 a0,m.run C.P w= .ok r aQ/\(r= .value v\/r= .skip/\v=undef)/\b4 w0 F0 X b9 a0 s1 aJ aQ/\mU w0 X b9 a0 s1 aJ aQ av v
theorem Good.next {aJ:Nat->Value} {m:Sem Value} (h:Good C w0 F0 X aJ w m av s1):Next C w0 F0 X aJ w (do pure (.value (<-m))) av s1:=by
 obtain⟨v,aQ,b9,a0,ae,ag,aK⟩:=h;exact⟨.value v,aQ,v,b9,a0,by simp[ae],.inl rfl,ag,aK⟩
theorem QB {aJ:Nat->Value} (h:b4 w0 F0 X F S s aJ w) {fs:Bool} {x y:J} {iY jN:Value} {m:Sem Go.Next} (ae:aU w F s aJ x iY (λ_=>False)) (ag:aU w F s aJ y jN (λ_=>False))
  (he:(jQ fs x y).map (λd=>(d,s))=some (av,s1)) (hm:m=(do pure (.value (<-if fs then Builtin.max2 iY jN else Builtin.min2 iY jN)))):Next C w0 F0 X aJ w m av s1:=by
 simp only[Option.map_eq_some_iff,Prod.mk.injEq]at he;obtain⟨d,ak,rfl,rfl⟩:=he;unfold jQ at ak;split at ak
 .rename_i a b;simp only[Option.some.injEq]at ak;subst ak;have aW:=p7 ae;have a8:=p7 ag;subst aW a8;subst hm;refine⟨.value (.string ⟨⟨Ei fs a b⟩⟩),w,_,F,S,?_,.inl rfl,h,.inl ⟨rfl,q6 _⟩⟩;cases fs
  .simp only[Builtin.min2,Op.stringOp,AS,Ei,Bool.false_eq_true,if_false];cases ab:(Op.bytesLess a b||a==b)<;>simp[asBool]
  .simp only[Builtin.max2,Op.stringOp,AS,Ei,if_true];cases ab:Op.bytesLess a b<;>simp[asBool]
 .rename_i k a cZ b;split at ak
  .rename_i ao;subst ao;simp only[Option.some.injEq]at ak;subst ak;have aW:=q5 ae;have a8:=q5 ag;subst aW a8;subst hm;refine⟨.value (.int k (ti fs a b)),w,_,F,S,?_,.inl rfl,h,.inl ⟨rfl,of_int _ _⟩⟩;cases fs<;>simp[Builtin.min2,Builtin.max2,ti]
  .cases ak
 .cases ak
theorem QC (bB:C.fI) {aJ:Nat->Value} (h:b4 w0 F0 X F S s aJ w) (e9:∀t,aJ t=a.tmps.getD t undef) {o:Oper} {bO:eP} (ad:cU o.op=some bO) (he:bY C s bO=some (av,s1)):
  Next C w0 F0 X aJ w (execOp a.eval o) av s1:=by
 obtain⟨dst,op,ty,pos,after,guard⟩:=o;simp only at ad;cases op with
 |move x=>
  simp only[cU,Option.map_eq_some_iff]at ad;obtain⟨cD,ay,rfl⟩:=ad;obtain⟨a2,bq⟩:=gj h e9 ay;simp only[bY,Option.some.injEq,Prod.mk.injEq]at he;obtain⟨rfl,rfl⟩:=he;exact⟨_,w,_,F,S,rfl,.inl rfl,h,.inl ⟨a2,bq⟩⟩
 |assign x=>
  simp only[cU,Option.map_eq_some_iff]at ad;obtain⟨cD,ay,rfl⟩:=ad;obtain⟨a2,bq⟩:=gj h e9 ay;simp only[bY]at he;split at he
  .rename_i y q bz;rw[bz]at a2 bq;obtain⟨cA,k0,b3,cv,Sn,fz,ez,fR,dj,jO,_⟩:=qY h a2 bq he;exact⟨_,w,_,F,cA,rfl,.inl rfl,k0,.inr ⟨b3,cv,Sn,fz,ez,fR,dj,jO⟩⟩
  .simp only[Option.some.injEq,Prod.mk.injEq]at he;obtain⟨rfl,rfl⟩:=he;exact⟨_,w,_,F,S,rfl,.inl rfl,h,.inl ⟨a2,bq⟩⟩
 |pick c x y=>
  simp only[cU]at ad;split at ad
  .rename_i uU cD l4 ax ay bz;simp only[Option.some.injEq]at ad;subst ad;simp only[bY]at he;split at he
   .rename_i b ab;simp only[Option.some.injEq,Prod.mk.injEq]at he;obtain⟨rfl,rfl⟩:=he;have nt:=(gj h e9 ax).2;rw[ab]at nt;have nt:=uL nt;obtain⟨U,ai⟩:=gj h e9 ay;obtain⟨fj,g8⟩:=gj h e9 bz;refine⟨.value (if b then a.eval x else a.eval y),w,_,F,S,?_,.inl rfl,h,.inl ?_⟩
    .simp[execOp,nt,asBool]
    .cases b
     .exact⟨fj,g8⟩
     .exact⟨U,ai⟩
   .cases he
  .cases ad
 |alloc T=>
  simp only[cU,Option.some.injEq]at ad;subst ad;simp only[bY,Option.map_eq_some_iff,Prod.mk.injEq]at he;obtain⟨d,ak,rfl,rfl⟩:=he;exact(Xi bB h ak).next
 |box T x=>
  simp only[cU,Option.map_eq_some_iff]at ad;obtain⟨cD,ay,rfl⟩:=ad;obtain⟨a2,bq⟩:=gj h e9 ay;exact(Xm h a2 bq he).next
 |build T ps=>
  simp only[cU,Option.map_eq_some_iff]at ad;obtain⟨Yo,aw,rfl⟩:=ad;obtain⟨ps⟩:=ps;have:=(Yi bB h (Jm h e9 aw) he).next;simpa [execOp]using this
 |buildSlice T n ps=>
  simp only[cU,Option.map_eq_some_iff]at ad;obtain⟨Yo,aw,rfl⟩:=ad;obtain⟨ps⟩:=ps;have:=(Yl bB h (Jm h e9 aw) he).next;simpa [execOp]using this
 |load T x=>
  simp only[cU,Option.map_eq_some_iff]at ad;obtain⟨cD,ay,rfl⟩:=ad;obtain⟨a2,bq⟩:=gj h e9 ay;simp only[bY,Option.map_eq_some_iff,Prod.mk.injEq]at he;obtain⟨d,ak,rfl,rfl⟩:=he;exact(Xd bB h bq ak).next
 |store T x y=>
  simp only[cU]at ad;split at ad
  .rename_i cD l4 ay bz;simp only[Option.some.injEq]at ad;subst ad;simp only[bY,Option.map_eq_some_iff,Prod.mk.injEq]at he;obtain⟨s2,ak,rfl,rfl⟩:=he;obtain⟨aQ,a0,ae,ag⟩:=Xg bB h (gj h e9 ay).2 (gj h e9 bz).1 (gj h e9 bz).2 ak;exact⟨.skip,aQ,undef,F,a0,by simp[execOp,ae],.inr ⟨rfl,rfl⟩,ag,.inl ⟨rfl,by rw[aU];trivial⟩⟩
  .cases ad
 |nilCheck x=>
  simp only[cU,Option.map_eq_some_iff]at ad;obtain⟨cD,ay,rfl⟩:=ad;obtain⟨a2,bq⟩:=gj h e9 ay;simp only[bY,Option.map_eq_some_iff,Prod.mk.injEq]at he;obtain⟨d,ak,rfl,rfl⟩:=he;obtain⟨rfl,aw,aE⟩:=XB h bq ak;refine⟨.value (a.eval x),w,_,F,S,?_,.inl rfl,h,.inl ⟨aw,bq⟩⟩;rcases aE with⟨b,ab⟩|⟨f,c,ab⟩<;>simp[execOp,ab]
 |binOp op T x y apz=>
  simp only[cU]at ad;split at ad
  .rename_i cD l4 ay bz;simp only[Option.some.injEq]at ad;subst ad;simp only[bY,Option.map_eq_some_iff,Prod.mk.injEq]at he;obtain⟨d,ak,rfl,rfl⟩:=he;exact(Xy bB h x y (gj h e9 ay).2 (gj h e9 bz).2 ak).next
  .cases ad
 |unOp op T x=>
  simp only[cU,Option.map_eq_some_iff]at ad;obtain⟨cD,ay,rfl⟩:=ad;simp only[bY,Option.map_eq_some_iff,Prod.mk.injEq]at he;obtain⟨d,ak,rfl,rfl⟩:=he;exact(Xz h (gj h e9 ay).2 ak).next
 |convert A B x=>
  simp only[cU,Option.map_eq_some_iff]at ad;obtain⟨cD,ay,rfl⟩:=ad;simp only[bY,Option.map_eq_some_iff,Prod.mk.injEq]at he;obtain⟨d,ak,rfl,rfl⟩:=he;exact(XK bB h (gj h e9 ay).2 ak).next
 |makeFunc fn first cs=>
  cases fn with
  |func f=>
   simp only[cU]at ad;split at ad
   .rename_i Bc;simp only[Option.map_eq_some_iff]at ad;obtain⟨qf,iB,rfl⟩:=ad;simp only[bY,Option.some.injEq,Prod.mk.injEq]at he;obtain⟨rfl,rfl⟩:=he;have Jn:first= #[]:=by simpa using Bc
    subst Jn;refine⟨_,w,_,F,S,rfl,.inl rfl,h,.inl ⟨rfl,?_⟩⟩;rw[aU];refine⟨cs.map a.eval,by simp,?_⟩;simpa using EL h e9 _ _ (wx iB)
   .cases ad
  |_=>simp[cU]at ad
 |makeSlice T l c=>
  simp only[cU]at ad;split at ad
  .rename_i cD l4 ay bz;simp only[Option.some.injEq]at ad;subst ad;simp only[bY,Option.map_eq_some_iff,Prod.mk.injEq]at he;obtain⟨d,ak,rfl,rfl⟩:=he;exact(X_ bB h (gj h e9 ay).2 (gj h e9 bz).2 ak).next
  .cases ad
 |slice T x fB al fs=>
  cases fs with
  |some m=>simp[cU]at ad
  |none=>
   simp only[cU]at ad;split at ad
   .rename_i cD apA wy ay p9 p_;simp only[Option.some.injEq]at ad;subst ad;obtain⟨a2,bq⟩:=gj h e9 ay;have opt:∀{o:Option Operand} {pk:Option bl},Bb o=some pk->ts w F s aJ (pk.map (bs s)) (o.map a.eval):=by
     intro o pk b_;cases o with
     |none=>simp[Bb]at b_;subst b_;trivial
     |some o=>
      simp only[Bb,Option.map_eq_some_iff]at b_;obtain⟨x,ay,rfl⟩:=b_;exact(gj h e9 ay).2
    exact(XN bB h a2 bq (opt p9) (opt p_) he).next
   .cases ad
 |fieldAddr T x k=>
  simp only[cU,Option.map_eq_some_iff]at ad;obtain⟨cD,ay,rfl⟩:=ad;obtain⟨a2,bq⟩:=gj h e9 ay;simp only[bY,Option.map_eq_some_iff,Prod.mk.injEq]at he;obtain⟨d,ak,rfl,rfl⟩:=he;exact(W8 bB h a2 bq ak).next
 |indexAddr T x i=>
  simp only[cU]at ad;split at ad
  .rename_i cD l4 ay bz;simp only[Option.some.injEq]at ad;subst ad;simp only[bY,Option.map_eq_some_iff,Prod.mk.injEq]at he;obtain⟨d,ak,rfl,rfl⟩:=he;exact(W9 bB h (gj h e9 ay).2 (gj h e9 bz).2 ak).next
  .cases ad
 |index T x i=>
  simp only[cU]at ad;split at ad
  .rename_i cD l4 ay bz;simp only[Option.some.injEq]at ad;subst ad;simp only[bY,Option.map_eq_some_iff,Prod.mk.injEq]at he;obtain⟨d,ak,rfl,rfl⟩:=he;exact(XH bB h (gj h e9 ay).2 (gj h e9 bz).2 ak).next
  .cases ad
 |makeMap t r=>
  cases r with
  |none=>
   simp only[cU,Option.some.injEq]at ad;subst ad;simp only[bY,Option.some.injEq,Prod.mk.injEq]at he;obtain⟨rfl,rfl⟩:=he;exact(X9 h t).next
  |some r=>simp[cU]at ad
 |lookup T x i c=>
  cases c with
  |true=>simp[cU]at ad
  |false=>
   simp only[cU]at ad;split at ad
   .rename_i cD tl ay al;simp only[Option.some.injEq]at ad;subst ad;simp only[bY,Option.map_eq_some_iff,Prod.mk.injEq]at he;obtain⟨d,ak,rfl,rfl⟩:=he;exact(X6 bB h (gj h e9 ay).2 (gj h e9 al).2 ak).next
   .cases ad
 |mapUpdate T x i v=>
  simp only[cU]at ad;split at ad
  .rename_i cD tl gd ay al aE;simp only[Option.some.injEq]at ad;subst ad;simp only[bY,Option.map_eq_some_iff,Prod.mk.injEq]at he;obtain⟨s2,ak,rfl,rfl⟩:=he;obtain⟨aQ,a0,ae,ag⟩:=X7 bB h (gj h e9 ay).2 (gj h e9 al).2 (gj h e9 aE).2 ak;exact⟨.skip,aQ,undef,F,a0,by simp[execOp,ae],.inr ⟨rfl,rfl⟩,ag,.inl ⟨rfl,by rw[aU];trivial⟩⟩
  .cases ad
 |extract x k=>
  simp only[cU,Option.map_eq_some_iff]at ad;obtain⟨cD,ay,rfl⟩:=ad;simp only[bY,Option.map_eq_some_iff,Prod.mk.injEq]at he;obtain⟨d,ak,rfl,rfl⟩:=he;exact(XE h (gj h e9 ay).2 ak).next
 |field T x k=>
  simp only[cU,Option.map_eq_some_iff]at ad;obtain⟨cD,ay,rfl⟩:=ad;simp only[bY,Option.bind_eq_some_iff]at he;obtain⟨d,ak,he⟩:=he;obtain⟨v,aQ,b9,a0,a4,nS,qW⟩:=XF bB h (gj h e9 ay).2 ak;unfold sr at he;split at he
  .rename_i y q;have Yp:aU aQ b9 s aJ (.h y q) v (λ_=>False):=by
    rcases qW with⟨_,bq⟩|⟨a2,_⟩
    .exact bq
    .cases a2
   obtain⟨cA,k0,b3,cv,Sn,fz,ez,fR,dj,jO,_⟩:=qY nS rfl Yp he;exact⟨.value v,aQ,v,b9,cA,by simp[execOp,a4],.inl rfl,k0,.inr ⟨b3,cv,Sn,fz,ez,fR,dj,jO⟩⟩
  .simp only[Option.some.injEq,Prod.mk.injEq]at he;obtain⟨rfl,rfl⟩:=he;exact⟨.value v,aQ,v,b9,a0,by simp[execOp,a4],.inl rfl,nS,qW⟩
 |call c=>
  obtain⟨callee,args,argTypes⟩:=c;simp only[cU]at ad;split at ad
  .split at ad
   .simp only[Option.some.injEq]at ad;subst ad;simp[bY]at he
   .cases ad
  .split at ad
   .rename_i x T oD wz;simp only[Option.map_eq_some_iff]at ad;obtain⟨cD,ay,rfl⟩:=ad;simp only[bY,Option.map_eq_some_iff,Prod.mk.injEq]at he;obtain⟨d,ak,rfl,rfl⟩:=he;have:=(XI (ty:=ty) bB h (gj h e9 ay).2 ak).next;have aW:args= #[x]:=by apply Array.ext';exact oD
    have a8:argTypes= #[T]:=by apply Array.ext';exact wz
    subst aW a8;simpa [execOp,resolve,invoke,builtin]using this
   .cases ad
  .split at ad
   .rename_i x T oD wz;simp only[Option.map_eq_some_iff]at ad;obtain⟨cD,ay,rfl⟩:=ad;simp only[bY]at he;split at he
    .rename_i e ao Yq;simp only[Option.some.injEq,Prod.mk.injEq]at he;obtain⟨rfl,rfl⟩:=he;have aE:=(gj h e9 ay).2;rw[Yq]at aE;have:=tq aE;obtain⟨i,d,z,aW,a8,aY,bT,cF,cj,b0⟩:=bB.info (gY ao (by simp));rw[ao]at b0;have ak:=mV b0;subst ak;have Yr:args= #[x]:=by apply Array.ext';exact oD
     have Ys:argTypes= #[T]:=by apply Array.ext';exact wz
     subst Yr Ys;have a4:(Builtin.cap_ #[T] ty #[a.eval x]).run C.P w= .ok (.int .i64 0) w:=by
      rw[this];simp[Builtin.cap_,run_underlying cj,goInt]
     have:=(Good.same (av:=.int .i64 0) h a4 rfl (of_int _ _)).next;simpa [execOp,resolve,invoke,builtin]using this
    .cases he
   .cases ad
  .split at ad
   .rename_i x y oD;split at ad
    .rename_i cD l4 ay bz;simp only[Option.some.injEq]at ad;subst ad;have aW:args= #[x,y]:=by apply Array.ext';exact oD
     subst aW;exact QB h (gj h e9 ay).2 (gj h e9 bz).2 he (by simp[execOp,resolve,invoke,builtin,Builtin.min_])
    .cases ad
   .cases ad
  .split at ad
   .rename_i x y oD;split at ad
    .rename_i cD l4 ay bz;simp only[Option.some.injEq]at ad;subst ad;have aW:args= #[x,y]:=by apply Array.ext';exact oD
     subst aW;exact QB h (gj h e9 ay).2 (gj h e9 bz).2 he (by simp[execOp,resolve,invoke,builtin,Builtin.max_])
    .cases ad
   .cases ad
  .split at ad
   .rename_i x y T cC oD wz;split at ad
    .rename_i cD l4 ay bz;simp only[Option.some.injEq]at ad;subst ad;have:=(XX (ty:=ty) bB h (gj h e9 ay).2 (gj h e9 bz).2 he).next;have aW:args= #[x,y]:=by apply Array.ext';exact oD
     have a8:argTypes= #[T,cC]:=by apply Array.ext';exact wz
     subst aW a8;simpa [execOp,resolve,invoke,builtin]using this
    .cases ad
   .cases ad
  .cases ad
 |_=>simp[cU]at ad
end
mutual
def J.ad:J->arH
 | .h x _=>[x]
 | .aw x _=>[x]
 | .ab x _=>[x]
 | .fn _ cap=>J.eJ cap
 |_=>[]
def J.eJ:arM->arH
 |[]=>[]
 |d::ds=>d.ad++J.eJ ds
end
inductive ss where
 |no
 |cB
 |dg
structure hY where
 k:ss
 x:Nat
 d:J
def ss.app (k:ss) (x:Nat) (a:J):J:=match k with
 | .no=>a
 | .cB=>ek.cB x a
 | .dg=>ek.dg x a
def hY.at (m:hY) (u:Nat) (a:J):J:=if u=m.x then m.d else m.k.app m.x a
def lb:List hY->Nat->J->J
 |[],_,a=>a
 |m::ms,u,a=>lb ms u (m.at u a)
def eD (ms:List hY) (s:az):az:=λu=>lb ms u (s u)
theorem QD:∀(ms my:List hY) (u:Nat) (a:J),lb (ms++my) u a=lb my u (lb ms u a)
 |[],_,_,_=>rfl
 |m::ms,my,u,a=>by simp only[cons_append,lb];exact QD ms my u _
theorem n0 (ms my:List hY) (s:az):eD (ms++my) s=eD my (eD ms s):=by
 funext u;simp[eD,QD]
theorem Yt {ms:List hY} {s aI:az} {u:Nat} (h:aI u=s u):eD ms aI u=eD ms s u:=by simp[eD,h]
theorem wA (s:az) (x:Nat) (d:J):dY (hq x s) x d=eD [⟨.cB,x,d⟩] s:=by
 funext u;simp only[eD,lb,hY.at,dY,hq,ss.app]
theorem QE (s:az) (x:Nat) (d:J):dY (nk x s) x d=eD [⟨.dg,x,d⟩] s:=by
 funext u;simp only[eD,lb,hY.at,dY,nk,ss.app]
theorem QF (s:az) (x:Nat) (d:J):dY s x d=eD [⟨.no,x,d⟩] s:=by
 funext u;simp only[eD,lb,hY.at,dY,ss.app]
mutual
theorem Bd {x:Nat}:∀a:J,x∉a.ad->cB x a=a
 | .h y q,h=>by
   simp only[J.ad,mem_singleton]at h;simp only[cB];rw[if_neg (λe=>h e.symm)]
 | .aw y q,h=>by
   simp only[J.ad,mem_singleton]at h;simp only[cB];rw[if_neg (λe=>h e.symm)]
 | .ab y q,h=>rfl
 | .fn f cap,h=>by simp only[cB];rw[QG cap (by simpa [J.ad]using h)]
 | .hole,_=>rfl
 | .bool _,_=>rfl
 | .fW,_=>rfl
 | .int _ _,_=>rfl
 | .str _,_=>rfl
 | .eh,_=>rfl
 | .au,_=>rfl
 | .slice _,_=>rfl
 | .af _ _,_=>rfl
 | .ref _,_=>rfl
 | .aG _,_=>rfl
 | .agg _,_=>rfl
 | .tuple _,_=>rfl
 | .eM _,_=>rfl
theorem QG {x:Nat}:∀ds:arM,x∉J.eJ ds->jL x ds=ds
 |[],_=>rfl
 |d::ds,h=>by
  simp only[J.eJ,mem_append,not_or]at h;simp only[jL];rw[Bd d h.1,QG ds h.2]
end
mutual
theorem Jo {x:Nat}:∀a:J,x∉a.ad->dg x a=a
 | .h y q,h=>by
   simp only[J.ad,mem_singleton]at h;simp only[dg];rw[if_neg (λe=>h e.symm)]
 | .aw y q,h=>by
   simp only[J.ad,mem_singleton]at h;simp only[dg];rw[if_neg (λe=>h e.symm)]
 | .ab y q,h=>by
   simp only[J.ad,mem_singleton]at h;simp only[dg];rw[if_neg (λe=>h e.symm)]
 | .fn f cap,h=>by simp only[dg];rw[QH cap (by simpa [J.ad]using h)]
 | .hole,_=>rfl
 | .bool _,_=>rfl
 | .fW,_=>rfl
 | .int _ _,_=>rfl
 | .str _,_=>rfl
 | .eh,_=>rfl
 | .au,_=>rfl
 | .slice _,_=>rfl
 | .af _ _,_=>rfl
 | .ref _,_=>rfl
 | .aG _,_=>rfl
 | .agg _,_=>rfl
 | .tuple _,_=>rfl
 | .eM _,_=>rfl
theorem QH {x:Nat}:∀ds:arM,x∉J.eJ ds->kh x ds=ds
 |[],_=>rfl
 |d::ds,h=>by
  simp only[J.eJ,mem_append,not_or]at h;simp only[kh];rw[Jo d h.1,QH ds h.2]
end
theorem Be {k:ss} {x:Nat} {a:J} (h:k= .no\/x∉a.ad):k.app x a=a:=by
 cases k with
 |no=>rfl
 |cB=>exact Bd a (by simpa using h)
 |dg=>exact Jo a (by simpa using h)
mutual
theorem QI (x y:Nat):∀a:J,cB x (cB y a)=cB y (cB x a)
 | .h z q=>by simp only[cB];by_cases ae:z=x<;>by_cases ag:z=y<;>by_cases aK:q=[]<;>simp[ae,ag,aK,cB]<;>(subst_vars;simp_all [cB])
 | .aw z q=>by simp only[cB];by_cases ae:z=x<;>by_cases ag:z=y<;>simp[ae,ag,cB]<;>(subst_vars;simp_all [cB])
 | .ab z q=>rfl
 | .fn f cap=>by simp only[cB];rw[QJ x y cap]
 | .hole=>rfl
 | .bool _=>rfl
 | .fW=>rfl
 | .int _ _=>rfl
 | .str _=>rfl
 | .eh=>rfl
 | .au=>rfl
 | .slice _=>rfl
 | .af _ _=>rfl
 | .ref _=>rfl
 | .aG _=>rfl
 | .agg _=>rfl
 | .tuple _=>rfl
 | .eM _=>rfl
theorem QJ (x y:Nat):∀ds:arM,jL x (jL y ds)=jL y (jL x ds)
 |[]=>rfl
 |d::ds=>by simp only[jL];rw[QI x y d,QJ x y ds]
end
mutual
theorem QK (x y:Nat):∀a:J,dg x (dg y a)=dg y (dg x a)
 | .h z q=>by simp only[dg];by_cases ae:z=x<;>by_cases ag:z=y<;>simp[ae,ag,dg]<;>(subst_vars;simp_all [dg])
 | .aw z q=>by simp only[dg];by_cases ae:z=x<;>by_cases ag:z=y<;>simp[ae,ag,dg]<;>(subst_vars;simp_all [dg])
 | .ab z q=>by simp only[dg];by_cases ae:z=x<;>by_cases ag:z=y<;>simp[ae,ag,dg]<;>(subst_vars;simp_all [dg])
 | .fn f cap=>by simp only[dg];rw[QL x y cap]
 | .hole=>rfl
 | .bool _=>rfl
 | .fW=>rfl
 | .int _ _=>rfl
 | .str _=>rfl
 | .eh=>rfl
 | .au=>rfl
 | .slice _=>rfl
 | .af _ _=>rfl
 | .ref _=>rfl
 | .aG _=>rfl
 | .agg _=>rfl
 | .tuple _=>rfl
 | .eM _=>rfl
theorem QL (x y:Nat):∀ds:arM,kh x (kh y ds)=kh y (kh x ds)
 |[]=>rfl
 |d::ds=>by simp only[kh];rw[QK x y d,QL x y ds]
end
mutual
theorem Jp (x y:Nat):∀a:J,cB x (dg y a)=dg y (cB x a)
 | .h z q=>by simp only[dg,cB];by_cases ae:z=x<;>by_cases ag:z=y<;>by_cases aK:q=[]<;>simp[ae,ag,aK,dg,cB]<;>(subst_vars;simp_all [dg,cB])
 | .aw z q=>by simp only[dg,cB];by_cases ae:z=x<;>by_cases ag:z=y<;>simp[ae,ag,dg,cB]<;>(subst_vars;simp_all [dg,cB])
 | .ab z q=>by simp only[dg,cB];by_cases ag:z=y<;>simp[ag,cB]
 | .fn f cap=>by simp only[dg,cB];rw[QM x y cap]
 | .hole=>rfl
 | .bool _=>rfl
 | .fW=>rfl
 | .int _ _=>rfl
 | .str _=>rfl
 | .eh=>rfl
 | .au=>rfl
 | .slice _=>rfl
 | .af _ _=>rfl
 | .ref _=>rfl
 | .aG _=>rfl
 | .agg _=>rfl
 | .tuple _=>rfl
 | .eM _=>rfl
theorem QM (x y:Nat):∀ds:arM,jL x (kh y ds)=kh y (jL x ds)
 |[]=>rfl
 |d::ds=>by simp only[kh,jL];rw[Jp x y d,QM x y ds]
end
theorem Yu (k l:ss) (x y:Nat) (a:J):k.app x (l.app y a)=l.app y (k.app x a):=by
 cases k<;>cases l<;>simp only[ss.app]<;>first|rfl|exact QI .. |exact QK .. |exact Jp .. |exact(Jp ..).symm
def bl.use (s:az):bl->arH
 | .t n=>n::(s n).ad
 | .c av=>av.ad
 | .f _=>[]
def bl.re (s:az):List bl->arH
 |[]=>[]
 |x::xs=>x.use s++bl.re s xs
def Jq (s:az):Option bl->arH
 |none=>[]
 |some x=>x.use s
def use (s:az):eP->arH
 | .hF x=>x.use s
 | .mY x=>x.use s
 | .pick c a b=>c.use s++(a.use s++b.use s)
 | .lz _=>[]
 | .ic _ x=>x.use s
 | .ey _ ps=>bl.re s (ps.map (·.2))
 | .dz _ _ ps=>bl.re s (ps.map (·.2))
 | .fo _ x=>x.use s
 | .j2 _ x y=>x.use s++y.use s
 | .j6 x=>x.use s
 | .ff _ _ x y=>x.use s++y.use s
 | .un _ x=>x.use s
 | .j7 _ _ x=>x.use s
 | .nW _ cs=>bl.re s cs
 | .fi _ l c=>l.use s++c.use s
 | .gR _ x fB al=>x.use s++(Jq s fB++Jq s al)
 | .gQ _ x _=>x.use s
 | .j0 _ x i=>x.use s++i.use s
 | .idx _ x i=>x.use s++i.use s
 | .ex x _=>x.use s
 | .nT _ x _=>x.use s
 | .call f args=>f.use s++bl.re s args
 | .len _ x=>x.use s
 | .app _ _ x y=>x.use s++y.use s
 | .shr bO=>use s bO
 | .la f args us=>us.flatMap (λu=>u::(s u).ad)++(f.use s++bl.re s args)
 | .kA _ x=>x.use s
 | .nY x=>x.use s
 | .nZ x=>x.use s
 | .Ba=>[]
 | .qd _ x i=>x.use s++i.use s
 | .oC _ x i v=>x.use s++(i.use s++v.use s)
 | .jP _ _ x y=>x.use s++y.use s
 | .cap _ x=>x.use s
 | .jQ _ x y=>x.use s++y.use s
 | .bad=>[]
def lC (s:az):eP->arH
 | .mY x=>(bs s x).ad
 | .ic _ x=>(bs s x).ad
 | .ey _ ps=>J.eJ (ps.map λp=>bs s p.2)
 | .dz _ _ ps=>J.eJ (ps.map λp=>bs s p.2)
 | .j2 _ x y=>(bs s x).ad++(bs s y).ad
 | .nT _ x _=>(bs s x).ad
 | .nZ x=>(bs s x).ad
 | .oC _ x _ _=>(bs s x).ad
 | .gR _ x _ _=>(bs s x).ad
 | .app _ _ x y=>(bs s x).ad++(bs s y).ad
 | .shr bO=>lC s bO
 |_=>[]
def ep (cC:arH) (aI s:az):Prop:=∀u∈cC,aI u=s u
theorem ep.left {cC V:arH} {aI s:az} (h:ep (cC++V) aI s):ep cC aI s:=λu hu=>h u (mem_append_left _ hu)
theorem ep.right {cC V:arH} {aI s:az} (h:ep (cC++V) aI s):ep V aI s:=λu hu=>h u (mem_append_right _ hu)
theorem ep.eD {cC:arH} {aI s:az} (h:ep cC aI s) (ms:List hY):ep cC (eD ms aI) (eD ms s):=λu hu=>Yt (h u hu)
theorem ep.sub {cC V:arH} {aI s:az} (h:ep cC aI s) (ad:∀u∈V,u∈cC):ep V aI s:=λu hu=>h u (ad u hu)
theorem bl.wB {s:az} {x:bl}:∀u∈(bs s x).ad,u∈x.use s:=by
 intro u hu;cases x with
 |t n=>
  simp only[bs,sd]at hu;split at hu
  .simp[bl.use,hu]
  .simp only[J.ad,mem_singleton]at hu;simp[bl.use,hu]
 |c av=>exact hu
 |f g=>simp[bs,J.ad,J.eJ]at hu
theorem bl.gv {s aI:az} {x:bl} (h:ep (x.use s) aI s):bs aI x=bs s x:=by
 cases x with
 |t n=>simp only[bs];rw[h n (by simp[bl.use])]
 |c av=>rfl
 |f g=>rfl
theorem ep.bs {s aI:az} {x:bl} (h:ep (x.use s) aI s):ep (bs s x).ad aI s:=h.sub bl.wB
theorem QN {s aI:az} {x:Option bl} (h:ep (Jq s x) aI s):x.map (bs aI)=x.map (bs s):=by
 cases x with
 |none=>rfl
 |some x=>simp only[Option.map_some];rw[bl.gv h]
theorem bl.Jr {s aI:az}:∀{xs:List bl},ep (bl.re s xs) aI s->xs.map (bs aI)=xs.map (bs s)
 |[],_=>rfl
 |x::xs,h=>by
  simp only[map_cons];rw[bl.gv (h.left),bl.Jr (h.right)]
theorem bl.Js {s aI:az}:∀{ps:List (Nat×bl)},ep (bl.re s (ps.map (·.2))) aI s->(ps.map λp=>(p.1,bs aI p.2))=ps.map λp=>(p.1,bs s p.2)
 |[],_=>rfl
 |x::xs,h=>by
  simp only[map_cons]at h⊢;rw[bl.gv (h.left),bl.Js (h.right)]
theorem bl.EO {s:az}:∀{xs:List bl},∀u∈J.eJ (xs.map (bs s)),u∈bl.re s xs
 |[],u,h=>by simp[J.eJ]at h
 |x::xs,u,h=>by
  simp only[map_cons,J.eJ,mem_append]at h;simp only[bl.re,mem_append];exact h.imp (bl.wB u) (bl.EO u)
section
variable {C:ch} {s aI:az} {x y i:J} {T A B:TypeId}
theorem Jt (h:ep x.ad aI s):loc aI x=loc s x:=by
 cases x<;>first
  |rfl
  |(simp only[loc];rw[h _ (by simp[J.ad])])
theorem Ju {z:Nat} {q:arH} (h:loc s x=some (z,q)):z∈x.ad:=by
 cases x with
 |h y p=>
  simp only[loc]at h;split at h
  .simp only[Option.some.injEq,Prod.mk.injEq]at h;simp[J.ad,h.1]
  .cases h
 |aw y p=>
  simp only[loc]at h;split at h
  .simp only[Option.some.injEq,Prod.mk.injEq]at h;simp[J.ad,h.1]
  .cases h
 |_=>simp[loc]at h
theorem Yv (h:ep x.ad aI s):fo C aI T x=fo C s T x:=by
 have hl:=Jt h;unfold fo;split
 .rfl
 .rw[h _ (by simp[J.ad])]
 .rw[hl];split
  .rename_i e;rw[h _ (Ju e)]
  .rfl
theorem Yw {k:Nat} (h:ep x.ad aI s):gQ C aI T x k=gQ C s T x k:=by
 have hl:=Jt h;unfold gQ;split
 .split
  .split
   .split
    .rfl
    .rw[h _ (by simp[J.ad])]
    .rw[hl];split
     .rename_i e;rw[h _ (Ju e)]
     .rfl
   .rfl
  .rfl
 .rfl
theorem Yx (h:ep x.ad aI s):j0 C aI T x i=j0 C s T x i:=by
 cases x<;>first
  |rfl
  |(simp only[j0];rw[h _ (by simp[J.ad])])
theorem Yy (h:ep x.ad aI s):tr C aI T x=tr C s T x:=by
 unfold tr;cases(C.T T).k<;>cases x<;>first
  |rfl
  |(simp only;rw[h _ (by simp[J.ad])])
theorem Yz (h:ep x.ad aI s):j7 C aI A B x=j7 C s A B x:=by
 unfold j7;cases(C.T B).k<;>cases x<;>first
  |rfl
  |(simp only;rw[h _ (by simp[J.ad])])
theorem YA (h:ep x.ad aI s):kT aI x=kT s x:=by
 cases x<;>first
  |rfl
  |(simp only[kT];rw[h _ (by simp[J.ad])])
theorem YB (h:ep x.ad aI s):mW aI x=mW s x:=by
 cases x<;>first
  |rfl
  |(simp only[mW];rw[h _ (by simp[J.ad])])
theorem YC {op:BinOp} (h:ep x.ad aI s):ff C aI op T x y=ff C s op T x y:=by
 have ae:=YA h;have ag:=YB h;unfold ff;split<;>first|rfl|simp only[ae,ag]
theorem YD (h:ep x.ad aI s):j6 aI x=j6 s x:=by
 cases x<;>first
  |rfl
  |(simp only[j6];rw[h _ (by simp[J.ad])])
theorem YE {k y:Nat} {q:arH} (h:nT C s T x k=some (.h y q)):x.ad=[y]:=by
 unfold nT at h;split at h<;>try (cases h;done)
 split at h<;>try (cases h;done)
 split at h
 .split at h<;>try (cases h;done)
  split at h
  .rename_i ax;simp only[Option.some.injEq]at h;rw[h]at ax;exact absurd ax.2.2.2 (by simp[J.tree])
  .cases h
 .split at h<;>try (cases h;done)
  split at h<;>try (cases h;done)
  split at h<;>try (cases h;done)
  rename_i d ak ax;by_cases aw:d.plain=true
  .simp only[aw,if_true,Option.some.injEq]at h;rw[h]at ax;exact absurd ax.2.2.2 (by simp[J.tree])
  .simp only[aw,Option.some.injEq]at h;injection h with ae ag;subst ae;rfl
 .cases h
theorem QO {k:Nat} (h:ep x.ad aI s):nT C aI T x k=nT C s T x k:=by
 unfold nT;split<;>try rfl
 split<;>try rfl
 cases x<;>first
  |rfl
  |(simp only[];rw[h _ (by simp[J.ad])])
theorem YF {k:Nat} (h:ep x.ad aI s):ex aI x k=ex s x k:=by
 cases x<;>first
  |rfl
  |(simp only[ex];rw[h _ (by simp[J.ad])])
theorem yr:∀(q:arH) (a d e:J),J.sub q a=some d->(d.plain=false\/q≠[])->(q=[]->e.ad=[])->(J.put q e a).ad=[]:=by
 intro q a d e h aw he;cases q with
 |nil=>rw[J.put];exact he rfl
 |cons k q=>
  cases a<;>first
   |(simp[J.sub]at h;done)
   |skip
  all_goals
   unfold J.put
   repeat' split
   all_goals first|rfl|(simp_all;done)
end
def Loc {α:Type} (cC ys:arH) (f:az->Option (α×az)) (s:az) (av:α) (s1:az):Prop:=
 ∃ms,s1=eD ms s/\(∀m∈ms,m.x∈ys/\m.d.ad=[])/\∀aI,ep cC aI s->f aI=some (av,eD ms aI)
theorem Loc.pure {α:Type} {cC ys:arH} {f:az->Option (α×az)} {s:az} {av:α} (h:∀aI,ep cC aI s->f aI=some (av,aI)):Loc cC ys f s av s:=
 ⟨[],rfl,by simp,λaI ad=>h aI ad⟩
theorem Loc.mono {α:Type} {cC ys EP QP:arH} {f:az->Option (α×az)} {s s1:az} {av:α} (h:Loc cC ys f s av s1) (sm:∀u∈cC,u∈EP) (kj:∀u∈ys,u∈QP):Loc EP QP f s av s1:=by
 obtain⟨ms,ae,ag,aK⟩:=h;exact⟨ms,ae,λm hm=>⟨kj _ (ag m hm).1,(ag m hm).2⟩,λaI ad=>aK aI (ad.sub sm)⟩
section
variable {C:ch} {s s1:az} {x y d:J} {T A B:TypeId}
theorem tx (h:dq s x=some (d,s1)):Loc x.ad x.ad (λs=>dq s x) s d s1:=by
 cases x with
 |h y q=>
  simp only[dq]at h;split at h
  .rename_i e he;split at h
   .cases h
   .rename_i aw;simp only[Option.some.injEq,Prod.mk.injEq]at h;obtain⟨rfl,rfl⟩:=h;have aw:e.plain=false:=by simpa using aw
    refine⟨[⟨.cB,y,J.put q e.dS (s y)⟩],wA _ _ _,?_,?_⟩
    .intro m hm;simp only[mem_singleton]at hm;subst hm;refine⟨by simp[J.ad],yr q _ _ _ he (.inl aw) λcl=>?_⟩;subst cl;cases e<;>first|(simp[J.plain]at aw;done)|rfl
    .intro aI ad;have aW:aI y=s y:=ad y (by simp[J.ad]);simp only[dq,aW,he,aw];rw[<-wA];rfl
  .cases h
 |aw y q=>simp[dq]at h
 |ab y q=>simp[dq]at h
 |fn f c=>simp[dq]at h
 |hole=>simp[dq]at h
 |_=>
  simp only[dq,Option.some.injEq,Prod.mk.injEq]at h;obtain⟨rfl,rfl⟩:=h;exact .pure λaI _=>rfl
mutual
theorem QQ (x:Nat):∀a:J,∀u∈(cB x a).ad,u∈a.ad
 | .h y q,u,h=>by
   simp only[cB]at h;split at h
   .split at h
    .exact h
    .simp[J.ad]at h
   .exact h
 | .aw y q,u,h=>by
   simp only[cB]at h;split at h
   .simp[J.ad]at h
   .exact h
 | .ab y q,u,h=>h
 | .fn f cap,u,h=>by simp only[cB,J.ad]at h⊢;exact QR x cap u h
 | .hole,u,h=>h
 | .bool _,u,h=>h
 | .fW,u,h=>h
 | .int _ _,u,h=>h
 | .str _,u,h=>h
 | .eh,u,h=>h
 | .au,u,h=>h
 | .slice _,u,h=>h
 | .af _ _,u,h=>h
 | .ref _,u,h=>h
 | .aG _,u,h=>h
 | .agg _,u,h=>h
 | .tuple _,u,h=>h
theorem QR (x:Nat):∀ds:arM,∀u∈J.eJ (jL x ds),u∈J.eJ ds
 |[],u,h=>h
 |d::ds,u,h=>by
  simp only[jL,J.eJ,mem_append]at h⊢;exact h.imp (QQ x d u) (QR x ds u)
end
theorem Jv (o:Option Nat) (a:J):∀u∈(l5 o a).ad,u∈a.ad:=by
 intro u h;cases o with
 |none=>exact h
 |some x=>exact QQ x a u h
theorem QS:∀(os:List (Option Nat)) (a:J),∀u∈(mw os a).ad,u∈a.ad:=by
 intro os;induction os with
 |nil=>intro a u h;exact h
 |cons o os ih=>intro a u h;exact Jv o a u (ih (l5 o a) u h)
theorem QT {place:Nat->Option (Nat×Nat)}:∀{ps:arL} {s s1:az} {fC ds:arM} {os:List (Option Nat)},dZ place s fC os ps=some (ds,s1)->
  Loc (J.eJ (ps.map (·.2))) (J.eJ (ps.map (·.2))) (λs=>dZ place s fC os ps) s ds s1:=by
 intro ps;induction ps with
 |nil=>
  intro s s1 fC ds os h;simp only[dZ,Option.some.injEq,Prod.mk.injEq]at h;obtain⟨rfl,rfl⟩:=h;exact .pure λaI _=>rfl
 |cons p ps ih=>
  intro s s1 fC ds os h;obtain⟨k,a⟩:=p;simp only[dZ]at h;split at h
  .rename_i d s2 off n z bc ew ca;split at h
   .cases h
   .rename_i bE oE;split at h
    .rename_i ax;obtain⟨rf,rfl,ag,aK⟩:=tx bc;obtain⟨uT,rfl,bI,dc⟩:=ih h;refine⟨rf++uT,(n0 _ _ _).symm,?_,?_⟩
     .intro m hm;simp only[map_cons,J.eJ,mem_append]at hm⊢;rcases hm with hm|hm
      .exact⟨.inl (QS _ _ _ (ag m hm).1),(ag m hm).2⟩
      .exact⟨.inr (bI m hm).1,(bI m hm).2⟩
     .intro aI ad;simp only[map_cons,J.eJ]at ad;have aW:=aK aI (ad.left.sub (QS _ _));have a8:=dc (eD rf aI) (ad.right.eD rf);simp only at aW a8;simp only[dZ,aW,ew,ca,n0];rw[if_pos ax];exact a8
    .cases h
  .cases h
theorem YG {ps:arL} {av:J} (h:ey C s T ps=some (av,s1)):Loc (J.eJ (ps.map (·.2))) (J.eJ (ps.map (·.2))) (λs=>ey C s T ps) s av s1:=by
 unfold ey at h;split at h
 .rename_i aH fC ao ca;split at h
  .rename_i ax;split at h
   .rename_i ds s2 bo;simp only[Option.some.injEq,Prod.mk.injEq]at h;obtain⟨rfl,rfl⟩:=h;obtain⟨ms,ae,ag,aK⟩:=QT bo;refine⟨ms,ae,ag,λaI ad=>?_⟩;have:=aK aI ad;simp only at this;simp only[ey,ao,ca,if_pos ax,this]
   .cases h
  .cases h
 .cases h
theorem YH {n:Nat} {ps:arL} {av:J} (h:dz C s T n ps=some (av,s1)):Loc (J.eJ (ps.map (·.2))) (J.eJ (ps.map (·.2))) (λs=>dz C s T n ps) s av s1:=by
 unfold dz at h;split at h
 .rename_i e ao;split at h
  .rename_i ax;split at h
   .rename_i ds s2 bo;simp only[Option.some.injEq,Prod.mk.injEq]at h;obtain⟨rfl,rfl⟩:=h;obtain⟨ms,ae,ag,aK⟩:=QT bo;refine⟨ms,ae,ag,λaI ad=>?_⟩;have:=aK aI ad;simp only at this;simp only[dz,ao,if_pos ax,this]
   .cases h
  .cases h
 .cases h
theorem YI {av:J} (h:ic s x=some (av,s1)):Loc x.ad x.ad (λs=>ic s x) s av s1:=by
 unfold ic at h;split at h
 .cases h
 .rename_i d s2 oE bc;simp only[Option.some.injEq,Prod.mk.injEq]at h;obtain⟨rfl,rfl⟩:=h;obtain⟨ms,ae,ag,aK⟩:=tx bc;refine⟨ms,ae,ag,λaI ad=>?_⟩;have:=aK aI ad;simp only at this;simp only[ic,this]
 .cases h
theorem YJ {av:J} (h:kA s x=some (av,s1)):Loc x.ad [] (λs=>kA s x) s av s1:=by
 unfold kA at h;split at h
 .rename_i y q;split at h
  .rename_i ds pf;split at h
   .cases h
   .rename_i AQ;simp only[Option.some.injEq,Prod.mk.injEq]at h;obtain⟨rfl,rfl⟩:=h;refine .pure λaI ad=>?_;have e:aI y=s y:=ad y (by simp[J.ad]);simp only[kA,e,pf,if_neg AQ]
  .cases h
 .split at h
  .rename_i ax;simp only[Option.some.injEq,Prod.mk.injEq]at h;obtain⟨rfl,rfl⟩:=h;exact .pure λaI ad=>by simp only[kA,ax,if_true]
  .cases h
 .cases h
theorem YK {s2:az} (h:j2 C s T x y=some s2):Loc (x.ad++y.ad) (x.ad++y.ad) (λs=>(j2 C s T x y).map λs1=>(J.hole,s1)) s .hole s2:=by
 unfold j2 at h;split at h
 .rename_i d s1 z q bc hl;obtain⟨ms,ae,ag,aK⟩:=tx bc;have ca:=Ju hl;have cl:q≠[]:=by
   cases x with
   |h y p=>
    simp only[loc]at hl;split at hl
    .simp only[Option.some.injEq,Prod.mk.injEq]at hl;simp[<-hl.2]
    .cases hl
   |aw y p=>
    simp only[loc]at hl;split at hl
    .rename_i q1;simp only[Option.some.injEq,Prod.mk.injEq]at hl;obtain⟨rfl,rfl⟩:=hl;intro e;subst e;simp[J.gD]at q1
    .cases hl
   |_=>simp[loc]at hl
  split at h
  .cases h
  .rename_i bE oE;split at h
   .rename_i d0 mr;split at h
    .rename_i ax;simp only[Option.some.injEq]at h;subst h;refine⟨ms++[⟨.cB,z,J.put q d (s z)⟩],?_,?_,?_⟩
     .rw[n0,<-ae,wA]
     .intro m hm;simp only[mem_append,mem_singleton]at hm⊢;rcases hm with hm|rfl
      .exact⟨.inr (ag m hm).1,(ag m hm).2⟩
      .exact⟨.inl ca,yr q _ _ _ mr (.inr cl) λe=>(cl e).elim⟩
     .intro aI ad;have aW:=aK aI ad.right;simp only at aW;simp only[j2,aW,Jt ad.left,hl,ad.left z ca,mr];cases d<;>first|(simp only[if_pos ax,Option.map_some,n0,wA];done)|exact(oE _ rfl).elim
    .cases h
   .cases h
 .cases h
theorem YL {fB al:Option J} {av:J} (h:gR C s T x fB al=some (av,s1)):Loc x.ad x.ad (λs=>gR C s T x fB al) s av s1:=by
 cases x with
 |h y q=>
  unfold gR at h;split at h<;>first|(cases h;done)|skip
  all_goals (rename_i ay;try cases ay)
  rename_i e ao;split at h
  .rename_i sz xs gi;split at h
   .rename_i b p9 p_;split at h
    .rename_i ax;split at h
     .rename_i d s2 bc;simp only[Option.some.injEq,Prod.mk.injEq]at h;obtain⟨rfl,rfl⟩:=h;obtain⟨ms,ae,ag,aK⟩:=tx bc;refine⟨ms,ae,ag,λaI ad=>?_⟩;have:=aK aI ad;simp only at this;have aW:aI y=s y:=ad y (by simp[J.ad]);simp only[gR,ao,aW,gi,p9,p_,if_pos ax,this]
     .cases h
    .cases h
   .cases h
  .cases h
 |_=>
  have su:s1=s:=by
   unfold gR at h
   repeat' split at h
   all_goals first|(cases h;done)|(simp only[Option.some.injEq,Prod.mk.injEq]at h;exact h.2.symm)|simp_all
  subst su;refine .pure λaI _=>?_;unfold gR at h⊢
  repeat' split at h
  all_goals first
   |(cases h;done)
   |(simp only[Option.some.injEq,Prod.mk.injEq]at h
     obtain⟨rfl,_⟩:=h;simp_all)
def sv (C:ch) (e:TypeId) (s:az):J->Option (J×az)
 | .au=>some (J.af (C.T e).sz [],s)
 | .h a q=>dq s (.h a q)
 |_=>none
def mZ (s1:az):J->Option (arM×az)
 | .au=>some ([],s1)
 | .slice c7=>some (c7,s1)
 | .str l=>some (l.map mu,s1)
 | .h a q=>match dq s1 (.h a q)with
   |some (.af _ c7,s2)=>some (c7,s2)
   |_=>none
 |_=>none
theorem Jw (C:ch) (s:az) (T cC:TypeId) (x y:J):tu C s T cC x y=(match(C.T T).k with
 | .slice e=>if(C.T e).ok=true/\(C.T e).zero.wd=(C.T e).sz/\(flat (C.T e).zero).isSome=true/\EB C e cC=true then
   match sv C e s x with
   |some (.af sz xs,s1)=>if sz=(C.T e).sz then
     match mZ s1 (l5 x.owner y)with
     |some (c7,s2)=>if(∀d∈c7,d.wd=(C.T e).sz)/\(xs.length+c7.length)*(C.T e).bytes<=140737488355328/\xs.length+c7.length<=9223372036854775807 then some (.af sz (xs++c7),s2)else none
     |none=>none
    else none
   |_=>none
   else none
 |_=>none):=by
 unfold tu;generalize l5 x.owner y=l4;cases(C.T T).k<;>first
  |rfl
  |(cases x<;>cases l4<;>rfl)
theorem YM {e:TypeId} {d:J} (ae:sv C e s x=some (d,s1)):Loc x.ad x.ad (λs=>sv C e s x) s d s1:=by
 cases x with
 |au=>
  simp only[sv,Option.some.injEq,Prod.mk.injEq]at ae;obtain⟨ae,rfl⟩:=ae;exact .pure λaI _=>by simp only[sv,ae]
 |h a q=>exact tx ae
 |_=>simp[sv]at ae
theorem YN {c7:arM} (ag:mZ s y=some (c7,s1)):Loc y.ad y.ad (λs=>mZ s y) s c7 s1:=by
 cases y with
 |au=>
  simp only[mZ,Option.some.injEq,Prod.mk.injEq]at ag;obtain⟨rfl,rfl⟩:=ag;exact .pure λaI _=>rfl
 |slice c7=>
  simp only[mZ,Option.some.injEq,Prod.mk.injEq]at ag;obtain⟨rfl,rfl⟩:=ag;exact .pure λaI _=>rfl
 |str l=>
  simp only[mZ,Option.some.injEq,Prod.mk.injEq]at ag;obtain⟨rfl,rfl⟩:=ag;exact .pure λaI _=>rfl
 |h a q=>
  simp only[mZ]at ag;split at ag
  .rename_i XZ apB lD bc;simp only[Option.some.injEq,Prod.mk.injEq]at ag;obtain⟨rfl,rfl⟩:=ag;obtain⟨ms,a2,bq,ck⟩:=tx bc;refine⟨ms,a2,bq,λaI ad=>?_⟩;have:=ck aI ad;simp only at this;simp only[mZ,this]
  .cases ag
 |_=>simp[mZ]at ag
theorem YO {av:J} (h:tu C s T A x y=some (av,s1)):Loc (x.ad++y.ad) (x.ad++y.ad) (λs=>tu C s T A x y) s av s1:=by
 rw[Jw]at h;split at h
 .rename_i e ao;split at h
  .rename_i ax;split at h
   .rename_i sz xs s2 ae;split at h
    .rename_i e4;split at h
     .rename_i c7 kB ag;split at h
      .rename_i jM;simp only[Option.some.injEq,Prod.mk.injEq]at h;obtain⟨rfl,rfl⟩:=h;obtain⟨rf,rfl,aM,bG⟩:=YM ae;obtain⟨uT,rfl,ig,lB⟩:=(YN ag).mono (Jv _ _) (Jv _ _);refine⟨rf++uT,(n0 _ _ _).symm,?_,?_⟩
       .intro m hm;simp only[mem_append]at hm⊢;rcases hm with hm|hm
        .exact⟨.inl (aM m hm).1,(aM m hm).2⟩
        .exact⟨.inr (ig m hm).1,(ig m hm).2⟩
       .intro aI ad;have aW:=bG aI ad.left;have a8:=lB (eD rf aI) (ad.right.eD rf);simp only at aW a8;simp only[Jw,ao,if_pos ax,aW,if_pos e4,a8,if_pos jM,n0]
      .cases h
     .cases h
    .cases h
   .cases h
  .cases h
 .cases h
theorem YP {aI:az} {i:J} (h:ep x.ad aI s):qd C aI T x i=qd C s T x i:=by
 cases x with
 |h y q=>cases i<;>simp only[qd,h y (by simp[J.ad])]
 |_=>rfl
theorem YQ {i v:J} {s2:az} (h:oC C s T x i v=some s2):Loc x.ad x.ad (λs=>(oC C s T x i v).map λs1=>(J.hole,s1)) s .hole s2:=by
 unfold oC at h;split at h
 .rename_i y q k b;split at h
  .rename_i m ak;split at h
   .rename_i kj;simp only[Option.some.injEq]at h;subst h;refine⟨[⟨.cB,y,J.put q (.eM (.mp (sb k b m))) (s y)⟩],wA _ _ _,?_,λaI ad=>?_⟩
    .intro n aZ;simp only[mem_singleton]at aZ;subst aZ;exact⟨by simp[J.ad],yr q _ _ _ ak (.inl rfl) λ_=>rfl⟩
    .have aW:aI y=s y:=ad y (by simp[J.ad]);simp only[oC,aW,ak,kj,if_true,Option.map_some];rw[<-wA]
   .cases h
  .cases h
 .cases h
theorem QU {bO:eP} {av:J} (h:bY C s bO=some (av,s1)):Loc (use s bO) (lC s bO) (λs=>bY C s bO) s av s1:=by
 cases bO with
 |shr bO=>simp[bY]at h
 |la f args L=>simp[bY]at h
 |nZ x=>
  simp only[bY]at h;unfold sr at h;split at h
  .rename_i y q ay;obtain⟨ms,ae,ag,aK⟩:=tx h;refine⟨ms,ae,by simpa only[lC,ay]using ag,λaI ad=>?_⟩;have e:=bl.gv (x:=x) ad;have a8:=aK aI (by rw[<-ay];exact ep.bs ad);simp only[bY,e,ay,sr];exact a8
  .rename_i QV;simp only[Option.some.injEq,Prod.mk.injEq]at h;obtain⟨rfl,rfl⟩:=h;refine .pure λaI ad=>?_;have e:=bl.gv (x:=x) ad;simp only[bY,e,sr]
 |nY x=>
  simp only[bY,Option.some.injEq,Prod.mk.injEq]at h;obtain⟨rfl,rfl⟩:=h;exact .pure λaI ad=>by simp only[bY,bl.gv (x:=x) ad]
 |kA T x=>
  obtain⟨ms,ae,ag,aK⟩:=YJ h;refine⟨ms,ae,ag,λaI ad=>?_⟩;simp only[bY,bl.gv (x:=x) ad];exact aK aI (ep.bs ad)
 |jP T cC x y=>
  simp only[bY,Option.map_eq_some_iff,Prod.mk.injEq]at h;obtain⟨d,ak,rfl,rfl⟩:=h;exact .pure λaI ad=>by
   simp only[use]at ad;simp only[bY,bl.gv (x:=x) ad.left,bl.gv (x:=y) ad.right,ak,Option.map_some]
 |bad=>simp[bY]at h
 |jQ fs x y=>
  simp only[bY,Option.map_eq_some_iff,Prod.mk.injEq]at h;obtain⟨d,ak,rfl,rfl⟩:=h;exact .pure λaI ad=>by
   simp only[use]at ad;simp only[bY,bl.gv (x:=x) ad.left,bl.gv (x:=y) ad.right,ak,Option.map_some]
 |cap T x=>
  simp only[bY]at h;split at h
  .rename_i e ao ay;simp only[Option.some.injEq,Prod.mk.injEq]at h;obtain⟨rfl,rfl⟩:=h;exact .pure λaI ad=>by simp only[bY,bl.gv (x:=x) ad,ao,ay]
  .cases h
 |hF x=>
  simp only[bY,Option.some.injEq,Prod.mk.injEq]at h;obtain⟨rfl,rfl⟩:=h;exact .pure λaI ad=>by simp only[bY,bl.gv (x:=x) ad]
 |mY x=>
  simp only[bY]at h;split at h
  .rename_i y q ay;obtain⟨ms,ae,ag,aK⟩:=tx h;refine⟨ms,ae,by simpa only[lC,ay]using ag,λaI ad=>?_⟩;have e:=bl.gv (x:=x) ad;have a8:=aK aI (by rw[<-ay];exact ep.bs ad);simp only[bY,e,ay];exact a8
  .rename_i QV;simp only[Option.some.injEq,Prod.mk.injEq]at h;obtain⟨rfl,rfl⟩:=h;refine .pure λaI ad=>?_;have e:=bl.gv (x:=x) ad;simp only[bY,e]
 |pick c a b=>
  simp only[bY]at h;split at h
  .rename_i gJ ab;simp only[Option.some.injEq,Prod.mk.injEq]at h;obtain⟨rfl,rfl⟩:=h;refine .pure λaI ad=>?_;simp only[use]at ad;simp only[bY,bl.gv (x:=c) ad.left,bl.gv (x:=a) ad.right.left,bl.gv (x:=b) ad.right.right,ab]
  .cases h
 |lz T=>
  simp only[bY,Option.map_eq_some_iff,Prod.mk.injEq]at h;obtain⟨d,ak,rfl,rfl⟩:=h;exact .pure λaI ad=>by simp only[bY,ak,Option.map_some]
 |ic T x=>
  obtain⟨ms,ae,ag,aK⟩:=YI h;refine⟨ms,ae,ag,λaI ad=>?_⟩;simp only[bY,bl.gv (x:=x) ad];exact aK aI (ep.bs ad)
 |ey T ps=>
  obtain⟨ms,ae,ag,aK⟩:=YG h;simp only[List.map_map,Function.comp_def]at ag aK;refine⟨ms,ae,ag,λaI ad=>?_⟩;simp only[bY,bl.Js (ps:=ps) ad];refine aK aI (ad.sub λu hu=>?_);simp only[use];exact bl.EO u (by simpa [List.map_map,Function.comp_def]using hu)
 |dz T n ps=>
  obtain⟨ms,ae,ag,aK⟩:=YH h;simp only[List.map_map,Function.comp_def]at ag aK;refine⟨ms,ae,ag,λaI ad=>?_⟩;simp only[bY,bl.Js (ps:=ps) ad];refine aK aI (ad.sub λu hu=>?_);simp only[use];exact bl.EO u (by simpa [List.map_map,Function.comp_def]using hu)
 |fo T x=>
  simp only[bY,Option.map_eq_some_iff,Prod.mk.injEq]at h;obtain⟨d,ak,rfl,rfl⟩:=h;exact .pure λaI ad=>by simp only[bY,bl.gv (x:=x) ad,Yv (ep.bs ad),ak,Option.map_some]
 |j2 T x y=>
  simp only[bY,Option.map_eq_some_iff,Prod.mk.injEq]at h;obtain⟨s2,ak,rfl,rfl⟩:=h;obtain⟨ms,ae,ag,aK⟩:=YK ak;refine⟨ms,ae,ag,λaI ad=>?_⟩;simp only[use]at ad;simp only[bY,bl.gv (x:=x) ad.left,bl.gv (x:=y) ad.right];exact aK aI (ad.sub λu hu=>by simp only[mem_append]at hu⊢;exact hu.imp (bl.wB u) (bl.wB u))
 |j6 x=>
  simp only[bY,Option.map_eq_some_iff,Prod.mk.injEq]at h;obtain⟨d,ak,rfl,rfl⟩:=h;exact .pure λaI ad=>by simp only[bY,bl.gv (x:=x) ad,YD (ep.bs ad),ak,Option.map_some]
 |ff op T x y=>
  simp only[bY,Option.map_eq_some_iff,Prod.mk.injEq]at h;obtain⟨d,ak,rfl,rfl⟩:=h;refine .pure λaI ad=>?_;simp only[use]at ad;simp only[bY,bl.gv (x:=x) ad.left,bl.gv (x:=y) ad.right,YC (ep.bs ad.left),ak,Option.map_some]
 |un op x=>
  simp only[bY,Option.map_eq_some_iff,Prod.mk.injEq]at h;obtain⟨d,ak,rfl,rfl⟩:=h;exact .pure λaI ad=>by simp only[bY,bl.gv (x:=x) ad,ak,Option.map_some]
 |j7 A B x=>
  simp only[bY,Option.map_eq_some_iff,Prod.mk.injEq]at h;obtain⟨d,ak,rfl,rfl⟩:=h;exact .pure λaI ad=>by simp only[bY,bl.gv (x:=x) ad,Yz (ep.bs ad),ak,Option.map_some]
 |nW f cs=>
  simp only[bY,Option.some.injEq,Prod.mk.injEq]at h;obtain⟨rfl,rfl⟩:=h;exact .pure λaI ad=>by simp only[bY,bl.Jr (xs:=cs) ad]
 |fi T l c=>
  simp only[bY,Option.map_eq_some_iff,Prod.mk.injEq]at h;obtain⟨d,ak,rfl,rfl⟩:=h;refine .pure λaI ad=>?_;simp only[use]at ad;simp only[bY,bl.gv (x:=l) ad.left,bl.gv (x:=c) ad.right,ak,Option.map_some]
 |gR T x fB al=>
  simp only[bY]at h;obtain⟨ms,ae,ag,aK⟩:=YL h;refine⟨ms,ae,ag,λaI ad=>?_⟩;simp only[use]at ad;simp only[bY,bl.gv (x:=x) ad.left,QN ad.right.left,QN ad.right.right];exact aK aI (ep.bs ad.left)
 |gQ T x k=>
  simp only[bY,Option.map_eq_some_iff,Prod.mk.injEq]at h;obtain⟨d,ak,rfl,rfl⟩:=h;exact .pure λaI ad=>by simp only[bY,bl.gv (x:=x) ad,Yw (ep.bs ad),ak,Option.map_some]
 |j0 T x i=>
  simp only[bY,Option.map_eq_some_iff,Prod.mk.injEq]at h;obtain⟨d,ak,rfl,rfl⟩:=h;refine .pure λaI ad=>?_;simp only[use]at ad;simp only[bY,bl.gv (x:=x) ad.left,bl.gv (x:=i) ad.right,Yx (ep.bs ad.left),ak,Option.map_some]
 |idx T x i=>
  simp only[bY,Option.map_eq_some_iff,Prod.mk.injEq]at h;obtain⟨d,ak,rfl,rfl⟩:=h;refine .pure λaI ad=>?_;simp only[use]at ad;simp only[bY,bl.gv (x:=x) ad.left,bl.gv (x:=i) ad.right,ak,Option.map_some]
 |ex x k=>
  simp only[bY,Option.map_eq_some_iff,Prod.mk.injEq]at h;obtain⟨d,ak,rfl,rfl⟩:=h;exact .pure λaI ad=>by simp only[bY,bl.gv (x:=x) ad,YF (ep.bs ad),ak,Option.map_some]
 |Ba=>
  simp only[bY,Option.some.injEq,Prod.mk.injEq]at h;obtain⟨rfl,rfl⟩:=h;exact .pure λaI ad=>rfl
 |qd T x i=>
  simp only[bY,Option.map_eq_some_iff,Prod.mk.injEq]at h;obtain⟨d,ak,rfl,rfl⟩:=h;refine .pure λaI ad=>?_;simp only[use]at ad;simp only[bY,bl.gv (x:=x) ad.left,bl.gv (x:=i) ad.right,YP (ep.bs ad.left),ak,Option.map_some]
 |oC T x i v=>
  simp only[bY,Option.map_eq_some_iff,Prod.mk.injEq]at h;obtain⟨s2,ak,rfl,rfl⟩:=h;obtain⟨ms,ae,ag,aK⟩:=YQ ak;refine⟨ms,ae,ag,λaI ad=>?_⟩;simp only[use]at ad;simp only[bY,bl.gv (x:=x) ad.left,bl.gv (x:=i) ad.right.left,bl.gv (x:=v) ad.right.right];exact aK aI (ep.bs ad.left)
 |nT T x k=>
  simp only[bY,Option.bind_eq_some_iff]at h;obtain⟨d,ak,h⟩:=h;unfold sr at h;split at h
  .rename_i y q;have ay:=YE ak;obtain⟨ms,ae,ag,aK⟩:=tx h;refine⟨ms,ae,by simpa only[lC,ay,J.ad]using ag,λaI ad=>?_⟩;have a8:=aK aI (by rw[show(J.h y q).ad=(bs s x).ad from ay.symm];exact ep.bs ad);simp only[bY,bl.gv (x:=x) ad,QO (ep.bs ad),ak,Option.bind_some,sr];exact a8
  .rename_i QV;simp only[Option.some.injEq,Prod.mk.injEq]at h;obtain⟨rfl,rfl⟩:=h;refine .pure λaI ad=>?_;simp only[bY,bl.gv (x:=x) ad,QO (ep.bs ad),ak,Option.bind_some,sr]
 |call f args=>simp[bY]at h
 |len T x=>
  simp only[bY,Option.map_eq_some_iff,Prod.mk.injEq]at h;obtain⟨d,ak,rfl,rfl⟩:=h;exact .pure λaI ad=>by simp only[bY,bl.gv (x:=x) ad,Yy (ep.bs ad),ak,Option.map_some]
 |app T cC x y=>
  obtain⟨ms,ae,ag,aK⟩:=YO h;refine⟨ms,ae,ag,λaI ad=>?_⟩;simp only[use]at ad;simp only[bY,bl.gv (x:=x) ad.left,bl.gv (x:=y) ad.right];exact aK aI (ad.sub λu hu=>by simp only[mem_append]at hu⊢;exact hu.imp (bl.wB u) (bl.wB u))
end
def J.one:J->Bool
 | .agg _=>false
 | .tuple _=>false
 |_=>true
mutual
def view (s:az):J->Option J
 | .h x q=>match J.sub q (s x)with
   |some d=>(match d with| .tuple _=>none| .eM _=>none|d=>if d.plain then none else some d.share)
   |none=>none
 | .aw x q=>if J.gD q (s x)then(match J.sub q (s x)with
   |some d=>(match d with| .tuple _=>none|d=>some (.ref d.share))
   |none=>none)else none
 | .ab _ _=>none
 | .fn f cap=>(views s cap).map (.fn f)
 | .hole=>none
 |d=>some d
def views (s:az):arM->Option arM
 |[]=>some []
 |d::ds=>match view s d,views s ds with
  |some a,some b=>some (a::b)
  |_,_=>none
end
mutual
theorem Jx:∀d:J,d.share.plain=true
 | .hole=>rfl
 | .bool _=>rfl
 | .fW=>rfl
 | .int _ _=>rfl
 | .str _=>rfl
 | .eh=>rfl
 | .au=>rfl
 | .slice _=>rfl
 | .af _ _=>rfl
 | .ref _=>rfl
 | .aG _=>rfl
 | .agg aH=>by simp only[J.share,J.plain];exact Jy aH
 | .tuple aH=>by simp only[J.share,J.plain];exact Jy aH
 | .fn _ _=>rfl
 | .h _ _=>rfl
 | .aw _ _=>rfl
 | .ab _ _=>rfl
 | .eM _=>rfl
theorem Jy:∀ds:arM,J.eu (J.shares ds)=true
 |[]=>rfl
 |d::ds=>by simp only[J.shares,J.eu];rw[Jx d,Jy ds];rfl
end
theorem YR {s:az} {a d:J} (h:a.plain=true) (he:view s a=some d):d.plain=true:=by
 cases a with
 |h x q=>
  simp only[view]at he;split at he
  .rename_i e gi;cases e<;>simp only at he<;>first
    |(cases he;done)
    |(split at he
      .cases he
      .simp only[Option.some.injEq]at he;subst he;exact Jx _)
  .cases he
 |aw x q=>
  simp only[view]at he;split at he
  .split at he
   .rename_i e gi;cases e<;>simp only at he<;>first
     |(cases he;done)
     |(simp only[Option.some.injEq]at he;subst he;rfl)
   .cases he
  .cases he
 |fn f cap=>
  simp only[view,Option.map_eq_some_iff]at he;obtain⟨ds,_,rfl⟩:=he;rfl
 |hole=>simp[view]at he
 |ab y q=>simp[view]at he
 |_=>simp only[view,Option.some.injEq]at he;subst he;exact h
theorem Jz {d:J} {v:Value} (ae:∀vs,d≠.tuple vs) (h:eO d v):eO d.share v:=by
 cases d<;>first|exact h|exact(ae _ rfl).elim
theorem YS (w:World):∀(q:arH) (av d bE:J) (cs df:arK) (a dd:Option (Nat×Nat)),J.sub q av=some d->bE.wd=d.wd->eb w q av cs a=some (d,df,dd)->
  eb w q (J.put q bE av) cs a=some (bE,df,dd):=by
 intro q;induction q with
 |nil=>
  intro av d bE cs df a dd ak hw h;simp only[eb,Option.some.injEq,Prod.mk.injEq]at h;obtain⟨rfl,rfl,rfl⟩:=h;simp only[J.put,eb]
 |cons k q ih=>
  intro av d bE cs df a dd ak hw h;cases av with
  |agg aH=>
   simp only[J.sub]at ak;split at ak
   .rename_i x ay;have ao:k<aH.length:=(List.getElem?_eq_some_iff.1 ay).1;simp only[eb,ay]at h;simp only[J.put,ay,eb];rw[getElem?_set_self ao];simp only[take_set_of_le (Nat.le_refl k),J.ya q x d bE ak hw];exact ih _ _ _ _ _ _ _ ak hw h
   .cases ak
  |tuple aH=>
   simp only[J.sub]at ak;split at ak
   .rename_i x ay;have ao:k<aH.length:=(List.getElem?_eq_some_iff.1 ay).1;simp only[eb,ay]at h;simp only[J.put,ay,eb];rw[getElem?_set_self ao];simp only[take_set_of_le (Nat.le_refl k),J.ya q x d bE ak hw];exact ih _ _ _ _ _ _ _ ak hw h
   .cases ak
  |af sz aH=>
   simp only[J.sub]at ak;split at ak
   .rename_i x ay;have ao:k<aH.length:=(List.getElem?_eq_some_iff.1 ay).1;have mv:(aH.set k (J.put q bE x))[k]? =some (J.put q bE x):=getElem?_set_self ao;simp only[J.put,ay];rw[eb.eq_def]at h⊢;simp only[ay]at h;simp only;rw[mv];split at h
    .rename_i aW;simp only[Option.some.injEq]at aW;subst aW;exact ih _ _ _ _ _ _ _ ak hw h
    .cases h
   .cases ak
  |aG x=>
   cases k with
   |zero=>
    simp only[J.sub]at ak;rw[eb.eq_def]at h⊢;simp only at h;simp only[J.put];split at h
    .rw[J.ya q x d bE ak hw];exact ih _ _ _ _ _ _ _ ak hw h
    .cases h
   |succ k=>simp[J.sub]at ak
  |_=>simp[J.sub]at ak
section
variable {w0 w aQ:World} {F0 X F Fc:Nat->Prop} {S:Nat->Nat->Prop} {s aI:az} {aJ lx:Nat->Value}
theorem YT (h:b4 w0 F0 X F S s aJ w) (bt:∀b,F b->Fc b):∀n,
  (∀(a:J) (v:Value) (d:J),SizeOf.sizeOf a<=n->(∀t∈a.ad,∀b,S t b->Fc b)->view s a=some d->aU w F s aJ a v (λ_=>False)->aU w Fc aI lx d v (λ_=>False))/\
  (∀(as:arM) (vs:arK) (ds:arM),SizeOf.sizeOf as<=n->(∀t∈J.eJ as,∀b,S t b->Fc b)->views s as=some ds->e3 w F s aJ as vs->e3 w Fc aI lx ds vs):=by
 intro n;induction n with
 |zero=>exact⟨λa _ _ ca=>by cases a<;>simp at ca<;>omega,λas _ _ ca=>by cases as<;>simp at ca<;>omega⟩
 |succ n ih=>
  refine⟨λa v d ca cf he aE=>?_,λas vs ds ca cf he aE=>?_⟩
  .cases a with
   |h x q=>
    simp only[view]at he;split at he
    .rename_i e gi;have key:(∀aH,e≠.tuple aH)/\e.plain=false/\d=e.share/\∀o,e≠.eM o:=by
      cases e<;>simp only at he<;>first
       |(cases he;done)
       |(split at he
         .cases he
         .rename_i ew;simp only[Option.some.injEq]at he;exact⟨(λ_ h=>by cases h),by simpa using ew,he.symm,λ_ h=>by cases h⟩)
     obtain⟨oE,ew,rfl,nn⟩:=key;rw[aU]at aE;obtain⟨df,dd,a2,bq,ck⟩:=aE e gi ew;have bc:=iX gi (.inl ew);have ay:=(aU.c_ bc).1 (h.ev x);obtain⟨gW,aM,fe,gq,k0,b3,cv,fz,ez,fR⟩:=ctx q (s x) (cP (aJ x)) (S x) none e ay.2 gi;rw[a2]at k0;simp only[Option.some.injEq,Prod.mk.injEq,true_and]at k0;obtain⟨rfl,rfl⟩:=k0;have IM:e.share.tree=true:=by cases e<;>first|rfl|(simp[J.plain]at ew;done)|exact(nn _ rfl).elim
     have a4:=aD.shared bt e df gq (λb ab=>cf x (by simp[J.ad]) b (cv b ab)) ez;exact(aU.c_ IM).2 ⟨Jz oE ck,by rw[bq];exact a4⟩
    .cases he
   |aw x q=>
    simp only[view]at he;split at he
    .rename_i q1;split at he
     .rename_i e gi;have key:(∀aH,e≠.tuple aH)/\d= .ref e.share:=by
       cases e<;>simp only at he<;>first
        |(cases he;done)
        |(simp only[Option.some.injEq]at he;exact⟨(λ_ h=>by cases h),he.symm⟩)
      obtain⟨oE,rfl⟩:=key;rw[aU]at aE;obtain⟨df,b,o,a2,rfl⟩:=aE e gi q1;have bc:=iX gi (.inr q1);have ay:=(aU.c_ bc).1 (h.ev x);obtain⟨gW,aM,fe,gq,k0,b3,cv,fz,ez,fR⟩:=ctx q (s x) (cP (aJ x)) (S x) none e ay.2 gi;rw[a2]at k0;simp only[Option.some.injEq,Prod.mk.injEq,true_and]at k0;obtain⟨rfl,rfl⟩:=k0;have a4:=aD.shared bt e df gq (λb ab=>cf x (by simp[J.ad]) b (cv b ab)) ez;rcases fR with⟨l,r,_,a8,_⟩|⟨gJ,cur,ty,fr,l,r,aW,a8,aY,bT,cF,_⟩
      .simp at a8
      .simp only[Option.some.injEq,Prod.mk.injEq]at aW;obtain⟨rfl,rfl⟩:=aW;refine(aU.c_ rfl).2 ⟨rfl,?_⟩;rw[aD];refine⟨b,l.length,df,rfl,cf x (by simp[J.ad]) b (b3 b a8),?_,a4⟩;intro j c bP;simp only[World.cell?,aY];have ax:cur[l.length+j]? =some c:=by
        rw[<-Array.getElem?_toList,cF,getElem?_append_right (by omega),getElem?_append_left (by
         have:=(List.getElem?_eq_some_iff.1 bP).1;omega)]
        rw[<-bP];congr 1;omega
       simpa using ax
     .cases he
    .cases he
   |fn f cap=>
    simp only[view,Option.map_eq_some_iff]at he;obtain⟨ds,kC,rfl⟩:=he;rw[aU]at aE;obtain⟨arr,rfl,ax⟩:=aE;rw[aU];exact⟨arr,rfl,ih.2 cap _ _ (by simp at ca;omega) (by simpa [J.ad]using cf) kC ax⟩
   |hole=>simp[view]at he
   |ab y q=>simp[view]at he
   |_=>
    simp only[view,Option.some.injEq]at he;subst he;have np:=(aU.c_ rfl).1 aE;exact(aU.c_ rfl).2 ⟨np.1,aD.mono bt _ _ _ _ (λ_ h=>h) np.2⟩
  .cases as with
   |nil=>
    simp only[views,Option.some.injEq]at he;subst he;rw[e3]at aE⊢;exact aE
   |cons a as=>
    simp only[views]at he;split at he
    .rename_i d ds ae ag;simp only[Option.some.injEq]at he;subst he;rw[e3]at aE⊢;obtain⟨v,kP,rfl,a2,bq⟩:=aE;simp at ca;simp only[J.eJ,mem_append]at cf;exact⟨v,kP,rfl,ih.1 a v d (by omega) (λt bc=>cf t (.inl bc)) ae a2,ih.2 as kP ds (by omega) (λt bc=>cf t (.inr bc)) ag bq⟩
    .cases he
theorem b4.jR (h:b4 w0 F0 X F S s aJ w) {x:Nat} {q:arH} {d0 bE:J} {df:arK} {a:Option (Nat×Nat)} {Sn:Nat->Prop}
  (ak:J.sub q (s x)=some d0) (bo:eb w q (s x) (cP (aJ x)) none=some (d0,df,a)) (ag:∀vs,bE≠.tuple vs) (bc:q=[]->bE.tree=true/\eO bE (aJ x))
  (aK:∀k p,q=k::p->(s x).tree=true/\(∀v,jo d0 v->jo bE v)) (hw:bE.wd=d0.wd)
  (aE:aD w F bE df Sn) (e2:∀b,Sn b->b<w.heap.size) (bt:∀b,Sn b->¬F b) (cf:∀u b,Sn b->¬S u b) (a5:∀b,Sn b->X b\/w0.heap.size<=b):
  b4 w0 F0 X F (gX S x (λb=>S x b\/Sn b)) (dY (nk x s) x (J.put q bE (s x))) aJ w:=by
 have e9:dY aJ x (aJ x)=aJ:=by funext u;simp only[dY];split<;>simp_all
 have main:(J.put q bE (s x)).tree=true/\eO (J.put q bE (s x)) (aJ x)/\aD w F (J.put q bE (s x)) (cP (aJ x)) (λb=>S x b\/Sn b):=by
  cases q with
  |nil=>
   simp only[eb,Option.some.injEq,Prod.mk.injEq]at bo;obtain⟨aW,a8,aY⟩:=bo;obtain⟨a2,bq⟩:=bc rfl;simp only[J.put];refine⟨a2,?_,?_⟩
   .exact bq
   .rw[a8];exact aD.mono (λ_ h=>h) _ _ _ _ (λb ab=>.inr ab) aE
  |cons k p=>
   obtain⟨a2,bq⟩:=aK k p rfl;have ay:=(aU.c_ a2).1 (h.ev x);obtain⟨gW,aM,fe,gq,k0,b3,cv,fz,ez,fR⟩:=ctx (k::p) (s x) (cP (aJ x)) (S x) none d0 ay.2 ak;rw[bo]at k0;simp only[Option.some.injEq,Prod.mk.injEq,true_and]at k0;obtain⟨rfl,rfl⟩:=k0;refine⟨?_,?_,?_⟩
   .rcases uI k p bE (s x)with⟨aH,gs,aW,e⟩|⟨aH,gs,aW,e⟩|⟨sz,xs,c7,aW,e⟩|⟨y,z,aW,e⟩|e<;>rw[e]<;>first|rfl|exact a2
   .refine AH ay.1 ak bq (λ_ vs e=>(ag vs e).elim) hw
   .have mono:∀b,(fe b\/Sn b)->(S x b\/Sn b):=λb ab=>ab.imp (b3 b) id;rcases fR with⟨l,r,aW,a8,aY⟩|⟨b,cur,ty,fr,l,r,aW,a8,aY,bT,cF,cj⟩
    .rw[aW];exact aD.mono (λ_ h=>h) _ _ _ _ mono (aY w bE df Sn (λ_ _=>rfl) (λ_ _=>rfl) hw aE (λb ab ax=>cf x b ab (b3 b ax)))
    .refine aD.mono (λ_ h=>h) _ _ _ _ mono (cj w bE df Sn (λ_ _=>rfl) (λ_ _ _=>rfl) ?_ hw aE (λb ab ax=>cf x b ab (b3 b ax)));rw[aY,<-cF]
 have:=h.PH (t:=x) main.1 main.2.1 main.2.2 (by rintro b (ab|ab);exact h.fH x b ab;exact e2 b ab) (by rintro b (ab|ab);exact h.gP x b ab;exact bt b ab)
  (by rintro u b ee (ab|ab);exact λhu=>h.gu u x b ee hu ab;exact cf u b ab) (by rintro b (ab|ab);exact h.eN x b ab;exact a5 b ab)
 rwa [e9]at this
end
mutual
def J.da:J->Bool
 | .slice _=>false
 | .ref _=>false
 | .fn _ _=>false
 | .h _ _=>false
 | .aw _ _=>false
 | .ab _ _=>false
 | .af _ xs=>J.hZ xs
 | .aG d=>d.da
 | .agg aH=>J.hZ aH
 | .tuple aH=>J.hZ aH
 |_=>true
def J.hZ:arM->Bool
 |[]=>true
 |d::ds=>d.da&&J.hZ ds
end
mutual
theorem aD.da {w:World} {F b9:Nat->Prop}:∀(d:J) (cs:arK) (S:Nat->Prop),d.da=true->aD w F d cs S->aD w b9 d cs S
 | .hole,_,_,_,h=>h
 | .bool _,_,_,_,h=>h
 | .fW,_,_,_,h=>h
 | .int _ _,_,_,_,h=>h
 | .str _,_,_,_,h=>h
 | .eh,_,_,_,h=>h
 | .au,_,_,_,h=>h
 | .slice xs,cs,S,aZ,h=>by simp[J.da]at aZ
 | .ref d,cs,S,aZ,h=>by simp[J.da]at aZ
 | .af sz xs,cs,S,aZ,h=>by
   rw[aD]at h⊢;rcases h with h|⟨b,cap,cur,e,fr,a0,ae,ag,aK,a3,bI,dc,c6,gy,jy,kf,nj⟩
   .exact .inl h
   .exact .inr ⟨b,cap,cur,e,fr,a0,ae,ag,aK,a3,bI,dc,c6,gy,bm.da xs _ _ aZ jy,kf,nj⟩
 | .aG d,cs,S,aZ,h=>by
   rw[aD]at h⊢;obtain⟨b,cur,e,fr,a0,ae,ag,aK,a3,bI,dc,c6⟩:=h;exact⟨b,cur,e,fr,a0,ae,ag,aK,a3,aD.da d _ _ aZ bI,dc,c6⟩
 | .agg aH,cs,S,aZ,h=>by rw[aD]at h⊢;exact bm.da aH _ _ aZ h
 | .tuple aH,cs,S,aZ,h=>by rw[aD]at h⊢;exact bm.da aH _ _ aZ h
 | .fn _ _,_,_,aZ,h=>by simp[J.da]at aZ
 | .h _ _,_,_,_,h=>h
 | .aw _ _,_,_,_,h=>h
 | .ab _ _,_,_,_,h=>h
 | .eM _,_,_,_,h=>h
theorem bm.da {w:World} {F b9:Nat->Prop}:∀(ds:arM) (cs:arK) (S:Nat->Prop),J.hZ ds=true->bm w F ds cs S->bm w b9 ds cs S
 |[],_,_,_,h=>h
 |d::ds,cs,S,aZ,h=>by
  simp only[J.hZ,Bool.and_eq_true]at aZ;rw[bm]at h⊢;obtain⟨b2,cc,cA,eo,ae,ag,aK,a3,bI,dc⟩:=h;exact⟨b2,cc,cA,eo,ae,aD.da d _ _ aZ.1 ag,bm.da ds _ _ aZ.2 aK,a3,bI,dc⟩
end
theorem QW:∀(q:arH) (av d e:J),J.sub q av=some d->J.sub q (J.put q e av)=some e:=by
 intro q;induction q with
 |nil=>intro av d e _;simp[J.put,J.sub]
 |cons k q ih=>
  intro av d e h;cases av with
  |agg aH=>
   simp only[J.sub]at h;split at h
   .rename_i x ay;have ao:k<aH.length:=(List.getElem?_eq_some_iff.1 ay).1;simp only[J.put,ay,J.sub,getElem?_set_self ao];exact ih _ _ _ h
   .cases h
  |tuple aH=>
   simp only[J.sub]at h;split at h
   .rename_i x ay;have ao:k<aH.length:=(List.getElem?_eq_some_iff.1 ay).1;simp only[J.put,ay,J.sub,getElem?_set_self ao];exact ih _ _ _ h
   .cases h
  |af sz aH=>
   simp only[J.sub]at h;split at h
   .rename_i x ay;have ao:k<aH.length:=(List.getElem?_eq_some_iff.1 ay).1;simp only[J.put,ay,J.sub,getElem?_set_self ao];exact ih _ _ _ h
   .cases h
  |aG x=>
   cases k with
   |zero=>simp only[J.sub]at h;simp only[J.put,J.sub];exact ih _ _ _ h
   |succ k=>simp[J.sub]at h
  |_=>simp[J.sub]at h
structure c8 where
 a:J
 g:Bool
 d:J
 o:J
def J.own:J->Bool
 | .af _ _=>true
 | .aG _=>true
 |_=>false
def J.hv:J->Bool
 | .af _ _=>true
 | .aG _=>true
 | .eM _=>true
 | .agg aH=> !J.eu aH
 |_=>false
def uV (d o:J):Bool:=match d,o with
 | .agg a,.agg b=>J.e1 a==J.e1 b
 | .agg _,_=>false
 |_,.agg _=>false
 |_,_=>true
theorem uW {d:J} (h:d.hv=true):d.plain=false/\d.tree=true/\∀vs,d≠.tuple vs:=by
 cases d<;>simp[J.hv]at h<;>first|exact⟨rfl,rfl,λvs e=>by cases e⟩|exact⟨by simp only[J.plain];exact h,rfl,λvs e=>by cases e⟩
theorem YU {d o:J} (h:d.hv=true) (b_:o.hv=true) (hl:uV d o=true):o.wd=d.wd/\(∀v,eO d v->eO o v)/\∀v,jo d.dS v->jo o v:=by
 cases d<;>simp[J.hv]at h<;>cases o<;>simp[J.hv]at b_<;>simp[uV]at hl<;>first
  |exact⟨rfl,λ_ h=>h,λ_ h=>h⟩
  |exact⟨by simp only[J.wd];exact hl.symm,λ_ h=>h,λ_ h=>h⟩
def c8.ok (s:az) (p:c8):Prop:=
 if p.g then(match p.a with| .h x q=>J.sub q (s x)=some p.d/\p.d.hv=true/\(p.o= .hole\/(p.o.hv=true/\uV p.d p.o=true))|_=>False)
 else view s p.a=some p.d
def jb:List c8->Bool
 |[]=>true
 |p::r=>(r.all λcO=> !(p.g||cO.g)||(p.a.ad.all λu=> !cO.a.ad.contains u))&&jb r
def c8.take (s:az) (p:c8):az:=
 if p.g then(match p.a with| .h x q=>dY (hq x s) x (J.put q p.d.dS (s x))|_=>s)else s
def c8.jR (s:az) (p:c8):az:=
 if p.g then(match p.a,p.o with|_,.hole=>s| .h x q,o=>dY (nk x s) x (J.put q o (s x))|_,_=>s)else s
def fT (s:az) (ps:List c8):az:=ps.foldl c8.take s
def iC (s:az) (ps:List c8):az:=ps.foldl c8.jR s
section
variable {w0 w aQ:World} {F0 X F Fc:Nat->Prop} {S:Nat->Nat->Prop} {s aI:az} {aJ lx:Nat->Value}
def YV (w:World) (F:Nat->Prop) (s1:az) (aJ:Nat->Value) (p:c8) (v:Value) (Sn:Nat->Prop):Prop:=
 ∃x q I,p.a= .h x q/\J.sub q (s1 x)=some p.d.dS/\eb w q (s1 x) (cP (aJ x)) none=some (p.d.dS,cP v,I)/\(s1 x).ad=[]/\(q=[]->eO p.d (aJ x))/\(q≠[]->(s1 x).tree=true)/\
  eO p.d v/\aD w F p.d (cP v) Sn
theorem YW {p:c8} {x:Nat} (h:(s x).ad=[]) (aw:p.g=true->x∉p.a.ad):c8.take s p x=s x:=by
 unfold c8.take;split
 .rename_i bC;cases b6:p.a with
  |h y q=>
   have:x≠y:=by
    have:=aw bC;rw[b6]at this;simpa [J.ad]using this
   simp only;rw[ki _ _ this];exact Bd _ (by rw[h];simp)
  |_=>rfl
 .rfl
theorem JA:∀{ps:List c8} {s:az} {x:Nat},(s x).ad=[]->(∀p∈ps,p.g=true->x∉p.a.ad)->fT s ps x=s x:=by
 intro ps;induction ps with
 |nil=>intros;rfl
 |cons p ps ih=>
  intro s x h aw;have e:=YW (s:=s) (p:=p) h (aw p (by simp));show fT (c8.take s p) ps x=s x;rw[ih (by rw[e];exact h) (λcO eR=>aw cO (by simp[eR])),e]
theorem wC {d:J} (h:d.own=true):d.plain=false/\d.tree=true/\d.dS= .hole/\d.one=true/\d.wd=1/\(∀v,eO d v↔Value.hp v=true):=by
 cases d<;>simp[J.own]at h<;>exact⟨rfl,rfl,rfl,rfl,rfl,λv=>Iff.rfl⟩
theorem YX:∀(ps:List c8) (vs:arK) (s:az) (S:Nat->Nat->Prop),b4 w0 F0 X F S s aJ w->ps.length=vs.length->
  (∀(i:Nat) (p:c8) (v:Value),ps[i]? =some p->vs[i]? =some v->p.a.plain=true/\aU w F s aJ p.a v (λ_=>False)/\(p.g=true->p.ok s))->jb ps=true->
  ∃(Sn cA:Nat->Nat->Prop),b4 w0 F0 X F cA (fT s ps) aJ w/\(∀u b,cA u b->S u b)/\
   (∀(i:Nat) (p:c8) (v:Value),ps[i]? =some p->vs[i]? =some v->p.g=true->YV w F (fT s ps) aJ p v (Sn i))/\
   (∀i b,Sn i b->∃p,ps[i]? =some p/\p.g=true)/\
   (∀i b,Sn i b->∃u,S u b)/\(∀i u b,Sn i b->¬cA u b)/\(∀i j b,i≠j->Sn i b->¬Sn j b)/\
   (∀(bE:J) (gd:Value) (a0:Nat->Prop),(∀p∈ps,p.g=true->∀u∈p.a.ad,u∉bE.ad)->aU w F s aJ bE gd a0->aU w F (fT s ps) aJ bE gd a0):=by
 intro ps;induction ps with
 |nil=>
  intro vs s S h hl _ _;exact⟨λ_ _=>False,S,h,λ_ _ h=>h,λi p v aw=>by simp at aw,λ_ _ h=>h.elim,λ_ _ h=>h.elim,λ_ _ _ h=>h.elim,λ_ _ _ _ h=>h.elim,λ_ _ _ _ h=>h⟩
 |cons p ps ih=>
  intro vs s S h hl A7 mx;cases vs with
  |nil=>simp at hl
  |cons v vs=>
   simp only[length_cons,Nat.add_right_cancel_iff]at hl;simp only[jb,Bool.and_eq_true,List.all_eq_true,Bool.or_eq_true,Bool.not_eq_true']at mx;obtain⟨rh,qg⟩:=mx;have yt:∀cO∈ps,(p.g=true\/cO.g=true)->∀u∈p.a.ad,u∉cO.a.ad:=by
    intro cO eR bC u hu;rcases rh cO eR with e|e
    .rcases bC with bC|bC<;>simp[bC]at e
    .simpa using e u hu
   obtain⟨f1,f2,f3⟩:=A7 0 p v rfl rfl;cases bC:p.g with
   |false=>
    have fS:c8.take s p=s:=by simp[c8.take,bC]
    obtain⟨Sn,cA,a2,bq,ck,eE,fP,g0,j1,nq⟩:=ih vs s S h hl (λi cO gd aw aE=>A7 (i+1) cO gd (by simpa using aw) (by simpa using aE)) qg;have aW:fT s (p::ps)=fT s ps:=by show fT (c8.take s p) ps=_;rw[fS]
    rw[aW];refine⟨λi=>match i with|0=>λ_=>False|i+1=>Sn i,cA,a2,bq,?_,?_,?_,?_,?_,λbE gd a0 ak=>nq bE gd a0 λcO eR=>ak cO (by simp[eR])⟩
    .intro i cO gd aw aE iL;cases i with
     |zero=>simp at aw;subst aw;rw[bC]at iL;cases iL
     |succ i=>exact ck i cO gd (by simpa using aw) (by simpa using aE) iL
    .intro i b ab;cases i with
     |zero=>exact ab.elim
     |succ i=>simpa using eE i b ab
    .intro i b ab;cases i with
     |zero=>exact ab.elim
     |succ i=>exact fP i b ab
    .intro i u b ab;cases i with
     |zero=>exact ab.elim
     |succ i=>exact g0 i u b ab
    .intro i j b ee al bP;cases i with
     |zero=>exact al.elim
     |succ i=>
      cases j with
      |zero=>exact bP.elim
      |succ j=>exact j1 i j b (by omega) al bP
   |true=>
    have gF:=f3 bC;simp only[c8.ok,bC,if_true]at gF;split at gF
    .rename_i x q b6;obtain⟨gi,JB,wb⟩:=gF;obtain⟨n1,lE,pn⟩:=uW JB;have YY:dq s p.a=some (p.d,dY (hq x s) x (J.put q p.d.dS (s x))):=by
      rw[b6];simp only[dq,gi,n1];rfl
     obtain⟨cA,t1,t2,t3,YZ,t4,t5,t6,t7,t8,t9,t10,t11⟩:=qY h f1 f2 YY;have fS:c8.take s p=dY (hq x s) x (J.put q p.d.dS (s x)):=by simp[c8.take,bC,b6]
     have sw:∀cO∈ps,x∉cO.a.ad:=λcO eR=>yt cO eR (.inl bC) x (by rw[b6];simp[J.ad]);have JC:c8.take s p x=J.put q p.d.dS (s x):=by rw[fS,nm]
     have ER:(c8.take s p x).ad=[]:=by
      rw[JC];exact yr q _ _ _ gi (.inl n1) (λ_=>by cases ak:p.d<;>first|rfl|(rw[ak]at JB;simp[J.hv]at JB))
     obtain⟨Sn,eo,a2,bq,ck,eE,fP,g0,j1,nq⟩:=ih vs (c8.take s p) cA (by rw[fS];exact t1) hl (by
      intro i cO gd aw aE;obtain⟨b3,cv,fz⟩:=A7 (i+1) cO gd (by simpa using aw) (by simpa using aE);have hm:cO∈ps:=mem_of_getElem? aw;refine⟨b3,?_,?_⟩
      .have:=t11 _ _ _ cv;rw[b6]at this;rw[fS];simp only[J.owner,l5]at this
       rwa [Bd _ (sw cO hm)]at this
      .intro iL;have:=fz iL;simp only[c8.ok,iL,if_true]at this⊢;split at this
       .rename_i y kz wD;have ee:y≠x:=λe=>sw cO hm (by rw[wD,e];simp[J.ad]);rw[fS,ki _ _ ee];have bc:=iX this.1 (.inl (uW this.2.1).1);simp only[hq,IG bc];exact this
       .exact this.elim) qg
     have aW:fT s (p::ps)=fT (c8.take s p) ps:=rfl;have uX:fT (c8.take s p) ps x=J.put q p.d.dS (s x):=by
      rw[JA ER (λcO eR _=>sw cO eR),JC]
     rw[aW];refine⟨λi=>match i with|0=>YZ|i+1=>Sn i,eo,a2,λu b ab=>t9 u b (bq u b ab),?_,?_,?_,?_,?_,?_⟩
     rotate_left 5
     .intro bE gd a0 ak kk;refine nq bE gd a0 (λcO eR=>ak cO (by simp[eR])) ?_;have:=t11 _ _ _ kk;rw[b6]at this;rw[fS];simp only[J.owner,l5]at this
      rwa [Bd _ (ak p (by simp) bC x (by rw[b6];simp[J.ad]))]at this
     .intro i cO gd aw aE iL;cases i with
      |zero=>
       simp at aw aE;subst aw aE;have ES:=f2;rw[b6,aU]at ES;obtain⟨df,I,b2,cc,nu⟩:=ES _ gi n1;refine⟨x,q,I,b6,?_,?_,?_,?_,?_,t3,t4⟩
       .rw[uX];exact QW q _ _ _ gi
       .rw[uX,cc];exact YS w q _ _ _ _ _ _ _ gi (J.uH _) b2
       .rw[uX,<-JC];exact ER
       .intro cl;subst cl;simp only[J.sub,Option.some.injEq]at gi;have:=(aU.c_ (by rw[gi];exact lE)).1 (h.ev x);rw[gi]at this;exact this.1
       .intro cl;have bc:=iX gi (.inl n1);rw[uX];cases q with
        |nil=>exact(cl rfl).elim
        |cons k q=>rcases uI k q p.d.dS (s x)with⟨aH,gs,aW,e⟩|⟨aH,gs,aW,e⟩|⟨sz,xs,c7,aW,e⟩|⟨y,z,aW,e⟩|e<;>rw[e]<;>first|rfl|exact bc
      |succ i=>exact ck i cO gd (by simpa using aw) (by simpa using aE) iL
     .intro i b ab;cases i with
      |zero=>exact⟨p,rfl,bC⟩
      |succ i=>simpa using eE i b ab
     .intro i b ab;cases i with
      |zero=>exact t10 b ab
      |succ i=>obtain⟨u,hu⟩:=fP i b ab;exact⟨u,t9 u b hu⟩
     .intro i u b ab;cases i with
      |zero=>exact λhu=>t7 u b ab (bq u b hu)
      |succ i=>exact g0 i u b ab
     .intro i j b ee al bP;cases i with
      |zero=>
       cases j with
       |zero=>exact ee rfl
       |succ j=>obtain⟨u,hu⟩:=fP j b bP;exact t7 u b al hu
      |succ i=>
       cases j with
       |zero=>obtain⟨u,hu⟩:=fP i b al;exact t7 u b bP hu
       |succ j=>exact j1 i j b (by omega) al bP
    .exact gF.elim
end
def gK (l:arM):az:=λi=>l.getD i .hole
def iD (l:arK):Nat->Value:=λi=>l.getD i undef
def qh (P:Program) (f:FuncId) (args:Array Value) (w:World) (oF:Value->World->Prop):Prop:=
 ((callFunc f args).run P w= .ok (.enter f args) w/\Calls P f args w (λe aQ=>∃v,e= .returned v/\oF v aQ))\/
 ∃v aQ,(callFunc f args).run P w= .ok (.value v) aQ/\oF v aQ
theorem qh.mono {P:Program} {f:FuncId} {args:Array Value} {w:World} {oF QX:Value->World->Prop} (h:qh P f args w oF) (a4:∀v aQ,oF v aQ->QX v aQ):qh P f args w QX:=by
 rcases h with⟨ae,ag⟩|⟨v,aQ,ae,ag⟩
 .exact .inl ⟨ae,Calls.mono ag λe aQ ⟨v,e,h⟩=>⟨v,e,a4 v aQ h⟩⟩
 .exact .inr ⟨v,aQ,ae,a4 v aQ ag⟩
def ba (C:ch) (f:FuncId) (as:arM) (r:J) (outs:arM):Prop:=
 ∀(w:World) (F X:Nat->Prop) (S:Nat->Nat->Prop) (vs:arK),vs.length=as.length->b4 w F X F S (gK as) (iD vs) w->
  qh C.P f vs.toArray w λv aQ=>∃b9 a0,b4 w F X b9 a0 (gK (r::outs)) (iD (v::vs)) aQ
def J.res:J->Bool
 | .h _ _=>false
 | .aw _ _=>false
 | .ab _ _=>false
 | .fn _ _=>false
 |_=>true
theorem JD {d:J} (h:d.tree=true):d.ad=[]:=by cases d<;>first|rfl|(simp[J.tree]at h)
mutual
theorem JE {s aI:az}:∀(a:J) (d:J),(∀u∈a.ad,(s u).tree=true->aI u=s u)->view s a=some d->view aI a=some d
 | .h x q,d,hu,h=>by
   have bc:(s x).tree=true:=by
    simp only[view]at h;split at h
    .rename_i e gi;cases e<;>simp only at h<;>first
      |(cases h;done)
      |(split at h
        .cases h
        .rename_i aw;exact iX gi (.inl (by simpa using aw)))
    .cases h
   simp only[view]at h⊢;rw[hu x (by simp[J.ad]) bc];exact h
 | .aw x q,d,hu,h=>by
   have bc:(s x).tree=true:=by
    simp only[view]at h;split at h
    .rename_i ax;split at h
     .rename_i e gi;exact iX gi (.inr ax)
     .cases h
    .cases h
   simp only[view]at h⊢;rw[hu x (by simp[J.ad]) bc];exact h
 | .ab x q,d,hu,h=>by simp[view]at h
 | .fn f cap,d,hu,h=>by
   simp only[view,Option.map_eq_some_iff]at h⊢;obtain⟨ds,ae,ag⟩:=h;exact⟨ds,QY cap ds (by simpa [J.ad]using hu) ae,ag⟩
 | .hole,d,hu,h=>h
 | .bool _,d,hu,h=>h
 | .fW,d,hu,h=>h
 | .int _ _,d,hu,h=>h
 | .str _,d,hu,h=>h
 | .eh,d,hu,h=>h
 | .au,d,hu,h=>h
 | .slice _,d,hu,h=>h
 | .af _ _,d,hu,h=>h
 | .ref _,d,hu,h=>h
 | .aG _,d,hu,h=>h
 | .agg _,d,hu,h=>h
 | .tuple _,d,hu,h=>h
 | .eM _,d,hu,h=>h
theorem QY {s aI:az}:∀(as:arM) (ds:arM),(∀u∈J.eJ as,(s u).tree=true->aI u=s u)->views s as=some ds->views aI as=some ds
 |[],ds,hu,h=>h
 |a::as,ds,hu,h=>by
  simp only[J.eJ,mem_append]at hu;simp only[views]at h⊢;split at h
  .rename_i x y ae ag;rw[JE a x (λu hm=>hu u (.inl hm)) ae,QY as y (λu hm=>hu u (.inr hm)) ag];exact h
  .cases h
end
section
variable {C:ch} {w0 w aQ:World} {F0 X F Fc:Nat->Prop} {S:Nat->Nat->Prop} {s aI:az} {aJ lx:Nat->Value}
def Y0 (w:World) (F:Nat->Prop) (s:az) (aJ:Nat->Value) (p:c8) (v:Value) (qi:Nat->Prop):Prop:=
 p.g=true->p.o= .hole\/∃x q I d0,p.a= .h x q/\J.sub q (s x)=some d0/\eb w q (s x) (cP (aJ x)) none=some (d0,cP v,I)/\(s x).ad=[]/\
  (q=[]->eO p.o (aJ x))/\(q≠[]->(s x).tree=true)/\p.o.hv=true/\aD w F p.o (cP v) qi/\p.o.wd=d0.wd/\∀v,jo d0 v->jo p.o v
theorem Y1:∀(ps:List c8) (vs:arK) (s:az) (S qi:Nat->Nat->Prop),b4 w0 F0 X F S s aJ w->ps.length=vs.length->
  (∀(i:Nat) (p:c8) (v:Value),ps[i]? =some p->vs[i]? =some v->Y0 w F s aJ p v (qi i))->
  (∀i b,qi i b->b<w.heap.size/\¬F b/\(X b\/w0.heap.size<=b)/\∀u,¬S u b)->(∀i j b,i≠j->qi i b->¬qi j b)->jb ps=true->
  ∃eo,b4 w0 F0 X F eo (iC s ps) aJ w/\∀u b,eo u b->S u b\/∃i,qi i b:=by
 intro ps;induction ps with
 |nil=>intro vs s S qi h _ _ _ _ _;exact⟨S,h,λu b ab=>.inl ab⟩
 |cons p ps ih=>
  intro vs s S qi h hl JF ab ak mx;cases vs with
  |nil=>simp at hl
  |cons v vs=>
   simp only[length_cons,Nat.add_right_cancel_iff]at hl;simp only[jb,Bool.and_eq_true,List.all_eq_true,Bool.or_eq_true,Bool.not_eq_true']at mx;obtain⟨rh,qg⟩:=mx;have yt:∀cO∈ps,(p.g=true\/cO.g=true)->∀u∈p.a.ad,u∉cO.a.ad:=by
    intro cO eR bC u hu;rcases rh cO eR with e|e
    .rcases bC with bC|bC<;>simp[bC]at e
    .simpa using e u hu
   have skip:c8.jR s p=s->∃eo,b4 w0 F0 X F eo (iC s (p::ps)) aJ w/\∀u b,eo u b->S u b\/∃i,qi i b:=by
    intro fS;obtain⟨eo,a2,bq⟩:=ih vs s S (λi=>qi (i+1)) h hl (λi cO gd aw aE=>JF (i+1) cO gd (by simpa using aw) (by simpa using aE)) (λi b h=>ab (i+1) b h)
     (λi j b ee=>ak (i+1) (j+1) b (by omega)) qg
    refine⟨eo,?_,λu b hu=>(bq u b hu).imp id λ⟨i,al⟩=>⟨i+1,al⟩⟩;show b4 _ _ _ _ _ (iC (c8.jR s p) ps) _ _;rw[fS];exact a2
   cases bC:p.g with
   |false=>exact skip (by simp[c8.jR,bC])
   |true=>
    rcases JF 0 p v rfl rfl bC with b_|⟨x,q,I,d0,b6,b2,cc,nu,j3,nv,eA,JG,hx,JH⟩
    .exact skip (by simp only[c8.jR,bC,b_,if_true])
    .obtain⟨n1,lE,uY⟩:=uW eA;have fS:c8.jR s p=dY (nk x s) x (J.put q p.o (s x)):=by
      simp only[c8.jR,bC,if_true,b6];cases Y2:p.o<;>first|rfl|(rw[Y2]at eA;simp[J.hv]at eA)
     have step:=h.jR (x:=x) (q:=q) (bE:=p.o) b2 cc uY (λcl=>⟨lE,j3 cl⟩) (λk r cl=>⟨nv (by rw[cl];simp),JH⟩) hx JG
      (λb h=>(ab 0 b h).1) (λb h=>(ab 0 b h).2.1) (λu b h=>(ab 0 b h).2.2.2 u) (λb h=>(ab 0 b h).2.2.1)
     rw[<-fS]at step;obtain⟨eo,a2,bq⟩:=ih vs (c8.jR s p) _ (λi=>qi (i+1)) step hl (by
      intro i cO gd aw aE iL;have hm:cO∈ps:=mem_of_getElem? aw;rcases JF (i+1) cO gd (by simpa using aw) (by simpa using aE) iL with b_|⟨y,kz,R,d1,b3,cv,fz,ez,fR,dj,jO,dx,nU⟩
      .exact .inl b_
      .have ee:y≠x:=λe=>yt cO hm (.inl bC) x (by rw[b6];simp[J.ad]) (by rw[b3,e];simp[J.ad]);have pf:c8.jR s p y=s y:=by
        rw[fS,ki _ _ ee];exact Jo _ (by rw[ez];simp)
       exact .inr ⟨y,kz,R,d1,b3,by rw[pf];exact cv,by rw[pf];exact fz,by rw[pf];exact ez,fR,by rw[pf];exact dj,jO,dx,nU⟩)
      (by
       intro i b al;obtain⟨j5,ig,lB,bN⟩:=ab (i+1) b al;refine⟨j5,ig,lB,λu hu=>?_⟩;simp only[gX]at hu;split at hu
       .rcases hu with hu|hu
        .exact bN _ hu
        .exact ak 0 (i+1) b (by omega) hu al
       .exact bN _ hu)
      (λi j b ee=>ak (i+1) (j+1) b (by omega)) qg
     refine⟨eo,a2,λu b hu=>?_⟩;rcases bq u b hu with hu|⟨i,al⟩
     .simp only[gX]at hu;split at hu
      .rename_i e;subst e;exact hu.imp id λh=>⟨0,h⟩
      .exact .inl hu
     .exact .inr ⟨i+1,al⟩
def kV (ps:List c8):Bool:=ps.any λp=> !p.g&& !p.a.ad.isEmpty
theorem QZ (h:b4 w0 F0 X F S s aJ w) {ps:List c8} {vs:arK} {f:FuncId} {r:J} (hl:ps.length=vs.length)
  (kk:∀(i:Nat) (p:c8) (v:Value),ps[i]? =some p->vs[i]? =some v->p.a.plain=true/\aU w F s aJ p.a v (λ_=>False))
  (gF:∀p∈ps,p.ok s) (mx:jb ps=true) (bo:∀(Fc n2:Nat->Prop) (fe:Nat->Nat->Prop),(∀b,F b->Fc b)->(∀b,n2 b->∃u,S u b)->b4 w Fc n2 Fc fe (gK (ps.map (·.d))) (iD vs) w->
   qh C.P f vs.toArray w λv aQ=>∃b9 a0,b4 w Fc n2 b9 a0 (gK (r::ps.map (·.o))) (iD (v::vs)) aQ) (a4:r.res=true)
  (aZ:kV ps=true->r.da=true/\∀p∈ps,p.o.da=true):
  qh C.P f vs.toArray w λv aQ=>∃b9 a0,b4 w0 F0 X b9 a0 (iC (fT s ps) ps) aJ aQ/\mU w0 X b9 a0 (iC (fT s ps) ps) aJ aQ r v/\∀b,F b->b9 b/\aQ.heap[b]? =w.heap[b]? :=by
 obtain⟨Sn,cA,a2,bq,ck,eE,fP,g0,j1,nq⟩:=YX ps vs s S h hl (λi p v aw aE=>⟨(kk i p v aw aE).1,(kk i p v aw aE).2,λ_=>gF p (mem_of_getElem? aw)⟩) mx;have apart:∀(i j:Nat) (p cO:c8),ps[i]? =some p->ps[j]? =some cO->i≠j->(p.g=true\/cO.g=true)->∀u∈p.a.ad,u∉cO.a.ad:=by
  clear kk gF bo aZ a2 ck eE nq hl;induction ps with
  |nil=>intro i j p cO aw;simp at aw
  |cons iI ps ih=>
   simp only[jb,Bool.and_eq_true,List.all_eq_true,Bool.or_eq_true,Bool.not_eq_true']at mx;obtain⟨rh,qg⟩:=mx;have yt:∀cO∈ps,(iI.g=true\/cO.g=true)->∀u∈iI.a.ad,u∉cO.a.ad:=by
    intro cO eR bC u hu;rcases rh cO eR with e|e
    .rcases bC with bC|bC<;>simp[bC]at e
    .simpa using e u hu
   intro i j p cO aw eR ee bC u hu;cases i with
   |zero=>
    simp at aw;subst aw;cases j with
    |zero=>exact(ee rfl).elim
    |succ j=>exact yt cO (mem_of_getElem? (by simpa using eR)) bC u hu
   |succ i=>
    cases j with
    |zero=>
     simp at eR;subst eR;exact λBf=>yt p (mem_of_getElem? (by simpa using aw)) bC.symm u Bf hu
    |succ j=>exact ih qg i j p cO (by simpa using aw) (by simpa using eR) (by omega) bC u hu
 let Fc:Nat->Prop:=λb=>F b\/(kV ps=true/\∃u,cA u b)
 let n2:Nat->Prop:=λb=>∃i,Sn i b
 have JI:∀b,F b->¬n2 b:=λb bt ⟨i,al⟩=>by obtain⟨u,hu⟩:=fP i b al;exact h.gP u b hu bt
 have Bg:∀u b,cA u b->¬n2 b:=λu b hu ⟨i,al⟩=>g0 i u b al hu;have aR:∀b,n2 b->(X b\/w0.heap.size<=b)/\b<w.heap.size:=λb ⟨i,al⟩=>by obtain⟨u,hu⟩:=fP i b al;exact⟨h.eN u b hu,h.fH u b hu⟩
 have pre:b4 w Fc n2 Fc Sn (gK (ps.map (·.d))) (iD vs) w:=by
  refine⟨λ_ h=>h,λ_ h=>.inl h,?_,λi b al=>(aR b ⟨i,al⟩).2,?_,λi j b ee=>j1 i j b ee,λi b al=>.inl ⟨i,al⟩,?_,λ_ _ _=>rfl,Nat.le_refl _,rfl,rfl,Out.refl _,h.iA.next h.size h.old λb ab=>(aR b ab).1⟩
  .rintro b (ab|⟨_,u,hu⟩)
   .exact h.gE b ab
   .exact a2.fH u b hu
  .rintro i b al (ab|⟨_,u,hu⟩)
   .exact JI b ab ⟨i,al⟩
   .exact g0 i u b al hu
  .intro t;cases aw:ps[t]? with
   |none=>
    have:gK (ps.map (·.d)) t= .hole:=by simp[gK,List.getD,aw]
    rw[this,aU];trivial
   |some p=>
    have e2:t<vs.length:=by rw[<-hl];exact(List.getElem?_eq_some_iff.1 aw).1
    have aE:vs[t]? =some vs[t]:=getElem?_eq_getElem e2;have aW:gK (ps.map (·.d)) t=p.d:=by simp[gK,List.getD,aw]
    have a8:iD vs t=vs[t]:=by simp[iD,List.getD,aE]
    rw[aW,a8];have hm:p∈ps:=mem_of_getElem? aw;have ao:=gF p hm;cases bC:p.g with
    |true=>
     obtain⟨x,q,I,b3,cv,fz,ez,fR,dj,jO,dx⟩:=ck t p _ aw aE bC;simp only[c8.ok,bC,if_true,b3]at ao;exact(aU.c_ (uW ao.2.1).2.1).2 ⟨jO,aD.mono (λb ab=>.inl ab) _ _ _ _ (λ_ h=>h) dx⟩
    |false=>
     simp only[c8.ok,bC]at ao;obtain⟨f1,f2⟩:=kk t p _ aw aE;have Q0:∀cO∈ps,cO.g=true->∀u∈cO.a.ad,u∉p.a.ad:=by
      intro cO eR iL u hu;obtain⟨j,bP⟩:=getElem?_of_mem eR;refine apart j t cO p bP aw (λe=>?_) (.inl iL) u hu;subst e;rw[aw]at bP;simp only[Option.some.injEq]at bP;rw[bP,iL]at bC;cases bC
     have ES:=nq _ _ _ Q0 f2;have mv:view (fT s ps) p.a=some p.d:=JE _ _ (λu hu bc=>JA (JD bc) (λcO eR iL Bf=>Q0 cO eR iL u Bf hu)) (by simpa using ao);refine aU.nothing (YR f1 mv) ((YT a2 (Fc:=Fc) (λb ab=>.inl ab) (SizeOf.sizeOf p.a)).1 p.a _ p.d (Nat.le_refl _) ?_ mv ES);intro u hu b ab;refine .inr ⟨?_,u,ab⟩;simp only[kV,List.any_eq_true];refine⟨p,hm,?_⟩;cases k6:p.a.ad with
     |nil=>rw[k6]at hu;cases hu
     |cons _ _=>simp[bC]
 refine qh.mono (bo Fc n2 Sn (λb ab=>.inl ab) (λb ⟨i,al⟩=>fP i b al) pre) ?_;rintro v aQ ⟨b9,a0,ax⟩;have fX:∀b,b<w.heap.size->¬n2 b->aQ.heap[b]? =w.heap[b]? :=ax.old;let ri:Nat->Prop:=λb=>if kV ps=true then F b else b9 b
 have Q1:∀b,F b->b9 b:=λb ab=>ax.ib b (.inl ab);have yu:∀b,F b->ri b:=λb ab=>by
  simp only[ri];split
  .exact ab
  .exact Q1 b ab
 have tz:∀b,ri b->b9 b:=λb ab=>by
  simp only[ri]at ab;split at ab
  .exact Q1 b ab
  .exact ab
 have Q2:∀b,ri b->F b\/n2 b\/w.heap.size<=b:=λb ab=>by
  simp only[ri]at ab;split at ab
  .exact .inl ab
  .rename_i uR;rcases ax.iz b ab with(ab|⟨ae,_⟩)|ab|ab
   .exact .inl ab
   .exact(uR ae).elim
   .exact .inr (.inl ab)
   .exact .inr (.inr ab)
 have mid:b4 w0 F0 X ri cA (fT s ps) aJ aQ:=by
  refine⟨λb ab=>yu b (a2.ib b ab),?_,λb ab=>ax.gE b (tz b ab),λt b ab=>Nat.lt_of_lt_of_le (a2.fH t b ab) ax.size,?_,a2.gu,a2.eN,?_,?_,Nat.le_trans a2.size ax.size,ax.os.trans a2.os,ax.tape.trans a2.tape,ax.output.trans a2.output,a2.iA⟩
  .intro b ab;rcases Q2 b ab with ab|ab|ab
   .exact a2.iz b ab
   .rcases(aR b ab).1 with h|h
    .exact .inr (.inl h)
    .exact .inr (.inr h)
   .exact .inr (.inr (Nat.le_trans a2.size ab))
  .intro t b bc ab;rcases Q2 b ab with ab|ab|ab
   .exact a2.gP t b bc ab
   .exact Bg t b bc ab
   .exact absurd (a2.fH t b bc) (by omega)
  .intro t;exact aU.frame (Sx:=cA) (λb ab=>fX b (h.gE b ab) (JI b ab)) yu (λx b ab=>fX b (a2.fH x b ab) (Bg x b ab)) a2.ev _ _ _ (λb ab=>fX b (a2.fH t b ab) (Bg t b ab)) (a2.ev t)
  .intro b ab ly;refine(fX b (Nat.lt_of_lt_of_le ab a2.size) λay=>?_).trans (a2.old b ab ly);rcases(aR b ay).1 with h|h
   .exact ly h
   .omega
 have Q3:∀(d:J) (cs:arK) (eN:Nat->Prop),(kV ps=true->d.da=true)->aD aQ b9 d cs eN->aD aQ ri d cs eN:=by
  intro d cs eN Jh hN;by_cases hle:kV ps=true
  .exact aD.da d cs eN (Jh hle) hN
  .exact aD.mono (λb ab=>by simp only[ri];rw[if_neg hle];exact ab) _ _ _ _ (λ_ h=>h) hN
 have bound:∀i b,a0 i b->b<aQ.heap.size/\¬ri b/\(X b\/w0.heap.size<=b)/\∀u,¬cA u b:=by
  intro i b ab;refine⟨ax.fH i b ab,λbt=>ax.gP i b ab (tz b bt),?_,λu hu=>?_⟩
  .rcases ax.eN i b ab with ay|ay
   .exact(aR b ay).1
   .exact .inr (Nat.le_trans a2.size ay)
  .rcases ax.eN i b ab with ay|ay
   .exact Bg u b hu ay
   .exact absurd (a2.fH u b hu) (by omega)
 obtain⟨eo,b3,cv⟩:=Y1 ps vs (fT s ps) cA (λi=>a0 (i+1)) mid hl (by
  intro i p gd aw aE bC;have hm:p∈ps:=mem_of_getElem? aw;have ao:=gF p hm;obtain⟨x,q,I,aW,a8,aY,bT,cF,cj,b0,gZ⟩:=ck i p gd aw aE bC;simp only[c8.ok,bC,if_true,aW]at ao;rcases ao.2.2 with b_|b_
  .exact .inl b_
  .obtain⟨fA,l2,mz⟩:=YU ao.2.1 b_.1 b_.2;refine .inr ⟨x,q,I,p.d.dS,aW,a8,?_,bT,λcl=>l2 _ (cF cl),cj,b_.1,?_,fA.trans (J.uH _).symm,mz⟩
   .cases q with
    |nil=>simpa only[eb]using aY
    |cons k q=>
     have bc:=cj (by simp);rw[El (k::q) _ _ (cA x) none _ ((aU.c_ bc).1 (a2.ev x)).2 a8 (λb ab=>fX b (a2.fH x b ab) (Bg x b ab))];exact aY
   .have:=ax.ev (i+1);have ie:gK (r::ps.map (·.o)) (i+1)=p.o:=by simp[gK,List.getD,aw]
    have jz:iD (v::vs) (i+1)=gd:=by simp[iD,List.getD,aE]
    rw[ie,jz]at this;exact Q3 _ _ _ (λhle=>(aZ hle).2 p hm) ((aU.c_ (uW b_.1).2.1).1 this).2)
  (λi b ab=>bound (i+1) b ab) (λi j b ee=>ax.gu (i+1) (j+1) b (by omega)) mx
 refine⟨ri,eo,b3,?_,λb ab=>⟨yu b ab,fX b (h.gE b ab) (JI b ab)⟩⟩;have a5:=ax.ev 0;have ie:gK (r::ps.map (·.o)) 0=r:=rfl;have jz:iD (v::vs) 0=v:=rfl;rw[ie,jz]at a5;cases bc:r.tree with
 |false=>
  cases r<;>first
   |(simp[J.tree]at bc;done)
   |(simp[J.res]at a4;done)
   |exact .inl ⟨rfl,by rw[aU];trivial⟩
 |true=>
  obtain⟨s1,s2⟩:=(aU.c_ bc).1 a5;have kB:=Q3 _ _ _ (λhle=>(aZ hle).1) s2;refine .inr ⟨bc,s1,a0 0,kB,λb ab=>(bound 0 b ab).1,λb ab=>(bound 0 b ab).2.1,λu b ab hu=>?_,λb ab=>(bound 0 b ab).2.2.1⟩;rcases cv u b hu with hu|⟨i,al⟩
  .exact(bound 0 b ab).2.2.2 u hu
  .exact ax.gu 0 (i+1) b (by omega) ab al
theorem Y3 (h:b4 w0 F0 X F S s aJ w) {ps:List c8} {vs:arK} {f:FuncId} {r:J} (hl:ps.length=vs.length)
  (kk:∀(i:Nat) (p:c8) (v:Value),ps[i]? =some p->vs[i]? =some v->p.a.plain=true/\aU w F s aJ p.a v (λ_=>False))
  (gF:∀p∈ps,p.ok s) (mx:jb ps=true) (bo:ba C f (ps.map (·.d)) r (ps.map (·.o))) (a4:r.res=true)
  (aZ:kV ps=true->r.da=true/\∀p∈ps,p.o.da=true):
  qh C.P f vs.toArray w λv aQ=>∃b9 a0,b4 w0 F0 X b9 a0 (iC (fT s ps) ps) aJ aQ/\mU w0 X b9 a0 (iC (fT s ps) ps) aJ aQ r v/\∀b,F b->b9 b/\aQ.heap[b]? =w.heap[b]? :=
 QZ h hl kk gF mx (λFc n2 fe _ _ aw=>bo w Fc n2 fe vs (by simp[hl]) aw) a4 aZ
end
structure cn where
 dst:Option Nat
 bO:eP
 guard:Option (Nat×Bool)
def Bh (ops:Array Oper):Option (Nat×Bool)->Option (Option (Nat×Bool))
 |none=>some none
 |some (j,b)=>match(ops[j]?).bind (·.dst)with
  |some t=>some (some (t,b))
  |none=>none
structure Fr where
 n:Nat
 fx:arH
def m0 (n:Fr):Option Nat->Bool
 |none=>true
 |some t=>decide (t<n.n)&& !n.fx.contains t
def rj (op:Op):eP:=match cU op with
 |some bO=>bO
 |none=>.bad
def sx (n:Fr) (ops:Array Oper) (o:Oper):Option cn:=
 if m0 n o.dst=true then match Bh ops o.guard with
  |some g=>some ⟨o.dst,rj o.op,g⟩
  |none=>none
 else none
def sy (n:Fr) (ops:Array Oper):List Oper->Option (List cn)
 |[]=>some []
 |o::os=>match sx n ops o,sy n ops os with
  |some r,some rs=>some (r::rs)
  |_,_=>none
def JJ (C:ch) (s:az) (f:bl) (args:List bl) (K:J->az->Prop):Prop:=
 ∃(g:FuncId) (caps:arM) (ps:List c8) (r:J),bs s f= .fn g caps/\J.eu caps=true/\ps.map (·.a)=args.map (bs s)++caps/\(∀p∈ps,p.ok s)/\jb ps=true/\
   ba C g (ps.map (·.d)) r (ps.map (·.o))/\r.res=true/\(kV ps=true->r.da=true/\∀p∈ps,p.o.da=true)/\K r (iC (fT s ps) ps)
mutual
def J.gG (s:az):J->Bool
 | .h x q=>q.isEmpty&&(s x).own
 | .ab x _=> !(s x).plain
 | .aw _ _=>false
 | .hole=>true
 | .fn _ cap=>J.qj s cap
 |d=>d.plain
def J.qj (s:az):arM->Bool
 |[]=>true
 |d::ds=>d.gG s&&J.qj s ds
end
def oG (s:az):arL->az
 |[]=>s
 |p::L=>oG (dY s p.1 p.2) L
def m1 (s:az):arL->Bool
 |[]=>true
 |p::L=>p.2.gG s&&m1 s L
def kl (s:az) (us:arH):arL:=us.map λu=>(u,s u)
def qk (C:ch) (s:az) (bO:eP) (K:J->az->Prop):Prop:=
 match bO with
 | .call f args=>∃(g:FuncId) (caps:arM) (ps:List c8) (r:J),bs s f= .fn g caps/\J.eu caps=true/\ps.map (·.a)=args.map (bs s)++caps/\(∀p∈ps,p.ok s)/\jb ps=true/\
   ba C g (ps.map (·.d)) r (ps.map (·.o))/\r.res=true/\(kV ps=true->r.da=true/\∀p∈ps,p.o.da=true)/\K r (iC (fT s ps) ps)
 | .shr bO=>∃av s1,bY C s bO=some (av,s1)/\av.tree=true/\(∀vs,av≠.tuple vs)/\K av.share s1
 | .la f args us=>m1 s (kl s us)=true/\JJ C s f args λav s1=>m1 s1 (kl s us)=true/\K av (oG s1 (kl s us))
 |bO=>∃av s1,bY C s bO=some (av,s1)/\K av s1
theorem ET {C:ch} {s:az} {bO:eP} {K ej:J->az->Prop} (h:qk C s bO K) (ao:∀av s,K av s->ej av s):qk C s bO ej:=by
 cases bO with
 |call f args=>
  obtain⟨g,caps,ps,r,ae,hP,ag,aK,a3,bI,dc,c6,gy⟩:=h;exact⟨g,caps,ps,r,ae,hP,ag,aK,a3,bI,dc,c6,ao _ _ gy⟩
 |shr bO=>
  obtain⟨av,s1,ae,ag,aK,a3⟩:=h;exact⟨av,s1,ae,ag,aK,ao _ _ a3⟩
 |la f args us=>
  obtain⟨cv,g,caps,ps,r,ae,hP,ag,aK,a3,bI,dc,c6,gy,jy⟩:=h;exact⟨cv,g,caps,ps,r,ae,hP,ag,aK,a3,bI,dc,c6,gy,ao _ _ jy⟩
 |_=>
  obtain⟨av,s1,ae,ag⟩:=h;exact⟨av,s1,ae,ao _ _ ag⟩
def nw (C:ch) (s:az) (o:cn) (K:az->Prop):Prop:=
 match o.guard with
 |none=>qk C s o.bO λav s1=>K (fin s1 o.dst av)
 |some (t,b)=>match s t with
  | .bool gJ=>if gJ=b then qk C s o.bO (λav s1=>K (fin s1 o.dst av))else K (fin s o.dst (.tuple []))
  | .tuple []=>K (fin s o.dst (.tuple []))
  |_=>False
def m2 (C:ch) (s:az):List cn->(az->Prop)->Prop
 |[],K=>K s
 |o::os,K=>nw C s o λs1=>m2 C s1 os K
def jS (C:ch) (ros:List cn) (s:az):arH->(az->Prop)->Prop
 |[],K=>K s
 |i::l,K=>match ros[i]? with
  |none=>jS C ros s l K
  |some o=>nw C s o λs1=>jS C ros s1 l K
theorem Y4 (C:ch) (K:az->Prop):∀(rs pre:List cn) (s:az),m2 C s rs K->jS C (pre++rs) s ((range rs.length).map (·+pre.length)) K:=by
 intro rs;induction rs with
 |nil=>intro pre s h;exact h
 |cons r rs ih=>
  intro pre s h;rw[length_cons,range_succ_eq_map,map_cons,List.map_map];simp only[jS,Nat.zero_add];rw[getElem?_append_right (Nat.le_refl _)];simp only[Nat.sub_self,getElem?_cons_zero];have key:∀s1,m2 C s1 rs K->jS C (pre++r::rs) s1 ((range rs.length).map ((λx=>x+pre.length)∘succ)) K:=by
   intro s1 ae;have:=ih (pre++[r]) s1 ae;simp only[append_assoc,singleton_append,length_append,length_singleton]at this;have e:((λx=>x+pre.length)∘succ)=λx=>x+(pre.length+1):=by funext x;simp;omega
   rw[e];exact this
  simp only[m2]at h;unfold nw at h⊢;split
  .rename_i bC;rw[bC]at h;exact ET h λav s1=>key _
  .rename_i t b bC;rw[bC]at h;simp only at h;split
   .rename_i gJ ad;rw[ad]at h;simp only at h;split
    .rename_i ab;rw[if_pos ab]at h;exact ET h λav s1=>key _
    .rename_i ab;rw[if_neg ab]at h;exact key _ h
   .rename_i ad;rw[ad]at h;exact key _ h
   .rename_i ae ag;split at h
    .exact ae _ (by assumption)
    .exact ag (by assumption)
    .exact h
structure Rel (w0:World) (F0 X:Nat->Prop) (n:Fr) (ρ:Nat->Value) (s:az) (a:Act) (w:World):Prop where
 defers:a.defers=[]
 size:a.tmps.size=n.n
 fixed:∀i∈n.fx,a.tmps.getD i undef=ρ i
 rel:∃F S,b4 w0 F0 X F S s (λt=>a.tmps.getD t undef) w
section
variable {C:ch} {w0 w:World} {F0 X:Nat->Prop} {n:Fr} {ρ:Nat->Value} {s s1:az} {a:Act} {av:J} {Q:Exit->Act->World->Prop}
theorem Bi {dst:Option Nat} (v:Value) (ad:a.tmps.size=n.n) (ak:m0 n dst=true):
  (λt=>(a.put dst v).tmps.getD t undef)=pe (λt=>a.tmps.getD t undef) dst v/\(a.put dst v).tmps.size=n.n/\(a.put dst v).defers=a.defers:=by
 cases dst with
 |none=>exact⟨rfl,ad,rfl⟩
 |some d=>
  simp only[m0,Bool.and_eq_true,decide_eq_true_eq]at ak;refine⟨?_,by simp[Act.put,ad],rfl⟩;funext t;simp only[Act.put,pe,dY,Array.getD_eq_getD_getElem?];by_cases h:t=d
  .subst h;rw[if_pos rfl,Array.getElem?_setIfInBounds_self_of_lt (by omega)];rfl
  .rw[if_neg h,Array.getElem?_setIfInBounds_ne (λe=>h e.symm)]
theorem Rel.put {F S} (ak:a.defers=[]) (ad:a.tmps.size=n.n) (bo:∀i∈n.fx,a.tmps.getD i undef=ρ i) {aQ:World} (a4:b4 w0 F0 X F S s (λt=>a.tmps.getD t undef) aQ) {v:Value} (aE:mU w0 X F S s (λt=>a.tmps.getD t undef) aQ av v)
  {dst:Option Nat} (gF:m0 n dst=true):Rel w0 F0 X n ρ (fin s dst av) (a.put dst v) aQ:=by
 obtain⟨aW,a8,aY⟩:=Bi (n:=n) (dst:=dst) v ad gF;obtain⟨a0,bM⟩:=a4.fin aE dst;refine⟨aY.trans ak,a8,λi al=>?_,F,a0,by rw[aW];exact bM⟩;rw[congrFun aW i];cases dst with
 |none=>exact bo i al
 |some d=>
  simp only[m0,Bool.and_eq_true,Bool.not_eq_true',contains_eq_mem,decide_eq_false_iff_not]at gF;have ee:i≠d:=λe=>gF.2 (by rw[<-e];exact al);simp only[pe];rw[ki _ _ ee];exact bo i al
theorem Rel.skip (h:Rel w0 F0 X n ρ s a w) {dst:Option Nat} (gF:m0 n dst=true):Rel w0 F0 X n ρ (fin s dst (.tuple [])) (a.put dst undef) w:=by
 obtain⟨ak,ad,bo,F,S,a4⟩:=h;refine Rel.put (av:=.tuple []) ak ad bo a4 (.inl ⟨rfl,(aU.c_ (d:=.tuple []) rfl).2 ⟨?_,?_⟩⟩) gF
 .exact⟨#[],rfl,rfl,λk d x ao=>by simp at ao⟩
 .rw[aD,bm];rfl
theorem Q4 {F:Nat->Prop} {aJ:Nat->Value} {w:World}:∀{ds es:arM} {vs us:arK},e3 w F s aJ ds vs->e3 w F s aJ es us->e3 w F s aJ (ds++es) (vs++us):=by
 intro ds;induction ds with
 |nil=>intro es vs us ae ag;rw[e3]at ae;subst ae;exact ag
 |cons d ds ih=>
  intro es vs us ae ag;rw[e3]at ae;obtain⟨v,kP,rfl,a2,bq⟩:=ae;rw[cons_append,cons_append,e3];exact⟨v,_,rfl,a2,ih bq ag⟩
theorem Q5 {F:Nat->Prop} {aJ:Nat->Value} {w:World}:∀{ds:arM} {vs:arK},e3 w F s aJ ds vs->ds.length=vs.length/\∀(i:Nat) (d:J) (v:Value),ds[i]? =some d->vs[i]? =some v->aU w F s aJ d v (λ_=>False):=by
 intro ds;induction ds with
 |nil=>intro vs h;rw[e3]at h;subst h;exact⟨rfl,λi d v h=>by simp at h⟩
 |cons d ds ih=>
  intro vs h;rw[e3]at h;obtain⟨v,kP,rfl,a2,bq⟩:=h;obtain⟨b3,cv⟩:=ih bq;refine⟨by simp[b3],λi bE gd ak aE=>?_⟩;cases i with
  |zero=>simp at ak aE;subst ak aE;exact a2
  |succ i=>exact cv i bE gd (by simpa using ak) (by simpa using aE)
theorem ql {op:Op} {bO:eP} (h:rj op=bO):bO= .bad\/cU op=some bO:=by
 unfold rj at h;split at h
 .subst h;right;assumption
 .exact .inl h.symm
theorem Y5 {op:Op} {bO:eP}:cU op≠some (.shr bO):=by
 intro h;unfold cU at h;split at h<;>(try split at h)<;>(try split at h)<;>(try split at h)<;>(try simp[Option.map_eq_some_iff]at h)
theorem Y6 {op:Op} {f:bl} {args:List bl} {us:arH}:cU op≠some (.la f args us):=by
 intro h;unfold cU at h;split at h<;>(try split at h)<;>(try split at h)<;>(try split at h)<;>(try simp[Option.map_eq_some_iff]at h)
theorem Y7 {op:Op} {T:TypeId} {x:bl}:cU op≠some (.kA T x):=by
 intro h;unfold cU at h;split at h<;>(try split at h)<;>(try split at h)<;>(try split at h)<;>(try simp[Option.map_eq_some_iff]at h)
theorem Y8 {op:Op} {x:bl}:cU op≠some (.nY x):=by
 intro h;unfold cU at h;split at h<;>(try split at h)<;>(try split at h)<;>(try split at h)<;>(try simp[Option.map_eq_some_iff]at h)
theorem Y9 {op:Op} {x:bl}:cU op≠some (.nZ x):=by
 intro h;unfold cU at h;split at h<;>(try split at h)<;>(try split at h)<;>(try split at h)<;>(try simp[Option.map_eq_some_iff]at h)
theorem Y_ {op:Op} {x:bl} (h:cU op=some (.hF x)):∃cD,op= .move cD/\ei cD=some x:=by
 unfold cU at h;split at h<;>(try split at h)<;>(try split at h)<;>(try split at h)<;>(try simp[Option.map_eq_some_iff]at h)
 exact⟨_,rfl,h⟩
theorem Za {op:Op} {x:bl} (h:cU op=some (.mY x)):∃cD,op= .assign cD/\ei cD=some x:=by
 unfold cU at h;split at h<;>(try split at h)<;>(try split at h)<;>(try split at h)<;>(try simp[Option.map_eq_some_iff]at h)
 exact⟨_,rfl,h⟩
theorem Zb {op:Op} {T cC:TypeId} {x y:bl}:cU op≠some (.jP T cC x y):=by
 intro h;unfold cU at h;split at h<;>(try split at h)<;>(try split at h)<;>(try split at h)<;>(try simp[Option.map_eq_some_iff]at h)
theorem Zc {op:Op} {T cC:TypeId} {x y:bl} (h:cU op=some (.app T cC x y)):∃a b,op= .call ⟨.builtin .append,#[a,b],#[T,cC]⟩/\ei a=some x/\ei b=some y:=by
 cases op with
 |call c=>
  obtain⟨callee,args,argTypes⟩:=c;simp only[cU]at h;split at h
  .split at h<;>simp at h
  .split at h<;>simp at h
  .split at h<;>simp at h
  ·(split at h<;>try split at h)<;>simp at h
  ·(split at h<;>try split at h)<;>simp at h
  .split at h
   .rename_i a b Bj EP oD wz;split at h
    .rename_i cD l4 ay bz;simp only[Option.some.injEq,eP.app.injEq]at h;obtain⟨rfl,rfl,rfl,rfl⟩:=h;refine⟨a,b,?_,ay,bz⟩;have aW:args= #[a,b]:=by apply Array.ext';exact oD
     have a8:argTypes= #[Bj,EP]:=by apply Array.ext';exact wz
     subst aW a8;rfl
    .cases h
   .cases h
  .cases h
 |makeFunc fn first cs=>
  cases fn<;>simp only[cU]at h<;>first|(cases h;done)|(split at h<;>simp at h)
 |slice T x fB al fs=>
  cases fs<;>simp only[cU]at h<;>first|(cases h;done)|(split at h<;>simp at h)
 |makeMap T r=>cases r<;>simp only[cU]at h<;>simp at h
 |lookup T x i c=>cases c<;>simp only[cU]at h<;>first|(cases h;done)|(split at h<;>simp at h)
 |_=>simp only[cU]at h<;>first|(cases h;done)|(simp at h;done)|(split at h<;>simp at h)
theorem b4.alias {F:Nat->Prop} {S:Nat->Nat->Prop} {aJ:Nat->Value} {u x:Nat} (h:b4 w0 F0 X F S s aJ w) (hu:s u= .hole) (ay:(s x).own=true) (aE:cP (aJ u)=cP (aJ x)) (ae:Value.hp (aJ u)=true):
  b4 w0 F0 X F (gX S u (λ_=>False)) (dY s u (.h x [])) aJ w:=by
 have e9:dY aJ u (aJ u)=aJ:=by funext y;simp only[dY];split<;>simp_all
 have:=h.yd (t:=u) (d:=.h x []) (v:=aJ u) rfl (by
  rw[aU];intro d ak aw;simp only[J.sub,Option.some.injEq]at ak;subst ak;exact⟨cP (aJ x),none,rfl,aE,((wC ay).2.2.2.2.2 _).2 ae⟩)
 rwa [e9]at this
theorem mU.less {F:Nat->Prop} {S a0:Nat->Nat->Prop} {aJ:Nat->Value} {s1:az} {v:Value} (cf:∀u b,a0 u b->S u b) (a4:av.res=true) (h:mU w0 X F S s aJ w av v):mU w0 X F a0 s1 aJ w av v:=by
 rcases h with⟨ae,ag⟩|⟨ae,ag,Sn,aK,a3,bI,dc,c6⟩
 .refine .inl ⟨ae,?_⟩;cases av<;>first
   |(simp[J.res]at a4;done)
   |(rw[aU];trivial)
   |(rw[aU]at ag⊢;exact ag)
 .exact .inr ⟨ae,ag,Sn,aK,a3,bI,λu b ab hu=>dc u b ab (cf u b hu),c6⟩
theorem Q6 (bB:C.fI) (h:Rel w0 F0 X n ρ s a w) {o:Oper} {f:bl} {args:List bl} (cQ:cU o.op=some (.call f args)) (ak:m0 n o.dst=true) {K:J->az->Prop} {L:az->Prop} {next:Act->World->Prop}
  (hw:JJ C s f args K) (wE:∀F S b9 a0 w aQ av s1 v,b4 w0 F0 X F S s (λt=>a.tmps.getD t undef) w->K av s1->av.res=true->b4 w0 F0 X b9 a0 s1 (λt=>a.tmps.getD t undef) aQ->mU w0 X b9 a0 s1 (λt=>a.tmps.getD t undef) aQ av v->(∀b,F b->b9 b/\aQ.heap[b]? =w.heap[b]?)->
   ∃s2 eo,L (fin s2 o.dst av)/\b4 w0 F0 X b9 eo s2 (λt=>a.tmps.getD t undef) aQ/\mU w0 X b9 eo s2 (λt=>a.tmps.getD t undef) aQ av v)
  (aZ:∀aI dd aQ,L aI->Rel w0 F0 X n ρ aI dd aQ->next dd aQ):o.wp C.P a w next Q:=by
 have rk:=h;obtain⟨jB,e4,iv,F,S,a4⟩:=h;obtain⟨g,caps,ps,r,ae,hP,ag,aK,a3,bI,dc,c6,gy⟩:=hw;obtain⟨dst,op,ty,pos,after,guard⟩:=o;simp only at cQ ak wE;cases op with
 |call c=>
  obtain⟨callee,oH,argTypes⟩:=c;simp only[cU]at cQ;split at cQ
  .split at cQ
   .rename_i Bk _ _ Zd xs bo sw;simp only[Option.some.injEq,eP.call.injEq]at cQ;obtain⟨rfl,rfl⟩:=cQ;obtain⟨f1,f2⟩:=gj a4 (λ_=>rfl) bo;rw[ae,aU]at f2;obtain⟨arr,f3,f4⟩:=f2;have wF:execOp a.eval {dst,op:=.call {callee:=.value Bk,args:=oH,argTypes},type:=ty,pos,after,guard}=callFunc g ((oH.toList.map a.eval++arr.toList).toArray):=by
     have:a.eval Bk= .func (.func g) #[] arr:=f3;simp only[execOp,resolve,this,Deferred.ofValue,pure_bind,invoke];congr 1;apply Array.ext';simp
    unfold Oper.wp;rw[wF];have Bl:e3 w F s (λt=>a.tmps.getD t undef) (xs.map (bs s)++caps) (oH.toList.map a.eval++arr.toList):=Q4 (EL a4 (λ_=>rfl) _ _ (wx sw)) f4;rw[<-ag]at Bl;obtain⟨fA,l2⟩:=Q5 Bl;have ew:∀d∈xs.map (bs s)++caps,d.plain=true:=by
     intro d ak;rcases mem_append.1 ak with ak|ak
     .obtain⟨x,ay,rfl⟩:=mem_map.1 ak;exact PN s x λav e=>by
       subst e;have hm:=wx sw;have:some (bl.c av)∈xs.map some:=mem_map.2 ⟨_,ay,rfl⟩;rw[<-hm]at this;obtain⟨o,_,b_⟩:=mem_map.1 this;cases o with
       |const v=>simp only[ei,Option.map_eq_some_iff]at b_;obtain⟨c,ax,e⟩:=b_;cases e;exact IK ax
       |tmp n=>simp[ei]at b_
       |func g=>simp[ei]at b_
       |global g=>simp[ei]at b_
     .obtain⟨k,ao⟩:=getElem?_of_mem ak;exact Ek hP ao
    have JK:=Y3 (C:=C) a4 (ps:=ps) (vs:=oH.toList.map a.eval++arr.toList) (f:=g) (r:=r) (by simpa using fA)
     (λi p v aw aE=>⟨ew p.a (by rw[<-ag];exact mem_map.2 ⟨p,mem_of_getElem? aw,rfl⟩),l2 i p.a v (by simp[aw]) aE⟩) aK a3 bI dc c6
    rcases JK with⟨dT,bb⟩|⟨v,aQ,dT,b9,a0,bb,dt,bX⟩
    .rw[dT,Oper.upon_enter];refine Calls.mono bb ?_;rintro e aQ ⟨v,rfl,b9,a0,b3,cv,fz⟩;obtain⟨s2,eo,gk,ht,iJ⟩:=wE _ _ _ _ _ _ _ _ _ a4 gy dc b3 cv fz;exact aZ _ _ _ gk (Rel.put jB e4 iv ht iJ ak)
    .rw[dT,Oper.upon_value];obtain⟨s2,eo,gk,ht,iJ⟩:=wE _ _ _ _ _ _ _ _ _ a4 gy dc bb dt bX;exact aZ _ _ _ gk (Rel.put jB e4 iv ht iJ ak)
   .cases cQ
  .split at cQ
   .simp only[Option.map_eq_some_iff]at cQ;obtain⟨_,_,cQ⟩:=cQ;cases cQ
   .cases cQ
  .split at cQ
   .simp only[Option.map_eq_some_iff]at cQ;obtain⟨_,_,cQ⟩:=cQ;cases cQ
   .cases cQ
  iterate 3
   .split at cQ
    .split at cQ<;>cases cQ
    .cases cQ
  .cases cQ
 |makeFunc fn first cs=>
  cases fn<;>simp only[cU]at cQ<;>first|(cases cQ;done)|(split at cQ<;>simp at cQ)
 |slice T x fB al fs=>
  cases fs<;>simp only[cU]at cQ<;>first|(cases cQ;done)|(split at cQ<;>simp at cQ)
 |makeMap T r=>cases r<;>simp only[cU]at cQ<;>simp at cQ
 |lookup T x i c=>cases c<;>simp only[cU]at cQ<;>first|(cases cQ;done)|(split at cQ<;>simp at cQ)
 |_=>simp only[cU]at cQ<;>first|(cases cQ;done)|(simp at cQ;done)|(split at cQ<;>simp at cQ)
theorem Ze (bB:C.fI) (h:Rel w0 F0 X n ρ s a w) {o:Oper} {bO:eP} (cQ:cU o.op=some bO) (ak:m0 n o.dst=true) {K:az->Prop} {next:Act->World->Prop}
  (hw:qk C s bO λav s1=>K (fin s1 o.dst av)) (aZ:∀aI dd aQ,K aI->Rel w0 F0 X n ρ aI dd aQ->next dd aQ):o.wp C.P a w next Q:=by
 have rk:=h;obtain⟨jB,e4,iv,F,S,a4⟩:=h;have plain:∀av s1,bY C s bO=some (av,s1)->K (fin s1 o.dst av)->o.wp C.P a w next Q:=by
  intro av s1 he ao;obtain⟨r,aQ,v,b9,a0,ae,ag,aK,a3⟩:=QC (a:=a) bB a4 (λ_=>rfl) cQ he;unfold Oper.wp;rw[ae];rcases ag with rfl|⟨rfl,rfl⟩
  .exact aZ _ _ _ ao (Rel.put jB e4 iv aK a3 ak)
  .exact aZ _ _ _ ao (Rel.put jB e4 iv aK a3 ak)
 cases bO with
 |shr bO=>exact(Y5 cQ).elim
 |jP T cC x y=>exact(Zb cQ).elim
 |call f args=>exact Q6 bB ⟨jB,e4,iv,F,S,a4⟩ cQ ak (K:=λav s1=>K (fin s1 o.dst av)) hw (λ_ _ _ a0 _ _ _ s1 _ _ ag _ aK a3 _=>⟨s1,a0,ag,aK,a3⟩) aZ
 |la f args L=>exact(Y6 cQ).elim
 |kA T x=>exact(Y7 cQ).elim
 |nY x=>exact(Y8 cQ).elim
 |nZ x=>exact(Y9 cQ).elim
 |_=>
  obtain⟨av,s1,he,ao⟩:=hw;exact plain av s1 he ao
theorem mU.share {F:Nat->Prop} {S:Nat->Nat->Prop} {aJ:Nat->Value} {v:Value} (h:b4 w0 F0 X F S s aJ w) (aE:mU w0 X F S s aJ w av v) (bc:av.tree=true) (aZ:∀vs,av≠.tuple vs):
  ∃b9,b4 w0 F0 X b9 S s aJ w/\mU w0 X b9 S s aJ w av.share v:=by
 obtain⟨Sn,dr,dh,hM,g7,k9,Bm⟩:∃Sn:Nat->Prop,eO av v/\aD w F av (cP v) Sn/\(∀b,Sn b->b<w.heap.size)/\(∀b,Sn b->¬F b)/\(∀u b,Sn b->¬S u b)/\(∀b,Sn b->X b\/w0.heap.size<=b):=by
  rcases aE with⟨ae,ag⟩|⟨_,ag,Sn,aK,a3,bI,dc,c6⟩
  .rw[aU.c_ bc]at ag;exact⟨λ_=>False,ag.1,ag.2,λ_ h=>h.elim,λ_ h=>h.elim,λ_ _ h=>h.elim,λ_ h=>h.elim⟩
  .exact⟨Sn,ag,aK,a3,bI,dc,c6⟩
 refine⟨λb=>F b\/Sn b,?_,.inl ⟨Jx av,?_⟩⟩
 .exact {
   ib:=λb ab=>.inl (h.ib b ab)
   iz:=λb ab=>by
    rcases ab with ab|ab
    .exact h.iz b ab
    .exact .inr (Bm b ab)
   gE:=λb ab=>ab.elim (h.gE b) (hM b)
   fH:=h.fH
   gP:=λt b ab bo=>bo.elim (h.gP t b ab) (λad=>k9 t b ad ab)
   gu:=h.gu
   eN:=h.eN
   ev:=λt=>aU.frame (λ_ _=>rfl) (λb ab=>.inl ab) (λ_ _ _=>rfl) h.ev _ _ _ (λ_ _=>rfl) (h.ev t)
   old:=h.old
   size:=h.size
   os:=h.os
   tape:=h.tape
   output:=h.output
   iA:=h.iA}
 .by_cases b_:∃o,av= .eM o
  .obtain⟨o,rfl⟩:=b_;rw[J.share,aU];trivial
  have Zf:av.share.tree=true:=by cases av<;>first|exact bc|rfl|exact(b_ ⟨_,rfl⟩).elim
  rw[aU.c_ Zf];exact⟨Jz aZ dr,aD.shared (λb ab=>.inl ab) av _ Sn (λb ab=>.inr ab) dh⟩
theorem Zg {op:Op} {T:TypeId} {x:bl} (h:cU op=some (.ic T x)):∃a,op= .box T a/\ei a=some x:=by
 cases op with
 |box Bj a=>
  simp only[cU,Option.map_eq_some_iff,eP.ic.injEq]at h;obtain⟨y,bz,rfl,rfl⟩:=h;exact⟨a,rfl,bz⟩
 |_=>
  exfalso;unfold cU at h;split at h<;>(try split at h)<;>(try split at h)<;>(try split at h)<;>(try simp[Option.map_eq_some_iff]at h)<;>contradiction
theorem Zh {aQ:World} {F b9:Nat->Prop} {s s1:az} {aJ:Nat->Value} (bt:∀b,F b->b9 b/\aQ.heap[b]? =w.heap[b]?):∀(n:Nat),
  (∀(d:J) (v:Value) (S:Nat->Prop),SizeOf.sizeOf d<=n->d.gG s=true->d.gG s1=true->aU w F s aJ d v S->aU aQ b9 s1 aJ d v (λ_=>False))/\
  (∀(ds:arM) (vs:arK),SizeOf.sizeOf ds<=n->J.qj s ds=true->J.qj s1 ds=true->e3 w F s aJ ds vs->e3 aQ b9 s1 aJ ds vs):=by
 intro n;induction n with
 |zero=>
  refine⟨λd v S ca=>?_,λds vs ca=>?_⟩
  .cases d<;>simp at ca<;>omega
  .cases ds<;>simp at ca<;>omega
 |succ n ih=>
  refine⟨λd v S ca b3 cv h=>?_,λds vs ca b3 cv h=>?_⟩
  .cases d with
   |hole=>rw[aU];trivial
   |h x q=>
    simp only[J.gG,Bool.and_eq_true,isEmpty_iff]at b3 cv;obtain⟨rfl,b3⟩:=b3;rw[aU]at h⊢;obtain⟨df,a,gr,hD,i7⟩:=h (s x) (by simp only[J.sub]) (wC b3).1;simp only[eb,Option.some.injEq,Prod.mk.injEq,true_and]at gr;intro d ak _;simp only[J.sub,Option.some.injEq]at ak;subst ak;exact⟨cP (aJ x),none,by simp only[eb],by rw[hD,<-gr.1],((wC cv.2).2.2.2.2.2 _).2 (((wC b3).2.2.2.2.2 _).1 i7)⟩
   |aw x q=>simp[J.gG]at b3
   |ab x k=>
    simp only[J.gG,Bool.not_eq_true']at b3;rw[aU]at h⊢;obtain⟨b,cur,e,fr,ae,ag,aK,a3⟩:=h b3;exact λ_=>⟨b,cur,e,fr,ae,(bt b ag).1,(bt b ag).2.trans aK,a3⟩
   |fn f cap=>
    simp only[J.gG]at b3 cv;rw[aU]at h⊢;obtain⟨arr,rfl,ax⟩:=h;exact⟨arr,rfl,ih.2 _ _ (by simp at ca;omega) b3 cv ax⟩
   |_=>
    simp only[J.gG]at b3;have bM:=(aU.c_ rfl).1 h;exact(aU.c_ rfl).2 ⟨bM.1,aD.mono (λb ab=>(bt b ab).1) _ _ _ _ (λ_ h=>h) (aD.frame (λb ab=>(bt b ab).2) _ _ _ (λ_ h=>h.elim) (aD.plain _ _ _ _ b3 bM.2))⟩
  .cases ds with
   |nil=>rw[e3]at h⊢;exact h
   |cons d ds=>
    simp only[J.qj,Bool.and_eq_true]at b3 cv;rw[e3]at h⊢;obtain⟨v,kP,rfl,ae,ag⟩:=h;simp at ca;exact⟨v,kP,rfl,ih.1 _ _ _ (by omega) b3.1 cv.1 ae,ih.2 _ _ (by omega) b3.2 cv.2 ag⟩
theorem Zi {s:az} {d:J} (h:d.gG s=true):d.plain=true:=by
 cases d<;>first|rfl|(simpa [J.gG]using h)
theorem b4.oG {F:Nat->Prop} {aJ:Nat->Value}:∀(L:arL) (s:az) (S:Nat->Nat->Prop),b4 w0 F0 X F S s aJ w->(∀p∈L,p.2.plain=true/\aU w F s aJ p.2 (aJ p.1) (λ_=>False))->
  ∃a0,b4 w0 F0 X F a0 (ek.oG s L) aJ w/\∀u b,a0 u b->S u b:=by
 intro L;induction L with
 |nil=>intro s S h _;exact⟨S,h,λ_ _ h=>h⟩
 |cons p L ih=>
  intro s S h wE;obtain⟨ae,ag⟩:=wE p (by simp);have e9:dY aJ p.1 (aJ p.1)=aJ:=by funext u;simp only[dY];split<;>simp_all
  have aK:=h.yd (t:=p.1) ae ag;rw[e9]at aK;have ia:∀x,x≠p.1->(dY s p.1 p.2 x).tree=true->dY s p.1 p.2 x=s x/\aJ x=aJ x:=λx ay _=>⟨ki _ _ ay,rfl⟩
  obtain⟨a0,a2,bq⟩:=ih _ _ aK (λq cl=>⟨(wE q (by simp[cl])).1,(aU.void (t:=p.1) ia (by rw[nm];exact ae) _).1 _ _ _ (Nat.le_refl _) (wE q (by simp[cl])).2⟩);refine⟨a0,a2,λu b ab=>?_⟩;have:=bq u b ab;simp only[gX]at this;split at this
  .exact this.elim
  .exact this
theorem JL {s:az}:∀{L:arL},m1 s L=true->∀p∈L,p.2.gG s=true
 |q::L,ae,p,aw=>by
  simp only[m1,Bool.and_eq_true]at ae;rcases mem_cons.1 aw with rfl|aw
  .exact ae.1
  .exact JL ae.2 p aw
theorem Zj {s:az} {us:arH} {p:Nat×J} (h:p∈kl s us):p.1∈us/\s p.1=p.2:=by
 obtain⟨u,hu,rfl⟩:=mem_map.1 h;exact⟨hu,rfl⟩
theorem Zk (bB:C.fI) (h:Rel w0 F0 X n ρ s a w) {o:Oper} {bO:eP} (cQ:rj o.op=bO.base) (ak:m0 n o.dst=true) {K:az->Prop} {next:Act->World->Prop}
  (hw:qk C s bO λav s1=>K (fin s1 o.dst av)) (aZ:∀aI dd aQ,K aI->Rel w0 F0 X n ρ aI dd aQ->next dd aQ):o.wp C.P a w next Q:=by
 cases bO with
 |shr bO=>
  obtain⟨av,s1,he,bc,oE,ao⟩:=hw;rcases ql cQ with cQ|cQ
  .change bO= .bad at cQ;subst cQ;cases he
  obtain⟨jB,e4,iv,F,S,a4⟩:=h;obtain⟨r,aQ,v,b9,a0,ae,ag,aK,a3⟩:=QC (a:=a) bB a4 (λ_=>rfl) cQ he;obtain⟨tz,ck,eE⟩:=mU.share aK a3 bc oE;unfold Oper.wp;rw[ae];rcases ag with rfl|⟨rfl,rfl⟩
  .exact aZ _ _ _ ao (Rel.put jB e4 iv ck eE ak)
  .exact aZ _ _ _ ao (Rel.put jB e4 iv ck eE ak)
 |bad=>obtain⟨av,s1,he,_⟩:=hw;cases he
 |la f args L=>
  obtain⟨a8,hw⟩:=hw;rcases ql cQ with ab|ab
  .cases ab
  .refine Q6 bB h ab ak hw ?_ aZ;rintro F S b9 a0 w aQ av s1 v dr ⟨dh,g7⟩ k9 Bm JM Zl;obtain⟨eo,a2,bq⟩:=Bm.oG (kl s L) s1 a0 (λp aw=>by
    have dT:=(Zj aw).2;have bb:=JL a8 p aw;have dt:=JL dh p aw;refine⟨Zi bb,(Zh Zl _).1 _ _ (S p.1) (Nat.le_refl _) bb dt ?_⟩;have:=dr.ev p.1;rw[dT]at this;exact this)
   exact⟨_,eo,g7,a2,JM.less bq k9⟩
 |kA T x=>
  obtain⟨av,s1,he,ao⟩:=hw;rcases ql cQ with ab|ab
  .cases ab
  .obtain⟨cD,rl,ay⟩:=Zg ab;obtain⟨jB,e4,iv,F,S,a4⟩:=h;obtain⟨dst,op,ty,pos,after,guard⟩:=o;simp only at rl ak ao;subst rl;obtain⟨r,aQ,v,b9,a0,ae,ag,aK,a3⟩:Next C w0 F0 X (λt=>a.tmps.getD t undef) w (execOp a.eval ⟨dst,.box T cD,ty,pos,after,guard⟩) av s1:=(Xl (T:=T) a4 (gj a4 (λ_=>rfl) ay).2 he).next;unfold Oper.wp;rw[ae];rcases ag with rfl|⟨rfl,rfl⟩
   .exact aZ _ _ _ ao (Rel.put jB e4 iv aK a3 ak)
   .exact aZ _ _ _ ao (Rel.put jB e4 iv aK a3 ak)
 |nZ x=>
  obtain⟨av,s1,he,ao⟩:=hw;rcases ql cQ with ab|ab
  .cases ab
  .obtain⟨cD,rl,ay⟩:=Y_ ab;obtain⟨jB,e4,iv,F,S,a4⟩:=h;obtain⟨dst,op,ty,pos,after,guard⟩:=o;simp only at rl ak ao;subst rl;simp only[bY]at he;obtain⟨a2,bq⟩:=gj a4 (λ_=>rfl) ay;obtain⟨r,aQ,v,b9,a0,ae,ag,aK,a3⟩:Next C w0 F0 X (λt=>a.tmps.getD t undef) w (execOp a.eval ⟨dst,.move cD,ty,pos,after,guard⟩) av s1:=by
    unfold sr at he;split at he
    .rename_i y q bz;rw[bz]at a2 bq;obtain⟨cA,k0,b3,cv,Sn,fz,ez,fR,dj,jO,_⟩:=qY a4 a2 bq he;exact⟨_,w,_,F,cA,rfl,.inl rfl,k0,.inr ⟨b3,cv,Sn,fz,ez,fR,dj,jO⟩⟩
    .simp only[Option.some.injEq,Prod.mk.injEq]at he;obtain⟨rfl,rfl⟩:=he;exact⟨_,w,_,F,S,rfl,.inl rfl,a4,.inl ⟨a2,bq⟩⟩
   unfold Oper.wp;rw[ae];rcases ag with rfl|⟨rfl,rfl⟩
   .exact aZ _ _ _ ao (Rel.put jB e4 iv aK a3 ak)
   .exact aZ _ _ _ ao (Rel.put jB e4 iv aK a3 ak)
 |nY x=>
  obtain⟨av,s1,he,ao⟩:=hw;rcases ql cQ with ab|ab
  .cases ab
  .obtain⟨cD,rl,ay⟩:=Za ab;obtain⟨jB,e4,iv,F,S,a4⟩:=h;obtain⟨dst,op,ty,pos,after,guard⟩:=o;simp only at rl ak ao;subst rl;simp only[bY,Option.some.injEq,Prod.mk.injEq]at he;obtain⟨rfl,rfl⟩:=he;obtain⟨a2,bq⟩:=gj a4 (λ_=>rfl) ay;obtain⟨r,aQ,v,b9,a0,ae,ag,aK,a3⟩:Next C w0 F0 X (λt=>a.tmps.getD t undef) w (execOp a.eval ⟨dst,.assign cD,ty,pos,after,guard⟩) (bs s x) s:=⟨_,w,_,F,S,rfl,.inl rfl,a4,.inl ⟨a2,bq⟩⟩
   unfold Oper.wp;rw[ae];rcases ag with rfl|⟨rfl,rfl⟩
   .exact aZ _ _ _ ao (Rel.put jB e4 iv aK a3 ak)
   .exact aZ _ _ _ ao (Rel.put jB e4 iv aK a3 ak)
 |jP T cC x y=>
  obtain⟨av,s1,he,ao⟩:=hw;rcases ql cQ with ab|ab
  .cases ab
  .obtain⟨cD,l4,rl,ay,bz⟩:=Zc ab;obtain⟨jB,e4,iv,F,S,a4⟩:=h;simp only[bY,Option.map_eq_some_iff,Prod.mk.injEq]at he;obtain⟨d,iu,rfl,rfl⟩:=he;obtain⟨v,aQ,b9,a0,ae,ag,aK⟩:=Yb (ty:=o.type) bB a4 (gj a4 (λ_=>rfl) ay).2 (gj a4 (λ_=>rfl) bz).2 iu;have wF:execOp a.eval o=(do pure (.value (<-Builtin.append_ #[T,cC] o.type #[a.eval cD,a.eval l4]))):=by
    obtain⟨dst,op,ty,pos,after,guard⟩:=o;simp only at rl;subst rl;simp[execOp,resolve,invoke,builtin]
   unfold Oper.wp;rw[wF];simp only[Sem.run_bind,ae,Result.andThen];exact aZ _ _ _ ao (Rel.put jB e4 iv ag aK ak)
 |_=>
  rcases ql cQ with ab|ab
  .cases ab
  .exact Ze bB h ab ak hw aZ
end
end Go.ek
