/- Part of a proof that a law returns true for every input. No condition. -/
import Derived.Test.YtndfcecbamffaaaGreatFwD
import Derived.Laws.Tables
namespace Go.dD
open List Go.IntKind Nat Or
section
variable {C:bV} {w0 w:World} {F0 X F:Nat->Prop} {S:Nat->Nat->Prop} {s s1:ao} {aF:Nat->Value} {av:I}
theorem Be (z:ahF):∀n,(range (n*z.length)).map (λi=>z[i%z.length]!)=(replicate n z).flatten
 |0=>by simp
 |n+1=>by
  rw[Nat.add_mul,Nat.one_mul,range_add,map_append,Be z n,replicate_succ',flatten_append];congr 1;simp only[List.map_map,flatten_cons,flatten_nil,append_nil];apply ext_getElem
  .simp
  .intro i af ag;have aq:i<z.length:=ag;simp[mod_eq_of_lt aq,aq]
theorem bh.replicate {d:I} {cs:ahF} (h:∀aS,ay w F d cs aS):∀n aS,bh w F (replicate n d) (replicate n cs).flatten aS
 |0,aS=>by simp only[replicate_zero,flatten_nil];rw[bh]
 |n+1,aS=>by
  rw[replicate_succ,replicate_succ,flatten_cons,bh];exact⟨cs,_,λ_=>False,λ_=>False,rfl,h _,bh.replicate h n _,λ_ h=>h.elim,λ_ h=>h.elim,λ_ h=>h.elim⟩
def eu (C:bV) (T:TypeId) (l c:I):Option I:=
 match(C.T T).k,l,c with
 | .slice e,.int .i64 n,.int .i64 m=>if n=m/\0<=n/\(C.T e).ok=true/\(C.T e).zero.wd=(C.T e).sz/\(flat (C.T e).zero).isSome=true/\(C.T e).sz≠0/\(C.T e).bytes*n<=140737488355328/\n<=9223372036854775807 then
   some (.ad (C.T e).sz (replicate n.toNat (C.T e).zero))else none
 |_,_,_=>none
theorem Sz (bx:C.eN) (h:bK w0 F0 X F S s aF w) {T:TypeId} {l c:I} {Kz KA:Value} (hl:aO w F s aF l Kz (λ_=>False)) (aC:aO w F s aF c KA (λ_=>False)) (he:eu C T l c=some av):
  Good C w0 F0 X aF w (Instr.makeSlice T Kz KA) av s:=by
 unfold eu at he;split at he
 .rename_i e n m au;have:=pD hl;subst this;have:=pD aC;subst this;obtain⟨Ey,d,Ez,a1,bc,bb,cl,cR,b0,b7⟩:=bx.info (gi au (by simp));rw[au]at b7;have:=lS b7;subst this;split at he
  .rename_i uc;obtain⟨rfl,ba,pH,qH,rH,dR,KB,yo⟩:=uc;simp only[Option.some.injEq]at he;subst he;obtain⟨i,EA,z,f1,f2,f3,f4,f5,f6,f7⟩:=bx.info pH;obtain⟨fs,nu⟩:=Option.isSome_iff_exists.1 rH;have rI:=f5 fs nu;have gR:∀aS,ay w F (C.T e).zero fs aS:=λaS=>(ay.flat _).1 _ fs aS (Nat.le_refl _) nu;have pJ:fs.length=(C.T e).sz:=by rw[ay.length _ _ _ (gR (λ_=>False)),qH]
   obtain⟨n,rfl⟩:=Int.eq_ofNat_of_zero_le ba;simp only[Int.toNat_natCast];have vS:i64.wrap (n:Int)=n:=by
    rw[wrap_i64];omega
   have vQ:∀k (w:World),(askRoom k).run C.P w= .ok () w:=by
    intro k w;unfold askRoom;split<;>rfl
   have pC:((Array.range (n*(C.T e).sz)).map (fs.toArray[·%fs.toArray.size]!)).toList=(replicate n fs).flatten:=by
    have:=Be fs n;rw[pJ]at this;simpa [pJ]using this
   have en:¬(281474976710656<(i.bytes:Int)*n):=by
    rw[f3];omega
   have Bf:¬((n:Int)<0):=by omega
   have run:(Instr.makeSlice T (.int .i64 n) (.int .i64 n)).run C.P w= .ok (.slice (some ⟨w.heap.size,0,none⟩) n n)
     (w.alloc (.cells (if n*(C.T e).sz=0 then(Array.range (n*(C.T e).sz)).map (λ_=>default)else(Array.range (n*(C.T e).sz)).map (fs.toArray[·%fs.toArray.size]!)) e)):=by
    by_cases bA:n*(C.T e).sz=0
    .simp[Instr.makeSlice,run_underlying b0,asInt,asIntOf,t_ f1,vS,en,Bf,vQ,kS f1,f2,bA,newRow]
    .simp only[bA,if_false];simp[Instr.makeSlice,run_underlying b0,asInt,asIntOf,t_ f1,vS,en,Bf,vQ,kS f1,f2,bA,newRow,ua f1 f4,rI]
   have kP:(if n*(C.T e).sz=0 then(Array.range (n*(C.T e).sz)).map (λ_=>(default:Value))else(Array.range (n*(C.T e).sz)).map (fs.toArray[·%fs.toArray.size]!)).toList=(replicate n fs).flatten:=by
    split
    .rename_i bA;have:n=0:=by
      rcases mul_eq_zero.1 bA with h|h
      .exact h
      .exact(dR h).elim
     subst this;simp
    .exact pC
   generalize uo:(if n*(C.T e).sz=0 then(Array.range (n*(C.T e).sz)).map (λ_=>(default:Value))else(Array.range (n*(C.T e).sz)).map (fs.toArray[·%fs.toArray.size]!))=cur at run kP;have jK:(replicate n fs).flatten.length=n*(C.T e).sz:=by simp[pJ]
   have iP:cur.size=n*(C.T e).sz:=by
    have:cur.size=cur.toList.length:=by simp
    rw[this,kP,jK]
   have lB:=h.yk (aK:=w.alloc (.cells cur e)) (sz:=(C.T e).sz) (cap:=n) (xs:=replicate n (C.T e).zero) (cur:=cur) (e:=e) (fr:=(0,0)) (Sn:=λ_=>False) rfl rfl rfl ⟨rfl,λ_=>Nat.le_refl _⟩
    (λo _ ⟨_,ag⟩=>absurd ag (not_lt_zero _)) (by simp) (by unfold maxLen;omega) iP (by intro d al;rw[eq_of_mem_replicate al];exact qH)
    (by rw[kP,length_replicate,take_of_length_le (by rw[jK];exact Nat.le_refl _)];exact bh.replicate gR n _) (λ_ h=>h.elim) (λ_ h=>h.elim) (λ_ _ h=>h.elim) (λ_ h=>h.elim)
   rw[length_replicate]at lB;exact⟨_,_,F,S,run,lB.1,lB.2⟩
  .cases he
 .cases he
def iE (C:bV) (T cb:TypeId) (x y:I):Option I:=
 match(C.T T).k,(C.T cb).k,x,y with
 | .slice e,.int _,.ah,.int .i64 n=>if 0<=n/\(C.T e).ok=true/\(C.T e).zero.wd=(C.T e).sz/\(flat (C.T e).zero).isSome=true/\(C.T e).sz≠0/\(C.T e).bytes*n<=140737488355328/\n<=9223372036854775807 then
   some (.ad (C.T e).sz (replicate n.toNat (C.T e).zero))else none
 |_,_,_,_=>none
theorem SA {P:Program} {T cb ty e:TypeId} {k:IntKind} {i:TypeInfo} {z:Value} (aZ:P.underlying T=some (.slice e)) (hu:P.underlying cb=some (.int k)) (aq:P.info? e=some i) (b3:i.zero=some z)
  (n:Nat) (bA:n≠0) (ae:i.size≠0) (ba:n<=9223372036854775807) (U:n*i.bytes<=140737488355328):
  (Builtin.append_ #[T,cb] ty #[.slice none 0 0,.int .i64 n]).run P w= .ok (.slice (some ⟨w.heap.size,0,none⟩) n (grownCap w n 0 e))
   (w.drew.alloc (.cells (Builtin.zeroCells z.cells n++Builtin.zeroCells z.cells (grownCap w n 0 e-n)) e)):=by
 have vS:i64.wrap (n:Int)=n:=by rw[wrap_i64];omega
 have Bf:¬((n:Int)<0):=by omega
 have hmul:(n:Int)*(i.bytes:Int)=((n*i.bytes:Nat):Int):=by simp
 have en:¬(281474976710656<(n:Int)*(i.bytes:Int)):=by rw[hmul];omega
 have iB:¬(281474976710656<Builtin.nextslicecap n 0*i.bytes):=by
  have:Builtin.nextslicecap n 0=n:=by unfold Builtin.nextslicecap;rw[if_pos (by omega)]
  rw[this];omega
 have vQ:∀k (w:World),(askRoom k).run P w= .ok () w:=by
  intro k w;unfold askRoom;split<;>rfl
 have Ev:¬(9223372036854775807<(n:Int)):=by omega
 have EG:n*i.size≠0:=Nat.mul_ne_zero bA ae;simp[Builtin.append_,run_underlying aZ,run_underlying hu,kS aq,t_ aq,asInt,asIntOf,vS,Bf,en,iB,bA,Question.forced,vQ,Ev,ua aq b3,newRow,grownCap,Builtin.firstCells];intro i9;exact(EG i9).elim
theorem SB (bx:C.eN) (h:bK w0 F0 X F S s aF w) {T cb ty:TypeId} {x y:I} {ff gP:Value} (aA:aO w F s aF x ff (λ_=>False)) (bu:aO w F s aF y gP (λ_=>False)) (he:iE C T cb x y=some av):
  Good C w0 F0 X aF w (Builtin.append_ #[T,cb] ty #[ff,gP]) av s:=by
 unfold iE at he;split at he
 .rename_i e af9 n au KC;have:=rB aA;subst this;have:=pD bu;subst this;obtain⟨Ey,d,Ez,a1,bc,bb,cl,cR,b0,b7⟩:=bx.info (gi au (by simp));rw[au]at b7;have:=lS b7;subst this;obtain⟨af_,aga,agb,rK,oQ,KD,agc,agd,KE,KF⟩:=bx.info (gi KC (by simp));rw[KC]at KF;have:=yd KF;subst this;split at he
  .rename_i uc;obtain⟨ba,pH,qH,rH,dR,KB,yo⟩:=uc;simp only[Option.some.injEq]at he;subst he;obtain⟨i,EA,z,f1,f2,f3,f4,f5,f6,f7⟩:=bx.info pH;obtain⟨fs,nu⟩:=Option.isSome_iff_exists.1 rH;have rI:=f5 fs nu;have gR:∀aS,ay w F (C.T e).zero fs aS:=λaS=>(ay.flat _).1 _ fs aS (Nat.le_refl _) nu;have pJ:fs.length=(C.T e).sz:=by rw[ay.length _ _ _ (gR (λ_=>False)),qH]
   obtain⟨n,rfl⟩:=Int.eq_ofNat_of_zero_le ba;simp only[Int.toNat_natCast];by_cases bA:n=0
   .subst bA;have run:(Builtin.append_ #[T,cb] ty #[.slice none 0 0,.int .i64 ((0:Nat):Int)]).run C.P w= .ok (.slice none 0 0) w:=by
     have vS:i64.wrap 0=0:=by decide
     simp[Builtin.append_,run_underlying b0,run_underlying KE,kS f1,t_ f1,asInt,asIntOf,vS]
    exact⟨_,w,F,S,run,h,.inr ⟨rfl,rfl,λ_=>False,by simp only[ct,iy];rw[ay];exact .inl ⟨rfl,_,rfl⟩,λ_ h=>h.elim,λ_ h=>h.elim,λ_ _ h=>h.elim,λ_ h=>h.elim⟩⟩
   .have run:=SA (w:=w) (ty:=ty) b0 KE f1 f4 n bA (by rw[f2];exact dR) (by omega) (by
     rw[f3];have:((C.T e).bytes:Int)*(n:Int)=(((C.T e).bytes*n:Nat):Int):=by simp
     rw[this]at KB;rw[Nat.mul_comm];omega)
    rw[rI]at run;have vM:=grownCap_ge w n 0 e;have ym:=grownCap_le_maxLen w n 0 e (by unfold maxLen;omega);have KG:∀m,(Builtin.zeroCells fs.toArray m).toList=(replicate m fs).flatten:=by
     intro m;have:=Be fs m;unfold Builtin.zeroCells;simpa [pJ]using this
    have jK:∀m,(replicate m fs).flatten.length=m*(C.T e).sz:=by intro m;simp[pJ]
    generalize uo:Builtin.zeroCells fs.toArray n++Builtin.zeroCells fs.toArray (grownCap w n 0 e-n)=cur at run;have kP:cur.toList=(replicate n fs).flatten++(replicate (grownCap w n 0 e-n) fs).flatten:=by rw[<-uo,Array.toList_append,KG,KG]
    have iP:cur.size=grownCap w n 0 e*(C.T e).sz:=by
     have:cur.size=cur.toList.length:=by simp
     rw[this,kP,length_append,jK,jK,<-Nat.add_mul];congr 1;omega
    have lB:=h.yk (aK:=w.drew.alloc (.cells cur e)) (sz:=(C.T e).sz) (cap:=grownCap w n 0 e) (xs:=replicate n (C.T e).zero) (cur:=cur) (e:=e) (fr:=(0,0)) (Sn:=λ_=>False) rfl rfl rfl ⟨rfl,λ_=>le_succ _⟩
     (λo _ ⟨_,ag⟩=>absurd ag (not_lt_zero _)) (by simpa using vM) ym iP (by intro d al;rw[eq_of_mem_replicate al];exact qH)
     (by rw[kP,length_replicate,take_left' (jK n)];exact bh.replicate gR n _) (λ_ h=>h.elim) (λ_ h=>h.elim) (λ_ _ h=>h.elim) (λ_ h=>h.elim)
    rw[length_replicate]at lB;exact⟨_,_,F,S,run,lB.1,lB.2⟩
  .cases he
 .cases he
def mV (s:ao) (f:FuncId) (cs:List bn):Option I:=some (.fn f (cs.map (br s)))
theorem Bg {a:Act} (h:bK w0 F0 X F S s aF w) (ea:∀t,aF t=a.tmps.getD t undef):∀(os:List Operand) (xs:List bn),os.map dE=xs.map some->ef w F s aF (xs.map (br s)) (os.map a.eval)
 |[],[],_=>by simp only[map_nil];rw[ef]
 |[],x::xs,h=>by simp at h
 |o::os,[],h=>by simp at h
 |o::os,x::xs,bO=>by
  simp only[map_cons,cons.injEq]at bO⊢;rw[ef];exact⟨_,_,rfl,(fA h ea bO.1).2,Bg h ea os xs bO.2⟩
theorem KH:∀(vs:ahF) (k off:Nat) (A:Array Value) (l m r:ahF),A.toList=l++(m++r)->l.length=off+k->m.length=vs.length->
  ((vs.zipIdx k).foldl (λcs (x:Value×Nat)=>cs.setIfInBounds (off+x.2) x.1) A).toList=l++(vs++r)
 |[],k,off,A,l,m,r,hX,hl,hm=>by
  have:m=[]:=by simpa using hm
  subst this;simpa using hX
 |v::vs,k,off,A,l,m,r,hX,hl,hm=>by
  obtain⟨x,m,rfl⟩:∃x js,m=x::js:=by
   cases m with
   |nil=>simp at hm
   |cons x m=>exact⟨x,m,rfl⟩
  rw[zipIdx_cons,foldl_cons];have:=KH vs (k+1) off (A.setIfInBounds (off+k) v) (l++[v]) m r (by
   rw[Array.toList_setIfInBounds,hX,<-hl,set_append_right _ _ (Nat.le_refl _)];simp) (by simp;omega) (by simpa using hm)
  simpa using this
def lC (os:List (Option Nat)) (a:I):I:=os.foldl (λa o=>k9 o a) a
def kU (place:Nat->Option (Nat×Nat)):ao->ahI->List (Option Nat)->ahH->Option (ahI×ao)
 |s,eS,_,[]=>some (eS,s)
 |s,eS,os,(k,a)::r=>match cV s (lC os a),place k,eS[k]? with
  |some (d,s1),some (off,n),some z=>match d with
   | .tuple _=>none
   |d=>if d.wd=n/\z.wd=n/\I.dO (eS.take k)=off then kU place s1 (eS.set k d) (os++[(lC os a).owner]) r else none
  |_,_,_=>none
def oR (w:World) (F:Nat->Prop) (s:ao) (aF:Nat->Value):ahH->List (Nat×Value)->Prop
 |[],[]=>True
 |(k,a)::r,(c7,v)::gv=>k=c7/\a.plain=true/\aO w F s aF a v (λ_=>False)/\oR w F s aF r gv
 |_,_=>False
theorem SC (x:Nat):∀d:I,d.plain=true->(cp x d).plain=true
 | .h y q,_=>by simp only[cp];split<;>(try split)<;>rfl
 | .aw y q,_=>by simp only[cp];split<;>rfl
 | .U y q,_=>rfl
 | .fn f c,_=>by simp only[cp];rfl
 | .hole,h=>h
 | .bool _,h=>h
 | .fo,h=>h
 | .int _ _,h=>h
 | .str _,h=>h
 | .dM,h=>h
 | .ah,h=>h
 | .slice _,h=>h
 | .ad _ _,h=>h
 | .ref _,h=>h
 | .ai _,h=>h
 | .agg _,h=>h
 | .tuple _,h=>h
theorem SD (o:Option Nat) (d:I) (h:d.plain=true):(k9 o d).plain=true:=by
 cases o with
 |none=>exact h
 |some x=>exact SC x d h
theorem oR.cp {w:World} {F:Nat->Prop} {s s1:ao} {aF:Nat->Value} {o:Option Nat} (aw:∀(bz:I) (e4:Value) (aS:Nat->Prop),aO w F s aF bz e4 aS->aO w F s1 aF (k9 o bz) e4 aS):
  ∀(r:ahH) (gv:List (Nat×Value)),oR w F s aF r gv->oR w F s1 aF (r.map λp=>(p.1,k9 o p.2)) gv
 |[],[],_=>trivial
 |(k,a)::r,(c7,v)::gv,h=>by
  obtain⟨af,ag,aJ,a_⟩:=h;exact⟨af,SD _ _ ag,aw _ _ _ aJ,oR.cp aw r gv a_⟩
 |[],_::_,h=>h.elim
 |_::_,[],h=>h.elim
theorem EH {place:Nat->Option (Nat×Nat)}:∀(ps:ahH) (vs:List (Nat×Value)) (os:List (Option Nat)) (s:ao) (S:Nat->Nat->Prop) (eS:ahI) (A:Array Value) (hF:Nat->Prop),
  bK w0 F0 X F S s aF w->oR w F s aF (ps.map λp=>(p.1,lC os p.2)) vs->bh w F eS A.toList hF->(∀b,hF b->b<w.heap.size)->(∀b,hF b->¬F b)->(∀u b,hF b->¬S u b)->(∀b,hF b->X b\/w0.heap.size<=b)->
  ∀ds s1,kU place s eS os ps=some (ds,s1)->∃mW ck gX,Instr.fill place A vs=some mW/\bK w0 F0 X F ck s1 aF w/\bh w F ds mW.toList gX/\(∀b,gX b->b<w.heap.size)/\(∀b,gX b->¬F b)/\(∀u b,gX b->¬ck u b)/\
   (∀b,gX b->X b\/w0.heap.size<=b)/\ds.length=eS.length/\I.dO ds=I.dO eS/\(∀n,(∀d∈eS,d.wd=n)->∀d∈ds,d.wd=n)
 |[],[],os,s,S,eS,A,hF,h,_,af,ag,aJ,a_,bC,ds,s1,he=>by
  simp only[kU,Option.some.injEq,Prod.mk.injEq]at he;obtain⟨rfl,rfl⟩:=he;exact⟨A,S,hF,rfl,h,af,ag,aJ,a_,bC,rfl,rfl,λ_ h=>h⟩
 |(k,a)::ps,(c7,v)::vs,os,s,S,eS,A,hF,h,aw,af,ag,aJ,a_,bC,ds,s1,he=>by
  obtain⟨rfl,jM,pw,yr⟩:=aw;simp only[kU]at he;split at he
  .rename_i d ys off n z aZ hc b3;have key:∀d:I,(∀aG,d≠.tuple aG)->cV s (lC os a)=some (d,ys)->(if d.wd=n/\z.wd=n/\I.dO (eS.take k)=off then kU place ys (eS.set k d) (os++[(lC os a).owner]) ps else none)=some (ds,s1)->
     ∃mW ck gX,Instr.fill place A ((k,v)::vs)=some mW/\bK w0 F0 X F ck s1 aF w/\bh w F ds mW.toList gX/\(∀b,gX b->b<w.heap.size)/\(∀b,gX b->¬F b)/\(∀u b,gX b->¬ck u b)/\
     (∀b,gX b->X b\/w0.heap.size<=b)/\ds.length=eS.length/\I.dO ds=I.dO eS/\(∀n,(∀d∈eS,d.wd=n)->∀d∈ds,d.wd=n):=by
    intro d rv aZ he;split at he
    .rename_i aC;obtain⟨sL,lT,KI⟩:=aC;obtain⟨ck,gO,aX,bk,Sn,ca,dr,er,hd,ja,mw,yp,A_⟩:=py h jM pw aZ;obtain⟨b1,fO,cd,Sx,hU,hX,g_,fp,fP,ha,e9,mu⟩:=bh.pick eS _ _ k z af b3;have pC:=yf bk rv;have KJ:=ay.length _ _ _ ca;have KK:=ay.length _ _ _ e9;have qC:=mu w d (ct v) Sn (λ_ _=>rfl) (λ_ _=>rfl) ca (λb SE SF=>by obtain⟨u,hu⟩:=yp b SE;exact a_ u b (fp b SF) hu);have KL:=KH (ct v) 0 off A b1 fO cd hX (by rw[g_,KI];rfl) (by rw[KK,KJ,sL,lT]);generalize yt:((ct v).zipIdx 0).foldl (λcs (x:Value×Nat)=>cs.setIfInBounds (off+x.2) x.1) A=A2 at KL;obtain⟨mW,dq,gX,fY,g6,jt,mS,nt,ry,rz,kl,EI,sM⟩:=EH (place:=place) ps vs (os++[(lC os a).owner]) ys ck (eS.set k d) A2 (λb=>Sx b\/Sn b) gO (by have:=oR.cp A_ _ _ yr;simpa [lC,foldl_append,Function.comp_def]using this) (by rw[KL];exact qC)
      (by rintro b (U|U);exact ag b (fp b U);exact dr b U) (by rintro b (U|U);exact aJ b (fp b U);exact er b U)
      (by rintro u b (U|U);exact λhu=>a_ u b (fp b U) (mw u b hu);exact hd u b U) (by rintro b (U|U);exact bC b (fp b U);exact ja b U) ds s1 he
     refine⟨mW,dq,gX,?_,g6,jt,mS,nt,ry,rz,by rw[kl];simp,by rw[EI];exact DW _ _ _ _ b3 (by rw[sL,lT]),?_⟩
     .have EJ:off+n<=A.size:=by
       have:A.size=A.toList.length:=by simp
       rw[this,hX];simp[g_,KI,KK,lT]
      simp only[Instr.fill,hc,pC,List.size_toArray,KJ,sL];have lx:¬(n≠n\/A.size<off+n):=by omega
      have SG:(ct v).toArray.zipIdx.foldl (λcs (x:Value×Nat)=>cs.setIfInBounds (off+x.2) x.1) A=A2:=by
       rw[<-yt,<-Array.foldl_toList];simp
      simp only[ne_eq,not_true_eq_false,decide_false,Bool.false_or,decide_eq_true_eq,gt_iff_lt];rw[if_neg (by simp;omega)];rw[show(ct v).toArray.zipIdx.foldl (λcs x=>match x with|(c,az)=>cs.setIfInBounds (off+az) c) A=A2 from SG];exact fY
     .intro SH yu;refine sM SH (DX yu ?_);rw[sL,<-lT];exact yu z (mem_of_getElem? b3)
    .cases he
   split at he
   .cases he
   .rename_i rv;exact key _ (λaG e=>rv aG e) aZ he
  .cases he
 |[],_::_,_,_,_,_,_,_,_,aw,_,_,_,_,_,_,_,_=>aw.elim
 |_::_,[],_,_,_,_,_,_,_,aw,_,_,_,_,_,_,_,_=>aw.elim
def d_ (C:bV) (s:ao) (T:TypeId) (ps:ahH):Option (I×ao):=
 match(C.T T).k,(C.T T).zero with
 | .struct aG,.agg eS=>if(flat (.agg eS)).isSome=true/\(∀f∈aG,(C.T f.1).ok=true)then
   (match kU (λk=>(aG[k]?).map λf=>(f.2,(C.T f.1).sz)) s eS [] ps with
   |some (ds,s1)=>some (.agg ds,s1)
   |none=>none)else none
 |_,_=>none
def c5 (C:bV) (s:ao) (T:TypeId) (n:Nat) (ps:ahH):Option (I×ao):=
 match(C.T T).k with
 | .slice e=>if(C.T e).ok=true/\(C.T e).zero.wd=(C.T e).sz/\(flat (C.T e).zero).isSome=true/\(C.T e).sz≠0/\n*(C.T e).sz<=16777216 then
   (match kU (λk=>some (k*(C.T e).sz,(C.T e).sz)) s (replicate n (C.T e).zero) [] ps with
   |some (ds,s1)=>some (.ad (C.T e).sz ds,s1)
   |none=>none)else none
 |_=>none
theorem SI (bx:C.eN):∀(gs:List Field),(∀g∈gs,(C.T g.type).ok=true)->
  gs.mapM (λf=>(C.P.info? f.type).map λi=>(f.offset,i.size))=some (gs.map λg=>(g.offset,(C.T g.type).sz)):=by
 intro gs;induction gs with
 |nil=>intro _;simp
 |cons g gs ih=>
  intro bP;obtain⟨i,d,z,f1,f2,f3,f4,f5,f6,f7⟩:=bx.info (bP g (by simp));have:=ih (λg hY=>bP g (by simp[hY]));simp[mapM_cons,f1,f2,this]
theorem SJ (bx:C.eN) (h:bK w0 F0 X F S s aF w) {T:TypeId} {ps:ahH} {vs:List (Nat×Value)} (aw:oR w F s aF ps vs) (he:d_ C s T ps=some (av,s1)):
  Good C w0 F0 X aF w (Instr.build T vs.toArray) av s1:=by
 unfold d_ at he;split at he
 .rename_i aG eS au b3;split at he
  .rename_i aC;obtain⟨rH,EK⟩:=aC;split at he
   .rename_i ds s2 jK;simp only[Option.some.injEq,Prod.mk.injEq]at he;obtain⟨rfl,rfl⟩:=he;obtain⟨i,d,z,a1,bc,bb,cl,cR,b0,b7⟩:=bx.info (gi au (by simp));rw[au]at b7;obtain⟨gs,rfl,KM⟩:=yc b7;obtain⟨fs,nu⟩:=Option.isSome_iff_exists.1 rH;have rI:=cR fs (by rw[b3];exact nu);have gR:bh w F eS fs.toArray.toList (λ_=>False):=by
     have:=(ay.flat (w:=w) (F:=F) _).1 (.agg eS) fs (λ_=>False) (Nat.le_refl _) nu;rw[ay]at this;simpa using this
    have dT:oR w F s aF (ps.map λp=>(p.1,lC [] p.2)) vs:=by simpa [lC]using aw
    obtain⟨mW,ck,gX,fY,g6,jt,mS,nt,ry,rz,kl,EI,sM⟩:=EH ps vs [] s S eS fs.toArray (λ_=>False) h dT gR (λ_ h=>h.elim) (λ_ h=>h.elim) (λ_ _ h=>h.elim) (λ_ h=>h.elim) ds s2 jK;have hc:=SI bx gs.toList (λg bP=>EK (g.type,g.offset) (by rw[<-KM];exact List.mem_map_of_mem bP));have SK:(λ(k:Nat)=>(aG[k]?).map λ(f:TypeId×Nat)=>(f.2,(C.T f.1).sz))=λ(k:Nat)=>((gs.toList.map λg=>(g.offset,(C.T g.type).sz)).toArray)[k]? :=by
     funext k;rw[<-KM];simp only[getElem?_map,getElem?_toArray,Option.map_map];rfl
    rw[SK]at fY;refine⟨.agg mW,w,F,ck,run_build w T vs.toArray mW ?_,g6,.inr ⟨rfl,⟨_,rfl⟩,gX,by simp only[ct,iy];rw[ay];exact jt,mS,nt,ry,rz⟩⟩;unfold Program.built;simp only[a1,b0,cl,hc,rI];exact fY
   .cases he
  .cases he
 .cases he
theorem SL (bx:C.eN) (h:bK w0 F0 X F S s aF w) {T:TypeId} {n:Nat} {ps:ahH} {vs:List (Nat×Value)} (aw:oR w F s aF ps vs) (he:c5 C s T n ps=some (av,s1)):
  Good C w0 F0 X aF w (Instr.buildSlice T n vs.toArray) av s1:=by
 unfold c5 at he;split at he
 .rename_i e au;split at he
  .rename_i aC;obtain⟨pH,qH,rH,dR,age⟩:=aC;split at he
   .rename_i ds s2 jK;simp only[Option.some.injEq,Prod.mk.injEq]at he;obtain⟨rfl,rfl⟩:=he;obtain⟨Ey,d,Ez,a1,bc,bb,cl,cR,b0,b7⟩:=bx.info (gi au (by simp));rw[au]at b7;have:=lS b7;subst this;obtain⟨i,EA,z,f1,f2,f3,f4,f5,f6,f7⟩:=bx.info pH;obtain⟨fs,nu⟩:=Option.isSome_iff_exists.1 rH;have rI:=f5 fs nu;have gR:∀aS,ay w F (C.T e).zero fs aS:=λaS=>(ay.flat _).1 _ fs aS (Nat.le_refl _) nu;have pJ:fs.length=(C.T e).sz:=by rw[ay.length _ _ _ (gR (λ_=>False)),qH]
    generalize hX:((Array.range (n*(C.T e).sz)).map ((if n*(C.T e).sz=0 then #[]else fs.toArray)[·%(if n*(C.T e).sz=0 then(#[]:Array Value)else fs.toArray).size]!))=A;have EJ:A.toList=(replicate n fs).flatten:=by
     rw[<-hX];by_cases bA:n*(C.T e).sz=0
     .have:n=0:=by
       rcases mul_eq_zero.1 bA with h|h
       .exact h
       .exact(dR h).elim
      subst this;simp
     .simp only[bA,if_false];have:=Be fs n;rw[pJ]at this;simpa [pJ]using this
    have dT:oR w F s aF (ps.map λp=>(p.1,lC [] p.2)) vs:=by simpa [lC]using aw
    obtain⟨mW,ck,gX,fY,g6,jt,mS,nt,ry,rz,kl,EI,sM⟩:=EH ps vs [] s S (replicate n (C.T e).zero) A (λ_=>False) h dT (by rw[EJ];exact bh.replicate gR n _) (λ_ h=>h.elim) (λ_ h=>h.elim) (λ_ _ h=>h.elim) (λ_ h=>h.elim) ds s2 jK;have hlen:ds.length=n:=by rw[kl];simp
    have KN:=sM (C.T e).sz (by intro d al;rw[eq_of_mem_replicate al];exact qH);have SM:mW.toList.length=n*(C.T e).sz:=by rw[bh.uk jt KN,hlen]
    have SN:mW.size=n*(C.T e).sz:=by rw[<-SM];simp
    have agf:n<=16777216:=by
     have:n*1<=n*(C.T e).sz:=mul_le_mul_left _ (by omega);omega
    have lB:=g6.yk (aK:=w.alloc (.cells mW e)) (sz:=(C.T e).sz) (cap:=n) (xs:=ds) (cur:=mW) (e:=e) (fr:=(0,0)) (Sn:=gX) rfl rfl rfl ⟨rfl,λ_=>Nat.le_refl _⟩
     (λo _ ⟨_,ag⟩=>absurd ag (not_lt_zero _)) (by omega) (by unfold maxLen;omega) SN KN (by rw[hlen,take_of_length_le (by omega)];exact jt) mS nt ry rz
    rw[hlen]at lB;refine⟨_,_,F,ck,?_,lB.1,lB.2⟩;by_cases bA:n*(C.T e).sz=0
    .simp only[bA,if_true]at hX;have vT:(Array.map (λ_=>(default:Value)) (Array.range 0))=A:=by
      have:n=0:=by
       rcases mul_eq_zero.1 bA with h|h
       .exact h
       .exact(dR h).elim
      apply Array.ext';rw[EJ,this];simp
     simp[Instr.buildSlice,run_underlying b0,kS f1,f2,bA,newRow];rw[vT,fY];simp
    .simp only[bA,if_false]at hX;have lx:¬(16777216<n*(C.T e).sz):=by omega
     simp[Instr.buildSlice,run_underlying b0,kS f1,f2,bA,lx,ua f1 f4,rI,newRow];have vT:(Array.map (λx=>fs[x%fs.length]?.getD default) (Array.range (n*(C.T e).sz)))=A:=by
      rw[<-hX];simp
     rw[vT,fY];simp
   .cases he
  .cases he
 .cases he
end
inductive dU where
 |gI (x:bn)
 |lW (x:bn)
 |pick (c a b:bn)
 |mT (T:TypeId)
 |g7 (T:TypeId) (x:bn)
 |d_ (T:TypeId) (ps:List (Nat×bn))
 |c5 (T:TypeId) (n:Nat) (ps:List (Nat×bn))
 |e_ (T:TypeId) (x:bn)
 |kT (T:TypeId) (x y:bn)
 |jL (x:bn)
 |fa (op:BinOp) (T:TypeId) (x y:bn)
 |un (op:UnOp) (x:bn)
 |jv (A B:TypeId) (x:bn)
 |mV (f:FuncId) (cs:List bn)
 |eu (T:TypeId) (l c:bn)
 |fW (T:TypeId) (x:bn) (e5 aq:Option bn)
 |gZ (T:TypeId) (x:bn) (k:Nat)
 |jr (T:TypeId) (x i:bn)
 |idx (T:TypeId) (x i:bn)
 |ex (x:bn) (k:Nat)
 |hf (T:TypeId) (x:bn) (k:Nat)
 |call (f:bn) (args:List bn)
 |len (T:TypeId) (x:bn)
 |app (T cb:TypeId) (x y:bn)
 |shr (bE:dU)
 |iE (T cb:TypeId) (x y:bn)
 |cap (T:TypeId) (x:bn)
 |jw (e2:Bool) (x y:bn)
 |bad
 |lX (f:bn) (args:List bn) (us:ahC)
 |h8 (T:TypeId) (x:bn)
 |mX (x:bn)
 |my (x:bn)
 |yv
 |oP (T:TypeId) (x i:bn)
 |nv (T:TypeId) (x i v:bn)
def dU.base:dU->dU
 | .shr bE=>bE
 | .iE T cb x y=>.app T cb x y
 | .lX f args _=>.call f args
 | .h8 T x=>.g7 T x
 | .mX x=>.lW x
 | .my x=>.gI x
 |bE=>bE
def vU:List Operand->Option (List bn)
 |[]=>some []
 |o::os=>match dE o,vU os with
  |some x,some xs=>some (x::xs)
  |_,_=>none
def vV:List (Nat×Operand)->Option (List (Nat×bn))
 |[]=>some []
 |(k,o)::os=>match dE o,vV os with
  |some x,some xs=>some ((k,x)::xs)
  |_,_=>none
def yw:Option Operand->Option (Option bn)
 |none=>some none
 |some o=>(dE o).map some
def c2:Op->Option dU
 | .move x=>(dE x).map .gI
 | .assign x=>(dE x).map .lW
 | .pick c a b=>match dE c,dE a,dE b with
   |some c,some a,some b=>some (.pick c a b)
   |_,_,_=>none
 | .alloc T=>some (.mT T)
 | .box T x=>(dE x).map (.g7 T)
 | .build T ps=>(vV ps.toList).map (.d_ T)
 | .buildSlice T n ps=>(vV ps.toList).map (.c5 T n)
 | .load T x=>(dE x).map (.e_ T)
 | .store T x y=>match dE x,dE y with
   |some x,some y=>some (.kT T x y)
   |_,_=>none
 | .nilCheck x=>(dE x).map .jL
 | .binOp op T x y _=>match dE x,dE y with
   |some x,some y=>some (.fa op T x y)
   |_,_=>none
 | .unOp op _ x=>(dE x).map (.un op)
 | .convert A B x=>(dE x).map (.jv A B)
 | .makeFunc (.func f) first cs=>if first.isEmpty then(vU cs.toList).map (.mV f)else none
 | .makeSlice T l c=>match dE l,dE c with
   |some l,some c=>some (.eu T l c)
   |_,_=>none
 | .slice T x e5 aq none=>match dE x,yw e5,yw aq with
   |some x,some e5,some aq=>some (.fW T x e5 aq)
   |_,_,_=>none
 | .fieldAddr T x k=>(dE x).map λx=>.gZ T x k
 | .indexAddr T x i=>match dE x,dE i with
   |some x,some i=>some (.jr T x i)
   |_,_=>none
 | .index T x i=>match dE x,dE i with
   |some x,some i=>some (.idx T x i)
   |_,_=>none
 | .extract x k=>(dE x).map λx=>.ex x k
 | .field T x k=>(dE x).map λx=>.hf T x k
 | .makeMap _ none=>some .yv
 | .lookup T x i false=>match dE x,dE i with
   |some x,some i=>some (.oP T x i)
   |_,_=>none
 | .mapUpdate T x i v=>match dE x,dE i,dE v with
   |some x,some i,some v=>some (.nv T x i v)
   |_,_,_=>none
 | .call c=>match c.callee with
   | .value f=>match dE f,vU c.args.toList with
     |some f,some xs=>some (.call f xs)
     |_,_=>none
   | .builtin .len=>match c.args.toList,c.argTypes.toList with
     |[x],[T]=>(dE x).map (.len T)
     |_,_=>none
   | .builtin .cap=>match c.args.toList,c.argTypes.toList with
     |[x],[T]=>(dE x).map (.cap T)
     |_,_=>none
   | .builtin .min=>match c.args.toList with
     |[x,y]=>match dE x,dE y with
      |some x,some y=>some (.jw false x y)
      |_,_=>none
     |_=>none
   | .builtin .max=>match c.args.toList with
     |[x,y]=>match dE x,dE y with
      |some x,some y=>some (.jw true x y)
      |_,_=>none
     |_=>none
   | .builtin .append=>match c.args.toList,c.argTypes.toList with
     |[x,y],[T,cb]=>match dE x,dE y with
      |some x,some y=>some (.app T cb x y)
      |_,_=>none
     |_,_=>none
   |_=>none
 |_=>none
def jw (e2:Bool):I->I->Option I
 | .str a,.str b=>some (.str (g4 e2 a b))
 | .int k a,.int c7 b=>if k=c7 then some (.int k (DS e2 a b))else none
 |_,_=>none
def qJ (s:ao):I->Option (I×ao)
 | .h y q=>cV s (.h y q)
 |d=>some (d,s)
def bL (C:bV) (s:ao):dU->Option (I×ao)
 | .gI x=>some (br s x,s)
 | .lW x=>match br s x with
   | .h y q=>cV s (.h y q)
   |d=>some (d,s)
 | .pick c a b=>match br s c with
   | .bool ee=>some (if ee then br s a else br s b,s)
   |_=>none
 | .mT T=>(mT C T).map λd=>(d,s)
 | .g7 _ x=>g7 s (br s x)
 | .d_ T ps=>d_ C s T (ps.map λp=>(p.1,br s p.2))
 | .c5 T n ps=>c5 C s T n (ps.map λp=>(p.1,br s p.2))
 | .e_ T x=>(e_ C s T (br s x)).map λd=>(d,s)
 | .kT T x y=>(kT C s T (br s x) (br s y)).map λs1=>(.hole,s1)
 | .jL x=>(jL s (br s x)).map λd=>(d,s)
 | .fa op T x y=>(fa C s op T (br s x) (br s y)).map λd=>(d,s)
 | .un op x=>(un op (br s x)).map λd=>(d,s)
 | .jv A B x=>(jv C s A B (br s x)).map λd=>(d,s)
 | .mV f cs=>some (.fn f (cs.map (br s)),s)
 | .eu T l c=>(eu C T (br s l) (br s c)).map λd=>(d,s)
 | .fW T x e5 aq=>fW C s T (br s x) (e5.map (br s)) (aq.map (br s))
 | .gZ T x k=>(gZ C s T (br s x) k).map λd=>(d,s)
 | .jr T x i=>(jr C s T (br s x) (br s i)).map λd=>(d,s)
 | .idx T x i=>(idx C T (br s x) (br s i)).map λd=>(d,s)
 | .ex x k=>(ex s (br s x) k).map λd=>(d,s)
 | .hf T x k=>(hf C s T (br s x) k).bind (qJ s)
 | .call _ _=>none
 | .len T x=>(rD C s T (br s x)).map λd=>(d,s)
 | .app T cb x y=>rG C s T cb (br s x) (br s y)
 | .shr _=>none
 | .lX _ _ _=>none
 | .h8 _ x=>h8 s (br s x)
 | .mX x=>some (br s x,s)
 | .my x=>qJ s (br s x)
 | .yv=>some (.dN (.mp []),s)
 | .oP T x i=>(oP C s T (br s x) (br s i)).map λd=>(d,s)
 | .nv T x i v=>(nv C s T (br s x) (br s i) (br s v)).map λs1=>(.hole,s1)
 | .iE T cb x y=>(iE C T cb (br s x) (br s y)).map λd=>(d,s)
 | .cap T x=>match(C.T T).k,br s x with
   | .slice _,.ah=>some (.int .i64 0,s)
   |_,_=>none
 | .jw e2 x y=>(jw e2 (br s x) (br s y)).map λd=>(d,s)
 | .bad=>none
section
variable {C:bV} {w0 w:World} {F0 X F:Nat->Prop} {S:Nat->Nat->Prop} {s s1:ao} {a:Act} {av:I}
theorem uq:∀{os:List Operand} {xs:List bn},vU os=some xs->os.map dE=xs.map some
 |[],xs,h=>by simp[vU]at h;subst h;rfl
 |o::os,xs,h=>by
  simp only[vU]at h;split at h
  .rename_i x SO af ag;simp at h;subst h;simp[af,uq ag]
  .cases h
theorem EL {aF:Nat->Value} (h:bK w0 F0 X F S s aF w) (ea:∀t,aF t=a.tmps.getD t undef):∀{ps:List (Nat×Operand)} {xs:List (Nat×bn)},vV ps=some xs->
  oR w F s aF (xs.map λp=>(p.1,br s p.2)) (ps.map λp=>(p.1,a.eval p.2))
 |[],xs,h=>by simp[vV]at h;subst h;trivial
 |(k,o)::ps,xs,bO=>by
  simp only[vV]at bO;split at bO
  .rename_i x SO af ag;simp at bO;subst bO;obtain⟨aX,bk⟩:=fA h ea af;exact⟨rfl,aX,bk,EL h ea ag⟩
  .cases bO
def Next (C:bV) (w0:World) (F0 X:Nat->Prop) (aF:Nat->Value) (w:World) (m:Sem Go.Next) (av:I) (s1:ao):Prop:=
 ∃r aK v bJ aS,m.run C.P w= .ok r aK/\(r= .value v\/r= .skip/\v=undef)/\bK w0 F0 X bJ aS s1 aF aK/\lz w0 X bJ aS s1 aF aK av v
theorem Good.next {aF:Nat->Value} {m:Sem Value} (h:Good C w0 F0 X aF w m av s1):Next C w0 F0 X aF w (do pure (.value (<-m))) av s1:=by
 obtain⟨v,aK,bJ,aS,af,ag,aJ⟩:=h;exact⟨.value v,aK,v,bJ,aS,by simp[af],.inl rfl,ag,aJ⟩
theorem KO {aF:Nat->Value} (h:bK w0 F0 X F S s aF w) {e2:Bool} {x y:I} {ff gP:Value} {m:Sem Go.Next} (af:aO w F s aF x ff (λ_=>False)) (ag:aO w F s aF y gP (λ_=>False))
  (he:(jw e2 x y).map (λd=>(d,s))=some (av,s1)) (hm:m=(do pure (.value (<-if e2 then Builtin.max2 ff gP else Builtin.min2 ff gP)))):Next C w0 F0 X aF w m av s1:=by
 simp only[Option.map_eq_some_iff,Prod.mk.injEq]at he;obtain⟨d,al,rfl,rfl⟩:=he;unfold jw at al;split at al
 .rename_i a b;simp only[Option.some.injEq]at al;subst al;have a1:=oI af;have bc:=oI ag;subst a1 bc;subst hm;refine⟨.value (.string ⟨⟨g4 e2 a b⟩⟩),w,_,F,S,?_,.inl rfl,h,.inl ⟨rfl,pE _⟩⟩;cases e2
  .simp only[Builtin.min2,Op.stringOp,yg,g4,Bool.false_eq_true,if_false];cases U:(Op.bytesLess a b||a==b)<;>simp[asBool]
  .simp only[Builtin.max2,Op.stringOp,yg,g4,if_true];cases U:Op.bytesLess a b<;>simp[asBool]
 .rename_i k a c7 b;split at al
  .rename_i au;subst au;simp only[Option.some.injEq]at al;subst al;have a1:=pD af;have bc:=pD ag;subst a1 bc;subst hm;refine⟨.value (.int k (DS e2 a b)),w,_,F,S,?_,.inl rfl,h,.inl ⟨rfl,of_int _ _⟩⟩;cases e2<;>simp[Builtin.min2,Builtin.max2,DS]
  .cases al
 .cases al
theorem KP (bx:C.eN) {aF:Nat->Value} (h:bK w0 F0 X F S s aF w) (ea:∀t,aF t=a.tmps.getD t undef) {o:Oper} {bE:dU} (ae:c2 o.op=some bE) (he:bL C s bE=some (av,s1)):
  Next C w0 F0 X aF w (execOp a.eval o) av s1:=by
 obtain⟨dst,op,ty,pos,after,guard⟩:=o;simp only at ae;cases op with
 |move x=>
  simp only[c2,Option.map_eq_some_iff]at ae;obtain⟨cL,aA,rfl⟩:=ae;obtain⟨aX,bk⟩:=fA h ea aA;simp only[bL,Option.some.injEq,Prod.mk.injEq]at he;obtain⟨rfl,rfl⟩:=he;exact⟨_,w,_,F,S,rfl,.inl rfl,h,.inl ⟨aX,bk⟩⟩
 |assign x=>
  simp only[c2,Option.map_eq_some_iff]at ae;obtain⟨cL,aA,rfl⟩:=ae;obtain⟨aX,bk⟩:=fA h ea aA;simp only[bL]at he;split at he
  .rename_i y q bu;rw[bu]at aX bk;obtain⟨ck,k0,cv,cK,Sn,eJ,cU,fq,dW,jc,_⟩:=py h aX bk he;exact⟨_,w,_,F,ck,rfl,.inl rfl,k0,.inr ⟨cv,cK,Sn,eJ,cU,fq,dW,jc⟩⟩
  .simp only[Option.some.injEq,Prod.mk.injEq]at he;obtain⟨rfl,rfl⟩:=he;exact⟨_,w,_,F,S,rfl,.inl rfl,h,.inl ⟨aX,bk⟩⟩
 |pick c x y=>
  simp only[c2]at ae;split at ae
  .rename_i Bh cL ly aC aA bu;simp only[Option.some.injEq]at ae;subst ae;simp only[bL]at he;split at he
   .rename_i b U;simp only[Option.some.injEq,Prod.mk.injEq]at he;obtain⟨rfl,rfl⟩:=he;have uo:=(fA h ea aC).2;rw[U]at uo;have uo:=sE uo;obtain⟨aa,ak⟩:=fA h ea aA;obtain⟨fg,gd⟩:=fA h ea bu;refine⟨.value (if b then a.eval x else a.eval y),w,_,F,S,?_,.inl rfl,h,.inl ?_⟩
    .simp[execOp,uo,asBool]
    .cases b
     .exact⟨fg,gd⟩
     .exact⟨aa,ak⟩
   .cases he
  .cases ae
 |alloc T=>
  simp only[c2,Option.some.injEq]at ae;subst ae;simp only[bL,Option.map_eq_some_iff,Prod.mk.injEq]at he;obtain⟨d,al,rfl,rfl⟩:=he;exact(RJ bx h al).next
 |box T x=>
  simp only[c2,Option.map_eq_some_iff]at ae;obtain⟨cL,aA,rfl⟩:=ae;obtain⟨aX,bk⟩:=fA h ea aA;exact(RN h aX bk he).next
 |build T ps=>
  simp only[c2,Option.map_eq_some_iff]at ae;obtain⟨SP,aw,rfl⟩:=ae;obtain⟨ps⟩:=ps;have:=(SJ bx h (EL h ea aw) he).next;simpa [execOp]using this
 |buildSlice T n ps=>
  simp only[c2,Option.map_eq_some_iff]at ae;obtain⟨SP,aw,rfl⟩:=ae;obtain⟨ps⟩:=ps;have:=(SL bx h (EL h ea aw) he).next;simpa [execOp]using this
 |load T x=>
  simp only[c2,Option.map_eq_some_iff]at ae;obtain⟨cL,aA,rfl⟩:=ae;obtain⟨aX,bk⟩:=fA h ea aA;simp only[bL,Option.map_eq_some_iff,Prod.mk.injEq]at he;obtain⟨d,al,rfl,rfl⟩:=he;exact(RD bx h bk al).next
 |store T x y=>
  simp only[c2]at ae;split at ae
  .rename_i cL ly aA bu;simp only[Option.some.injEq]at ae;subst ae;simp only[bL,Option.map_eq_some_iff,Prod.mk.injEq]at he;obtain⟨s2,al,rfl,rfl⟩:=he;obtain⟨aK,aS,af,ag⟩:=RH bx h (fA h ea aA).2 (fA h ea bu).1 (fA h ea bu).2 al;exact⟨.skip,aK,undef,F,aS,by simp[execOp,af],.inr ⟨rfl,rfl⟩,ag,.inl ⟨rfl,by rw[aO];trivial⟩⟩
  .cases ae
 |nilCheck x=>
  simp only[c2,Option.map_eq_some_iff]at ae;obtain⟨cL,aA,rfl⟩:=ae;obtain⟨aX,bk⟩:=fA h ea aA;simp only[bL,Option.map_eq_some_iff,Prod.mk.injEq]at he;obtain⟨d,al,rfl,rfl⟩:=he;obtain⟨rfl,aw,aP⟩:=R0 h bk al;refine⟨.value (a.eval x),w,_,F,S,?_,.inl rfl,h,.inl ⟨aw,bk⟩⟩;rcases aP with⟨b,U⟩|⟨f,c,U⟩<;>simp[execOp,U]
 |binOp op T x y agh=>
  simp only[c2]at ae;split at ae
  .rename_i cL ly aA bu;simp only[Option.some.injEq]at ae;subst ae;simp only[bL,Option.map_eq_some_iff,Prod.mk.injEq]at he;obtain⟨d,al,rfl,rfl⟩:=he;exact(RX bx h x y (fA h ea aA).2 (fA h ea bu).2 al).next
  .cases ae
 |unOp op T x=>
  simp only[c2,Option.map_eq_some_iff]at ae;obtain⟨cL,aA,rfl⟩:=ae;simp only[bL,Option.map_eq_some_iff,Prod.mk.injEq]at he;obtain⟨d,al,rfl,rfl⟩:=he;exact(RY h (fA h ea aA).2 al).next
 |convert A B x=>
  simp only[c2,Option.map_eq_some_iff]at ae;obtain⟨cL,aA,rfl⟩:=ae;simp only[bL,Option.map_eq_some_iff,Prod.mk.injEq]at he;obtain⟨d,al,rfl,rfl⟩:=he;exact(R9 bx h (fA h ea aA).2 al).next
 |makeFunc fn first cs=>
  cases fn with
  |func f=>
   simp only[c2]at ae;split at ae
   .rename_i SQ;simp only[Option.map_eq_some_iff]at ae;obtain⟨sN,iP,rfl⟩:=ae;simp only[bL,Option.some.injEq,Prod.mk.injEq]at he;obtain⟨rfl,rfl⟩:=he;have SR:first= #[]:=by simpa using SQ
    subst SR;refine⟨_,w,_,F,S,rfl,.inl rfl,h,.inl ⟨rfl,?_⟩⟩;rw[aO];refine⟨cs.map a.eval,by simp,?_⟩;simpa using Bg h ea _ _ (uq iP)
   .cases ae
  |_=>simp[c2]at ae
 |makeSlice T l c=>
  simp only[c2]at ae;split at ae
  .rename_i cL ly aA bu;simp only[Option.some.injEq]at ae;subst ae;simp only[bL,Option.map_eq_some_iff,Prod.mk.injEq]at he;obtain⟨d,al,rfl,rfl⟩:=he;exact(Sz bx h (fA h ea aA).2 (fA h ea bu).2 al).next
  .cases ae
 |slice T x e5 aq e2=>
  cases e2 with
  |some m=>simp[c2]at ae
  |none=>
   simp only[c2]at ae;split at ae
   .rename_i cL agi KQ aA oK oL;simp only[Option.some.injEq]at ae;subst ae;obtain⟨aX,bk⟩:=fA h ea aA;have opt:∀{o:Option Operand} {nw:Option bn},yw o=some nw->rE w F s aF (nw.map (br s)) (o.map a.eval):=by
     intro o nw b_;cases o with
     |none=>simp[yw]at b_;subst b_;trivial
     |some o=>
      simp only[yw,Option.map_eq_some_iff]at b_;obtain⟨x,aA,rfl⟩:=b_;exact(fA h ea aA).2
    exact(Sb bx h aX bk (opt oK) (opt oL) he).next
   .cases ae
 |fieldAddr T x k=>
  simp only[c2,Option.map_eq_some_iff]at ae;obtain⟨cL,aA,rfl⟩:=ae;obtain⟨aX,bk⟩:=fA h ea aA;simp only[bL,Option.map_eq_some_iff,Prod.mk.injEq]at he;obtain⟨d,al,rfl,rfl⟩:=he;exact(Rx bx h aX bk al).next
 |indexAddr T x i=>
  simp only[c2]at ae;split at ae
  .rename_i cL ly aA bu;simp only[Option.some.injEq]at ae;subst ae;simp only[bL,Option.map_eq_some_iff,Prod.mk.injEq]at he;obtain⟨d,al,rfl,rfl⟩:=he;exact(Ry bx h (fA h ea aA).2 (fA h ea bu).2 al).next
  .cases ae
 |index T x i=>
  simp only[c2]at ae;split at ae
  .rename_i cL ly aA bu;simp only[Option.some.injEq]at ae;subst ae;simp only[bL,Option.map_eq_some_iff,Prod.mk.injEq]at he;obtain⟨d,al,rfl,rfl⟩:=he;exact(R6 bx h (fA h ea aA).2 (fA h ea bu).2 al).next
  .cases ae
 |makeMap t r=>
  cases r with
  |none=>
   simp only[c2,Option.some.injEq]at ae;subst ae;simp only[bL,Option.some.injEq,Prod.mk.injEq]at he;obtain⟨rfl,rfl⟩:=he;exact(Sy h t).next
  |some r=>simp[c2]at ae
 |lookup T x i c=>
  cases c with
  |true=>simp[c2]at ae
  |false=>
   simp only[c2]at ae;split at ae
   .rename_i cL rq aA aq;simp only[Option.some.injEq]at ae;subst ae;simp only[bL,Option.map_eq_some_iff,Prod.mk.injEq]at he;obtain⟨d,al,rfl,rfl⟩:=he;exact(Su bx h (fA h ea aA).2 (fA h ea aq).2 al).next
   .cases ae
 |mapUpdate T x i v=>
  simp only[c2]at ae;split at ae
  .rename_i cL rq e4 aA aq aP;simp only[Option.some.injEq]at ae;subst ae;simp only[bL,Option.map_eq_some_iff,Prod.mk.injEq]at he;obtain⟨s2,al,rfl,rfl⟩:=he;obtain⟨aK,aS,af,ag⟩:=Sv bx h (fA h ea aA).2 (fA h ea aq).2 (fA h ea aP).2 al;exact⟨.skip,aK,undef,F,aS,by simp[execOp,af],.inr ⟨rfl,rfl⟩,ag,.inl ⟨rfl,by rw[aO];trivial⟩⟩
  .cases ae
 |extract x k=>
  simp only[c2,Option.map_eq_some_iff]at ae;obtain⟨cL,aA,rfl⟩:=ae;simp only[bL,Option.map_eq_some_iff,Prod.mk.injEq]at he;obtain⟨d,al,rfl,rfl⟩:=he;exact(R3 h (fA h ea aA).2 al).next
 |field T x k=>
  simp only[c2,Option.map_eq_some_iff]at ae;obtain⟨cL,aA,rfl⟩:=ae;simp only[bL,Option.bind_eq_some_iff]at he;obtain⟨d,al,he⟩:=he;obtain⟨v,aK,bJ,aS,aV,fQ,pv⟩:=R4 bx h (fA h ea aA).2 al;unfold qJ at he;split at he
  .rename_i y q;have SS:aO aK bJ s aF (.h y q) v (λ_=>False):=by
    rcases pv with⟨_,bk⟩|⟨aX,_⟩
    .exact bk
    .cases aX
   obtain⟨ck,k0,cv,cK,Sn,eJ,cU,fq,dW,jc,_⟩:=py fQ rfl SS he;exact⟨.value v,aK,v,bJ,ck,by simp[execOp,aV],.inl rfl,k0,.inr ⟨cv,cK,Sn,eJ,cU,fq,dW,jc⟩⟩
  .simp only[Option.some.injEq,Prod.mk.injEq]at he;obtain⟨rfl,rfl⟩:=he;exact⟨.value v,aK,v,bJ,aS,by simp[execOp,aV],.inl rfl,fQ,pv⟩
 |call c=>
  obtain⟨callee,args,argTypes⟩:=c;simp only[c2]at ae;split at ae
  .split at ae
   .simp only[Option.some.injEq]at ae;subst ae;simp[bL]at he
   .cases ae
  .split at ae
   .rename_i x T nx ur;simp only[Option.map_eq_some_iff]at ae;obtain⟨cL,aA,rfl⟩:=ae;simp only[bL,Option.map_eq_some_iff,Prod.mk.injEq]at he;obtain⟨d,al,rfl,rfl⟩:=he;have:=(R7 (ty:=ty) bx h (fA h ea aA).2 al).next;have a1:args= #[x]:=by apply Array.ext';exact nx
    have bc:argTypes= #[T]:=by apply Array.ext';exact ur
    subst a1 bc;simpa [execOp,resolve,invoke,builtin]using this
   .cases ae
  .split at ae
   .rename_i x T nx ur;simp only[Option.map_eq_some_iff]at ae;obtain⟨cL,aA,rfl⟩:=ae;simp only[bL]at he;split at he
    .rename_i e au SU;simp only[Option.some.injEq,Prod.mk.injEq]at he;obtain⟨rfl,rfl⟩:=he;have aP:=(fA h ea aA).2;rw[SU]at aP;have:=rB aP;obtain⟨i,d,z,a1,bc,bb,cl,cR,b0,b7⟩:=bx.info (gi au (by simp));rw[au]at b7;have al:=lS b7;subst al;have SV:args= #[x]:=by apply Array.ext';exact nx
     have Bi:argTypes= #[T]:=by apply Array.ext';exact ur
     subst SV Bi;have aV:(Builtin.cap_ #[T] ty #[a.eval x]).run C.P w= .ok (.int .i64 0) w:=by
      rw[this];simp[Builtin.cap_,run_underlying b0,goInt]
     have:=(Good.same (av:=.int .i64 0) h aV rfl (of_int _ _)).next;simpa [execOp,resolve,invoke,builtin]using this
    .cases he
   .cases ae
  .split at ae
   .rename_i x y nx;split at ae
    .rename_i cL ly aA bu;simp only[Option.some.injEq]at ae;subst ae;have a1:args= #[x,y]:=by apply Array.ext';exact nx
     subst a1;exact KO h (fA h ea aA).2 (fA h ea bu).2 he (by simp[execOp,resolve,invoke,builtin,Builtin.min_])
    .cases ae
   .cases ae
  .split at ae
   .rename_i x y nx;split at ae
    .rename_i cL ly aA bu;simp only[Option.some.injEq]at ae;subst ae;have a1:args= #[x,y]:=by apply Array.ext';exact nx
     subst a1;exact KO h (fA h ea aA).2 (fA h ea bu).2 he (by simp[execOp,resolve,invoke,builtin,Builtin.max_])
    .cases ae
   .cases ae
  .split at ae
   .rename_i x y T cb nx ur;split at ae
    .rename_i cL ly aA bu;simp only[Option.some.injEq]at ae;subst ae;have:=(Sk (ty:=ty) bx h (fA h ea aA).2 (fA h ea bu).2 he).next;have a1:args= #[x,y]:=by apply Array.ext';exact nx
     have bc:argTypes= #[T,cb]:=by apply Array.ext';exact ur
     subst a1 bc;simpa [execOp,resolve,invoke,builtin]using this
    .cases ae
   .cases ae
  .cases ae
 |_=>simp[c2]at ae
end
mutual
def I.ae:I->ahC
 | .h x _=>[x]
 | .aw x _=>[x]
 | .U x _=>[x]
 | .fn _ cap=>I.dK cap
 |_=>[]
def I.dK:ahI->ahC
 |[]=>[]
 |d::ds=>d.ae++I.dK ds
end
inductive qK where
 |no
 |cp
 |cT
structure g0 where
 k:qK
 x:Nat
 d:I
def qK.app (k:qK) (x:Nat) (a:I):I:=match k with
 | .no=>a
 | .cp=>dD.cp x a
 | .cT=>dD.cT x a
def g0.at (m:g0) (u:Nat) (a:I):I:=if u=m.x then m.d else m.k.app m.x a
def ky:List g0->Nat->I->I
 |[],_,a=>a
 |m::ms,u,a=>ky ms u (m.at u a)
def dH (ms:List g0) (s:ao):ao:=λu=>ky ms u (s u)
theorem KR:∀(ms lD:List g0) (u:Nat) (a:I),ky (ms++lD) u a=ky lD u (ky ms u a)
 |[],_,_,_=>rfl
 |m::ms,lD,u,a=>by simp only[cons_append,ky];exact KR ms lD u _
theorem mY (ms lD:List g0) (s:ao):dH (ms++lD) s=dH lD (dH ms s):=by
 funext u;simp[dH,KR]
theorem SW {ms:List g0} {s aH:ao} {u:Nat} (h:aH u=s u):dH ms aH u=dH ms s u:=by simp[dH,h]
theorem uu (s:ao) (x:Nat) (d:I):cY (hV x s) x d=dH [⟨.cp,x,d⟩] s:=by
 funext u;simp only[dH,ky,g0.at,cY,hV,qK.app]
theorem KS (s:ao) (x:Nat) (d:I):cY (kR x s) x d=dH [⟨.cT,x,d⟩] s:=by
 funext u;simp only[dH,ky,g0.at,cY,kR,qK.app]
theorem KT (s:ao) (x:Nat) (d:I):cY s x d=dH [⟨.no,x,d⟩] s:=by
 funext u;simp only[dH,ky,g0.at,cY,qK.app]
mutual
theorem yx {x:Nat}:∀a:I,x∉a.ae->cp x a=a
 | .h y q,h=>by
   simp only[I.ae,mem_singleton]at h;simp only[cp];rw[if_neg (λe=>h e.symm)]
 | .aw y q,h=>by
   simp only[I.ae,mem_singleton]at h;simp only[cp];rw[if_neg (λe=>h e.symm)]
 | .U y q,h=>rfl
 | .fn f cap,h=>by simp only[cp];rw[KU cap (by simpa [I.ae]using h)]
 | .hole,_=>rfl
 | .bool _,_=>rfl
 | .fo,_=>rfl
 | .int _ _,_=>rfl
 | .str _,_=>rfl
 | .dM,_=>rfl
 | .ah,_=>rfl
 | .slice _,_=>rfl
 | .ad _ _,_=>rfl
 | .ref _,_=>rfl
 | .ai _,_=>rfl
 | .agg _,_=>rfl
 | .tuple _,_=>rfl
 | .dN _,_=>rfl
 | .eQ _ _,_=>rfl
 | .gC _,_=>rfl
theorem KU {x:Nat}:∀ds:ahI,x∉I.dK ds->i7 x ds=ds
 |[],_=>rfl
 |d::ds,h=>by
  simp only[I.dK,mem_append,not_or]at h;simp only[i7];rw[yx d h.1,KU ds h.2]
end
mutual
theorem EM {x:Nat}:∀a:I,x∉a.ae->cT x a=a
 | .h y q,h=>by
   simp only[I.ae,mem_singleton]at h;simp only[cT];rw[if_neg (λe=>h e.symm)]
 | .aw y q,h=>by
   simp only[I.ae,mem_singleton]at h;simp only[cT];rw[if_neg (λe=>h e.symm)]
 | .U y q,h=>by
   simp only[I.ae,mem_singleton]at h;simp only[cT];rw[if_neg (λe=>h e.symm)]
 | .fn f cap,h=>by simp only[cT];rw[KV cap (by simpa [I.ae]using h)]
 | .hole,_=>rfl
 | .bool _,_=>rfl
 | .fo,_=>rfl
 | .int _ _,_=>rfl
 | .str _,_=>rfl
 | .dM,_=>rfl
 | .ah,_=>rfl
 | .slice _,_=>rfl
 | .ad _ _,_=>rfl
 | .ref _,_=>rfl
 | .ai _,_=>rfl
 | .agg _,_=>rfl
 | .tuple _,_=>rfl
 | .dN _,_=>rfl
 | .eQ _ _,_=>rfl
 | .gC _,_=>rfl
theorem KV {x:Nat}:∀ds:ahI,x∉I.dK ds->jI x ds=ds
 |[],_=>rfl
 |d::ds,h=>by
  simp only[I.dK,mem_append,not_or]at h;simp only[jI];rw[EM d h.1,KV ds h.2]
end
theorem yy {k:qK} {x:Nat} {a:I} (h:k= .no\/x∉a.ae):k.app x a=a:=by
 cases k with
 |no=>rfl
 |cp=>exact yx a (by simpa using h)
 |cT=>exact EM a (by simpa using h)
mutual
theorem KW (x y:Nat):∀a:I,cp x (cp y a)=cp y (cp x a)
 | .h z q=>by simp only[cp];by_cases af:z=x<;>by_cases ag:z=y<;>by_cases aJ:q=[]<;>simp[af,ag,aJ,cp]<;>(subst_vars;simp_all [cp])
 | .aw z q=>by simp only[cp];by_cases af:z=x<;>by_cases ag:z=y<;>simp[af,ag,cp]<;>(subst_vars;simp_all [cp])
 | .U z q=>rfl
 | .fn f cap=>by simp only[cp];rw[KX x y cap]
 | .hole=>rfl
 | .bool _=>rfl
 | .fo=>rfl
 | .int _ _=>rfl
 | .str _=>rfl
 | .dM=>rfl
 | .ah=>rfl
 | .slice _=>rfl
 | .ad _ _=>rfl
 | .ref _=>rfl
 | .ai _=>rfl
 | .agg _=>rfl
 | .tuple _=>rfl
 | .dN _=>rfl
 | .eQ _ _=>rfl
 | .gC _=>rfl
theorem KX (x y:Nat):∀ds:ahI,i7 x (i7 y ds)=i7 y (i7 x ds)
 |[]=>rfl
 |d::ds=>by simp only[i7];rw[KW x y d,KX x y ds]
end
mutual
theorem KY (x y:Nat):∀a:I,cT x (cT y a)=cT y (cT x a)
 | .h z q=>by simp only[cT];by_cases af:z=x<;>by_cases ag:z=y<;>simp[af,ag,cT]<;>(subst_vars;simp_all [cT])
 | .aw z q=>by simp only[cT];by_cases af:z=x<;>by_cases ag:z=y<;>simp[af,ag,cT]<;>(subst_vars;simp_all [cT])
 | .U z q=>by simp only[cT];by_cases af:z=x<;>by_cases ag:z=y<;>simp[af,ag,cT]<;>(subst_vars;simp_all [cT])
 | .fn f cap=>by simp only[cT];rw[KZ x y cap]
 | .hole=>rfl
 | .bool _=>rfl
 | .fo=>rfl
 | .int _ _=>rfl
 | .str _=>rfl
 | .dM=>rfl
 | .ah=>rfl
 | .slice _=>rfl
 | .ad _ _=>rfl
 | .ref _=>rfl
 | .ai _=>rfl
 | .agg _=>rfl
 | .tuple _=>rfl
 | .dN _=>rfl
 | .eQ _ _=>rfl
 | .gC _=>rfl
theorem KZ (x y:Nat):∀ds:ahI,jI x (jI y ds)=jI y (jI x ds)
 |[]=>rfl
 |d::ds=>by simp only[jI];rw[KY x y d,KZ x y ds]
end
mutual
theorem EN (x y:Nat):∀a:I,cp x (cT y a)=cT y (cp x a)
 | .h z q=>by simp only[cT,cp];by_cases af:z=x<;>by_cases ag:z=y<;>by_cases aJ:q=[]<;>simp[af,ag,aJ,cT,cp]<;>(subst_vars;simp_all [cT,cp])
 | .aw z q=>by simp only[cT,cp];by_cases af:z=x<;>by_cases ag:z=y<;>simp[af,ag,cT,cp]<;>(subst_vars;simp_all [cT,cp])
 | .U z q=>by simp only[cT,cp];by_cases ag:z=y<;>simp[ag,cp]
 | .fn f cap=>by simp only[cT,cp];rw[K0 x y cap]
 | .hole=>rfl
 | .bool _=>rfl
 | .fo=>rfl
 | .int _ _=>rfl
 | .str _=>rfl
 | .dM=>rfl
 | .ah=>rfl
 | .slice _=>rfl
 | .ad _ _=>rfl
 | .ref _=>rfl
 | .ai _=>rfl
 | .agg _=>rfl
 | .tuple _=>rfl
 | .dN _=>rfl
 | .eQ _ _=>rfl
 | .gC _=>rfl
theorem K0 (x y:Nat):∀ds:ahI,i7 x (jI y ds)=jI y (i7 x ds)
 |[]=>rfl
 |d::ds=>by simp only[jI,i7];rw[EN x y d,K0 x y ds]
end
theorem SX (k l:qK) (x y:Nat) (a:I):k.app x (l.app y a)=l.app y (k.app x a):=by
 cases k<;>cases l<;>simp only[qK.app]<;>first|rfl|exact KW .. |exact KY .. |exact EN .. |exact(EN ..).symm
def bn.use (s:ao):bn->ahC
 | .t n=>n::(s n).ae
 | .c av=>av.ae
 | .f _=>[]
def bn.pM (s:ao):List bn->ahC
 |[]=>[]
 |x::xs=>x.use s++bn.pM s xs
def EO (s:ao):Option bn->ahC
 |none=>[]
 |some x=>x.use s
def use (s:ao):dU->ahC
 | .gI x=>x.use s
 | .lW x=>x.use s
 | .pick c a b=>c.use s++(a.use s++b.use s)
 | .mT _=>[]
 | .g7 _ x=>x.use s
 | .d_ _ ps=>bn.pM s (ps.map (·.2))
 | .c5 _ _ ps=>bn.pM s (ps.map (·.2))
 | .e_ _ x=>x.use s
 | .kT _ x y=>x.use s++y.use s
 | .jL x=>x.use s
 | .fa _ _ x y=>x.use s++y.use s
 | .un _ x=>x.use s
 | .jv _ _ x=>x.use s
 | .mV _ cs=>bn.pM s cs
 | .eu _ l c=>l.use s++c.use s
 | .fW _ x e5 aq=>x.use s++(EO s e5++EO s aq)
 | .gZ _ x _=>x.use s
 | .jr _ x i=>x.use s++i.use s
 | .idx _ x i=>x.use s++i.use s
 | .ex x _=>x.use s
 | .hf _ x _=>x.use s
 | .call f args=>f.use s++bn.pM s args
 | .len _ x=>x.use s
 | .app _ _ x y=>x.use s++y.use s
 | .shr bE=>use s bE
 | .lX f args us=>us.flatMap (λu=>u::(s u).ae)++(f.use s++bn.pM s args)
 | .h8 _ x=>x.use s
 | .mX x=>x.use s
 | .my x=>x.use s
 | .yv=>[]
 | .oP _ x i=>x.use s++i.use s
 | .nv _ x i v=>x.use s++(i.use s++v.use s)
 | .iE _ _ x y=>x.use s++y.use s
 | .cap _ x=>x.use s
 | .jw _ x y=>x.use s++y.use s
 | .bad=>[]
def km (s:ao):dU->ahC
 | .lW x=>(br s x).ae
 | .g7 _ x=>(br s x).ae
 | .d_ _ ps=>I.dK (ps.map λp=>br s p.2)
 | .c5 _ _ ps=>I.dK (ps.map λp=>br s p.2)
 | .kT _ x y=>(br s x).ae++(br s y).ae
 | .hf _ x _=>(br s x).ae
 | .my x=>(br s x).ae
 | .nv _ x _ _=>(br s x).ae
 | .fW _ x _ _=>(br s x).ae
 | .app _ _ x y=>(br s x).ae++(br s y).ae
 | .shr bE=>km s bE
 |_=>[]
def dC (cb:ahC) (aH s:ao):Prop:=∀u∈cb,aH u=s u
theorem dC.left {cb V:ahC} {aH s:ao} (h:dC (cb++V) aH s):dC cb aH s:=λu hu=>h u (mem_append_left _ hu)
theorem dC.right {cb V:ahC} {aH s:ao} (h:dC (cb++V) aH s):dC V aH s:=λu hu=>h u (mem_append_right _ hu)
theorem dC.dH {cb:ahC} {aH s:ao} (h:dC cb aH s) (ms:List g0):dC cb (dH ms aH) (dH ms s):=λu hu=>SW (h u hu)
theorem dC.sub {cb V:ahC} {aH s:ao} (h:dC cb aH s) (ae:∀u∈V,u∈cb):dC V aH s:=λu hu=>h u (ae u hu)
theorem bn.uv {s:ao} {x:bn}:∀u∈(br s x).ae,u∈x.use s:=by
 intro u hu;cases x with
 |t n=>
  simp only[br,qz]at hu;split at hu
  .simp[bn.use,hu]
  .simp only[I.ae,mem_singleton]at hu;simp[bn.use,hu]
 |c av=>exact hu
 |f g=>simp[br,I.ae,I.dK]at hu
theorem bn.fG {s aH:ao} {x:bn} (h:dC (x.use s) aH s):br aH x=br s x:=by
 cases x with
 |t n=>simp only[br];rw[h n (by simp[bn.use])]
 |c av=>rfl
 |f g=>rfl
theorem dC.br {s aH:ao} {x:bn} (h:dC (x.use s) aH s):dC (br s x).ae aH s:=h.sub bn.uv
theorem K1 {s aH:ao} {x:Option bn} (h:dC (EO s x) aH s):x.map (br aH)=x.map (br s):=by
 cases x with
 |none=>rfl
 |some x=>simp only[Option.map_some];rw[bn.fG h]
theorem bn.EP {s aH:ao}:∀{xs:List bn},dC (bn.pM s xs) aH s->xs.map (br aH)=xs.map (br s)
 |[],_=>rfl
 |x::xs,h=>by
  simp only[map_cons];rw[bn.fG (h.left),bn.EP (h.right)]
theorem bn.ER {s aH:ao}:∀{ps:List (Nat×bn)},dC (bn.pM s (ps.map (·.2))) aH s->(ps.map λp=>(p.1,br aH p.2))=ps.map λp=>(p.1,br s p.2)
 |[],_=>rfl
 |x::xs,h=>by
  simp only[map_cons]at h⊢;rw[bn.fG (h.left),bn.ER (h.right)]
theorem bn.Bj {s:ao}:∀{xs:List bn},∀u∈I.dK (xs.map (br s)),u∈bn.pM s xs
 |[],u,h=>by simp[I.dK]at h
 |x::xs,u,h=>by
  simp only[map_cons,I.dK,mem_append]at h;simp only[bn.pM,mem_append];exact h.imp (bn.uv u) (bn.Bj u)
section
variable {C:bV} {s aH:ao} {x y i:I} {T A B:TypeId}
theorem ES (h:dC x.ae aH s):loc aH x=loc s x:=by
 cases x<;>first
  |rfl
  |(simp only[loc];rw[h _ (by simp[I.ae])])
theorem ET {z:Nat} {q:ahC} (h:loc s x=some (z,q)):z∈x.ae:=by
 cases x with
 |h y p=>
  simp only[loc]at h;split at h
  .simp only[Option.some.injEq,Prod.mk.injEq]at h;simp[I.ae,h.1]
  .cases h
 |aw y p=>
  simp only[loc]at h;split at h
  .simp only[Option.some.injEq,Prod.mk.injEq]at h;simp[I.ae,h.1]
  .cases h
 |_=>simp[loc]at h
theorem SY (h:dC x.ae aH s):e_ C aH T x=e_ C s T x:=by
 have hl:=ES h;unfold e_;split
 .rfl
 .rw[h _ (by simp[I.ae])]
 .rw[hl];split
  .rename_i e;rw[h _ (ET e)]
  .rfl
theorem SZ {k:Nat} (h:dC x.ae aH s):gZ C aH T x k=gZ C s T x k:=by
 have hl:=ES h;unfold gZ;split
 .split
  .split
   .split
    .rfl
    .rw[h _ (by simp[I.ae])]
    .rw[hl];split
     .rename_i e;rw[h _ (ET e)]
     .rfl
   .rfl
  .rfl
 .rfl
theorem S0 (h:dC x.ae aH s):jr C aH T x i=jr C s T x i:=by
 cases x<;>first
  |rfl
  |(simp only[jr];rw[h _ (by simp[I.ae])])
theorem S1 (h:dC x.ae aH s):rD C aH T x=rD C s T x:=by
 unfold rD;cases(C.T T).k<;>cases x<;>first
  |rfl
  |(simp only;rw[h _ (by simp[I.ae])])
theorem S2 (h:dC x.ae aH s):jv C aH A B x=jv C s A B x:=by
 unfold jv;cases(C.T B).k<;>cases x<;>first
  |rfl
  |(simp only;rw[h _ (by simp[I.ae])])
theorem S3 (h:dC x.ae aH s):kj aH x=kj s x:=by
 cases x<;>first
  |rfl
  |(simp only[kj];rw[h _ (by simp[I.ae])])
theorem S4 (h:dC x.ae aH s):lU aH x=lU s x:=by
 cases x<;>first
  |rfl
  |(simp only[lU];rw[h _ (by simp[I.ae])])
theorem S5 {op:BinOp} (h:dC x.ae aH s):fa C aH op T x y=fa C s op T x y:=by
 have af:=S3 h;have ag:=S4 h;unfold fa;split<;>first|rfl|simp only[af,ag]
theorem S6 (h:dC x.ae aH s):jL aH x=jL s x:=by
 cases x<;>first
  |rfl
  |(simp only[jL];rw[h _ (by simp[I.ae])])
theorem S7 {k y:Nat} {q:ahC} (h:hf C s T x k=some (.h y q)):x.ae=[y]:=by
 unfold hf at h;split at h<;>try (cases h;done)
 split at h<;>try (cases h;done)
 split at h
 .split at h<;>try (cases h;done)
  split at h
  .rename_i aC;simp only[Option.some.injEq]at h;rw[h]at aC;exact absurd aC.2.2.2 (by simp[I.tree])
  .cases h
 .split at h<;>try (cases h;done)
  split at h<;>try (cases h;done)
  split at h<;>try (cases h;done)
  rename_i d al aC;by_cases aw:d.plain=true
  .simp only[aw,if_true,Option.some.injEq]at h;rw[h]at aC;exact absurd aC.2.2.2 (by simp[I.tree])
  .simp only[aw,Option.some.injEq]at h;injection h with af ag;subst af;rfl
 .cases h
theorem K2 {k:Nat} (h:dC x.ae aH s):hf C aH T x k=hf C s T x k:=by
 unfold hf;split<;>try rfl
 split<;>try rfl
 cases x<;>first
  |rfl
  |(simp only[];rw[h _ (by simp[I.ae])])
theorem S8 {k:Nat} (h:dC x.ae aH s):ex aH x k=ex s x k:=by
 cases x<;>first
  |rfl
  |(simp only[ex];rw[h _ (by simp[I.ae])])
theorem vW:∀(q:ahC) (a d e:I),I.sub q a=some d->(d.plain=false\/q≠[])->(q=[]->e.ae=[])->(I.put q e a).ae=[]:=by
 intro q a d e h aw he;cases q with
 |nil=>rw[I.put];exact he rfl
 |cons k q=>
  cases a<;>first
   |(simp[I.sub]at h;done)
   |skip
  all_goals
   unfold I.put
   repeat' split
   all_goals first|rfl|(simp_all;done)
end
def Loc {α:Type} (cb vX:ahC) (f:ao->Option (α×ao)) (s:ao) (av:α) (s1:ao):Prop:=
 ∃ms,s1=dH ms s/\(∀m∈ms,m.x∈vX/\m.d.ae=[])/\∀aH,dC cb aH s->f aH=some (av,dH ms aH)
theorem Loc.pure {α:Type} {cb vX:ahC} {f:ao->Option (α×ao)} {s:ao} {av:α} (h:∀aH,dC cb aH s->f aH=some (av,aH)):Loc cb vX f s av s:=
 ⟨[],rfl,by simp,λaH ae=>h aH ae⟩
theorem Loc.mono {α:Type} {cb vX Bk K3:ahC} {f:ao->Option (α×ao)} {s s1:ao} {av:α} (h:Loc cb vX f s av s1) (qI:∀u∈cb,u∈Bk) (iZ:∀u∈vX,u∈K3):Loc Bk K3 f s av s1:=by
 obtain⟨ms,af,ag,aJ⟩:=h;exact⟨ms,af,λm hm=>⟨iZ _ (ag m hm).1,(ag m hm).2⟩,λaH ae=>aJ aH (ae.sub qI)⟩
section
variable {C:bV} {s s1:ao} {x y d:I} {T A B:TypeId}
theorem rL (h:cV s x=some (d,s1)):Loc x.ae x.ae (λs=>cV s x) s d s1:=by
 cases x with
 |h y q=>
  simp only[cV]at h;split at h
  .rename_i e he;split at h
   .cases h
   .rename_i aw;simp only[Option.some.injEq,Prod.mk.injEq]at h;obtain⟨rfl,rfl⟩:=h;have aw:e.plain=false:=by simpa using aw
    refine⟨[⟨.cp,y,I.put q e.cZ (s y)⟩],uu _ _ _,?_,?_⟩
    .intro m hm;simp only[mem_singleton]at hm;subst hm;refine⟨by simp[I.ae],vW q _ _ _ he (.inl aw) λcM=>?_⟩;subst cM;cases e<;>first|(simp[I.plain]at aw;done)|rfl
    .intro aH ae;have a1:aH y=s y:=ae y (by simp[I.ae]);simp only[cV,a1,he,aw];rw[<-uu];rfl
  .cases h
 |aw y q=>simp[cV]at h
 |U y q=>simp[cV]at h
 |fn f c=>simp[cV]at h
 |hole=>simp[cV]at h
 |_=>
  simp only[cV,Option.some.injEq,Prod.mk.injEq]at h;obtain⟨rfl,rfl⟩:=h;exact .pure λaH _=>rfl
mutual
theorem K4 (x:Nat):∀a:I,∀u∈(cp x a).ae,u∈a.ae
 | .h y q,u,h=>by
   simp only[cp]at h;split at h
   .split at h
    .exact h
    .simp[I.ae]at h
   .exact h
 | .aw y q,u,h=>by
   simp only[cp]at h;split at h
   .simp[I.ae]at h
   .exact h
 | .U y q,u,h=>h
 | .fn f cap,u,h=>by simp only[cp,I.ae]at h⊢;exact K5 x cap u h
 | .hole,u,h=>h
 | .bool _,u,h=>h
 | .fo,u,h=>h
 | .int _ _,u,h=>h
 | .str _,u,h=>h
 | .dM,u,h=>h
 | .ah,u,h=>h
 | .slice _,u,h=>h
 | .ad _ _,u,h=>h
 | .ref _,u,h=>h
 | .ai _,u,h=>h
 | .agg _,u,h=>h
 | .tuple _,u,h=>h
theorem K5 (x:Nat):∀ds:ahI,∀u∈I.dK (i7 x ds),u∈I.dK ds
 |[],u,h=>h
 |d::ds,u,h=>by
  simp only[i7,I.dK,mem_append]at h⊢;exact h.imp (K4 x d u) (K5 x ds u)
end
theorem EU (o:Option Nat) (a:I):∀u∈(k9 o a).ae,u∈a.ae:=by
 intro u h;cases o with
 |none=>exact h
 |some x=>exact K4 x a u h
theorem K6:∀(os:List (Option Nat)) (a:I),∀u∈(lC os a).ae,u∈a.ae:=by
 intro os;induction os with
 |nil=>intro a u h;exact h
 |cons o os ih=>intro a u h;exact EU o a u (ih (k9 o a) u h)
theorem K7 {place:Nat->Option (Nat×Nat)}:∀{ps:ahH} {s s1:ao} {eS ds:ahI} {os:List (Option Nat)},kU place s eS os ps=some (ds,s1)->
  Loc (I.dK (ps.map (·.2))) (I.dK (ps.map (·.2))) (λs=>kU place s eS os ps) s ds s1:=by
 intro ps;induction ps with
 |nil=>
  intro s s1 eS ds os h;simp only[kU,Option.some.injEq,Prod.mk.injEq]at h;obtain⟨rfl,rfl⟩:=h;exact .pure λaH _=>rfl
 |cons p ps ih=>
  intro s s1 eS ds os h;obtain⟨k,a⟩:=p;simp only[kU]at h;split at h
  .rename_i d s2 off n z aZ hc b3;split at h
   .cases h
   .rename_i bz ny;split at h
    .rename_i aC;obtain⟨pN,rfl,ag,aJ⟩:=rL aZ;obtain⟨sK,rfl,bC,cw⟩:=ih h;refine⟨pN++sK,(mY _ _ _).symm,?_,?_⟩
     .intro m hm;simp only[map_cons,I.dK,mem_append]at hm⊢;rcases hm with hm|hm
      .exact⟨.inl (K6 _ _ _ (ag m hm).1),(ag m hm).2⟩
      .exact⟨.inr (bC m hm).1,(bC m hm).2⟩
     .intro aH ae;simp only[map_cons,I.dK]at ae;have a1:=aJ aH (ae.left.sub (K6 _ _));have bc:=cw (dH pN aH) (ae.right.dH pN);simp only at a1 bc;simp only[kU,a1,hc,b3,mY];rw[if_pos aC];exact bc
    .cases h
  .cases h
theorem S9 {ps:ahH} {av:I} (h:d_ C s T ps=some (av,s1)):Loc (I.dK (ps.map (·.2))) (I.dK (ps.map (·.2))) (λs=>d_ C s T ps) s av s1:=by
 unfold d_ at h;split at h
 .rename_i aG eS au b3;split at h
  .rename_i aC;split at h
   .rename_i ds s2 bS;simp only[Option.some.injEq,Prod.mk.injEq]at h;obtain⟨rfl,rfl⟩:=h;obtain⟨ms,af,ag,aJ⟩:=K7 bS;refine⟨ms,af,ag,λaH ae=>?_⟩;have:=aJ aH ae;simp only at this;simp only[d_,au,b3,if_pos aC,this]
   .cases h
  .cases h
 .cases h
theorem S_ {n:Nat} {ps:ahH} {av:I} (h:c5 C s T n ps=some (av,s1)):Loc (I.dK (ps.map (·.2))) (I.dK (ps.map (·.2))) (λs=>c5 C s T n ps) s av s1:=by
 unfold c5 at h;split at h
 .rename_i e au;split at h
  .rename_i aC;split at h
   .rename_i ds s2 bS;simp only[Option.some.injEq,Prod.mk.injEq]at h;obtain⟨rfl,rfl⟩:=h;obtain⟨ms,af,ag,aJ⟩:=K7 bS;refine⟨ms,af,ag,λaH ae=>?_⟩;have:=aJ aH ae;simp only at this;simp only[c5,au,if_pos aC,this]
   .cases h
  .cases h
 .cases h
theorem Ta {av:I} (h:g7 s x=some (av,s1)):Loc x.ae x.ae (λs=>g7 s x) s av s1:=by
 unfold g7 at h;split at h
 .cases h
 .rename_i d s2 ny aZ;simp only[Option.some.injEq,Prod.mk.injEq]at h;obtain⟨rfl,rfl⟩:=h;obtain⟨ms,af,ag,aJ⟩:=rL aZ;refine⟨ms,af,ag,λaH ae=>?_⟩;have:=aJ aH ae;simp only at this;simp only[g7,this]
 .cases h
theorem Tb {av:I} (h:h8 s x=some (av,s1)):Loc x.ae [] (λs=>h8 s x) s av s1:=by
 unfold h8 at h;split at h
 .rename_i y q;split at h
  .rename_i Ej;simp only[Option.some.injEq,Prod.mk.injEq]at h;obtain⟨rfl,rfl⟩:=h;refine .pure λaH ae=>?_;have e:aH y=s y:=ae y (by simp[I.ae]);simp only[h8,e,if_pos Ej]
  .cases h
 .split at h
  .rename_i aC;simp only[Option.some.injEq,Prod.mk.injEq]at h;obtain⟨rfl,rfl⟩:=h;exact .pure λaH ae=>by simp only[h8,aC,if_true]
  .cases h
 .cases h
theorem Tc {s2:ao} (h:kT C s T x y=some s2):Loc (x.ae++y.ae) (x.ae++y.ae) (λs=>(kT C s T x y).map λs1=>(I.hole,s1)) s .hole s2:=by
 unfold kT at h;split at h
 .rename_i d s1 z q aZ hl;obtain⟨ms,af,ag,aJ⟩:=rL aZ;have b3:=ET hl;have cM:q≠[]:=by
   cases x with
   |h y p=>
    simp only[loc]at hl;split at hl
    .simp only[Option.some.injEq,Prod.mk.injEq]at hl;simp[<-hl.2]
    .cases hl
   |aw y p=>
    simp only[loc]at hl;split at hl
    .rename_i pA;simp only[Option.some.injEq,Prod.mk.injEq]at hl;obtain⟨rfl,rfl⟩:=hl;intro e;subst e;simp[I.fU]at pA
    .cases hl
   |_=>simp[loc]at hl
  split at h
  .cases h
  .rename_i bz ny;split at h
   .rename_i d0 ns;split at h
    .rename_i aC;simp only[Option.some.injEq]at h;subst h;refine⟨ms++[⟨.cp,z,I.put q d (s z)⟩],?_,?_,?_⟩
     .rw[mY,<-af,uu]
     .intro m hm;simp only[mem_append,mem_singleton]at hm⊢;rcases hm with hm|rfl
      .exact⟨.inr (ag m hm).1,(ag m hm).2⟩
      .exact⟨.inl b3,vW q _ _ _ ns (.inr cM) λe=>(cM e).elim⟩
     .intro aH ae;have a1:=aJ aH ae.right;simp only at a1;simp only[kT,a1,ES ae.left,hl,ae.left z b3,ns];cases d<;>first|(simp only[if_pos aC,Option.map_some,mY,uu];done)|exact(ny _ rfl).elim
    .cases h
   .cases h
 .cases h
theorem Td {e5 aq:Option I} {av:I} (h:fW C s T x e5 aq=some (av,s1)):Loc x.ae x.ae (λs=>fW C s T x e5 aq) s av s1:=by
 cases x with
 |h y q=>
  unfold fW at h;split at h<;>first|(cases h;done)|skip
  all_goals (rename_i aA;try cases aA)
  rename_i e au;split at h
  .rename_i sz xs fz;split at h
   .rename_i b oK oL;split at h
    .rename_i aC;split at h
     .rename_i d s2 aZ;simp only[Option.some.injEq,Prod.mk.injEq]at h;obtain⟨rfl,rfl⟩:=h;obtain⟨ms,af,ag,aJ⟩:=rL aZ;refine⟨ms,af,ag,λaH ae=>?_⟩;have:=aJ aH ae;simp only at this;have a1:aH y=s y:=ae y (by simp[I.ae]);simp only[fW,au,a1,fz,oK,oL,if_pos aC,this]
     .cases h
    .cases h
   .cases h
  .cases h
 |_=>
  have rM:s1=s:=by
   unfold fW at h
   repeat' split at h
   all_goals first|(cases h;done)|(simp only[Option.some.injEq,Prod.mk.injEq]at h;exact h.2.symm)|simp_all
  subst rM;refine .pure λaH _=>?_;unfold fW at h⊢
  repeat' split at h
  all_goals first
   |(cases h;done)
   |(simp only[Option.some.injEq,Prod.mk.injEq]at h
     obtain⟨rfl,_⟩:=h;simp_all)
def qL (C:bV) (e:TypeId) (s:ao):I->Option (I×ao)
 | .ah=>some (I.ad (C.T e).sz [],s)
 | .h a q=>cV s (.h a q)
 |_=>none
def lY (s1:ao):I->Option (ahI×ao)
 | .ah=>some ([],s1)
 | .slice cr=>some (cr,s1)
 | .str l=>some (l.map lA,s1)
 | .h a q=>match cV s1 (.h a q)with
   |some (.ad _ cr,s2)=>some (cr,s2)
   |_=>none
 |_=>none
theorem EV (C:bV) (s:ao) (T cb:TypeId) (x y:I):rG C s T cb x y=(match(C.T T).k with
 | .slice e=>if(C.T e).ok=true/\(C.T e).zero.wd=(C.T e).sz/\(flat (C.T e).zero).isSome=true/\A8 C e cb=true then
   match qL C e s x with
   |some (.ad sz xs,s1)=>if sz=(C.T e).sz then
     match lY s1 (k9 x.owner y)with
     |some (cr,s2)=>if(∀d∈cr,d.wd=(C.T e).sz)/\(xs.length+cr.length)*(C.T e).bytes<=140737488355328/\xs.length+cr.length<=9223372036854775807 then some (.ad sz (xs++cr),s2)else none
     |none=>none
    else none
   |_=>none
   else none
 |_=>none):=by
 unfold rG;generalize k9 x.owner y=ly;cases(C.T T).k<;>first
  |rfl
  |(cases x<;>cases ly<;>rfl)
theorem Te {e:TypeId} {d:I} (af:qL C e s x=some (d,s1)):Loc x.ae x.ae (λs=>qL C e s x) s d s1:=by
 cases x with
 |ah=>
  simp only[qL,Option.some.injEq,Prod.mk.injEq]at af;obtain⟨af,rfl⟩:=af;exact .pure λaH _=>by simp only[qL,af]
 |h a q=>exact rL af
 |_=>simp[qL]at af
theorem Tf {cr:ahI} (ag:lY s y=some (cr,s1)):Loc y.ae y.ae (λs=>lY s y) s cr s1:=by
 cases y with
 |ah=>
  simp only[lY,Option.some.injEq,Prod.mk.injEq]at ag;obtain⟨rfl,rfl⟩:=ag;exact .pure λaH _=>rfl
 |slice cr=>
  simp only[lY,Option.some.injEq,Prod.mk.injEq]at ag;obtain⟨rfl,rfl⟩:=ag;exact .pure λaH _=>rfl
 |str l=>
  simp only[lY,Option.some.injEq,Prod.mk.injEq]at ag;obtain⟨rfl,rfl⟩:=ag;exact .pure λaH _=>rfl
 |h a q=>
  simp only[lY]at ag;split at ag
  .rename_i Sm agj k_ aZ;simp only[Option.some.injEq,Prod.mk.injEq]at ag;obtain⟨rfl,rfl⟩:=ag;obtain⟨ms,aX,bk,ca⟩:=rL aZ;refine⟨ms,aX,bk,λaH ae=>?_⟩;have:=ca aH ae;simp only at this;simp only[lY,this]
  .cases ag
 |_=>simp[lY]at ag
theorem Tg {av:I} (h:rG C s T A x y=some (av,s1)):Loc (x.ae++y.ae) (x.ae++y.ae) (λs=>rG C s T A x y) s av s1:=by
 rw[EV]at h;split at h
 .rename_i e au;split at h
  .rename_i aC;split at h
   .rename_i sz xs s2 af;split at h
    .rename_i dR;split at h
     .rename_i cr kV ag;split at h
      .rename_i lT;simp only[Option.some.injEq,Prod.mk.injEq]at h;obtain⟨rfl,rfl⟩:=h;obtain⟨pN,rfl,aB,eb⟩:=Te af;obtain⟨sK,rfl,dL,jd⟩:=(Tf ag).mono (EU _ _) (EU _ _);refine⟨pN++sK,(mY _ _ _).symm,?_,?_⟩
       .intro m hm;simp only[mem_append]at hm⊢;rcases hm with hm|hm
        .exact⟨.inl (aB m hm).1,(aB m hm).2⟩
        .exact⟨.inr (dL m hm).1,(dL m hm).2⟩
       .intro aH ae;have a1:=eb aH ae.left;have bc:=jd (dH pN aH) (ae.right.dH pN);simp only at a1 bc;simp only[EV,au,if_pos aC,a1,if_pos dR,bc,if_pos lT,mY]
      .cases h
     .cases h
    .cases h
   .cases h
  .cases h
 .cases h
theorem Th {aH:ao} {i:I} (h:dC x.ae aH s):oP C aH T x i=oP C s T x i:=by
 cases x with
 |h y q=>cases i<;>simp only[oP,h y (by simp[I.ae])]
 |_=>rfl
theorem Ti {i v:I} {s2:ao} (h:nv C s T x i v=some s2):Loc x.ae x.ae (λs=>(nv C s T x i v).map λs1=>(I.hole,s1)) s .hole s2:=by
 unfold nv at h;split at h
 .rename_i y q k b;split at h
  .rename_i m al;split at h
   .rename_i iZ;simp only[Option.some.injEq]at h;subst h;refine⟨[⟨.cp,y,I.put q (.dN (.mp (qx k b m))) (s y)⟩],uu _ _ _,?_,λaH ae=>?_⟩
    .intro n ba;simp only[mem_singleton]at ba;subst ba;exact⟨by simp[I.ae],vW q _ _ _ al (.inl rfl) λ_=>rfl⟩
    .have a1:aH y=s y:=ae y (by simp[I.ae]);simp only[nv,a1,al,iZ,if_true,Option.map_some];rw[<-uu]
   .cases h
  .cases h
 .cases h
theorem K8 {bE:dU} {av:I} (h:bL C s bE=some (av,s1)):Loc (use s bE) (km s bE) (λs=>bL C s bE) s av s1:=by
 cases bE with
 |shr bE=>simp[bL]at h
 |lX f args L=>simp[bL]at h
 |my x=>
  simp only[bL]at h;unfold qJ at h;split at h
  .rename_i y q aA;obtain⟨ms,af,ag,aJ⟩:=rL h;refine⟨ms,af,by simpa only[km,aA]using ag,λaH ae=>?_⟩;have e:=bn.fG (x:=x) ae;have bc:=aJ aH (by rw[<-aA];exact dC.br ae);simp only[bL,e,aA,qJ];exact bc
  .rename_i K9;simp only[Option.some.injEq,Prod.mk.injEq]at h;obtain⟨rfl,rfl⟩:=h;refine .pure λaH ae=>?_;have e:=bn.fG (x:=x) ae;simp only[bL,e,qJ]
 |mX x=>
  simp only[bL,Option.some.injEq,Prod.mk.injEq]at h;obtain⟨rfl,rfl⟩:=h;exact .pure λaH ae=>by simp only[bL,bn.fG (x:=x) ae]
 |h8 T x=>
  obtain⟨ms,af,ag,aJ⟩:=Tb h;refine⟨ms,af,ag,λaH ae=>?_⟩;simp only[bL,bn.fG (x:=x) ae];exact aJ aH (dC.br ae)
 |iE T cb x y=>
  simp only[bL,Option.map_eq_some_iff,Prod.mk.injEq]at h;obtain⟨d,al,rfl,rfl⟩:=h;exact .pure λaH ae=>by
   simp only[use]at ae;simp only[bL,bn.fG (x:=x) ae.left,bn.fG (x:=y) ae.right,al,Option.map_some]
 |bad=>simp[bL]at h
 |jw e2 x y=>
  simp only[bL,Option.map_eq_some_iff,Prod.mk.injEq]at h;obtain⟨d,al,rfl,rfl⟩:=h;exact .pure λaH ae=>by
   simp only[use]at ae;simp only[bL,bn.fG (x:=x) ae.left,bn.fG (x:=y) ae.right,al,Option.map_some]
 |cap T x=>
  simp only[bL]at h;split at h
  .rename_i e au aA;simp only[Option.some.injEq,Prod.mk.injEq]at h;obtain⟨rfl,rfl⟩:=h;exact .pure λaH ae=>by simp only[bL,bn.fG (x:=x) ae,au,aA]
  .cases h
 |gI x=>
  simp only[bL,Option.some.injEq,Prod.mk.injEq]at h;obtain⟨rfl,rfl⟩:=h;exact .pure λaH ae=>by simp only[bL,bn.fG (x:=x) ae]
 |lW x=>
  simp only[bL]at h;split at h
  .rename_i y q aA;obtain⟨ms,af,ag,aJ⟩:=rL h;refine⟨ms,af,by simpa only[km,aA]using ag,λaH ae=>?_⟩;have e:=bn.fG (x:=x) ae;have bc:=aJ aH (by rw[<-aA];exact dC.br ae);simp only[bL,e,aA];exact bc
  .rename_i K9;simp only[Option.some.injEq,Prod.mk.injEq]at h;obtain⟨rfl,rfl⟩:=h;refine .pure λaH ae=>?_;have e:=bn.fG (x:=x) ae;simp only[bL,e]
 |pick c a b=>
  simp only[bL]at h;split at h
  .rename_i ee U;simp only[Option.some.injEq,Prod.mk.injEq]at h;obtain⟨rfl,rfl⟩:=h;refine .pure λaH ae=>?_;simp only[use]at ae;simp only[bL,bn.fG (x:=c) ae.left,bn.fG (x:=a) ae.right.left,bn.fG (x:=b) ae.right.right,U]
  .cases h
 |mT T=>
  simp only[bL,Option.map_eq_some_iff,Prod.mk.injEq]at h;obtain⟨d,al,rfl,rfl⟩:=h;exact .pure λaH ae=>by simp only[bL,al,Option.map_some]
 |g7 T x=>
  obtain⟨ms,af,ag,aJ⟩:=Ta h;refine⟨ms,af,ag,λaH ae=>?_⟩;simp only[bL,bn.fG (x:=x) ae];exact aJ aH (dC.br ae)
 |d_ T ps=>
  obtain⟨ms,af,ag,aJ⟩:=S9 h;simp only[List.map_map,Function.comp_def]at ag aJ;refine⟨ms,af,ag,λaH ae=>?_⟩;simp only[bL,bn.ER (ps:=ps) ae];refine aJ aH (ae.sub λu hu=>?_);simp only[use];exact bn.Bj u (by simpa [List.map_map,Function.comp_def]using hu)
 |c5 T n ps=>
  obtain⟨ms,af,ag,aJ⟩:=S_ h;simp only[List.map_map,Function.comp_def]at ag aJ;refine⟨ms,af,ag,λaH ae=>?_⟩;simp only[bL,bn.ER (ps:=ps) ae];refine aJ aH (ae.sub λu hu=>?_);simp only[use];exact bn.Bj u (by simpa [List.map_map,Function.comp_def]using hu)
 |e_ T x=>
  simp only[bL,Option.map_eq_some_iff,Prod.mk.injEq]at h;obtain⟨d,al,rfl,rfl⟩:=h;exact .pure λaH ae=>by simp only[bL,bn.fG (x:=x) ae,SY (dC.br ae),al,Option.map_some]
 |kT T x y=>
  simp only[bL,Option.map_eq_some_iff,Prod.mk.injEq]at h;obtain⟨s2,al,rfl,rfl⟩:=h;obtain⟨ms,af,ag,aJ⟩:=Tc al;refine⟨ms,af,ag,λaH ae=>?_⟩;simp only[use]at ae;simp only[bL,bn.fG (x:=x) ae.left,bn.fG (x:=y) ae.right];exact aJ aH (ae.sub λu hu=>by simp only[mem_append]at hu⊢;exact hu.imp (bn.uv u) (bn.uv u))
 |jL x=>
  simp only[bL,Option.map_eq_some_iff,Prod.mk.injEq]at h;obtain⟨d,al,rfl,rfl⟩:=h;exact .pure λaH ae=>by simp only[bL,bn.fG (x:=x) ae,S6 (dC.br ae),al,Option.map_some]
 |fa op T x y=>
  simp only[bL,Option.map_eq_some_iff,Prod.mk.injEq]at h;obtain⟨d,al,rfl,rfl⟩:=h;refine .pure λaH ae=>?_;simp only[use]at ae;simp only[bL,bn.fG (x:=x) ae.left,bn.fG (x:=y) ae.right,S5 (dC.br ae.left),al,Option.map_some]
 |un op x=>
  simp only[bL,Option.map_eq_some_iff,Prod.mk.injEq]at h;obtain⟨d,al,rfl,rfl⟩:=h;exact .pure λaH ae=>by simp only[bL,bn.fG (x:=x) ae,al,Option.map_some]
 |jv A B x=>
  simp only[bL,Option.map_eq_some_iff,Prod.mk.injEq]at h;obtain⟨d,al,rfl,rfl⟩:=h;exact .pure λaH ae=>by simp only[bL,bn.fG (x:=x) ae,S2 (dC.br ae),al,Option.map_some]
 |mV f cs=>
  simp only[bL,Option.some.injEq,Prod.mk.injEq]at h;obtain⟨rfl,rfl⟩:=h;exact .pure λaH ae=>by simp only[bL,bn.EP (xs:=cs) ae]
 |eu T l c=>
  simp only[bL,Option.map_eq_some_iff,Prod.mk.injEq]at h;obtain⟨d,al,rfl,rfl⟩:=h;refine .pure λaH ae=>?_;simp only[use]at ae;simp only[bL,bn.fG (x:=l) ae.left,bn.fG (x:=c) ae.right,al,Option.map_some]
 |fW T x e5 aq=>
  simp only[bL]at h;obtain⟨ms,af,ag,aJ⟩:=Td h;refine⟨ms,af,ag,λaH ae=>?_⟩;simp only[use]at ae;simp only[bL,bn.fG (x:=x) ae.left,K1 ae.right.left,K1 ae.right.right];exact aJ aH (dC.br ae.left)
 |gZ T x k=>
  simp only[bL,Option.map_eq_some_iff,Prod.mk.injEq]at h;obtain⟨d,al,rfl,rfl⟩:=h;exact .pure λaH ae=>by simp only[bL,bn.fG (x:=x) ae,SZ (dC.br ae),al,Option.map_some]
 |jr T x i=>
  simp only[bL,Option.map_eq_some_iff,Prod.mk.injEq]at h;obtain⟨d,al,rfl,rfl⟩:=h;refine .pure λaH ae=>?_;simp only[use]at ae;simp only[bL,bn.fG (x:=x) ae.left,bn.fG (x:=i) ae.right,S0 (dC.br ae.left),al,Option.map_some]
 |idx T x i=>
  simp only[bL,Option.map_eq_some_iff,Prod.mk.injEq]at h;obtain⟨d,al,rfl,rfl⟩:=h;refine .pure λaH ae=>?_;simp only[use]at ae;simp only[bL,bn.fG (x:=x) ae.left,bn.fG (x:=i) ae.right,al,Option.map_some]
 |ex x k=>
  simp only[bL,Option.map_eq_some_iff,Prod.mk.injEq]at h;obtain⟨d,al,rfl,rfl⟩:=h;exact .pure λaH ae=>by simp only[bL,bn.fG (x:=x) ae,S8 (dC.br ae),al,Option.map_some]
 |yv=>
  simp only[bL,Option.some.injEq,Prod.mk.injEq]at h;obtain⟨rfl,rfl⟩:=h;exact .pure λaH ae=>rfl
 |oP T x i=>
  simp only[bL,Option.map_eq_some_iff,Prod.mk.injEq]at h;obtain⟨d,al,rfl,rfl⟩:=h;refine .pure λaH ae=>?_;simp only[use]at ae;simp only[bL,bn.fG (x:=x) ae.left,bn.fG (x:=i) ae.right,Th (dC.br ae.left),al,Option.map_some]
 |nv T x i v=>
  simp only[bL,Option.map_eq_some_iff,Prod.mk.injEq]at h;obtain⟨s2,al,rfl,rfl⟩:=h;obtain⟨ms,af,ag,aJ⟩:=Ti al;refine⟨ms,af,ag,λaH ae=>?_⟩;simp only[use]at ae;simp only[bL,bn.fG (x:=x) ae.left,bn.fG (x:=i) ae.right.left,bn.fG (x:=v) ae.right.right];exact aJ aH (dC.br ae.left)
 |hf T x k=>
  simp only[bL,Option.bind_eq_some_iff]at h;obtain⟨d,al,h⟩:=h;unfold qJ at h;split at h
  .rename_i y q;have aA:=S7 al;obtain⟨ms,af,ag,aJ⟩:=rL h;refine⟨ms,af,by simpa only[km,aA,I.ae]using ag,λaH ae=>?_⟩;have bc:=aJ aH (by rw[show(I.h y q).ae=(br s x).ae from aA.symm];exact dC.br ae);simp only[bL,bn.fG (x:=x) ae,K2 (dC.br ae),al,Option.bind_some,qJ];exact bc
  .rename_i K9;simp only[Option.some.injEq,Prod.mk.injEq]at h;obtain⟨rfl,rfl⟩:=h;refine .pure λaH ae=>?_;simp only[bL,bn.fG (x:=x) ae,K2 (dC.br ae),al,Option.bind_some,qJ]
 |call f args=>simp[bL]at h
 |len T x=>
  simp only[bL,Option.map_eq_some_iff,Prod.mk.injEq]at h;obtain⟨d,al,rfl,rfl⟩:=h;exact .pure λaH ae=>by simp only[bL,bn.fG (x:=x) ae,S1 (dC.br ae),al,Option.map_some]
 |app T cb x y=>
  obtain⟨ms,af,ag,aJ⟩:=Tg h;refine⟨ms,af,ag,λaH ae=>?_⟩;simp only[use]at ae;simp only[bL,bn.fG (x:=x) ae.left,bn.fG (x:=y) ae.right];exact aJ aH (ae.sub λu hu=>by simp only[mem_append]at hu⊢;exact hu.imp (bn.uv u) (bn.uv u))
end
mutual
def view (s:ao):I->Option I
 | .h x q=>match I.sub q (s x)with
   |some d=>(match d with| .tuple _=>none| .dN _=>none| .eQ _ _=>none| .gC _=>none|d=>if d.plain then none else some d.share)
   |none=>none
 | .aw x q=>if I.fU q (s x)then(match I.sub q (s x)with
   |some d=>(match d with| .tuple _=>none|d=>some (.ref d.share))
   |none=>none)else none
 | .U _ _=>none
 | .fn f cap=>(views s cap).map (.fn f)
 | .hole=>none
 |d=>some d
def views (s:ao):ahI->Option ahI
 |[]=>some []
 |d::ds=>match view s d,views s ds with
  |some a,some b=>some (a::b)
  |_,_=>none
end
mutual
theorem EW:∀d:I,d.share.plain=true
 | .hole=>rfl
 | .bool _=>rfl
 | .fo=>rfl
 | .int _ _=>rfl
 | .str _=>rfl
 | .dM=>rfl
 | .ah=>rfl
 | .slice _=>rfl
 | .ad _ _=>rfl
 | .ref _=>rfl
 | .ai _=>rfl
 | .agg aG=>by simp only[I.share,I.plain];exact EX aG
 | .tuple aG=>by simp only[I.share,I.plain];exact EX aG
 | .fn _ _=>rfl
 | .h _ _=>rfl
 | .aw _ _=>rfl
 | .U _ _=>rfl
 | .dN _=>rfl
 | .eQ _ _=>rfl
 | .gC _=>rfl
theorem EX:∀ds:ahI,I.eY (I.shares ds)=true
 |[]=>rfl
 |d::ds=>by simp only[I.shares,I.eY];rw[EW d,EX ds];rfl
end
theorem Tj {s:ao} {a d:I} (h:a.plain=true) (he:view s a=some d):d.plain=true:=by
 cases a with
 |h x q=>
  simp only[view]at he;split at he
  .rename_i e fz;cases e<;>simp only at he<;>first
    |(cases he;done)
    |(split at he
      .cases he
      .simp only[Option.some.injEq]at he;subst he;exact EW _)
  .cases he
 |aw x q=>
  simp only[view]at he;split at he
  .split at he
   .rename_i e fz;cases e<;>simp only at he<;>first
     |(cases he;done)
     |(simp only[Option.some.injEq]at he;subst he;rfl)
   .cases he
  .cases he
 |fn f cap=>
  simp only[view,Option.map_eq_some_iff]at he;obtain⟨ds,_,rfl⟩:=he;rfl
 |hole=>simp[view]at he
 |U y q=>simp[view]at he
 |_=>simp only[view,Option.some.injEq]at he;subst he;exact h
theorem EY {d:I} {v:Value} (af:∀vs,d≠.tuple vs) (h:dy d v):dy d.share v:=by
 cases d<;>first|exact h|exact(af _ rfl).elim
theorem Tk (w:World):∀(q:ahC) (av d bz:I) (cs cO:ahF) (a cj:Option (Nat×Nat)),I.sub q av=some d->bz.wd=d.wd->dh w q av cs a=some (d,cO,cj)->
  dh w q (I.put q bz av) cs a=some (bz,cO,cj):=by
 intro q;induction q with
 |nil=>
  intro av d bz cs cO a cj al hw h;simp only[dh,Option.some.injEq,Prod.mk.injEq]at h;obtain⟨rfl,rfl,rfl⟩:=h;simp only[I.put,dh]
 |cons k q ih=>
  intro av d bz cs cO a cj al hw h;cases av with
  |agg aG=>
   simp only[I.sub]at al;split at al
   .rename_i x aA;have au:k<aG.length:=(List.getElem?_eq_some_iff.1 aA).1;simp only[dh,aA]at h;simp only[I.put,aA,dh];rw[getElem?_set_self au];simp only[take_set_of_le (Nat.le_refl k),I.vG q x d bz al hw];exact ih _ _ _ _ _ _ _ al hw h
   .cases al
  |tuple aG=>
   simp only[I.sub]at al;split at al
   .rename_i x aA;have au:k<aG.length:=(List.getElem?_eq_some_iff.1 aA).1;simp only[dh,aA]at h;simp only[I.put,aA,dh];rw[getElem?_set_self au];simp only[take_set_of_le (Nat.le_refl k),I.vG q x d bz al hw];exact ih _ _ _ _ _ _ _ al hw h
   .cases al
  |ad sz aG=>
   simp only[I.sub]at al;split at al
   .rename_i x aA;have au:k<aG.length:=(List.getElem?_eq_some_iff.1 aA).1;have g8:(aG.set k (I.put q bz x))[k]? =some (I.put q bz x):=getElem?_set_self au;simp only[I.put,aA];rw[dh.eq_def]at h⊢;simp only[aA]at h;simp only;rw[g8];split at h
    .rename_i a1;simp only[Option.some.injEq]at a1;subst a1;exact ih _ _ _ _ _ _ _ al hw h
    .cases h
   .cases al
  |ai x=>
   cases k with
   |zero=>
    simp only[I.sub]at al;rw[dh.eq_def]at h⊢;simp only at h;simp only[I.put];split at h
    .rw[I.vG q x d bz al hw];exact ih _ _ _ _ _ _ _ al hw h
    .cases h
   |succ k=>simp[I.sub]at al
  |_=>simp[I.sub]at al
section
variable {w0 w aK:World} {F0 X F Fc:Nat->Prop} {S:Nat->Nat->Prop} {s aH:ao} {aF iO:Nat->Value}
theorem Tl (h:bK w0 F0 X F S s aF w) (bm:∀b,F b->Fc b):∀n,
  (∀(a:I) (v:Value) (d:I),SizeOf.sizeOf a<=n->(∀t∈a.ae,∀b,S t b->Fc b)->view s a=some d->aO w F s aF a v (λ_=>False)->aO w Fc aH iO d v (λ_=>False))/\
  (∀(as:ahI) (vs:ahF) (ds:ahI),SizeOf.sizeOf as<=n->(∀t∈I.dK as,∀b,S t b->Fc b)->views s as=some ds->ef w F s aF as vs->ef w Fc aH iO ds vs):=by
 intro n;induction n with
 |zero=>exact⟨λa _ _ b3=>by cases a<;>simp at b3<;>omega,λas _ _ b3=>by cases as<;>simp at b3<;>omega⟩
 |succ n ih=>
  refine⟨λa v d b3 bN he aP=>?_,λas vs ds b3 bN he aP=>?_⟩
  .cases a with
   |h x q=>
    simp only[view]at he;split at he
    .rename_i e fz;have key:(∀aG,e≠.tuple aG)/\e.plain=false/\d=e.share/\(∀o,e≠.dN o)/\(∀f c,e≠.eQ f c)/\∀c,e≠.gC c:=by
      cases e<;>simp only at he<;>first
       |(cases he;done)
       |(split at he
         .cases he
         .rename_i hc;simp only[Option.some.injEq]at he;exact⟨(λ_ h=>by cases h),by simpa using hc,he.symm,(λ_ h=>by cases h),(λ_ _ h=>by cases h),λ_ h=>by cases h⟩)
     obtain⟨ny,hc,rfl,lx,EZ,E0⟩:=key;rw[aO]at aP;obtain⟨cO,cj,aX,bk,ca⟩:=aP e fz hc;have aZ:=h7 fz (.inl hc);have aA:=(aO.cI aZ).1 (h.dz x);obtain⟨gh,aB,ei,fy,k0,cv,cK,eJ,cU,fq⟩:=ctx q (s x) (ct (aF x)) (S x) none e aA.2 fz;rw[aX]at k0;simp only[Option.some.injEq,Prod.mk.injEq,true_and]at k0;obtain⟨rfl,rfl⟩:=k0;have Eb:e.share.tree=true:=by cases e<;>first|rfl|(simp[I.plain]at hc;done)|exact(lx _ rfl).elim|exact(EZ _ _ rfl).elim|exact(E0 _ rfl).elim
     have aV:=ay.shared bm e cO fy (λb U=>bN x (by simp[I.ae]) b (cK b U)) cU;exact(aO.cI Eb).2 ⟨EY ny ca,by rw[bk];exact aV⟩
    .cases he
   |aw x q=>
    simp only[view]at he;split at he
    .rename_i pA;split at he
     .rename_i e fz;have key:(∀aG,e≠.tuple aG)/\d= .ref e.share:=by
       cases e<;>simp only at he<;>first
        |(cases he;done)
        |(simp only[Option.some.injEq]at he;exact⟨(λ_ h=>by cases h),he.symm⟩)
      obtain⟨ny,rfl⟩:=key;rw[aO]at aP;obtain⟨cO,b,o,aX,rfl⟩:=aP e fz pA;have aZ:=h7 fz (.inr pA);have aA:=(aO.cI aZ).1 (h.dz x);obtain⟨gh,aB,ei,fy,k0,cv,cK,eJ,cU,fq⟩:=ctx q (s x) (ct (aF x)) (S x) none e aA.2 fz;rw[aX]at k0;simp only[Option.some.injEq,Prod.mk.injEq,true_and]at k0;obtain⟨rfl,rfl⟩:=k0;have aV:=ay.shared bm e cO fy (λb U=>bN x (by simp[I.ae]) b (cK b U)) cU;rcases fq with⟨l,r,_,bc,_⟩|⟨ee,cur,ty,fr,l,r,a1,bc,bb,cl,cR,_⟩
      .simp at bc
      .simp only[Option.some.injEq,Prod.mk.injEq]at a1;obtain⟨rfl,rfl⟩:=a1;refine(aO.cI rfl).2 ⟨rfl,?_⟩;rw[ay];refine⟨b,l.length,cO,rfl,bN x (by simp[I.ae]) b (cv b bc),?_,aV⟩;intro az c ch;simp only[World.cell?,bb];have aC:cur[l.length+az]? =some c:=by
        rw[<-Array.getElem?_toList,cR,getElem?_append_right (by omega),getElem?_append_left (by
         have:=(List.getElem?_eq_some_iff.1 ch).1;omega)]
        rw[<-ch];congr 1;omega
       simpa using aC
     .cases he
    .cases he
   |fn f cap=>
    simp only[view,Option.map_eq_some_iff]at he;obtain⟨ds,j4,rfl⟩:=he;rw[aO]at aP;obtain⟨arr,rfl,aC⟩:=aP;rw[aO];exact⟨arr,rfl,ih.2 cap _ _ (by simp at b3;omega) (by simpa [I.ae]using bN) j4 aC⟩
   |hole=>simp[view]at he
   |U y q=>simp[view]at he
   |_=>
    simp only[view,Option.some.injEq]at he;subst he;have mP:=(aO.cI rfl).1 aP;exact(aO.cI rfl).2 ⟨mP.1,ay.mono bm _ _ _ _ (λ_ h=>h) mP.2⟩
  .cases as with
   |nil=>
    simp only[views,Option.some.injEq]at he;subst he;rw[ef]at aP⊢;exact aP
   |cons a as=>
    simp only[views]at he;split at he
    .rename_i d ds af ag;simp only[Option.some.injEq]at he;subst he;rw[ef]at aP⊢;obtain⟨v,gY,rfl,aX,bk⟩:=aP;simp at b3;simp only[I.dK,mem_append]at bN;exact⟨v,gY,rfl,ih.1 a v d (by omega) (λt aZ=>bN t (.inl aZ)) af aX,ih.2 as gY ds (by omega) (λt aZ=>bN t (.inr aZ)) ag bk⟩
    .cases he
theorem bK.je (h:bK w0 F0 X F S s aF w) {x:Nat} {q:ahC} {d0 bz:I} {cO:ahF} {a:Option (Nat×Nat)} {Sn:Nat->Prop}
  (al:I.sub q (s x)=some d0) (bS:dh w q (s x) (ct (aF x)) none=some (d0,cO,a)) (ag:∀vs,bz≠.tuple vs) (aZ:q=[]->bz.tree=true/\dy bz (aF x))
  (aJ:∀k p,q=k::p->(s x).tree=true/\(∀v,iN d0 v->iN bz v)) (hw:bz.wd=d0.wd)
  (aP:ay w F bz cO Sn) (en:∀b,Sn b->b<w.heap.size) (bm:∀b,Sn b->¬F b) (bN:∀u b,Sn b->¬S u b) (bA:∀b,Sn b->X b\/w0.heap.size<=b):
  bK w0 F0 X F (gm S x (λb=>S x b\/Sn b)) (cY (kR x s) x (I.put q bz (s x))) aF w:=by
 have ea:cY aF x (aF x)=aF:=by funext u;simp only[cY];split<;>simp_all
 have main:(I.put q bz (s x)).tree=true/\dy (I.put q bz (s x)) (aF x)/\ay w F (I.put q bz (s x)) (ct (aF x)) (λb=>S x b\/Sn b):=by
  cases q with
  |nil=>
   simp only[dh,Option.some.injEq,Prod.mk.injEq]at bS;obtain⟨a1,bc,bb⟩:=bS;obtain⟨aX,bk⟩:=aZ rfl;simp only[I.put];refine⟨aX,?_,?_⟩
   .exact bk
   .rw[bc];exact ay.mono (λ_ h=>h) _ _ _ _ (λb U=>.inr U) aP
  |cons k p=>
   obtain⟨aX,bk⟩:=aJ k p rfl;have aA:=(aO.cI aX).1 (h.dz x);obtain⟨gh,aB,ei,fy,k0,cv,cK,eJ,cU,fq⟩:=ctx (k::p) (s x) (ct (aF x)) (S x) none d0 aA.2 al;rw[bS]at k0;simp only[Option.some.injEq,Prod.mk.injEq,true_and]at k0;obtain⟨rfl,rfl⟩:=k0;refine⟨?_,?_,?_⟩
   .rcases sB k p bz (s x)with⟨aG,gs,a1,e⟩|⟨aG,gs,a1,e⟩|⟨sz,xs,cr,a1,e⟩|⟨y,z,a1,e⟩|e<;>rw[e]<;>first|rfl|exact aX
   .refine x7 aA.1 al bk (λ_ vs e=>(ag vs e).elim) hw
   .have mono:∀b,(ei b\/Sn b)->(S x b\/Sn b):=λb U=>U.imp (cv b) id;rcases fq with⟨l,r,a1,bc,bb⟩|⟨b,cur,ty,fr,l,r,a1,bc,bb,cl,cR,b0⟩
    .rw[a1];exact ay.mono (λ_ h=>h) _ _ _ _ mono (bb w bz cO Sn (λ_ _=>rfl) (λ_ _=>rfl) hw aP (λb U aC=>bN x b U (cv b aC)))
    .refine ay.mono (λ_ h=>h) _ _ _ _ mono (b0 w bz cO Sn (λ_ _=>rfl) (λ_ _ _=>rfl) ?_ hw aP (λb U aC=>bN x b U (cv b aC)));rw[bb,<-cR]
 have:=h.AR (t:=x) main.1 main.2.1 main.2.2 (by rintro b (U|U);exact h.et x b U;exact en b U) (by rintro b (U|U);exact h.fS x b U;exact bm b U)
  (by rintro u b dG (U|U);exact λhu=>h.fe u x b dG hu U;exact bN u b U) (by rintro b (U|U);exact h.dI x b U;exact bA b U)
 rwa [ea]at this
end
mutual
def I.dj:I->Bool
 | .slice _=>false
 | .ref _=>false
 | .fn _ _=>false
 | .h _ _=>false
 | .aw _ _=>false
 | .U _ _=>false
 | .ad _ xs=>I.jN xs
 | .ai d=>d.dj
 | .agg aG=>I.jN aG
 | .tuple aG=>I.jN aG
 | .eQ _ aG=>I.jN aG
 | .gC _=>false
 |_=>true
def I.jN:ahI->Bool
 |[]=>true
 |d::ds=>d.dj&&I.jN ds
end
mutual
theorem ay.dj {w:World} {F bJ:Nat->Prop}:∀(d:I) (cs:ahF) (S:Nat->Prop),d.dj=true->ay w F d cs S->ay w bJ d cs S
 | .hole,_,_,_,h=>h
 | .bool _,_,_,_,h=>h
 | .fo,_,_,_,h=>h
 | .int _ _,_,_,_,h=>h
 | .str _,_,_,_,h=>h
 | .dM,_,_,_,h=>h
 | .ah,_,_,_,h=>h
 | .slice xs,cs,S,ba,h=>by simp[I.dj]at ba
 | .ref d,cs,S,ba,h=>by simp[I.dj]at ba
 | .ad sz xs,cs,S,ba,h=>by
   rw[ay]at h⊢;rcases h with h|⟨b,cap,cur,e,fr,aS,af,ag,aJ,a_,bC,cw,cQ,e3,jq,jG,mq⟩
   .exact .inl h
   .exact .inr ⟨b,cap,cur,e,fr,aS,af,ag,aJ,a_,bC,cw,cQ,e3,bh.dj xs _ _ ba jq,jG,mq⟩
 | .ai d,cs,S,ba,h=>by
   rw[ay]at h⊢;obtain⟨b,cur,e,fr,aS,af,ag,aJ,a_,bC,cw,cQ⟩:=h;exact⟨b,cur,e,fr,aS,af,ag,aJ,a_,ay.dj d _ _ ba bC,cw,cQ⟩
 | .agg aG,cs,S,ba,h=>by rw[ay]at h⊢;exact bh.dj aG _ _ ba h
 | .tuple aG,cs,S,ba,h=>by rw[ay]at h⊢;exact bh.dj aG _ _ ba h
 | .fn _ _,_,_,ba,h=>by simp[I.dj]at ba
 | .h _ _,_,_,_,h=>h
 | .aw _ _,_,_,_,h=>h
 | .U _ _,_,_,_,h=>h
 | .dN _,_,_,_,h=>h
 | .eQ _ caps,cs,S,ba,h=>by
   rw[ay]at h⊢;obtain⟨arr,af,ag,aJ⟩:=h;exact⟨arr,af,ag,bh.dj caps _ _ ba aJ⟩
 | .gC _,_,_,ba,h=>by simp[I.dj]at ba
theorem bh.dj {w:World} {F bJ:Nat->Prop}:∀(ds:ahI) (cs:ahF) (S:Nat->Prop),I.jN ds=true->bh w F ds cs S->bh w bJ ds cs S
 |[],_,_,_,h=>h
 |d::ds,cs,S,ba,h=>by
  simp only[I.jN,Bool.and_eq_true]at ba;rw[bh]at h⊢;obtain⟨b1,cd,ck,dq,af,ag,aJ,a_,bC,cw⟩:=h;exact⟨b1,cd,ck,dq,af,ay.dj d _ _ ba.1 ag,bh.dj ds _ _ ba.2 aJ,a_,bC,cw⟩
end
theorem K_:∀(q:ahC) (av d e:I),I.sub q av=some d->I.sub q (I.put q e av)=some e:=by
 intro q;induction q with
 |nil=>intro av d e _;simp[I.put,I.sub]
 |cons k q ih=>
  intro av d e h;cases av with
  |agg aG=>
   simp only[I.sub]at h;split at h
   .rename_i x aA;have au:k<aG.length:=(List.getElem?_eq_some_iff.1 aA).1;simp only[I.put,aA,I.sub,getElem?_set_self au];exact ih _ _ _ h
   .cases h
  |tuple aG=>
   simp only[I.sub]at h;split at h
   .rename_i x aA;have au:k<aG.length:=(List.getElem?_eq_some_iff.1 aA).1;simp only[I.put,aA,I.sub,getElem?_set_self au];exact ih _ _ _ h
   .cases h
  |ad sz aG=>
   simp only[I.sub]at h;split at h
   .rename_i x aA;have au:k<aG.length:=(List.getElem?_eq_some_iff.1 aA).1;simp only[I.put,aA,I.sub,getElem?_set_self au];exact ih _ _ _ h
   .cases h
  |ai x=>
   cases k with
   |zero=>simp only[I.sub]at h;simp only[I.put,I.sub];exact ih _ _ _ h
   |succ k=>simp[I.sub]at h
  |_=>simp[I.sub]at h
structure cJ where
 a:I
 g:Bool
 d:I
 o:I
def I.own:I->Bool
 | .ad _ _=>true
 | .ai _=>true
 |_=>false
def I.gE:I->Bool
 | .ad _ _=>true
 | .ai _=>true
 | .dN _=>true
 | .eQ _ _=>true
 | .gC _=>true
 | .agg aG=> !I.eY aG
 |_=>false
def sO (d o:I):Bool:=match d,o with
 | .agg a,.agg b=>I.dO a==I.dO b
 | .agg _,_=>false
 |_,.agg _=>false
 |_,_=>true
theorem rN {d:I} (h:d.gE=true):d.plain=false/\d.tree=true/\∀vs,d≠.tuple vs:=by
 cases d<;>simp[I.gE]at h<;>first|exact⟨rfl,rfl,λvs e=>by cases e⟩|exact⟨by simp only[I.plain];exact h,rfl,λvs e=>by cases e⟩
theorem Tm {d o:I} (h:d.gE=true) (b_:o.gE=true) (hl:sO d o=true):o.wd=d.wd/\(∀v,dy d v->dy o v)/\∀v,iN d.cZ v->iN o v:=by
 cases d<;>simp[I.gE]at h<;>cases o<;>simp[I.gE]at b_<;>simp[sO]at hl<;>first
  |exact⟨rfl,λ_ h=>h,λ_ h=>h⟩
  |exact⟨by simp only[I.wd];exact hl.symm,λ_ h=>h,λ_ h=>h⟩
def cJ.ok (s:ao) (p:cJ):Prop:=
 if p.g then(match p.a with| .h x q=>I.sub q (s x)=some p.d/\p.d.gE=true/\(p.o= .hole\/(p.o.gE=true/\sO p.d p.o=true))|_=>False)
 else view s p.a=some p.d
def iF:List cJ->Bool
 |[]=>true
 |p::r=>(r.all λcE=> !(p.g||cE.g)||(p.a.ae.all λu=> !cE.a.ae.contains u))&&iF r
def cJ.take (s:ao) (p:cJ):ao:=
 if p.g then(match p.a with| .h x q=>cY (hV x s) x (I.put q p.d.cZ (s x))|_=>s)else s
def cJ.je (s:ao) (p:cJ):ao:=
 if p.g then(match p.a,p.o with|_,.hole=>s| .h x q,o=>cY (kR x s) x (I.put q o (s x))|_,_=>s)else s
def fb (s:ao) (ps:List cJ):ao:=ps.foldl cJ.take s
def hq (s:ao) (ps:List cJ):ao:=ps.foldl cJ.je s
section
variable {w0 w aK:World} {F0 X F Fc:Nat->Prop} {S:Nat->Nat->Prop} {s aH:ao} {aF iO:Nat->Value}
def Tn (w:World) (F:Nat->Prop) (s1:ao) (aF:Nat->Value) (p:cJ) (v:Value) (Sn:Nat->Prop):Prop:=
 ∃x q j,p.a= .h x q/\I.sub q (s1 x)=some p.d.cZ/\dh w q (s1 x) (ct (aF x)) none=some (p.d.cZ,ct v,j)/\(s1 x).ae=[]/\(q=[]->dy p.d (aF x))/\(q≠[]->(s1 x).tree=true)/\
  dy p.d v/\ay w F p.d (ct v) Sn
theorem To {p:cJ} {x:Nat} (h:(s x).ae=[]) (aw:p.g=true->x∉p.a.ae):cJ.take s p x=s x:=by
 unfold cJ.take;split
 .rename_i bP;cases bY:p.a with
  |h y q=>
   have:x≠y:=by
    have:=aw bP;rw[bY]at this;simpa [I.ae]using this
   simp only;rw[iz _ _ this];exact yx _ (by rw[h];simp)
  |_=>rfl
 .rfl
theorem E1:∀{ps:List cJ} {s:ao} {x:Nat},(s x).ae=[]->(∀p∈ps,p.g=true->x∉p.a.ae)->fb s ps x=s x:=by
 intro ps;induction ps with
 |nil=>intros;rfl
 |cons p ps ih=>
  intro s x h aw;have e:=To (s:=s) (p:=p) h (aw p (by simp));show fb (cJ.take s p) ps x=s x;rw[ih (by rw[e];exact h) (λcE dT=>aw cE (by simp[dT])),e]
theorem uw {d:I} (h:d.own=true):d.plain=false/\d.tree=true/\d.cZ= .hole/\d.one=true/\d.wd=1/\(∀v,dy d v↔Value.fN v=true):=by
 cases d<;>simp[I.own]at h<;>exact⟨rfl,rfl,rfl,rfl,rfl,λv=>Iff.rfl⟩
theorem Tp:∀(ps:List cJ) (vs:ahF) (s:ao) (S:Nat->Nat->Prop),bK w0 F0 X F S s aF w->ps.length=vs.length->
  (∀(i:Nat) (p:cJ) (v:Value),ps[i]? =some p->vs[i]? =some v->p.a.plain=true/\aO w F s aF p.a v (λ_=>False)/\(p.g=true->p.ok s))->iF ps=true->
  ∃(Sn ck:Nat->Nat->Prop),bK w0 F0 X F ck (fb s ps) aF w/\(∀u b,ck u b->S u b)/\
   (∀(i:Nat) (p:cJ) (v:Value),ps[i]? =some p->vs[i]? =some v->p.g=true->Tn w F (fb s ps) aF p v (Sn i))/\
   (∀i b,Sn i b->∃p,ps[i]? =some p/\p.g=true)/\
   (∀i b,Sn i b->∃u,S u b)/\(∀i u b,Sn i b->¬ck u b)/\(∀i az b,i≠az->Sn i b->¬Sn az b)/\
   (∀(bz:I) (e4:Value) (aS:Nat->Prop),(∀p∈ps,p.g=true->∀u∈p.a.ae,u∉bz.ae)->aO w F s aF bz e4 aS->aO w F (fb s ps) aF bz e4 aS):=by
 intro ps;induction ps with
 |nil=>
  intro vs s S h hl _ _;exact⟨λ_ _=>False,S,h,λ_ _ h=>h,λi p v aw=>by simp at aw,λ_ _ h=>h.elim,λ_ _ h=>h.elim,λ_ _ _ h=>h.elim,λ_ _ _ _ h=>h.elim,λ_ _ _ _ h=>h⟩
 |cons p ps ih=>
  intro vs s S h hl yr jM;cases vs with
  |nil=>simp at hl
  |cons v vs=>
   simp only[length_cons,Nat.add_right_cancel_iff]at hl;simp only[iF,Bool.and_eq_true,List.all_eq_true,Bool.or_eq_true,Bool.not_eq_true']at jM;obtain⟨pO,oS⟩:=jM;have vY:∀cE∈ps,(p.g=true\/cE.g=true)->∀u∈p.a.ae,u∉cE.a.ae:=by
    intro cE dT bP u hu;rcases pO cE dT with e|e
    .rcases bP with bP|bP<;>simp[bP]at e
    .simpa using e u hu
   obtain⟨f1,f2,f3⟩:=yr 0 p v rfl rfl;cases bP:p.g with
   |false=>
    have fV:cJ.take s p=s:=by simp[cJ.take,bP]
    obtain⟨Sn,ck,aX,bk,ca,dr,er,hd,ja,mw⟩:=ih vs s S h hl (λi cE e4 aw aP=>yr (i+1) cE e4 (by simpa using aw) (by simpa using aP)) oS;have a1:fb s (p::ps)=fb s ps:=by show fb (cJ.take s p) ps=_;rw[fV]
    rw[a1];refine⟨λi=>match i with|0=>λ_=>False|i+1=>Sn i,ck,aX,bk,?_,?_,?_,?_,?_,λbz e4 aS al=>mw bz e4 aS λcE dT=>al cE (by simp[dT])⟩
    .intro i cE e4 aw aP hY;cases i with
     |zero=>simp at aw;subst aw;rw[bP]at hY;cases hY
     |succ i=>exact ca i cE e4 (by simpa using aw) (by simpa using aP) hY
    .intro i b U;cases i with
     |zero=>exact U.elim
     |succ i=>simpa using dr i b U
    .intro i b U;cases i with
     |zero=>exact U.elim
     |succ i=>exact er i b U
    .intro i u b U;cases i with
     |zero=>exact U.elim
     |succ i=>exact hd i u b U
    .intro i az b dG aq ch;cases i with
     |zero=>exact aq.elim
     |succ i=>
      cases az with
      |zero=>exact ch.elim
      |succ az=>exact ja i az b (by omega) aq ch
   |true=>
    have fH:=f3 bP;simp only[cJ.ok,bP,if_true]at fH;split at fH
    .rename_i x q bY;obtain⟨fz,E2,tX⟩:=fH;obtain⟨j5,kz,vZ⟩:=rN E2;have Tq:cV s p.a=some (p.d,cY (hV x s) x (I.put q p.d.cZ (s x))):=by
      rw[bY];simp only[cV,fz,j5];rfl
     obtain⟨ck,t1,t2,t3,Tr,t4,t5,t6,t7,t8,t9,t10,t11⟩:=py h f1 f2 Tq;have fV:cJ.take s p=cY (hV x s) x (I.put q p.d.cZ (s x)):=by simp[cJ.take,bP,bY]
     have qM:∀cE∈ps,x∉cE.a.ae:=λcE dT=>vY cE dT (.inl bP) x (by rw[bY];simp[I.ae]);have E3:cJ.take s p x=I.put q p.d.cZ (s x):=by rw[fV,mv]
     have Bl:(cJ.take s p x).ae=[]:=by
      rw[E3];exact vW q _ _ _ fz (.inl j5) (λ_=>by cases al:p.d<;>first|rfl|(rw[al]at E2;simp[I.gE]at E2))
     obtain⟨Sn,dq,aX,bk,ca,dr,er,hd,ja,mw⟩:=ih vs (cJ.take s p) ck (by rw[fV];exact t1) hl (by
      intro i cE e4 aw aP;obtain⟨cv,cK,eJ⟩:=yr (i+1) cE e4 (by simpa using aw) (by simpa using aP);have hm:cE∈ps:=mem_of_getElem? aw;refine⟨cv,?_,?_⟩
      .have:=t11 _ _ _ cK;rw[bY]at this;rw[fV];simp only[I.owner,k9]at this
       rwa [yx _ (qM cE hm)]at this
      .intro hY;have:=eJ hY;simp only[cJ.ok,hY,if_true]at this⊢;split at this
       .rename_i y j2 pP;have dG:y≠x:=λe=>qM cE hm (by rw[pP,e];simp[I.ae]);rw[fV,iz _ _ dG];have aZ:=h7 this.1 (.inl (rN this.2.1).1);simp only[hV,D6 aZ];exact this
       .exact this.elim) oS
     have a1:fb s (p::ps)=fb (cJ.take s p) ps:=rfl;have pQ:fb (cJ.take s p) ps x=I.put q p.d.cZ (s x):=by
      rw[E1 Bl (λcE dT _=>qM cE dT),E3]
     rw[a1];refine⟨λi=>match i with|0=>Tr|i+1=>Sn i,dq,aX,λu b U=>t9 u b (bk u b U),?_,?_,?_,?_,?_,?_⟩
     rotate_left 5
     .intro bz e4 aS al jf;refine mw bz e4 aS (λcE dT=>al cE (by simp[dT])) ?_;have:=t11 _ _ _ jf;rw[bY]at this;rw[fV];simp only[I.owner,k9]at this
      rwa [yx _ (al p (by simp) bP x (by rw[bY];simp[I.ae]))]at this
     .intro i cE e4 aw aP hY;cases i with
      |zero=>
       simp at aw aP;subst aw aP;have Bm:=f2;rw[bY,aO]at Bm;obtain⟨cO,j,b1,cd,La⟩:=Bm _ fz j5;refine⟨x,q,j,bY,?_,?_,?_,?_,?_,t3,t4⟩
       .rw[pQ];exact K_ q _ _ _ fz
       .rw[pQ,cd];exact Tk w q _ _ _ _ _ _ _ fz (I.sA _) b1
       .rw[pQ,<-E3];exact Bl
       .intro cM;subst cM;simp only[I.sub,Option.some.injEq]at fz;have:=(aO.cI (by rw[fz];exact kz)).1 (h.dz x);rw[fz]at this;exact this.1
       .intro cM;have aZ:=h7 fz (.inl j5);rw[pQ];cases q with
        |nil=>exact(cM rfl).elim
        |cons k q=>rcases sB k q p.d.cZ (s x)with⟨aG,gs,a1,e⟩|⟨aG,gs,a1,e⟩|⟨sz,xs,cr,a1,e⟩|⟨y,z,a1,e⟩|e<;>rw[e]<;>first|rfl|exact aZ
      |succ i=>exact ca i cE e4 (by simpa using aw) (by simpa using aP) hY
     .intro i b U;cases i with
      |zero=>exact⟨p,rfl,bP⟩
      |succ i=>simpa using dr i b U
     .intro i b U;cases i with
      |zero=>exact t10 b U
      |succ i=>obtain⟨u,hu⟩:=er i b U;exact⟨u,t9 u b hu⟩
     .intro i u b U;cases i with
      |zero=>exact λhu=>t7 u b U (bk u b hu)
      |succ i=>exact hd i u b U
     .intro i az b dG aq ch;cases i with
      |zero=>
       cases az with
       |zero=>exact dG rfl
       |succ az=>obtain⟨u,hu⟩:=er az b ch;exact t7 u b aq hu
      |succ i=>
       cases az with
       |zero=>obtain⟨u,hu⟩:=er i b aq;exact t7 u b ch hu
       |succ az=>exact ja i az b (by omega) aq ch
    .exact fH.elim
end
def oT:ahI->ahI->ahI
 |d::ds,.hole::us=>(if d.plain=true then d else .hole)::oT ds us
 |_::ds,u::us=>u::oT ds us
 |_,us=>us
def Bn:I->I->I
 | .eQ _ ds,.eQ g us=>.eQ g (oT ds us)
 |_,o=>o
theorem Ts {d o:I} (h:(Bn d o).tree=true):o.tree=true:=by
 cases d<;>cases o<;>first|exact h|rfl
theorem Lb {d:I} (h:d.one=true):d.wd=1:=by cases d<;>first|rfl|(simp[I.one]at h)
theorem Lc {w aK:World} {F j6:Nat->Prop} (bm:∀b,F b->j6 b) (hw:∀b,F b->aK.heap[b]? =w.heap[b]?):∀(ds us:ahI) (cs:ahF) (S aS:Nat->Prop),(∀d∈ds,d.one=true)->(∀d∈us,d.one=true)->
  bh w F ds cs S->bh aK j6 us cs aS->bh aK j6 (oT ds us) cs aS/\∀d∈oT ds us,d.one=true
 |[],us,cs,S,aS,_,af,_,aJ=>by
  have e:oT [] us=us:=by cases us<;>rfl
  rw[e];exact⟨aJ,af⟩
 |d::ds,[],cs,S,aS,_,_,_,aJ=>by
  have e:oT (d::ds) []=[]:=rfl;rw[e];exact⟨aJ,λd h=>by cases h⟩
 |d::ds,u::us,cs,S,aS,bA,af,ag,aJ=>by
  rw[bh]at ag aJ;obtain⟨b1,cd,ck,dq,a1,J,aB,eb,ed,vL⟩:=ag;obtain⟨gr,dL,i0,jO,bc,cv,cK,eJ,cU,fq⟩:=aJ;have di:=ay.length _ _ _ J;have l2:=ay.length _ _ _ cv;rw[Lb (bA d (by simp))]at di;rw[Lb (af u (by simp))]at l2;have bb:b1=gr/\cd=dL:=append_inj (a1.symm.trans bc) (by rw[di,l2]);obtain⟨rfl,rfl⟩:=bb;obtain⟨dZ,bD⟩:=Lc bm hw ds us cd dq jO (λd al=>bA d (by simp[al])) (λd al=>af d (by simp[al])) aB cK;have key:∀y:I,ay aK j6 y b1 i0->y.one=true->bh aK j6 (y::oT ds us) cs aS/\∀d∈y::oT ds us,d.one=true:=by
   intro y bu En;rw[bh];exact⟨⟨b1,cd,i0,jO,bc,bu,dZ,eJ,cU,fq⟩,λd al=>by
    rcases mem_cons.1 al with rfl|al
    .exact En
    .exact bD d al⟩
  by_cases hu:u= .hole
  .subst hu;simp only[oT];by_cases aw:d.plain=true
   .rw[if_pos aw];exact key d (ay.plain _ _ _ _ aw (ay.mono bm _ _ _ _ (λ_ h=>h) (ay.frame hw _ _ (λ_=>False) (λ_ h=>h.elim) (ay.plain _ _ _ _ aw J)))) (bA d (by simp))
   .rw[if_neg aw];exact key .hole cv rfl
  .have e:oT (d::ds) (u::us)=u::oT ds us:=by cases u<;>first|rfl|exact(hu rfl).elim
   rw[e];exact key u cv (af u (by simp))
theorem Tt {w aK:World} {F j6:Nat->Prop} {d o:I} {cs:ahF} {S aS:Nat->Prop} (bm:∀b,F b->j6 b) (hw:∀b,F b->aK.heap[b]? =w.heap[b]?) (af:ay w F d cs S) (ag:ay aK j6 o cs aS):ay aK j6 (Bn d o) cs aS:=by
 cases d with
 |eQ f ds=>
  cases o with
  |eQ g us=>
   simp only[Bn];rw[ay]at af ag⊢;obtain⟨arr,rfl,aB,eb⟩:=af;obtain⟨agk,e,dL,jd⟩:=ag;simp only[cons.injEq,Value.func.injEq,and_true]at e;obtain⟨a1,bc,bb⟩:=e;subst bb;obtain⟨dZ,bD⟩:=Lc bm hw ds us _ _ _ aB dL eb jd;exact⟨arr,by simp_all,bD,dZ⟩
  |_=>exact ag
 |_=>cases o<;>exact ag
def fk (l:ahI):ao:=λi=>l.getD i .hole
def g1 (l:ahF):Nat->Value:=λi=>l.getD i undef
def nz (P:Program) (f:FuncId) (args:Array Value) (w:World) (R:Value->World->Prop):Prop:=
 ((callFunc f args).run P w= .ok (.enter f args) w/\Calls P f args w (λe aK=>∃v,e= .returned v/\R v aK))\/
 ∃v aK,(callFunc f args).run P w= .ok (.value v) aK/\R v aK
theorem nz.mono {P:Program} {f:FuncId} {args:Array Value} {w:World} {R Ld:Value->World->Prop} (h:nz P f args w R) (aV:∀v aK,R v aK->Ld v aK):nz P f args w Ld:=by
 rcases h with⟨af,ag⟩|⟨v,aK,af,ag⟩
 .exact .inl ⟨af,Calls.mono ag λe aK ⟨v,e,h⟩=>⟨v,e,aV v aK h⟩⟩
 .exact .inr ⟨v,aK,af,aV v aK ag⟩
def bt (C:bV) (f:FuncId) (as:ahI) (r:I) (outs:ahI):Prop:=
 ∀(w:World) (F X:Nat->Prop) (S:Nat->Nat->Prop) (vs:ahF),vs.length=as.length->bK w F X F S (fk as) (g1 vs) w->
  nz C.P f vs.toArray w λv aK=>∃bJ aS,bK w F X bJ aS (fk (r::outs)) (g1 (v::vs)) aK
def I.res:I->Bool
 | .h _ _=>false
 | .aw _ _=>false
 | .U _ _=>false
 | .fn _ _=>false
 |_=>true
theorem E4 {d:I} (h:d.tree=true):d.ae=[]:=by cases d<;>first|rfl|(simp[I.tree]at h)
mutual
theorem E5 {s aH:ao}:∀(a:I) (d:I),(∀u∈a.ae,(s u).tree=true->aH u=s u)->view s a=some d->view aH a=some d
 | .h x q,d,hu,h=>by
   have aZ:(s x).tree=true:=by
    simp only[view]at h;split at h
    .rename_i e fz;cases e<;>simp only at h<;>first
      |(cases h;done)
      |(split at h
        .cases h
        .rename_i aw;exact h7 fz (.inl (by simpa using aw)))
    .cases h
   simp only[view]at h⊢;rw[hu x (by simp[I.ae]) aZ];exact h
 | .aw x q,d,hu,h=>by
   have aZ:(s x).tree=true:=by
    simp only[view]at h;split at h
    .rename_i aC;split at h
     .rename_i e fz;exact h7 fz (.inr aC)
     .cases h
    .cases h
   simp only[view]at h⊢;rw[hu x (by simp[I.ae]) aZ];exact h
 | .U x q,d,hu,h=>by simp[view]at h
 | .fn f cap,d,hu,h=>by
   simp only[view,Option.map_eq_some_iff]at h⊢;obtain⟨ds,af,ag⟩:=h;exact⟨ds,Le cap ds (by simpa [I.ae]using hu) af,ag⟩
 | .hole,d,hu,h=>h
 | .bool _,d,hu,h=>h
 | .fo,d,hu,h=>h
 | .int _ _,d,hu,h=>h
 | .str _,d,hu,h=>h
 | .dM,d,hu,h=>h
 | .ah,d,hu,h=>h
 | .slice _,d,hu,h=>h
 | .ad _ _,d,hu,h=>h
 | .ref _,d,hu,h=>h
 | .ai _,d,hu,h=>h
 | .agg _,d,hu,h=>h
 | .tuple _,d,hu,h=>h
 | .dN _,d,hu,h=>h
 | .eQ _ _,d,hu,h=>h
 | .gC _,d,hu,h=>h
theorem Le {s aH:ao}:∀(as:ahI) (ds:ahI),(∀u∈I.dK as,(s u).tree=true->aH u=s u)->views s as=some ds->views aH as=some ds
 |[],ds,hu,h=>h
 |a::as,ds,hu,h=>by
  simp only[I.dK,mem_append]at hu;simp only[views]at h⊢;split at h
  .rename_i x y af ag;rw[E5 a x (λu hm=>hu u (.inl hm)) af,Le as y (λu hm=>hu u (.inr hm)) ag];exact h
  .cases h
end
section
variable {C:bV} {w0 w aK:World} {F0 X F Fc:Nat->Prop} {S:Nat->Nat->Prop} {s aH:ao} {aF iO:Nat->Value}
def Tu (w:World) (F:Nat->Prop) (s:ao) (aF:Nat->Value) (p:cJ) (v:Value) (oU:Nat->Prop):Prop:=
 p.g=true->p.o= .hole\/∃x q j d0,p.a= .h x q/\I.sub q (s x)=some d0/\dh w q (s x) (ct (aF x)) none=some (d0,ct v,j)/\(s x).ae=[]/\
  (q=[]->dy p.o (aF x))/\(q≠[]->(s x).tree=true)/\p.o.gE=true/\ay w F p.o (ct v) oU/\p.o.wd=d0.wd/\∀v,iN d0 v->iN p.o v
theorem Tv:∀(ps:List cJ) (vs:ahF) (s:ao) (S oU:Nat->Nat->Prop),bK w0 F0 X F S s aF w->ps.length=vs.length->
  (∀(i:Nat) (p:cJ) (v:Value),ps[i]? =some p->vs[i]? =some v->Tu w F s aF p v (oU i))->
  (∀i b,oU i b->b<w.heap.size/\¬F b/\(X b\/w0.heap.size<=b)/\∀u,¬S u b)->(∀i az b,i≠az->oU i b->¬oU az b)->iF ps=true->
  ∃dq,bK w0 F0 X F dq (hq s ps) aF w/\∀u b,dq u b->S u b\/∃i,oU i b:=by
 intro ps;induction ps with
 |nil=>intro vs s S oU h _ _ _ _ _;exact⟨S,h,λu b U=>.inl U⟩
 |cons p ps ih=>
  intro vs s S oU h hl E6 U al jM;cases vs with
  |nil=>simp at hl
  |cons v vs=>
   simp only[length_cons,Nat.add_right_cancel_iff]at hl;simp only[iF,Bool.and_eq_true,List.all_eq_true,Bool.or_eq_true,Bool.not_eq_true']at jM;obtain⟨pO,oS⟩:=jM;have vY:∀cE∈ps,(p.g=true\/cE.g=true)->∀u∈p.a.ae,u∉cE.a.ae:=by
    intro cE dT bP u hu;rcases pO cE dT with e|e
    .rcases bP with bP|bP<;>simp[bP]at e
    .simpa using e u hu
   have skip:cJ.je s p=s->∃dq,bK w0 F0 X F dq (hq s (p::ps)) aF w/\∀u b,dq u b->S u b\/∃i,oU i b:=by
    intro fV;obtain⟨dq,aX,bk⟩:=ih vs s S (λi=>oU (i+1)) h hl (λi cE e4 aw aP=>E6 (i+1) cE e4 (by simpa using aw) (by simpa using aP)) (λi b h=>U (i+1) b h)
     (λi az b dG=>al (i+1) (az+1) b (by omega)) oS
    refine⟨dq,?_,λu b hu=>(bk u b hu).imp id λ⟨i,aq⟩=>⟨i+1,aq⟩⟩;show bK _ _ _ _ _ (hq (cJ.je s p) ps) _ _;rw[fV];exact aX
   cases bP:p.g with
   |false=>exact skip (by simp[cJ.je,bP])
   |true=>
    rcases E6 0 p v rfl rfl bP with b_|⟨x,q,j,d0,bY,b1,cd,La,mR,sP,gf,Tw,gF,Tx⟩
    .exact skip (by simp only[cJ.je,bP,b_,if_true])
    .obtain⟨j5,kz,Ty⟩:=rN gf;have fV:cJ.je s p=cY (kR x s) x (I.put q p.o (s x)):=by
      simp only[cJ.je,bP,if_true,bY];cases Tz:p.o<;>first|rfl|(rw[Tz]at gf;simp[I.gE]at gf)
     have step:=h.je (x:=x) (q:=q) (bz:=p.o) b1 cd Ty (λcM=>⟨kz,mR cM⟩) (λk r cM=>⟨sP (by rw[cM];simp),Tx⟩) gF Tw
      (λb h=>(U 0 b h).1) (λb h=>(U 0 b h).2.1) (λu b h=>(U 0 b h).2.2.2 u) (λb h=>(U 0 b h).2.2.1)
     rw[<-fV]at step;obtain⟨dq,aX,bk⟩:=ih vs (cJ.je s p) _ (λi=>oU (i+1)) step hl (by
      intro i cE e4 aw aP hY;have hm:cE∈ps:=mem_of_getElem? aw;rcases E6 (i+1) cE e4 (by simpa using aw) (by simpa using aP) hY with b_|⟨y,j2,J,d1,cv,cK,eJ,cU,fq,dW,jc,c0,mU⟩
      .exact .inl b_
      .have dG:y≠x:=λe=>vY cE hm (.inl bP) x (by rw[bY];simp[I.ae]) (by rw[cv,e];simp[I.ae]);have sD:cJ.je s p y=s y:=by
        rw[fV,iz _ _ dG];exact EM _ (by rw[cU];simp)
       exact .inr ⟨y,j2,J,d1,cv,by rw[sD];exact cK,by rw[sD];exact eJ,by rw[sD];exact cU,fq,by rw[sD];exact dW,jc,c0,mU⟩)
      (by
       intro i b aq;obtain⟨gr,dL,jd,cX⟩:=U (i+1) b aq;refine⟨gr,dL,jd,λu hu=>?_⟩;simp only[gm]at hu;split at hu
       .rcases hu with hu|hu
        .exact cX _ hu
        .exact al 0 (i+1) b (by omega) hu aq
       .exact cX _ hu)
      (λi az b dG=>al (i+1) (az+1) b (by omega)) oS
     refine⟨dq,aX,λu b hu=>?_⟩;rcases bk u b hu with hu|⟨i,aq⟩
     .simp only[gm]at hu;split at hu
      .rename_i e;subst e;exact hu.imp id λh=>⟨0,h⟩
      .exact .inl hu
     .exact .inr ⟨i+1,aq⟩
def kn (ps:List cJ):Bool:=ps.any λp=> !p.g&& !p.a.ae.isEmpty
theorem TA (h:bK w0 F0 X F S s aF w) {ps:List cJ} {vs yz:ahF} {os:ahI} {f:FuncId} {r:I} (hl:ps.length=vs.length) (Lf:∀(i:Nat) (p:cJ),ps[i]? =some p->∃o,os[i]? =some o/\(p.o=o\/p.o=Bn p.d o))
  (jf:∀(i:Nat) (p:cJ) (v:Value),ps[i]? =some p->vs[i]? =some v->p.a.plain=true/\aO w F s aF p.a v (λ_=>False))
  (fH:∀p∈ps,p.ok s) (jM:iF ps=true) (bS:∀(Fc la:Nat->Prop) (ei:Nat->Nat->Prop),(∀b,F b->Fc b)->(∀b,la b->∃u,S u b)->bK w Fc la Fc ei (fk (ps.map (·.d))) (g1 vs) w->
   nz C.P f yz.toArray w λv aK=>∃bJ aS,bK w Fc la bJ aS (fk (r::os)) (g1 (v::vs)) aK) (aV:r.res=true)
  (ba:kn ps=true->r.dj=true/\∀(i:Nat) (p:cJ) (o:I),ps[i]? =some p->os[i]? =some o->p.g=true->o.dj=true):
  nz C.P f yz.toArray w λv aK=>∃bJ aS,bK w0 F0 X bJ aS (hq (fb s ps) ps) aF aK/\lz w0 X bJ aS (hq (fb s ps) ps) aF aK r v/\∀b,F b->bJ b/\aK.heap[b]? =w.heap[b]? :=by
 obtain⟨Sn,ck,aX,bk,ca,dr,er,hd,ja,mw⟩:=Tp ps vs s S h hl (λi p v aw aP=>⟨(jf i p v aw aP).1,(jf i p v aw aP).2,λ_=>fH p (mem_of_getElem? aw)⟩) jM;have apart:∀(i az:Nat) (p cE:cJ),ps[i]? =some p->ps[az]? =some cE->i≠az->(p.g=true\/cE.g=true)->∀u∈p.a.ae,u∉cE.a.ae:=by
  clear jf fH bS ba aX ca dr mw hl Lf;induction ps with
  |nil=>intro i az p cE aw;simp at aw
  |cons g_ ps ih=>
   simp only[iF,Bool.and_eq_true,List.all_eq_true,Bool.or_eq_true,Bool.not_eq_true']at jM;obtain⟨pO,oS⟩:=jM;have vY:∀cE∈ps,(g_.g=true\/cE.g=true)->∀u∈g_.a.ae,u∉cE.a.ae:=by
    intro cE dT bP u hu;rcases pO cE dT with e|e
    .rcases bP with bP|bP<;>simp[bP]at e
    .simpa using e u hu
   intro i az p cE aw dT dG bP u hu;cases i with
   |zero=>
    simp at aw;subst aw;cases az with
    |zero=>exact(dG rfl).elim
    |succ az=>exact vY cE (mem_of_getElem? (by simpa using dT)) bP u hu
   |succ i=>
    cases az with
    |zero=>
     simp at dT;subst dT;exact λyA=>vY p (mem_of_getElem? (by simpa using aw)) bP.symm u yA hu
    |succ az=>exact ih oS i az p cE (by simpa using aw) (by simpa using dT) (by omega) bP u hu
 let Fc:Nat->Prop:=λb=>F b\/(kn ps=true/\∃u,ck u b)
 let la:Nat->Prop:=λb=>∃i,Sn i b
 have Bo:∀b,F b->¬la b:=λb bm ⟨i,aq⟩=>by obtain⟨u,hu⟩:=er i b aq;exact h.fS u b hu bm
 have yB:∀u b,ck u b->¬la b:=λu b hu ⟨i,aq⟩=>hd i u b aq hu;have a3:∀b,la b->(X b\/w0.heap.size<=b)/\b<w.heap.size:=λb ⟨i,aq⟩=>by obtain⟨u,hu⟩:=er i b aq;exact⟨h.dI u b hu,h.et u b hu⟩
 have pre:bK w Fc la Fc Sn (fk (ps.map (·.d))) (g1 vs) w:=by
  refine⟨λ_ h=>h,λ_ h=>.inl h,?_,λi b aq=>(a3 b ⟨i,aq⟩).2,?_,λi az b dG=>ja i az b dG,λi b aq=>.inl ⟨i,aq⟩,?_,λ_ _ _=>rfl,Nat.le_refl _,rfl,rfl,Out.refl _,h.hG.next h.size h.old λb U=>(a3 b U).1⟩
  .rintro b (U|⟨_,u,hu⟩)
   .exact h.fR b U
   .exact aX.et u b hu
  .rintro i b aq (U|⟨_,u,hu⟩)
   .exact Bo b U ⟨i,aq⟩
   .exact hd i u b aq hu
  .intro t;cases aw:ps[t]? with
   |none=>
    have:fk (ps.map (·.d)) t= .hole:=by simp[fk,List.getD,aw]
    rw[this,aO];trivial
   |some p=>
    have en:t<vs.length:=by rw[<-hl];exact(List.getElem?_eq_some_iff.1 aw).1
    have aP:vs[t]? =some vs[t]:=getElem?_eq_getElem en;have a1:fk (ps.map (·.d)) t=p.d:=by simp[fk,List.getD,aw]
    have bc:g1 vs t=vs[t]:=by simp[g1,List.getD,aP]
    rw[a1,bc];have hm:p∈ps:=mem_of_getElem? aw;have au:=fH p hm;cases bP:p.g with
    |true=>
     obtain⟨x,q,j,cv,cK,eJ,cU,fq,dW,jc,c0⟩:=ca t p _ aw aP bP;simp only[cJ.ok,bP,if_true,cv]at au;exact(aO.cI (rN au.2.1).2.1).2 ⟨jc,ay.mono (λb U=>.inl U) _ _ _ _ (λ_ h=>h) c0⟩
    |false=>
     simp only[cJ.ok,bP]at au;obtain⟨f1,f2⟩:=jf t p _ aw aP;have Lg:∀cE∈ps,cE.g=true->∀u∈cE.a.ae,u∉p.a.ae:=by
      intro cE dT hY u hu;obtain⟨az,ch⟩:=getElem?_of_mem dT;refine apart az t cE p ch aw (λe=>?_) (.inl hY) u hu;subst e;rw[aw]at ch;simp only[Option.some.injEq]at ch;rw[ch,hY]at bP;cases bP
     have Bm:=mw _ _ _ Lg f2;have g8:view (fb s ps) p.a=some p.d:=E5 _ _ (λu hu aZ=>E1 (E4 aZ) (λcE dT hY yA=>Lg cE dT hY u yA hu)) (by simpa using au);refine aO.nothing (Tj f1 g8) ((Tl aX (Fc:=Fc) (λb U=>.inl U) (SizeOf.sizeOf p.a)).1 p.a _ p.d (Nat.le_refl _) ?_ g8 Bm);intro u hu b U;refine .inr ⟨?_,u,U⟩;simp only[kn,List.any_eq_true];refine⟨p,hm,?_⟩;cases i9:p.a.ae with
     |nil=>rw[i9]at hu;cases hu
     |cons _ _=>simp[bP]
 refine nz.mono (bS Fc la Sn (λb U=>.inl U) (λb ⟨i,aq⟩=>er i b aq) pre) ?_;rintro v aK ⟨bJ,aS,aC⟩;have e6:∀b,b<w.heap.size->¬la b->aK.heap[b]? =w.heap[b]? :=aC.old;let pR:Nat->Prop:=λb=>if kn ps=true then F b else bJ b
 have Lh:∀b,F b->bJ b:=λb U=>aC.g5 b (.inl U);have ux:∀b,F b->pR b:=λb U=>by
  simp only[pR];split
  .exact U
  .exact Lh b U
 have j6:∀b,pR b->bJ b:=λb U=>by
  simp only[pR]at U;split at U
  .exact Lh b U
  .exact U
 have Li:∀b,pR b->F b\/la b\/w.heap.size<=b:=λb U=>by
  simp only[pR]at U;split at U
  .exact .inl U
  .rename_i sI;rcases aC.ho b U with(U|⟨af,_⟩)|U|U
   .exact .inl U
   .exact(sI af).elim
   .exact .inr (.inl U)
   .exact .inr (.inr U)
 have mid:bK w0 F0 X pR ck (fb s ps) aF aK:=by
  refine⟨λb U=>ux b (aX.g5 b U),?_,λb U=>aC.fR b (j6 b U),λt b U=>Nat.lt_of_lt_of_le (aX.et t b U) aC.size,?_,aX.fe,aX.dI,?_,?_,Nat.le_trans aX.size aC.size,aC.os.trans aX.os,aC.tape.trans aX.tape,aC.output.trans aX.output,aX.hG⟩
  .intro b U;rcases Li b U with U|U|U
   .exact aX.ho b U
   .rcases(a3 b U).1 with h|h
    .exact .inr (.inl h)
    .exact .inr (.inr h)
   .exact .inr (.inr (Nat.le_trans aX.size U))
  .intro t b aZ U;rcases Li b U with U|U|U
   .exact aX.fS t b aZ U
   .exact yB t b aZ U
   .exact absurd (aX.et t b aZ) (by omega)
  .intro t;exact aO.frame (Sx:=ck) (λb U=>e6 b (h.fR b U) (Bo b U)) ux (λx b U=>e6 b (aX.et x b U) (yB x b U)) aX.dz _ _ _ (λb U=>e6 b (aX.et t b U) (yB t b U)) (aX.dz t)
  .intro b U j1;refine(e6 b (Nat.lt_of_lt_of_le U aX.size) λaA=>?_).trans (aX.old b U j1);rcases(a3 b aA).1 with h|h
   .exact j1 h
   .omega
 have Lj:∀(d:I) (cs:ahF) (dI:Nat->Prop),(kn ps=true->d.dj=true)->ay aK bJ d cs dI->ay aK pR d cs dI:=by
  intro d cs dI EG gR;by_cases hle:kn ps=true
  .exact ay.dj d cs dI (EG hle) gR
  .exact ay.mono (λb U=>by simp only[pR];rw[if_neg hle];exact U) _ _ _ _ (λ_ h=>h) gR
 have bound:∀i b,aS i b->b<aK.heap.size/\¬pR b/\(X b\/w0.heap.size<=b)/\∀u,¬ck u b:=by
  intro i b U;refine⟨aC.et i b U,λbm=>aC.fS i b U (j6 b bm),?_,λu hu=>?_⟩
  .rcases aC.dI i b U with aA|aA
   .exact(a3 b aA).1
   .exact .inr (Nat.le_trans aX.size aA)
  .rcases aC.dI i b U with aA|aA
   .exact yB u b hu aA
   .exact absurd (aX.et u b hu) (by omega)
 obtain⟨dq,cv,cK⟩:=Tv ps vs (fb s ps) ck (λi=>aS (i+1)) mid hl (by
  intro i p e4 aw aP bP;have hm:p∈ps:=mem_of_getElem? aw;have au:=fH p hm;obtain⟨x,q,j,a1,bc,bb,cl,cR,b0,b7,hW⟩:=ca i p e4 aw aP bP;simp only[cJ.ok,bP,if_true,a1]at au;rcases au.2.2 with b_|b_
  .exact .inl b_
  .obtain⟨di,l2,E7⟩:=Tm au.2.1 b_.1 b_.2;refine .inr ⟨x,q,j,p.d.cZ,a1,bc,?_,cl,λcM=>l2 _ (cR cM),b0,b_.1,?_,di.trans (I.sA _).symm,E7⟩
   .cases q with
    |nil=>simpa only[dh]using bb
    |cons k q=>
     have aZ:=b0 (by simp);rw[AP (k::q) _ _ (ck x) none _ ((aO.cI aZ).1 (aX.dz x)).2 bc (λb U=>e6 b (aX.et x b U) (yB x b U))];exact bb
   .have:=aC.dz (i+1);obtain⟨o,j5,kz⟩:=Lf i p aw;have gQ:fk (r::os) (i+1)=o:=by simp[fk,List.getD,j5]
    have kk:g1 (v::vs) (i+1)=e4:=by simp[g1,List.getD,aP]
    rw[gQ,kk]at this;have TB:o.tree=true:=by
     rcases kz with e|e
     .rw[<-e];exact(rN b_.1).2.1
     .exact Ts (d:=p.d) (by rw[<-e];exact(rN b_.1).2.1)
    have af:=Lj _ _ _ (λhle=>(ba hle).2 i p o aw j5 bP) ((aO.cI TB).1 this).2;rcases kz with e|e
    .rw[e];exact af
    .rw[e];exact Tt ux (λb U=>e6 b (h.fR b U) (Bo b U)) hW af)
  (λi b U=>bound (i+1) b U) (λi az b dG=>aC.fe (i+1) (az+1) b (by omega)) jM
 refine⟨pR,dq,cv,?_,λb U=>⟨ux b U,e6 b (h.fR b U) (Bo b U)⟩⟩;have bA:=aC.dz 0;have gQ:fk (r::os) 0=r:=rfl;have kk:g1 (v::vs) 0=v:=rfl;rw[gQ,kk]at bA;cases aZ:r.tree with
 |false=>
  cases r<;>first
   |(simp[I.tree]at aZ;done)
   |(simp[I.res]at aV;done)
   |exact .inl ⟨rfl,by rw[aO];trivial⟩
 |true=>
  obtain⟨s1,s2⟩:=(aO.cI aZ).1 bA;have kV:=Lj _ _ _ (λhle=>(ba hle).1) s2;refine .inr ⟨aZ,s1,aS 0,kV,λb U=>(bound 0 b U).1,λb U=>(bound 0 b U).2.1,λu b U hu=>?_,λb U=>(bound 0 b U).2.2.1⟩;rcases cK u b hu with hu|⟨i,aq⟩
  .exact(bound 0 b U).2.2.2 u hu
  .exact aC.fe 0 (i+1) b (by omega) U aq
theorem Lk (h:bK w0 F0 X F S s aF w) {ps:List cJ} {vs:ahF} {f:FuncId} {r:I} (hl:ps.length=vs.length)
  (jf:∀(i:Nat) (p:cJ) (v:Value),ps[i]? =some p->vs[i]? =some v->p.a.plain=true/\aO w F s aF p.a v (λ_=>False))
  (fH:∀p∈ps,p.ok s) (jM:iF ps=true) (bS:∀(Fc la:Nat->Prop) (ei:Nat->Nat->Prop),(∀b,F b->Fc b)->(∀b,la b->∃u,S u b)->bK w Fc la Fc ei (fk (ps.map (·.d))) (g1 vs) w->
   nz C.P f vs.toArray w λv aK=>∃bJ aS,bK w Fc la bJ aS (fk (r::ps.map (·.o))) (g1 (v::vs)) aK) (aV:r.res=true)
  (ba:kn ps=true->r.dj=true/\∀p∈ps,p.o.dj=true):
  nz C.P f vs.toArray w λv aK=>∃bJ aS,bK w0 F0 X bJ aS (hq (fb s ps) ps) aF aK/\lz w0 X bJ aS (hq (fb s ps) ps) aF aK r v/\∀b,F b->bJ b/\aK.heap[b]? =w.heap[b]? :=
 TA h hl (λi p aw=>⟨p.o,by simp[aw],.inl rfl⟩) jf fH jM bS aV λhle=>⟨(ba hle).1,λi p o aw b_ _=>by
  rw[getElem?_map,aw]at b_;have:=Option.some.inj b_;subst this;exact(ba hle).2 p (mem_of_getElem? aw)⟩
theorem TC (h:bK w0 F0 X F S s aF w) {ps:List cJ} {vs:ahF} {f:FuncId} {r:I} (hl:ps.length=vs.length)
  (jf:∀(i:Nat) (p:cJ) (v:Value),ps[i]? =some p->vs[i]? =some v->p.a.plain=true/\aO w F s aF p.a v (λ_=>False))
  (fH:∀p∈ps,p.ok s) (jM:iF ps=true) (bS:bt C f (ps.map (·.d)) r (ps.map (·.o))) (aV:r.res=true)
  (ba:kn ps=true->r.dj=true/\∀p∈ps,p.o.dj=true):
  nz C.P f vs.toArray w λv aK=>∃bJ aS,bK w0 F0 X bJ aS (hq (fb s ps) ps) aF aK/\lz w0 X bJ aS (hq (fb s ps) ps) aF aK r v/\∀b,F b->bJ b/\aK.heap[b]? =w.heap[b]? :=
 Lk h hl jf fH jM (λFc la ei _ _ aw=>bS w Fc la ei vs (by simp[hl]) aw) aV ba
end
structure bW where
 dst:Option Nat
 bE:dU
 guard:Option (Nat×Bool)
def uy (ops:Array Oper):Option (Nat×Bool)->Option (Option (Nat×Bool))
 |none=>some none
 |some (az,b)=>match(ops[az]?).bind (·.dst)with
  |some t=>some (some (t,b))
  |none=>none
structure Fr where
 n:Nat
 fx:ahC
def lE (n:Fr):Option Nat->Bool
 |none=>true
 |some t=>decide (t<n.n)&& !n.fx.contains t
def rO (op:Op):dU:=match c2 op with
 |some bE=>bE
 |none=>.bad
def lb (n:Fr) (ops:Array Oper) (o:Oper):Option bW:=
 if lE n o.dst=true then match uy ops o.guard with
  |some g=>some ⟨o.dst,rO o.op,g⟩
  |none=>none
 else none
def pS (n:Fr) (ops:Array Oper):List Oper->Option (List bW)
 |[]=>some []
 |o::os=>match lb n ops o,pS n ops os with
  |some r,some rs=>some (r::rs)
  |_,_=>none
def E8 (C:bV) (s:ao) (f:bn) (args:List bn) (K:I->ao->Prop):Prop:=
 ∃(g:FuncId) (caps:ahI) (ps:List cJ) (r:I),br s f= .fn g caps/\I.eY caps=true/\ps.map (·.a)=args.map (br s)++caps/\(∀p∈ps,p.ok s)/\iF ps=true/\
   bt C g (ps.map (·.d)) r (ps.map (·.o))/\r.res=true/\(kn ps=true->r.dj=true/\∀p∈ps,p.o.dj=true)/\K r (hq (fb s ps) ps)
mutual
def I.fI (s:ao):I->Bool
 | .h x q=>q.isEmpty&&(s x).own
 | .U x _=> !(s x).plain
 | .aw _ _=>false
 | .hole=>true
 | .fn _ cap=>I.oV s cap
 |d=>d.plain
def I.oV (s:ao):ahI->Bool
 |[]=>true
 |d::ds=>d.fI s&&I.oV s ds
end
def nA (s:ao):ahH->ao
 |[]=>s
 |p::L=>nA (cY s p.1 p.2) L
def lZ (s:ao):ahH->Bool
 |[]=>true
 |p::L=>p.2.fI s&&lZ s L
def jP (s:ao) (us:ahC):ahH:=us.map λu=>(u,s u)
def nB (C:bV) (s:ao) (bE:dU) (K:I->ao->Prop):Prop:=
 match bE with
 | .call f args=>∃(g:FuncId) (caps:ahI) (ps:List cJ) (r:I),br s f= .fn g caps/\I.eY caps=true/\ps.map (·.a)=args.map (br s)++caps/\(∀p∈ps,p.ok s)/\iF ps=true/\
   bt C g (ps.map (·.d)) r (ps.map (·.o))/\r.res=true/\(kn ps=true->r.dj=true/\∀p∈ps,p.o.dj=true)/\K r (hq (fb s ps) ps)
 | .shr bE=>∃av s1,bL C s bE=some (av,s1)/\av.tree=true/\(∀vs,av≠.tuple vs)/\K av.share s1
 | .lX f args us=>lZ s (jP s us)=true/\E8 C s f args λav s1=>lZ s1 (jP s us)=true/\K av (nA s1 (jP s us))
 |bE=>∃av s1,bL C s bE=some (av,s1)/\K av s1
theorem Bp {C:bV} {s:ao} {bE:dU} {K de:I->ao->Prop} (h:nB C s bE K) (au:∀av s,K av s->de av s):nB C s bE de:=by
 cases bE with
 |call f args=>
  obtain⟨g,caps,ps,r,af,gS,ag,aJ,a_,bC,cw,cQ,e3⟩:=h;exact⟨g,caps,ps,r,af,gS,ag,aJ,a_,bC,cw,cQ,au _ _ e3⟩
 |shr bE=>
  obtain⟨av,s1,af,ag,aJ,a_⟩:=h;exact⟨av,s1,af,ag,aJ,au _ _ a_⟩
 |lX f args us=>
  obtain⟨cK,g,caps,ps,r,af,gS,ag,aJ,a_,bC,cw,cQ,e3,jq⟩:=h;exact⟨cK,g,caps,ps,r,af,gS,ag,aJ,a_,bC,cw,cQ,e3,au _ _ jq⟩
 |_=>
  obtain⟨av,s1,af,ag⟩:=h;exact⟨av,s1,af,au _ _ ag⟩
def ld (C:bV) (s:ao) (o:bW) (K:ao->Prop):Prop:=
 match o.guard with
 |none=>nB C s o.bE λav s1=>K (fin s1 o.dst av)
 |some (t,b)=>match s t with
  | .bool ee=>if ee=b then nB C s o.bE (λav s1=>K (fin s1 o.dst av))else K (fin s o.dst (.tuple []))
  | .tuple []=>K (fin s o.dst (.tuple []))
  |_=>False
def l0 (C:bV) (s:ao):List bW->(ao->Prop)->Prop
 |[],K=>K s
 |o::os,K=>ld C s o λs1=>l0 C s1 os K
def g2 (C:bV) (ros:List bW) (s:ao):ahC->(ao->Prop)->Prop
 |[],K=>K s
 |i::l,K=>match ros[i]? with
  |none=>g2 C ros s l K
  |some o=>ld C s o λs1=>g2 C ros s1 l K
theorem TD (C:bV) (K:ao->Prop):∀(rs pre:List bW) (s:ao),l0 C s rs K->g2 C (pre++rs) s ((range rs.length).map (·+pre.length)) K:=by
 intro rs;induction rs with
 |nil=>intro pre s h;exact h
 |cons r rs ih=>
  intro pre s h;rw[length_cons,range_succ_eq_map,map_cons,List.map_map];simp only[g2,Nat.zero_add];rw[getElem?_append_right (Nat.le_refl _)];simp only[Nat.sub_self,getElem?_cons_zero];have key:∀s1,l0 C s1 rs K->g2 C (pre++r::rs) s1 ((range rs.length).map ((λx=>x+pre.length)∘succ)) K:=by
   intro s1 af;have:=ih (pre++[r]) s1 af;simp only[append_assoc,singleton_append,length_append,length_singleton]at this;have e:((λx=>x+pre.length)∘succ)=λx=>x+(pre.length+1):=by funext x;simp;omega
   rw[e];exact this
  simp only[l0]at h;unfold ld at h⊢;split
  .rename_i bP;rw[bP]at h;exact Bp h λav s1=>key _
  .rename_i t b bP;rw[bP]at h;simp only at h;split
   .rename_i ee ae;rw[ae]at h;simp only at h;split
    .rename_i U;rw[if_pos U]at h;exact Bp h λav s1=>key _
    .rename_i U;rw[if_neg U]at h;exact key _ h
   .rename_i ae;rw[ae]at h;exact key _ h
   .rename_i af ag;split at h
    .exact af _ (by assumption)
    .exact ag (by assumption)
    .exact h
structure Rel (w0:World) (F0 X:Nat->Prop) (n:Fr) (ρ:Nat->Value) (s:ao) (a:Act) (w:World):Prop where
 defers:a.defers=[]
 size:a.tmps.size=n.n
 fixed:∀i∈n.fx,a.tmps.getD i undef=ρ i
 rel:∃F S,bK w0 F0 X F S s (λt=>a.tmps.getD t undef) w
section
variable {C:bV} {w0 w:World} {F0 X:Nat->Prop} {n:Fr} {ρ:Nat->Value} {s s1:ao} {a:Act} {av:I} {Q:Exit->Act->World->Prop}
theorem yC {dst:Option Nat} (v:Value) (ae:a.tmps.size=n.n) (al:lE n dst=true):
  (λt=>(a.put dst v).tmps.getD t undef)=px (λt=>a.tmps.getD t undef) dst v/\(a.put dst v).tmps.size=n.n/\(a.put dst v).defers=a.defers:=by
 cases dst with
 |none=>exact⟨rfl,ae,rfl⟩
 |some d=>
  simp only[lE,Bool.and_eq_true,decide_eq_true_eq]at al;refine⟨?_,by simp[Act.put,ae],rfl⟩;funext t;simp only[Act.put,px,cY,Array.getD_eq_getD_getElem?];by_cases h:t=d
  .subst h;rw[if_pos rfl,Array.getElem?_setIfInBounds_self_of_lt (by omega)];rfl
  .rw[if_neg h,Array.getElem?_setIfInBounds_ne (λe=>h e.symm)]
theorem Rel.put {F S} (al:a.defers=[]) (ae:a.tmps.size=n.n) (bS:∀i∈n.fx,a.tmps.getD i undef=ρ i) {aK:World} (aV:bK w0 F0 X F S s (λt=>a.tmps.getD t undef) aK) {v:Value} (aP:lz w0 X F S s (λt=>a.tmps.getD t undef) aK av v)
  {dst:Option Nat} (fH:lE n dst=true):Rel w0 F0 X n ρ (fin s dst av) (a.put dst v) aK:=by
 obtain⟨a1,bc,bb⟩:=yC (n:=n) (dst:=dst) v ae fH;obtain⟨aS,bO⟩:=aV.fin aP dst;refine⟨bb.trans al,bc,λi aq=>?_,F,aS,by rw[a1];exact bO⟩;rw[congrFun a1 i];cases dst with
 |none=>exact bS i aq
 |some d=>
  simp only[lE,Bool.and_eq_true,Bool.not_eq_true',contains_eq_mem,decide_eq_false_iff_not]at fH;have dG:i≠d:=λe=>fH.2 (by rw[<-e];exact aq);simp only[px];rw[iz _ _ dG];exact bS i aq
theorem Rel.skip (h:Rel w0 F0 X n ρ s a w) {dst:Option Nat} (fH:lE n dst=true):Rel w0 F0 X n ρ (fin s dst (.tuple [])) (a.put dst undef) w:=by
 obtain⟨al,ae,bS,F,S,aV⟩:=h;refine Rel.put (av:=.tuple []) al ae bS aV (.inl ⟨rfl,(aO.cI (d:=.tuple []) rfl).2 ⟨?_,?_⟩⟩) fH
 .exact⟨#[],rfl,rfl,λk d x au=>by simp at au⟩
 .rw[ay,bh];rfl
theorem Ll {F:Nat->Prop} {aF:Nat->Value} {w:World}:∀{ds es:ahI} {vs us:ahF},ef w F s aF ds vs->ef w F s aF es us->ef w F s aF (ds++es) (vs++us):=by
 intro ds;induction ds with
 |nil=>intro es vs us af ag;rw[ef]at af;subst af;exact ag
 |cons d ds ih=>
  intro es vs us af ag;rw[ef]at af;obtain⟨v,gY,rfl,aX,bk⟩:=af;rw[cons_append,cons_append,ef];exact⟨v,_,rfl,aX,ih bk ag⟩
theorem Lm {F:Nat->Prop} {aF:Nat->Value} {w:World}:∀{ds:ahI} {vs:ahF},ef w F s aF ds vs->ds.length=vs.length/\∀(i:Nat) (d:I) (v:Value),ds[i]? =some d->vs[i]? =some v->aO w F s aF d v (λ_=>False):=by
 intro ds;induction ds with
 |nil=>intro vs h;rw[ef]at h;subst h;exact⟨rfl,λi d v h=>by simp at h⟩
 |cons d ds ih=>
  intro vs h;rw[ef]at h;obtain⟨v,gY,rfl,aX,bk⟩:=h;obtain⟨cv,cK⟩:=ih bk;refine⟨by simp[cv],λi bz e4 al aP=>?_⟩;cases i with
  |zero=>simp at al aP;subst al aP;exact aX
  |succ i=>exact cK i bz e4 (by simpa using al) (by simpa using aP)
theorem qN {op:Op} {bE:dU} (h:rO op=bE):bE= .bad\/c2 op=some bE:=by
 unfold rO at h;split at h
 .subst h;right;assumption
 .exact .inl h.symm
theorem TE {op:Op} {bE:dU}:c2 op≠some (.shr bE):=by
 intro h;unfold c2 at h;split at h<;>(try split at h)<;>(try split at h)<;>(try split at h)<;>(try simp[Option.map_eq_some_iff]at h)
theorem TF {op:Op} {f:bn} {args:List bn} {us:ahC}:c2 op≠some (.lX f args us):=by
 intro h;unfold c2 at h;split at h<;>(try split at h)<;>(try split at h)<;>(try split at h)<;>(try simp[Option.map_eq_some_iff]at h)
theorem TG {op:Op} {T:TypeId} {x:bn}:c2 op≠some (.h8 T x):=by
 intro h;unfold c2 at h;split at h<;>(try split at h)<;>(try split at h)<;>(try split at h)<;>(try simp[Option.map_eq_some_iff]at h)
theorem TH {op:Op} {x:bn}:c2 op≠some (.mX x):=by
 intro h;unfold c2 at h;split at h<;>(try split at h)<;>(try split at h)<;>(try split at h)<;>(try simp[Option.map_eq_some_iff]at h)
theorem TI {op:Op} {x:bn}:c2 op≠some (.my x):=by
 intro h;unfold c2 at h;split at h<;>(try split at h)<;>(try split at h)<;>(try split at h)<;>(try simp[Option.map_eq_some_iff]at h)
theorem TJ {op:Op} {x:bn} (h:c2 op=some (.gI x)):∃cL,op= .move cL/\dE cL=some x:=by
 unfold c2 at h;split at h<;>(try split at h)<;>(try split at h)<;>(try split at h)<;>(try simp[Option.map_eq_some_iff]at h)
 exact⟨_,rfl,h⟩
theorem TK {op:Op} {x:bn} (h:c2 op=some (.lW x)):∃cL,op= .assign cL/\dE cL=some x:=by
 unfold c2 at h;split at h<;>(try split at h)<;>(try split at h)<;>(try split at h)<;>(try simp[Option.map_eq_some_iff]at h)
 exact⟨_,rfl,h⟩
theorem TL {op:Op} {T cb:TypeId} {x y:bn}:c2 op≠some (.iE T cb x y):=by
 intro h;unfold c2 at h;split at h<;>(try split at h)<;>(try split at h)<;>(try split at h)<;>(try simp[Option.map_eq_some_iff]at h)
theorem TM {op:Op} {T cb:TypeId} {x y:bn} (h:c2 op=some (.app T cb x y)):∃a b,op= .call ⟨.builtin .append,#[a,b],#[T,cb]⟩/\dE a=some x/\dE b=some y:=by
 cases op with
 |call c=>
  obtain⟨callee,args,argTypes⟩:=c;simp only[c2]at h;split at h
  .split at h<;>simp at h
  .split at h<;>simp at h
  .split at h<;>simp at h
  ·(split at h<;>try split at h)<;>simp at h
  ·(split at h<;>try split at h)<;>simp at h
  .split at h
   .rename_i a b uz Bk nx ur;split at h
    .rename_i cL ly aA bu;simp only[Option.some.injEq,dU.app.injEq]at h;obtain⟨rfl,rfl,rfl,rfl⟩:=h;refine⟨a,b,?_,aA,bu⟩;have a1:args= #[a,b]:=by apply Array.ext';exact nx
     have bc:argTypes= #[uz,Bk]:=by apply Array.ext';exact ur
     subst a1 bc;rfl
    .cases h
   .cases h
  .cases h
 |makeFunc fn first cs=>
  cases fn<;>simp only[c2]at h<;>first|(cases h;done)|(split at h<;>simp at h)
 |slice T x e5 aq e2=>
  cases e2<;>simp only[c2]at h<;>first|(cases h;done)|(split at h<;>simp at h)
 |makeMap T r=>cases r<;>simp only[c2]at h<;>simp at h
 |lookup T x i c=>cases c<;>simp only[c2]at h<;>first|(cases h;done)|(split at h<;>simp at h)
 |_=>simp only[c2]at h<;>first|(cases h;done)|(simp at h;done)|(split at h<;>simp at h)
theorem bK.alias {F:Nat->Prop} {S:Nat->Nat->Prop} {aF:Nat->Value} {u x:Nat} (h:bK w0 F0 X F S s aF w) (hu:s u= .hole) (aA:(s x).own=true) (aP:ct (aF u)=ct (aF x)) (af:Value.fN (aF u)=true):
  bK w0 F0 X F (gm S u (λ_=>False)) (cY s u (.h x [])) aF w:=by
 have ea:cY aF u (aF u)=aF:=by funext y;simp only[cY];split<;>simp_all
 have:=h.rn (t:=u) (d:=.h x []) (v:=aF u) rfl (by
  rw[aO];intro d al aw;simp only[I.sub,Option.some.injEq]at al;subst al;exact⟨ct (aF x),none,rfl,aP,((uw aA).2.2.2.2.2 _).2 af⟩)
 rwa [ea]at this
theorem lz.less {F:Nat->Prop} {S aS:Nat->Nat->Prop} {aF:Nat->Value} {s1:ao} {v:Value} (bN:∀u b,aS u b->S u b) (aV:av.res=true) (h:lz w0 X F S s aF w av v):lz w0 X F aS s1 aF w av v:=by
 rcases h with⟨af,ag⟩|⟨af,ag,Sn,aJ,a_,bC,cw,cQ⟩
 .refine .inl ⟨af,?_⟩;cases av<;>first
   |(simp[I.res]at aV;done)
   |(rw[aO];trivial)
   |(rw[aO]at ag⊢;exact ag)
 .exact .inr ⟨af,ag,Sn,aJ,a_,bC,λu b U hu=>cw u b U (bN u b hu),cQ⟩
theorem Ln (bx:C.eN) (h:Rel w0 F0 X n ρ s a w) {o:Oper} {f:bn} {args:List bn} (cz:c2 o.op=some (.call f args)) (al:lE n o.dst=true) {K:I->ao->Prop} {L:ao->Prop} {next:Act->World->Prop}
  (hw:E8 C s f args K) (qO:∀F S bJ aS w aK av s1 v,bK w0 F0 X F S s (λt=>a.tmps.getD t undef) w->K av s1->av.res=true->bK w0 F0 X bJ aS s1 (λt=>a.tmps.getD t undef) aK->lz w0 X bJ aS s1 (λt=>a.tmps.getD t undef) aK av v->(∀b,F b->bJ b/\aK.heap[b]? =w.heap[b]?)->
   ∃s2 dq,L (fin s2 o.dst av)/\bK w0 F0 X bJ dq s2 (λt=>a.tmps.getD t undef) aK/\lz w0 X bJ dq s2 (λt=>a.tmps.getD t undef) aK av v)
  (ba:∀aH cj aK,L aH->Rel w0 F0 X n ρ aH cj aK->next cj aK):o.wp C.P a w next Q:=by
 have hrel:=h;obtain⟨iQ,dR,hr,F,S,aV⟩:=h;obtain⟨g,caps,ps,r,af,gS,ag,aJ,a_,bC,cw,cQ,e3⟩:=hw;obtain⟨dst,op,ty,pos,after,guard⟩:=o;simp only at cz al qO;cases op with
 |call c=>
  obtain⟨callee,oW,argTypes⟩:=c;simp only[c2]at cz;split at cz
  .split at cz
   .rename_i yD _ _ TN xs bS qM;simp only[Option.some.injEq,dU.call.injEq]at cz;obtain⟨rfl,rfl⟩:=cz;obtain⟨f1,f2⟩:=fA aV (λ_=>rfl) bS;rw[af,aO]at f2;obtain⟨arr,f3,f4⟩:=f2;have uA:execOp a.eval {dst,op:=.call {callee:=.value yD,args:=oW,argTypes},type:=ty,pos,after,guard}=callFunc g ((oW.toList.map a.eval++arr.toList).toArray):=by
     have:a.eval yD= .func (.func g) #[] arr:=f3;simp only[execOp,resolve,this,Deferred.ofValue,pure_bind,invoke];congr 1;apply Array.ext';simp
    unfold Oper.wp;rw[uA];have yE:ef w F s (λt=>a.tmps.getD t undef) (xs.map (br s)++caps) (oW.toList.map a.eval++arr.toList):=Ll (Bg aV (λ_=>rfl) _ _ (uq qM)) f4;rw[<-ag]at yE;obtain⟨di,l2⟩:=Lm yE;have hc:∀d∈xs.map (br s)++caps,d.plain=true:=by
     intro d al;rcases mem_append.1 al with al|al
     .obtain⟨x,aA,rfl⟩:=mem_map.1 al;exact JW s x λav e=>by
       subst e;have hm:=uq qM;have:some (bn.c av)∈xs.map some:=mem_map.2 ⟨_,aA,rfl⟩;rw[<-hm]at this;obtain⟨o,_,b_⟩:=mem_map.1 this;cases o with
       |const v=>simp only[dE,Option.map_eq_some_iff]at b_;obtain⟨c,aC,e⟩:=b_;cases e;exact Ea aC
       |tmp n=>simp[dE]at b_
       |func g=>simp[dE]at b_
       |global g=>simp[dE]at b_
     .obtain⟨k,au⟩:=getElem?_of_mem al;exact AO gS au
    have E9:=TC (C:=C) aV (ps:=ps) (vs:=oW.toList.map a.eval++arr.toList) (f:=g) (r:=r) (by simpa using di)
     (λi p v aw aP=>⟨hc p.a (by rw[<-ag];exact mem_map.2 ⟨p,mem_of_getElem? aw,rfl⟩),l2 i p.a v (by simp[aw]) aP⟩) aJ a_ bC cw cQ
    rcases E9 with⟨dZ,bD⟩|⟨v,aK,dZ,bJ,aS,bD,dS,cG⟩
    .rw[dZ,Oper.upon_enter];refine Calls.mono bD ?_;rintro e aK ⟨v,rfl,bJ,aS,cv,cK,eJ⟩;obtain⟨s2,dq,fY,g6,jt⟩:=qO _ _ _ _ _ _ _ _ _ aV e3 cw cv cK eJ;exact ba _ _ _ fY (Rel.put iQ dR hr g6 jt al)
    .rw[dZ,Oper.upon_value];obtain⟨s2,dq,fY,g6,jt⟩:=qO _ _ _ _ _ _ _ _ _ aV e3 cw bD dS cG;exact ba _ _ _ fY (Rel.put iQ dR hr g6 jt al)
   .cases cz
  .split at cz
   .simp only[Option.map_eq_some_iff]at cz;obtain⟨_,_,cz⟩:=cz;cases cz
   .cases cz
  .split at cz
   .simp only[Option.map_eq_some_iff]at cz;obtain⟨_,_,cz⟩:=cz;cases cz
   .cases cz
  iterate 3
   .split at cz
    .split at cz<;>cases cz
    .cases cz
  .cases cz
 |makeFunc fn first cs=>
  cases fn<;>simp only[c2]at cz<;>first|(cases cz;done)|(split at cz<;>simp at cz)
 |slice T x e5 aq e2=>
  cases e2<;>simp only[c2]at cz<;>first|(cases cz;done)|(split at cz<;>simp at cz)
 |makeMap T r=>cases r<;>simp only[c2]at cz<;>simp at cz
 |lookup T x i c=>cases c<;>simp only[c2]at cz<;>first|(cases cz;done)|(split at cz<;>simp at cz)
 |_=>simp only[c2]at cz<;>first|(cases cz;done)|(simp at cz;done)|(split at cz<;>simp at cz)
theorem TO (bx:C.eN) (h:Rel w0 F0 X n ρ s a w) {o:Oper} {bE:dU} (cz:c2 o.op=some bE) (al:lE n o.dst=true) {K:ao->Prop} {next:Act->World->Prop}
  (hw:nB C s bE λav s1=>K (fin s1 o.dst av)) (ba:∀aH cj aK,K aH->Rel w0 F0 X n ρ aH cj aK->next cj aK):o.wp C.P a w next Q:=by
 have hrel:=h;obtain⟨iQ,dR,hr,F,S,aV⟩:=h;have plain:∀av s1,bL C s bE=some (av,s1)->K (fin s1 o.dst av)->o.wp C.P a w next Q:=by
  intro av s1 he au;obtain⟨r,aK,v,bJ,aS,af,ag,aJ,a_⟩:=KP (a:=a) bx aV (λ_=>rfl) cz he;unfold Oper.wp;rw[af];rcases ag with rfl|⟨rfl,rfl⟩
  .exact ba _ _ _ au (Rel.put iQ dR hr aJ a_ al)
  .exact ba _ _ _ au (Rel.put iQ dR hr aJ a_ al)
 cases bE with
 |shr bE=>exact(TE cz).elim
 |iE T cb x y=>exact(TL cz).elim
 |call f args=>exact Ln bx ⟨iQ,dR,hr,F,S,aV⟩ cz al (K:=λav s1=>K (fin s1 o.dst av)) hw (λ_ _ _ aS _ _ _ s1 _ _ ag _ aJ a_ _=>⟨s1,aS,ag,aJ,a_⟩) ba
 |lX f args L=>exact(TF cz).elim
 |h8 T x=>exact(TG cz).elim
 |mX x=>exact(TH cz).elim
 |my x=>exact(TI cz).elim
 |_=>
  obtain⟨av,s1,he,au⟩:=hw;exact plain av s1 he au
theorem lz.share {F:Nat->Prop} {S:Nat->Nat->Prop} {aF:Nat->Value} {v:Value} (h:bK w0 F0 X F S s aF w) (aP:lz w0 X F S s aF w av v) (aZ:av.tree=true) (ba:∀vs,av≠.tuple vs):
  ∃bJ,bK w0 F0 X bJ S s aF w/\lz w0 X bJ S s aF w av.share v:=by
 obtain⟨Sn,gu,fF,jb,iC,mx,sQ⟩:∃Sn:Nat->Prop,dy av v/\ay w F av (ct v) Sn/\(∀b,Sn b->b<w.heap.size)/\(∀b,Sn b->¬F b)/\(∀u b,Sn b->¬S u b)/\(∀b,Sn b->X b\/w0.heap.size<=b):=by
  rcases aP with⟨af,ag⟩|⟨_,ag,Sn,aJ,a_,bC,cw,cQ⟩
  .rw[aO.cI aZ]at ag;exact⟨λ_=>False,ag.1,ag.2,λ_ h=>h.elim,λ_ h=>h.elim,λ_ _ h=>h.elim,λ_ h=>h.elim⟩
  .exact⟨Sn,ag,aJ,a_,bC,cw,cQ⟩
 refine⟨λb=>F b\/Sn b,?_,.inl ⟨EW av,?_⟩⟩
 .exact {
   g5:=λb U=>.inl (h.g5 b U)
   ho:=λb U=>by
    rcases U with U|U
    .exact h.ho b U
    .exact .inr (sQ b U)
   fR:=λb U=>U.elim (h.fR b) (jb b)
   et:=h.et
   fS:=λt b U bS=>bS.elim (h.fS t b U) (λae=>mx t b ae U)
   fe:=h.fe
   dI:=h.dI
   dz:=λt=>aO.frame (λ_ _=>rfl) (λb U=>.inl U) (λ_ _ _=>rfl) h.dz _ _ _ (λ_ _=>rfl) (h.dz t)
   old:=h.old
   size:=h.size
   os:=h.os
   tape:=h.tape
   output:=h.output
   hG:=h.hG}
 .by_cases b_:∃o,av= .dN o
  .obtain⟨o,rfl⟩:=b_;rw[I.share,aO];trivial
  by_cases Bq:∃f c,av= .eQ f c
  .obtain⟨f,c,rfl⟩:=Bq;rw[I.share,aO];trivial
  by_cases Lo:∃c,av= .gC c
  .obtain⟨c,rfl⟩:=Lo;rw[I.share,aO];trivial
  have TP:av.share.tree=true:=by cases av<;>first|exact aZ|rfl|exact(b_ ⟨_,rfl⟩).elim|exact(Bq ⟨_,_,rfl⟩).elim|exact(Lo ⟨_,rfl⟩).elim
  rw[aO.cI TP];exact⟨EY ba gu,ay.shared (λb U=>.inl U) av _ Sn (λb U=>.inr U) fF⟩
theorem TQ {op:Op} {T:TypeId} {x:bn} (h:c2 op=some (.g7 T x)):∃a,op= .box T a/\dE a=some x:=by
 cases op with
 |box uz a=>
  simp only[c2,Option.map_eq_some_iff,dU.g7.injEq]at h;obtain⟨y,bu,rfl,rfl⟩:=h;exact⟨a,rfl,bu⟩
 |_=>
  exfalso;unfold c2 at h;split at h<;>(try split at h)<;>(try split at h)<;>(try split at h)<;>(try simp[Option.map_eq_some_iff]at h)<;>contradiction
theorem TR {aK:World} {F bJ:Nat->Prop} {s s1:ao} {aF:Nat->Value} (bm:∀b,F b->bJ b/\aK.heap[b]? =w.heap[b]?):∀(n:Nat),
  (∀(d:I) (v:Value) (S:Nat->Prop),SizeOf.sizeOf d<=n->d.fI s=true->d.fI s1=true->aO w F s aF d v S->aO aK bJ s1 aF d v (λ_=>False))/\
  (∀(ds:ahI) (vs:ahF),SizeOf.sizeOf ds<=n->I.oV s ds=true->I.oV s1 ds=true->ef w F s aF ds vs->ef aK bJ s1 aF ds vs):=by
 intro n;induction n with
 |zero=>
  refine⟨λd v S b3=>?_,λds vs b3=>?_⟩
  .cases d<;>simp at b3<;>omega
  .cases ds<;>simp at b3<;>omega
 |succ n ih=>
  refine⟨λd v S b3 cv cK h=>?_,λds vs b3 cv cK h=>?_⟩
  .cases d with
   |hole=>rw[aO];trivial
   |h x q=>
    simp only[I.fI,Bool.and_eq_true,isEmpty_iff]at cv cK;obtain⟨rfl,cv⟩:=cv;rw[aO]at h⊢;obtain⟨cO,a,fp,fP,ha⟩:=h (s x) (by simp only[I.sub]) (uw cv).1;simp only[dh,Option.some.injEq,Prod.mk.injEq,true_and]at fp;intro d al _;simp only[I.sub,Option.some.injEq]at al;subst al;exact⟨ct (aF x),none,by simp only[dh],by rw[fP,<-fp.1],((uw cK.2).2.2.2.2.2 _).2 (((uw cv).2.2.2.2.2 _).1 ha)⟩
   |aw x q=>simp[I.fI]at cv
   |U x k=>
    simp only[I.fI,Bool.not_eq_true']at cv;rw[aO]at h⊢;obtain⟨b,cur,e,fr,af,ag,aJ,a_⟩:=h cv;exact λ_=>⟨b,cur,e,fr,af,(bm b ag).1,(bm b ag).2.trans aJ,a_⟩
   |fn f cap=>
    simp only[I.fI]at cv cK;rw[aO]at h⊢;obtain⟨arr,rfl,aC⟩:=h;exact⟨arr,rfl,ih.2 _ _ (by simp at b3;omega) cv cK aC⟩
   |_=>
    simp only[I.fI]at cv;have bO:=(aO.cI rfl).1 h;exact(aO.cI rfl).2 ⟨bO.1,ay.mono (λb U=>(bm b U).1) _ _ _ _ (λ_ h=>h) (ay.frame (λb U=>(bm b U).2) _ _ _ (λ_ h=>h.elim) (ay.plain _ _ _ _ cv bO.2))⟩
  .cases ds with
   |nil=>rw[ef]at h⊢;exact h
   |cons d ds=>
    simp only[I.oV,Bool.and_eq_true]at cv cK;rw[ef]at h⊢;obtain⟨v,gY,rfl,af,ag⟩:=h;simp at b3;exact⟨v,gY,rfl,ih.1 _ _ _ (by omega) cv.1 cK.1 af,ih.2 _ _ (by omega) cv.2 cK.2 ag⟩
theorem TS {s:ao} {d:I} (h:d.fI s=true):d.plain=true:=by
 cases d<;>first|rfl|(simpa [I.fI]using h)
theorem bK.nA {F:Nat->Prop} {aF:Nat->Value}:∀(L:ahH) (s:ao) (S:Nat->Nat->Prop),bK w0 F0 X F S s aF w->(∀p∈L,p.2.plain=true/\aO w F s aF p.2 (aF p.1) (λ_=>False))->
  ∃aS,bK w0 F0 X F aS (dD.nA s L) aF w/\∀u b,aS u b->S u b:=by
 intro L;induction L with
 |nil=>intro s S h _;exact⟨S,h,λ_ _ h=>h⟩
 |cons p L ih=>
  intro s S h qO;obtain⟨af,ag⟩:=qO p (by simp);have ea:cY aF p.1 (aF p.1)=aF:=by funext u;simp only[cY];split<;>simp_all
  have aJ:=h.rn (t:=p.1) af ag;rw[ea]at aJ;have hb:∀x,x≠p.1->(cY s p.1 p.2 x).tree=true->cY s p.1 p.2 x=s x/\aF x=aF x:=λx aA _=>⟨iz _ _ aA,rfl⟩
  obtain⟨aS,aX,bk⟩:=ih _ _ aJ (λq cM=>⟨(qO q (by simp[cM])).1,(aO.void (t:=p.1) hb (by rw[mv];exact af) _).1 _ _ _ (Nat.le_refl _) (qO q (by simp[cM])).2⟩);refine⟨aS,aX,λu b U=>?_⟩;have:=bk u b U;simp only[gm]at this;split at this
  .exact this.elim
  .exact this
theorem E_ {s:ao}:∀{L:ahH},lZ s L=true->∀p∈L,p.2.fI s=true
 |q::L,af,p,aw=>by
  simp only[lZ,Bool.and_eq_true]at af;rcases mem_cons.1 aw with rfl|aw
  .exact af.1
  .exact E_ af.2 p aw
theorem TT {s:ao} {us:ahC} {p:Nat×I} (h:p∈jP s us):p.1∈us/\s p.1=p.2:=by
 obtain⟨u,hu,rfl⟩:=mem_map.1 h;exact⟨hu,rfl⟩
theorem Lp (bx:C.eN) (h:Rel w0 F0 X n ρ s a w) {o:Oper} {bE:dU} (cz:rO o.op=bE.base) (al:lE n o.dst=true) {K:ao->Prop} {next:Act->World->Prop}
  (hw:nB C s bE λav s1=>K (fin s1 o.dst av)) (ba:∀aH cj aK,K aH->Rel w0 F0 X n ρ aH cj aK->next cj aK):o.wp C.P a w next Q:=by
 cases bE with
 |shr bE=>
  obtain⟨av,s1,he,aZ,ny,au⟩:=hw;rcases qN cz with cz|cz
  .change bE= .bad at cz;subst cz;cases he
  obtain⟨iQ,dR,hr,F,S,aV⟩:=h;obtain⟨r,aK,v,bJ,aS,af,ag,aJ,a_⟩:=KP (a:=a) bx aV (λ_=>rfl) cz he;obtain⟨j6,ca,dr⟩:=lz.share aJ a_ aZ ny;unfold Oper.wp;rw[af];rcases ag with rfl|⟨rfl,rfl⟩
  .exact ba _ _ _ au (Rel.put iQ dR hr ca dr al)
  .exact ba _ _ _ au (Rel.put iQ dR hr ca dr al)
 |bad=>obtain⟨av,s1,he,_⟩:=hw;cases he
 |lX f args L=>
  obtain⟨bc,hw⟩:=hw;rcases qN cz with U|U
  .cases U
  .refine Ln bx h U al hw ?_ ba;rintro F S bJ aS w aK av s1 v gu ⟨fF,iC⟩ mx sQ v3 uB;obtain⟨dq,aX,bk⟩:=sQ.nA (jP s L) s1 aS (λp aw=>by
    have dZ:=(TT aw).2;have bD:=E_ bc p aw;have dS:=E_ fF p aw;refine⟨TS bD,(TR uB _).1 _ _ (S p.1) (Nat.le_refl _) bD dS ?_⟩;have:=gu.dz p.1;rw[dZ]at this;exact this)
   exact⟨_,dq,iC,aX,v3.less bk mx⟩
 |h8 T x=>
  obtain⟨av,s1,he,au⟩:=hw;rcases qN cz with U|U
  .cases U
  .obtain⟨cL,pT,aA⟩:=TQ U;obtain⟨iQ,dR,hr,F,S,aV⟩:=h;obtain⟨dst,op,ty,pos,after,guard⟩:=o;simp only at pT al au;subst pT;obtain⟨r,aK,v,bJ,aS,af,ag,aJ,a_⟩:Next C w0 F0 X (λt=>a.tmps.getD t undef) w (execOp a.eval ⟨dst,.box T cL,ty,pos,after,guard⟩) av s1:=(RM (T:=T) aV (fA aV (λ_=>rfl) aA).2 he).next;unfold Oper.wp;rw[af];rcases ag with rfl|⟨rfl,rfl⟩
   .exact ba _ _ _ au (Rel.put iQ dR hr aJ a_ al)
   .exact ba _ _ _ au (Rel.put iQ dR hr aJ a_ al)
 |my x=>
  obtain⟨av,s1,he,au⟩:=hw;rcases qN cz with U|U
  .cases U
  .obtain⟨cL,pT,aA⟩:=TJ U;obtain⟨iQ,dR,hr,F,S,aV⟩:=h;obtain⟨dst,op,ty,pos,after,guard⟩:=o;simp only at pT al au;subst pT;simp only[bL]at he;obtain⟨aX,bk⟩:=fA aV (λ_=>rfl) aA;obtain⟨r,aK,v,bJ,aS,af,ag,aJ,a_⟩:Next C w0 F0 X (λt=>a.tmps.getD t undef) w (execOp a.eval ⟨dst,.move cL,ty,pos,after,guard⟩) av s1:=by
    unfold qJ at he;split at he
    .rename_i y q bu;rw[bu]at aX bk;obtain⟨ck,k0,cv,cK,Sn,eJ,cU,fq,dW,jc,_⟩:=py aV aX bk he;exact⟨_,w,_,F,ck,rfl,.inl rfl,k0,.inr ⟨cv,cK,Sn,eJ,cU,fq,dW,jc⟩⟩
    .simp only[Option.some.injEq,Prod.mk.injEq]at he;obtain⟨rfl,rfl⟩:=he;exact⟨_,w,_,F,S,rfl,.inl rfl,aV,.inl ⟨aX,bk⟩⟩
   unfold Oper.wp;rw[af];rcases ag with rfl|⟨rfl,rfl⟩
   .exact ba _ _ _ au (Rel.put iQ dR hr aJ a_ al)
   .exact ba _ _ _ au (Rel.put iQ dR hr aJ a_ al)
 |mX x=>
  obtain⟨av,s1,he,au⟩:=hw;rcases qN cz with U|U
  .cases U
  .obtain⟨cL,pT,aA⟩:=TK U;obtain⟨iQ,dR,hr,F,S,aV⟩:=h;obtain⟨dst,op,ty,pos,after,guard⟩:=o;simp only at pT al au;subst pT;simp only[bL,Option.some.injEq,Prod.mk.injEq]at he;obtain⟨rfl,rfl⟩:=he;obtain⟨aX,bk⟩:=fA aV (λ_=>rfl) aA;obtain⟨r,aK,v,bJ,aS,af,ag,aJ,a_⟩:Next C w0 F0 X (λt=>a.tmps.getD t undef) w (execOp a.eval ⟨dst,.assign cL,ty,pos,after,guard⟩) (br s x) s:=⟨_,w,_,F,S,rfl,.inl rfl,aV,.inl ⟨aX,bk⟩⟩
   unfold Oper.wp;rw[af];rcases ag with rfl|⟨rfl,rfl⟩
   .exact ba _ _ _ au (Rel.put iQ dR hr aJ a_ al)
   .exact ba _ _ _ au (Rel.put iQ dR hr aJ a_ al)
 |iE T cb x y=>
  obtain⟨av,s1,he,au⟩:=hw;rcases qN cz with U|U
  .cases U
  .obtain⟨cL,ly,pT,aA,bu⟩:=TM U;obtain⟨iQ,dR,hr,F,S,aV⟩:=h;simp only[bL,Option.map_eq_some_iff,Prod.mk.injEq]at he;obtain⟨d,hn,rfl,rfl⟩:=he;obtain⟨v,aK,bJ,aS,af,ag,aJ⟩:=SB (ty:=o.type) bx aV (fA aV (λ_=>rfl) aA).2 (fA aV (λ_=>rfl) bu).2 hn;have uA:execOp a.eval o=(do pure (.value (<-Builtin.append_ #[T,cb] o.type #[a.eval cL,a.eval ly]))):=by
    obtain⟨dst,op,ty,pos,after,guard⟩:=o;simp only at pT;subst pT;simp[execOp,resolve,invoke,builtin]
   unfold Oper.wp;rw[uA];simp only[Sem.run_bind,af,Result.andThen];exact ba _ _ _ au (Rel.put iQ dR hr ag aJ al)
 |_=>
  rcases qN cz with U|U
  .cases U
  .exact TO bx h U al hw ba
end
end Go.dD
