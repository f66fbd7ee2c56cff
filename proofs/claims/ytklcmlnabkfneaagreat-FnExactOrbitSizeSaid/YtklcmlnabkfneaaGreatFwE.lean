/- Part of a proof that a law returns true for every input. No condition. -/
import Derived.Test.YtklcmlnabkfneaaGreatFwD
import Derived.Laws.Tables
namespace Go.cU
open List Go.IntKind Nat Or
section
variable {C:bY} {w0 w:World} {F0 X F:Nat->Prop} {S:Nat->Nat->Prop} {s s1:ax} {aC:Nat->Value} {av:I}
theorem Dh (z:aiD):∀n,(range (n*z.length)).map (λi=>z[i%z.length]!)=(replicate n z).flatten
 |0=>by simp
 |n+1=>by
  rw[Nat.add_mul,Nat.one_mul,range_add,map_append,Dh z n,replicate_succ',flatten_append];congr 1;simp only[List.map_map,flatten_cons,flatten_nil,append_nil];apply ext_getElem
  .simp
  .intro i ab ad;have ak:i<z.length:=ad;simp[mod_eq_of_lt ak,ak]
theorem aV.replicate {d:I} {cs:aiD} (h:∀aL,aq w F d cs aL):∀n aL,aV w F (replicate n d) (replicate n cs).flatten aL
 |0,aL=>by simp only[replicate_zero,flatten_nil];rw[aV]
 |n+1,aL=>by
  rw[replicate_succ,replicate_succ,flatten_cons,aV];exact⟨cs,_,λ_=>False,λ_=>False,rfl,h _,aV.replicate h n _,λ_ h=>h.elim,λ_ h=>h.elim,λ_ h=>h.elim⟩
def ek (C:bY) (T:TypeId) (l c:I):Option I:=
 match(C.T T).k,l,c with
 | .slice e,.int .i64 n,.int .i64 m=>if n=m/\0<=n/\(C.T e).ok=true/\(C.T e).zero.wd=(C.T e).sz/\(flat (C.T e).zero).isSome=true/\(C.T e).sz≠0/\(C.T e).bytes*n<=140737488355328/\n<=9223372036854775807 then
   some (.al (C.T e).sz (replicate n.toNat (C.T e).zero))else none
 |_,_,_=>none
theorem Qu (bh:C.Ok) (h:bs w0 F0 X F S s aC w) {T:TypeId} {l c:I} {Jg Jh:Value} (aO:aG w F s aC l Jg (λ_=>False)) (aj:aG w F s aC c Jh (λ_=>False)) (he:ek C T l c=some av):
  Good C w0 F0 X aC w (Instr.makeSlice T Jg Jh) av s:=by
 unfold ek at he;split at he
 .rename_i e n m aw;have:=oU aO;subst this;have:=oU aj;subst this;obtain⟨I5,d,I6,aN,aR,aS,b0,cd,bQ,bH⟩:=bh.info (fP aw (by simp));rw[aw]at bH;have:=k_ bH;subst this;split at he
  .rename_i vI;obtain⟨rfl,aP,pZ,sb,sc,dP,agC,I8⟩:=vI;simp only[Option.some.injEq]at he;subst he;obtain⟨i,I7,z,f1,f2,f3,f4,f5,f6,f7⟩:=bh.info pZ;obtain⟨gq,mo⟩:=Option.isSome_iff_exists.1 sc;have sd:=f5 gq mo;have e_:∀aL,aq w F (C.T e).zero gq aL:=λaL=>(aq.flat _).1 _ gq aL (Nat.le_refl _) mo;have qY:gq.length=(C.T e).sz:=by rw[aq.length _ _ _ (e_ (λ_=>False)),sb]
   obtain⟨n,rfl⟩:=Int.eq_ofNat_of_zero_le aP;simp only[Int.toNat_natCast];have Ji:i64.wrap (n:Int)=n:=by
    rw[wrap_i64];omega
   have zp:∀k (w:World),(askRoom k).run C.P w= .ok () w:=by
    intro k w;unfold askRoom;split<;>rfl
   have r4:((Array.range (n*(C.T e).sz)).map (gq.toArray[·%gq.toArray.size]!)).toList=(replicate n gq).flatten:=by
    have:=Dh gq n;rw[qY]at this;simpa [qY]using this
   have c9:¬(281474976710656<(i.bytes:Int)*n):=by
    rw[f3];omega
   have Jj:¬((n:Int)<0):=by omega
   have run:(Instr.makeSlice T (.int .i64 n) (.int .i64 n)).run C.P w= .ok (.slice (some ⟨w.heap.size,0,none⟩) n n)
     (w.alloc (.cells (if n*(C.T e).sz=0 then(Array.range (n*(C.T e).sz)).map (λ_=>default)else(Array.range (n*(C.T e).sz)).map (gq.toArray[·%gq.toArray.size]!)) e)):=by
    by_cases a7:n*(C.T e).sz=0
    .simp[Instr.makeSlice,run_underlying bQ,asInt,asIntOf,vG f1,Ji,c9,Jj,zp,j9 f1,f2,a7,newRow]
    .simp only[a7,if_false];simp[Instr.makeSlice,run_underlying bQ,asInt,asIntOf,vG f1,Ji,c9,Jj,zp,j9 f1,f2,a7,newRow,r2 f1 f4,sd]
   have lY:(if n*(C.T e).sz=0 then(Array.range (n*(C.T e).sz)).map (λ_=>(default:Value))else(Array.range (n*(C.T e).sz)).map (gq.toArray[·%gq.toArray.size]!)).toList=(replicate n gq).flatten:=by
    split
    .rename_i a7;have:n=0:=by
      rcases mul_eq_zero.1 a7 with h|h
      .exact h
      .exact(dP h).elim
     subst this;simp
    .exact r4
   generalize vU:(if n*(C.T e).sz=0 then(Array.range (n*(C.T e).sz)).map (λ_=>(default:Value))else(Array.range (n*(C.T e).sz)).map (gq.toArray[·%gq.toArray.size]!))=cur at run lY;have jR:(replicate n gq).flatten.length=n*(C.T e).sz:=by simp[qY]
   have gb:cur.size=n*(C.T e).sz:=by
    have:cur.size=cur.toList.length:=by simp
    rw[this,lY,jR]
   have la:=h.zl (aB:=w.alloc (.cells cur e)) (sz:=(C.T e).sz) (cap:=n) (xs:=replicate n (C.T e).zero) (cur:=cur) (e:=e) (fr:=(0,0)) (Sn:=λ_=>False) rfl rfl rfl ⟨rfl,λ_=>Nat.le_refl _⟩
    (λo _ ⟨_,ad⟩=>absurd ad (not_lt_zero _)) (by simp) (by unfold maxLen;omega) gb (by intro d ag;rw[eq_of_mem_replicate ag];exact sb)
    (by rw[lY,length_replicate,take_of_length_le (by rw[jR];exact Nat.le_refl _)];exact aV.replicate e_ n _) (λ_ h=>h.elim) (λ_ h=>h.elim) (λ_ _ h=>h.elim) (λ_ h=>h.elim)
   rw[length_replicate]at la;exact⟨_,_,F,S,run,la.1,la.2⟩
  .cases he
 .cases he
def l3 (s:ax) (f:FuncId) (cs:List bg):Option I:=some (.fn f (cs.map (bp s)))
theorem zw {a:Act} (h:bs w0 F0 X F S s aC w) (dX:∀t,aC t=a.tmps.getD t undef):∀(os:List Operand) (xs:List bg),os.map dj=xs.map some->ee w F s aC (xs.map (bp s)) (os.map a.eval)
 |[],[],_=>by simp only[map_nil];rw[ee]
 |[],x::xs,h=>by simp at h
 |o::os,[],h=>by simp at h
 |o::os,x::xs,bq=>by
  simp only[map_cons,cons.injEq]at bq⊢;rw[ee];exact⟨_,_,rfl,(fm h dX bq.1).2,zw h dX os xs bq.2⟩
theorem Jk:∀(vs:aiD) (k off:Nat) (A:Array Value) (l m r:aiD),A.toList=l++(m++r)->l.length=off+k->m.length=vs.length->
  ((vs.zipIdx k).foldl (λcs (x:Value×Nat)=>cs.setIfInBounds (off+x.2) x.1) A).toList=l++(vs++r)
 |[],k,off,A,l,m,r,i6,aO,hm=>by
  have:m=[]:=by simpa using hm
  subst this;simpa using i6
 |v::vs,k,off,A,l,m,r,i6,aO,hm=>by
  obtain⟨x,m,rfl⟩:∃x hB,m=x::hB:=by
   cases m with
   |nil=>simp at hm
   |cons x m=>exact⟨x,m,rfl⟩
  rw[zipIdx_cons,foldl_cons];have:=Jk vs (k+1) off (A.setIfInBounds (off+k) v) (l++[v]) m r (by
   rw[Array.toList_setIfInBounds,i6,<-aO,set_append_right _ _ (Nat.le_refl _)];simp) (by simp;omega) (by simpa using hm)
  simpa using this
def ky (os:List (Option Nat)) (a:I):I:=os.foldl (λa o=>j8 o a) a
def dY (place:Nat->Option (Nat×Nat)):ax->aiF->List (Option Nat)->aiE->Option (aiF×ax)
 |s,dS,_,[]=>some (dS,s)
 |s,dS,os,(k,a)::r=>match cB s (ky os a),place k,dS[k]? with
  |some (d,s1),some (off,n),some z=>match d with
   | .tuple _=>none
   |d=>if d.wd=n/\z.wd=n/\I.dH (dS.take k)=off then dY place s1 (dS.set k d) (os++[(ky os a).owner]) r else none
  |_,_,_=>none
def nh (w:World) (F:Nat->Prop) (s:ax) (aC:Nat->Value):aiE->List (Nat×Value)->Prop
 |[],[]=>True
 |(k,a)::r,(ct,v)::jy=>k=ct/\a.plain=true/\aG w F s aC a v (λ_=>False)/\nh w F s aC r jy
 |_,_=>False
theorem Qv (x:Nat):∀d:I,d.plain=true->(bT x d).plain=true
 | .h y q,_=>by simp only[bT];split<;>(try split)<;>rfl
 | .au y q,_=>by simp only[bT];split<;>rfl
 | .R y q,_=>rfl
 | .fn f c,_=>by simp only[bT];rfl
 | .hole,h=>h
 | .bool _,h=>h
 | .e7,h=>h
 | .int _ _,h=>h
 | .str _,h=>h
 | .di,h=>h
 | .a_,h=>h
 | .slice _,h=>h
 | .al _ _,h=>h
 | .ref _,h=>h
 | .bb _,h=>h
 | .agg _,h=>h
 | .tuple _,h=>h
theorem Qw (o:Option Nat) (d:I) (h:d.plain=true):(j8 o d).plain=true:=by
 cases o with
 |none=>exact h
 |some x=>exact Qv x d h
theorem nh.bT {w:World} {F:Nat->Prop} {s s1:ax} {aC:Nat->Value} {o:Option Nat} (au:∀(a6:I) (fH:Value) (aL:Nat->Prop),aG w F s aC a6 fH aL->aG w F s1 aC (j8 o a6) fH aL):
  ∀(r:aiE) (jy:List (Nat×Value)),nh w F s aC r jy->nh w F s1 aC (r.map λp=>(p.1,j8 o p.2)) jy
 |[],[],_=>trivial
 |(k,a)::r,(ct,v)::jy,h=>by
  obtain⟨ab,ad,aA,aZ⟩:=h;exact⟨ab,Qw _ _ ad,au _ _ _ aA,nh.bT au r jy aZ⟩
 |[],_::_,h=>h.elim
 |_::_,[],h=>h.elim
theorem Di {place:Nat->Option (Nat×Nat)}:∀(ps:aiE) (vs:List (Nat×Value)) (os:List (Option Nat)) (s:ax) (S:Nat->Nat->Prop) (dS:aiF) (A:Array Value) (gZ:Nat->Prop),
  bs w0 F0 X F S s aC w->nh w F s aC (ps.map λp=>(p.1,ky os p.2)) vs->aV w F dS A.toList gZ->(∀b,gZ b->b<w.heap.size)->(∀b,gZ b->¬F b)->(∀u b,gZ b->¬S u b)->(∀b,gZ b->X b\/w0.heap.size<=b)->
  ∀ds s1,dY place s dS os ps=some (ds,s1)->∃lD bM gp,Instr.fill place A vs=some lD/\bs w0 F0 X F bM s1 aC w/\aV w F ds lD.toList gp/\(∀b,gp b->b<w.heap.size)/\(∀b,gp b->¬F b)/\(∀u b,gp b->¬bM u b)/\
   (∀b,gp b->X b\/w0.heap.size<=b)/\ds.length=dS.length/\I.dH ds=I.dH dS/\(∀n,(∀d∈dS,d.wd=n)->∀d∈ds,d.wd=n)
 |[],[],os,s,S,dS,A,gZ,h,_,ab,ad,aA,aZ,bA,ds,s1,he=>by
  simp only[dY,Option.some.injEq,Prod.mk.injEq]at he;obtain⟨rfl,rfl⟩:=he;exact⟨A,S,gZ,rfl,h,ab,ad,aA,aZ,bA,rfl,rfl,λ_ h=>h⟩
 |(k,a)::ps,(ct,v)::vs,os,s,S,dS,A,gZ,h,au,ab,ad,aA,aZ,bA,ds,s1,he=>by
  obtain⟨rfl,jT,nJ,vV⟩:=au;simp only[dY]at he;split at he
  .rename_i d tC off n z aY fl bO;have key:∀d:I,(∀ay,d≠.tuple ay)->cB s (ky os a)=some (d,tC)->(if d.wd=n/\z.wd=n/\I.dH (dS.take k)=off then dY place tC (dS.set k d) (os++[(ky os a).owner]) ps else none)=some (ds,s1)->
     ∃lD bM gp,Instr.fill place A ((k,v)::vs)=some lD/\bs w0 F0 X F bM s1 aC w/\aV w F ds lD.toList gp/\(∀b,gp b->b<w.heap.size)/\(∀b,gp b->¬F b)/\(∀u b,gp b->¬bM u b)/\
     (∀b,gp b->X b\/w0.heap.size<=b)/\ds.length=dS.length/\I.dH ds=I.dH dS/\(∀n,(∀d∈dS,d.wd=n)->∀d∈ds,d.wd=n):=by
    intro d pV aY he;split at he
    .rename_i aj;obtain⟨mr,lZ,Jl⟩:=aj;obtain⟨bM,g0,g1,g2,Sn,g3,g4,g5,g6,g7,g8,g9,g10⟩:=oP h jT nJ aY;obtain⟨c1,fj,c2,Sx,hr,i6,g_,fO,ha,h8,fE,lx⟩:=aV.pick dS _ _ k z ab bO;have r4:=CY g2 pV;have tD:=aq.length _ _ _ g3;have Jm:=aq.length _ _ _ fE;have qR:=lx w d (b9 v) Sn (λ_ _=>rfl) (λ_ _=>rfl) g3 (λb Qx zx=>by obtain⟨u,hu⟩:=g9 b Qx;exact aZ u b (fO b zx) hu);have Jn:=Jk (b9 v) 0 off A c1 fj c2 i6 (by rw[g_,Jl];rfl) (by rw[Jm,tD,mr,lZ]);generalize Qy:((b9 v).zipIdx 0).foldl (λcs (x:Value×Nat)=>cs.setIfInBounds (off+x.2) x.1) A=zj at Jn;obtain⟨lD,c3,gp,m1,m2,m3,m4,m5,m6,m7,m8,m9,m10⟩:=Di (place:=place) ps vs (os++[(ky os a).owner]) tC bM (dS.set k d) zj (λb=>Sx b\/Sn b) g0 (by have:=nh.bT g10 _ _ vV;simpa [ky,foldl_append,Function.comp_def]using this) (by rw[Jn];exact qR)
      (by rintro b (R|R);exact ad b (fO b R);exact g4 b R) (by rintro b (R|R);exact aA b (fO b R);exact g5 b R)
      (by rintro u b (R|R);exact λhu=>aZ u b (fO b R) (g8 u b hu);exact g6 u b R) (by rintro b (R|R);exact bA b (fO b R);exact g7 b R) ds s1 he
     refine⟨lD,c3,gp,?_,m2,m3,m4,m5,m6,m7,by rw[m8];simp,by rw[m9];exact Cz _ _ _ _ bO (by rw[mr,lZ]),?_⟩
     .have zy:off+n<=A.size:=by
       have:A.size=A.toList.length:=by simp
       rw[this,i6];simp[g_,Jl,Jm,lZ]
      simp only[Instr.fill,fl,r4,List.size_toArray,tD,mr];have k6:¬(n≠n\/A.size<off+n):=by omega
      have Qz:(b9 v).toArray.zipIdx.foldl (λcs (x:Value×Nat)=>cs.setIfInBounds (off+x.2) x.1) A=zj:=by
       rw[<-Qy,<-Array.foldl_toList];simp
      simp only[ne_eq,not_true_eq_false,decide_false,Bool.false_or,decide_eq_true_eq,gt_iff_lt];rw[if_neg (by simp;omega)];rw[show(b9 v).toArray.zipIdx.foldl (λcs x=>match x with|(c,j)=>cs.setIfInBounds (off+j) c) A=zj from Qz];exact m1
     .intro Dj vW;refine m10 Dj (CA vW ?_);rw[mr,<-lZ];exact vW z (mem_of_getElem? bO)
    .cases he
   split at he
   .cases he
   .rename_i pV;exact key _ (λay e=>pV ay e) aY he
  .cases he
 |[],_::_,_,_,_,_,_,_,_,au,_,_,_,_,_,_,_,_=>au.elim
 |_::_,[],_,_,_,_,_,_,_,au,_,_,_,_,_,_,_,_=>au.elim
def gH (C:bY) (s:ax) (T:TypeId) (ps:aiE):Option (I×ax):=
 match(C.T T).k,(C.T T).zero with
 | .struct ay,.agg dS=>if(flat (.agg dS)).isSome=true/\(∀f∈ay,(C.T f.1).ok=true)then
   (match dY (λk=>(ay[k]?).map λf=>(f.2,(C.T f.1).sz)) s dS [] ps with
   |some (ds,s1)=>some (.agg ds,s1)
   |none=>none)else none
 |_,_=>none
def eI (C:bY) (s:ax) (T:TypeId) (n:Nat) (ps:aiE):Option (I×ax):=
 match(C.T T).k with
 | .slice e=>if(C.T e).ok=true/\(C.T e).zero.wd=(C.T e).sz/\(flat (C.T e).zero).isSome=true/\(C.T e).sz≠0/\n*(C.T e).sz<=16777216 then
   (match dY (λk=>some (k*(C.T e).sz,(C.T e).sz)) s (replicate n (C.T e).zero) [] ps with
   |some (ds,s1)=>some (.al (C.T e).sz ds,s1)
   |none=>none)else none
 |_=>none
theorem QA (bh:C.Ok):∀(gs:List Field),(∀g∈gs,(C.T g.type).ok=true)->
  gs.mapM (λf=>(C.P.info? f.type).map λi=>(f.offset,i.size))=some (gs.map λg=>(g.offset,(C.T g.type).sz)):=by
 intro gs;induction gs with
 |nil=>intro _;simp
 |cons g gs ih=>
  intro bB;obtain⟨i,d,z,f1,f2,f3,f4,f5,f6,f7⟩:=bh.info (bB g (by simp));have:=ih (λg hg=>bB g (by simp[hg]));simp[mapM_cons,f1,f2,this]
theorem QB (bh:C.Ok) (h:bs w0 F0 X F S s aC w) {T:TypeId} {ps:aiE} {vs:List (Nat×Value)} (au:nh w F s aC ps vs) (he:gH C s T ps=some (av,s1)):
  Good C w0 F0 X aC w (Instr.build T vs.toArray) av s1:=by
 unfold gH at he;split at he
 .rename_i ay dS aw bO;split at he
  .rename_i aj;obtain⟨sc,QC⟩:=aj;split at he
   .rename_i ds s2 jR;simp only[Option.some.injEq,Prod.mk.injEq]at he;obtain⟨rfl,rfl⟩:=he;obtain⟨i,d,z,aN,aR,aS,b0,cd,bQ,bH⟩:=bh.info (fP aw (by simp));rw[aw]at bH;obtain⟨gs,rfl,Jo⟩:=vF bH;obtain⟨gq,mo⟩:=Option.isSome_iff_exists.1 sc;have sd:=cd gq (by rw[bO];exact mo);have e_:aV w F dS gq.toArray.toList (λ_=>False):=by
     have:=(aq.flat (w:=w) (F:=F) _).1 (.agg dS) gq (λ_=>False) (Nat.le_refl _) mo;rw[aq]at this;simpa using this
    have el:nh w F s aC (ps.map λp=>(p.1,ky [] p.2)) vs:=by simpa [ky]using au
    obtain⟨lD,bM,gp,m1,m2,m3,m4,m5,m6,m7,m8,m9,m10⟩:=Di ps vs [] s S dS gq.toArray (λ_=>False) h el e_ (λ_ h=>h.elim) (λ_ h=>h.elim) (λ_ _ h=>h.elim) (λ_ h=>h.elim) ds s2 jR;have fl:=QA bh gs.toList (λg bB=>QC (g.type,g.offset) (by rw[<-Jo];exact List.mem_map_of_mem bB));have QD:(λ(k:Nat)=>(ay[k]?).map λ(f:TypeId×Nat)=>(f.2,(C.T f.1).sz))=λ(k:Nat)=>((gs.toList.map λg=>(g.offset,(C.T g.type).sz)).toArray)[k]? :=by
     funext k;rw[<-Jo];simp only[getElem?_map,getElem?_toArray,Option.map_map];rfl
    rw[QD]at m1;refine⟨.agg lD,w,F,bM,run_build w T vs.toArray lD ?_,m2,.inr ⟨rfl,⟨_,rfl⟩,gp,by simp only[b9,hU];rw[aq];exact m3,m4,m5,m6,m7⟩⟩;unfold Program.built;simp only[aN,bQ,b0,fl,sd];exact m1
   .cases he
  .cases he
 .cases he
theorem QE (bh:C.Ok) (h:bs w0 F0 X F S s aC w) {T:TypeId} {n:Nat} {ps:aiE} {vs:List (Nat×Value)} (au:nh w F s aC ps vs) (he:eI C s T n ps=some (av,s1)):
  Good C w0 F0 X aC w (Instr.buildSlice T n vs.toArray) av s1:=by
 unfold eI at he;split at he
 .rename_i e aw;split at he
  .rename_i aj;obtain⟨pZ,sb,sc,dP,agD⟩:=aj;split at he
   .rename_i ds s2 jR;simp only[Option.some.injEq,Prod.mk.injEq]at he;obtain⟨rfl,rfl⟩:=he;obtain⟨I5,d,I6,aN,aR,aS,b0,cd,bQ,bH⟩:=bh.info (fP aw (by simp));rw[aw]at bH;have:=k_ bH;subst this;obtain⟨i,I7,z,f1,f2,f3,f4,f5,f6,f7⟩:=bh.info pZ;obtain⟨gq,mo⟩:=Option.isSome_iff_exists.1 sc;have sd:=f5 gq mo;have e_:∀aL,aq w F (C.T e).zero gq aL:=λaL=>(aq.flat _).1 _ gq aL (Nat.le_refl _) mo;have qY:gq.length=(C.T e).sz:=by rw[aq.length _ _ _ (e_ (λ_=>False)),sb]
    generalize i6:((Array.range (n*(C.T e).sz)).map ((if n*(C.T e).sz=0 then #[]else gq.toArray)[·%(if n*(C.T e).sz=0 then(#[]:Array Value)else gq.toArray).size]!))=A;have zy:A.toList=(replicate n gq).flatten:=by
     rw[<-i6];by_cases a7:n*(C.T e).sz=0
     .have:n=0:=by
       rcases mul_eq_zero.1 a7 with h|h
       .exact h
       .exact(dP h).elim
      subst this;simp
     .simp only[a7,if_false];have:=Dh gq n;rw[qY]at this;simpa [qY]using this
    have el:nh w F s aC (ps.map λp=>(p.1,ky [] p.2)) vs:=by simpa [ky]using au
    obtain⟨lD,bM,gp,m1,m2,m3,m4,m5,m6,m7,m8,m9,m10⟩:=Di ps vs [] s S (replicate n (C.T e).zero) A (λ_=>False) h el (by rw[zy];exact aV.replicate e_ n _) (λ_ h=>h.elim) (λ_ h=>h.elim) (λ_ _ h=>h.elim) (λ_ h=>h.elim) ds s2 jR;have hlen:ds.length=n:=by rw[m8];simp
    have Jp:=m10 (C.T e).sz (by intro d ag;rw[eq_of_mem_replicate ag];exact sb);have QF:lD.toList.length=n*(C.T e).sz:=by rw[aV.sa m3 Jp,hlen]
    have QG:lD.size=n*(C.T e).sz:=by rw[<-QF];simp
    have agE:n<=16777216:=by
     have:n*1<=n*(C.T e).sz:=mul_le_mul_left _ (by omega);omega
    have la:=m2.zl (aB:=w.alloc (.cells lD e)) (sz:=(C.T e).sz) (cap:=n) (xs:=ds) (cur:=lD) (e:=e) (fr:=(0,0)) (Sn:=gp) rfl rfl rfl ⟨rfl,λ_=>Nat.le_refl _⟩
     (λo _ ⟨_,ad⟩=>absurd ad (not_lt_zero _)) (by omega) (by unfold maxLen;omega) QG Jp (by rw[hlen,take_of_length_le (by omega)];exact m3) m4 m5 m6 m7
    rw[hlen]at la;refine⟨_,_,F,bM,?_,la.1,la.2⟩;by_cases a7:n*(C.T e).sz=0
    .simp only[a7,if_true]at i6;have tE:(Array.map (λ_=>(default:Value)) (Array.range 0))=A:=by
      have:n=0:=by
       rcases mul_eq_zero.1 a7 with h|h
       .exact h
       .exact(dP h).elim
      apply Array.ext';rw[zy,this];simp
     simp[Instr.buildSlice,run_underlying bQ,j9 f1,f2,a7,newRow];rw[tE,m1];simp
    .simp only[a7,if_false]at i6;have k6:¬(16777216<n*(C.T e).sz):=by omega
     simp[Instr.buildSlice,run_underlying bQ,j9 f1,f2,a7,k6,r2 f1 f4,sd,newRow];have tE:(Array.map (λx=>gq[x%gq.length]?.getD default) (Array.range (n*(C.T e).sz)))=A:=by
      rw[<-i6];simp
     rw[tE,m1];simp
   .cases he
  .cases he
 .cases he
end
inductive dI where
 |iK (x:bg)
 |l4 (x:bg)
 |pick (c a b:bg)
 |jS (T:TypeId)
 |iJ (T:TypeId) (x:bg)
 |gH (T:TypeId) (ps:List (Nat×bg))
 |eI (T:TypeId) (n:Nat) (ps:List (Nat×bg))
 |eR (T:TypeId) (x:bg)
 |ik (T:TypeId) (x y:bg)
 |kb (x:bg)
 |eL (op:BinOp) (T:TypeId) (x y:bg)
 |un (op:UnOp) (x:bg)
 |lB (A B:TypeId) (x:bg)
 |l3 (f:FuncId) (cs:List bg)
 |ek (T:TypeId) (l c:bg)
 |hC (T:TypeId) (x:bg) (eS ak:Option bg)
 |gK (T:TypeId) (x:bg) (k:Nat)
 |jk (T:TypeId) (x i:bg)
 |idx (T:TypeId) (x i:bg)
 |ex (x:bg) (k:Nat)
 |lA (T:TypeId) (x:bg) (k:Nat)
 |call (f:bg) (args:List bg)
 |len (T:TypeId) (x:bg)
 |app (T cL:TypeId) (x y:bg)
 |shr (bC:dI)
 |cap (T:TypeId) (x:bg)
 |o0 (gF:Bool) (x y:bg)
 |bad
 |mu (x:bg)
 |vX
 |ng (T:TypeId) (x i:bg)
 |l1 (T:TypeId) (x i v:bg)
def dI.base:dI->dI
 | .shr bC=>bC
 | .mu x=>.l4 x
 |bC=>bC
def nT:List Operand->Option (List bg)
 |[]=>some []
 |o::os=>match dj o,nT os with
  |some x,some xs=>some (x::xs)
  |_,_=>none
def tF:List (Nat×Operand)->Option (List (Nat×bg))
 |[]=>some []
 |(k,o)::os=>match dj o,tF os with
  |some x,some xs=>some ((k,x)::xs)
  |_,_=>none
def vY:Option Operand->Option (Option bg)
 |none=>some none
 |some o=>(dj o).map some
def cM:Op->Option dI
 | .move x=>(dj x).map .iK
 | .assign x=>(dj x).map .l4
 | .pick c a b=>match dj c,dj a,dj b with
   |some c,some a,some b=>some (.pick c a b)
   |_,_,_=>none
 | .alloc T=>some (.jS T)
 | .box T x=>(dj x).map (.iJ T)
 | .build T ps=>(tF ps.toList).map (.gH T)
 | .buildSlice T n ps=>(tF ps.toList).map (.eI T n)
 | .load T x=>(dj x).map (.eR T)
 | .store T x y=>match dj x,dj y with
   |some x,some y=>some (.ik T x y)
   |_,_=>none
 | .nilCheck x=>(dj x).map .kb
 | .binOp op T x y _=>match dj x,dj y with
   |some x,some y=>some (.eL op T x y)
   |_,_=>none
 | .unOp op _ x=>(dj x).map (.un op)
 | .convert A B x=>(dj x).map (.lB A B)
 | .makeFunc (.func f) first cs=>if first.isEmpty then(nT cs.toList).map (.l3 f)else none
 | .makeSlice T l c=>match dj l,dj c with
   |some l,some c=>some (.ek T l c)
   |_,_=>none
 | .slice T x eS ak none=>match dj x,vY eS,vY ak with
   |some x,some eS,some ak=>some (.hC T x eS ak)
   |_,_,_=>none
 | .fieldAddr T x k=>(dj x).map λx=>.gK T x k
 | .indexAddr T x i=>match dj x,dj i with
   |some x,some i=>some (.jk T x i)
   |_,_=>none
 | .index T x i=>match dj x,dj i with
   |some x,some i=>some (.idx T x i)
   |_,_=>none
 | .extract x k=>(dj x).map λx=>.ex x k
 | .field T x k=>(dj x).map λx=>.lA T x k
 | .makeMap _ none=>some .vX
 | .lookup T x i false=>match dj x,dj i with
   |some x,some i=>some (.ng T x i)
   |_,_=>none
 | .mapUpdate T x i v=>match dj x,dj i,dj v with
   |some x,some i,some v=>some (.l1 T x i v)
   |_,_,_=>none
 | .call c=>match c.callee with
   | .value f=>match dj f,nT c.args.toList with
     |some f,some xs=>some (.call f xs)
     |_,_=>none
   | .builtin .len=>match c.args.toList,c.argTypes.toList with
     |[x],[T]=>(dj x).map (.len T)
     |_,_=>none
   | .builtin .cap=>match c.args.toList,c.argTypes.toList with
     |[x],[T]=>(dj x).map (.cap T)
     |_,_=>none
   | .builtin .min=>match c.args.toList with
     |[x,y]=>match dj x,dj y with
      |some x,some y=>some (.o0 false x y)
      |_,_=>none
     |_=>none
   | .builtin .max=>match c.args.toList with
     |[x,y]=>match dj x,dj y with
      |some x,some y=>some (.o0 true x y)
      |_,_=>none
     |_=>none
   | .builtin .append=>match c.args.toList,c.argTypes.toList with
     |[x,y],[T,cL]=>match dj x,dj y with
      |some x,some y=>some (.app T cL x y)
      |_,_=>none
     |_,_=>none
   |_=>none
 |_=>none
def o0 (gF:Bool):I->I->Option I
 | .str a,.str b=>some (.str (y8 gF a b))
 | .int k a,.int ct b=>if k=ct then some (.int k (Cw gF a b))else none
 |_,_=>none
def vZ (s:ax):I->Option (I×ax)
 | .h y q=>cB s (.h y q)
 |d=>some (d,s)
def bS (C:bY) (s:ax):dI->Option (I×ax)
 | .iK x=>some (bp s x,s)
 | .l4 x=>match bp s x with
   | .h y q=>cB s (.h y q)
   |d=>some (d,s)
 | .pick c a b=>match bp s c with
   | .bool fk=>some (if fk then bp s a else bp s b,s)
   |_=>none
 | .jS T=>(jS C T).map λd=>(d,s)
 | .iJ _ x=>iJ s (bp s x)
 | .gH T ps=>gH C s T (ps.map λp=>(p.1,bp s p.2))
 | .eI T n ps=>eI C s T n (ps.map λp=>(p.1,bp s p.2))
 | .eR T x=>(eR C s T (bp s x)).map λd=>(d,s)
 | .ik T x y=>(ik C s T (bp s x) (bp s y)).map λs1=>(.hole,s1)
 | .kb x=>(kb s (bp s x)).map λd=>(d,s)
 | .eL op T x y=>(eL C s op T (bp s x) (bp s y)).map λd=>(d,s)
 | .un op x=>(un op (bp s x)).map λd=>(d,s)
 | .lB A B x=>(lB C s A B (bp s x)).map λd=>(d,s)
 | .l3 f cs=>some (.fn f (cs.map (bp s)),s)
 | .ek T l c=>(ek C T (bp s l) (bp s c)).map λd=>(d,s)
 | .hC T x eS ak=>hC C s T (bp s x) (eS.map (bp s)) (ak.map (bp s))
 | .gK T x k=>(gK C s T (bp s x) k).map λd=>(d,s)
 | .jk T x i=>(jk C s T (bp s x) (bp s i)).map λd=>(d,s)
 | .idx T x i=>(idx C T (bp s x) (bp s i)).map λd=>(d,s)
 | .ex x k=>(ex s (bp s x) k).map λd=>(d,s)
 | .lA T x k=>(lA C s T (bp s x) k).bind (vZ s)
 | .call _ _=>none
 | .len T x=>(pX C s T (bp s x)).map λd=>(d,s)
 | .app T cL x y=>p1 C s T cL (bp s x) (bp s y)
 | .shr _=>none
 | .mu x=>some (bp s x,s)
 | .vX=>some (.dz (.mp []),s)
 | .ng T x i=>(ng C s T (bp s x) (bp s i)).map λd=>(d,s)
 | .l1 T x i v=>(l1 C s T (bp s x) (bp s i) (bp s v)).map λs1=>(.hole,s1)
 | .cap T x=>match(C.T T).k,bp s x with
   | .slice _,.a_=>some (.int .i64 0,s)
   |_,_=>none
 | .o0 gF x y=>(o0 gF (bp s x) (bp s y)).map λd=>(d,s)
 | .bad=>none
section
variable {C:bY} {w0 w:World} {F0 X F:Nat->Prop} {S:Nat->Nat->Prop} {s s1:ax} {a:Act} {av:I}
theorem sg:∀{os:List Operand} {xs:List bg},nT os=some xs->os.map dj=xs.map some
 |[],xs,h=>by simp[nT]at h;subst h;rfl
 |o::os,xs,h=>by
  simp only[nT]at h;split at h
  .rename_i x Jq ab ad;simp at h;subst h;simp[ab,sg ad]
  .cases h
theorem Dk {aC:Nat->Value} (h:bs w0 F0 X F S s aC w) (dX:∀t,aC t=a.tmps.getD t undef):∀{ps:List (Nat×Operand)} {xs:List (Nat×bg)},tF ps=some xs->
  nh w F s aC (xs.map λp=>(p.1,bp s p.2)) (ps.map λp=>(p.1,a.eval p.2))
 |[],xs,h=>by simp[tF]at h;subst h;trivial
 |(k,o)::ps,xs,bq=>by
  simp only[tF]at bq;split at bq
  .rename_i x Jq ab ad;simp at bq;subst bq;obtain⟨g1,g2⟩:=fm h dX ab;exact⟨rfl,g1,g2,Dk h dX ad⟩
  .cases bq
def Next (C:bY) (w0:World) (F0 X:Nat->Prop) (aC:Nat->Value) (w:World) (m:Sem Go.Next) (av:I) (s1:ax):Prop:=
 ∃r aB v bF aL,m.run C.P w= .ok r aB/\(r= .value v\/r= .skip/\v=undef)/\bs w0 F0 X bF aL s1 aC aB/\kv w0 X bF aL s1 aC aB av v
theorem Good.next {aC:Nat->Value} {m:Sem Value} (h:Good C w0 F0 X aC w m av s1):Next C w0 F0 X aC w (do pure (.value (<-m))) av s1:=by
 obtain⟨v,aB,bF,aL,ab,ad,aA⟩:=h;exact⟨.value v,aB,v,bF,aL,by simp[ab],.inl rfl,ad,aA⟩
theorem Jr {aC:Nat->Value} (h:bs w0 F0 X F S s aC w) {gF:Bool} {x y:I} {h1 i1:Value} {m:Sem Go.Next} (ab:aG w F s aC x h1 (λ_=>False)) (ad:aG w F s aC y i1 (λ_=>False))
  (he:(o0 gF x y).map (λd=>(d,s))=some (av,s1)) (hm:m=(do pure (.value (<-if gF then Builtin.max2 h1 i1 else Builtin.min2 h1 i1)))):Next C w0 F0 X aC w m av s1:=by
 simp only[Option.map_eq_some_iff,Prod.mk.injEq]at he;obtain⟨d,ag,rfl,rfl⟩:=he;unfold o0 at ag;split at ag
 .rename_i a b;simp only[Option.some.injEq]at ag;subst ag;have aN:=mW ab;have aR:=mW ad;subst aN aR;subst hm;refine⟨.value (.string ⟨⟨y8 gF a b⟩⟩),w,_,F,S,?_,.inl rfl,h,.inl ⟨rfl,nN _⟩⟩;cases gF
  .simp only[Builtin.min2,Op.stringOp,vK,y8,Bool.false_eq_true,if_false];cases R:(Op.bytesLess a b||a==b)<;>simp[asBool]
  .simp only[Builtin.max2,Op.stringOp,vK,y8,if_true];cases R:Op.bytesLess a b<;>simp[asBool]
 .rename_i k a ct b;split at ag
  .rename_i aw;subst aw;simp only[Option.some.injEq]at ag;subst ag;have aN:=oU ab;have aR:=oU ad;subst aN aR;subst hm;refine⟨.value (.int k (Cw gF a b)),w,_,F,S,?_,.inl rfl,h,.inl ⟨rfl,of_int _ _⟩⟩;cases gF<;>simp[Builtin.min2,Builtin.max2,Cw]
  .cases ag
 .cases ag
theorem Js (bh:C.Ok) {aC:Nat->Value} (h:bs w0 F0 X F S s aC w) (dX:∀t,aC t=a.tmps.getD t undef) {o:Oper} {bC:dI} (U:cM o.op=some bC) (he:bS C s bC=some (av,s1)):
  Next C w0 F0 X aC w (execOp a.eval o) av s1:=by
 obtain⟨dst,op,ty,pos,after,guard⟩:=o;simp only at U;cases op with
 |move x=>
  simp only[cM,Option.map_eq_some_iff]at U;obtain⟨eg,ar,rfl⟩:=U;obtain⟨g1,g2⟩:=fm h dX ar;simp only[bS,Option.some.injEq,Prod.mk.injEq]at he;obtain⟨rfl,rfl⟩:=he;exact⟨_,w,_,F,S,rfl,.inl rfl,h,.inl ⟨g1,g2⟩⟩
 |assign x=>
  simp only[cM,Option.map_eq_some_iff]at U;obtain⟨eg,ar,rfl⟩:=U;obtain⟨g1,g2⟩:=fm h dX ar;simp only[bS]at he;split at he
  .rename_i y q a8;rw[a8]at g1 g2;obtain⟨bM,k0,b1,cb,Sn,eu,dp,e0,dv,k7,_⟩:=oP h g1 g2 he;exact⟨_,w,_,F,bM,rfl,.inl rfl,k0,.inr ⟨b1,cb,Sn,eu,dp,e0,dv,k7⟩⟩
  .simp only[Option.some.injEq,Prod.mk.injEq]at he;obtain⟨rfl,rfl⟩:=he;exact⟨_,w,_,F,S,rfl,.inl rfl,h,.inl ⟨g1,g2⟩⟩
 |pick c x y=>
  simp only[cM]at U;split at U
  .rename_i QH eg k9 aj ar a8;simp only[Option.some.injEq]at U;subst U;simp only[bS]at he;split at he
   .rename_i b R;simp only[Option.some.injEq,Prod.mk.injEq]at he;obtain⟨rfl,rfl⟩:=he;have vU:=(fm h dX aj).2;rw[R]at vU;have vU:=qS vU;obtain⟨ae,an⟩:=fm h dX ar;obtain⟨ez,gT⟩:=fm h dX a8;refine⟨.value (if b then a.eval x else a.eval y),w,_,F,S,?_,.inl rfl,h,.inl ?_⟩
    .simp[execOp,vU,asBool]
    .cases b
     .exact⟨ez,gT⟩
     .exact⟨ae,an⟩
   .cases he
  .cases U
 |alloc T=>
  simp only[cM,Option.some.injEq]at U;subst U;simp only[bS,Option.map_eq_some_iff,Prod.mk.injEq]at he;obtain⟨d,ag,rfl,rfl⟩:=he;exact(PH bh h ag).next
 |box T x=>
  simp only[cM,Option.map_eq_some_iff]at U;obtain⟨eg,ar,rfl⟩:=U;obtain⟨g1,g2⟩:=fm h dX ar;exact(PJ h g1 g2 he).next
 |build T ps=>
  simp only[cM,Option.map_eq_some_iff]at U;obtain⟨QI,au,rfl⟩:=U;obtain⟨ps⟩:=ps;have:=(QB bh h (Dk h dX au) he).next;simpa [execOp]using this
 |buildSlice T n ps=>
  simp only[cM,Option.map_eq_some_iff]at U;obtain⟨QI,au,rfl⟩:=U;obtain⟨ps⟩:=ps;have:=(QE bh h (Dk h dX au) he).next;simpa [execOp]using this
 |load T x=>
  simp only[cM,Option.map_eq_some_iff]at U;obtain⟨eg,ar,rfl⟩:=U;obtain⟨g1,g2⟩:=fm h dX ar;simp only[bS,Option.map_eq_some_iff,Prod.mk.injEq]at he;obtain⟨d,ag,rfl,rfl⟩:=he;exact(PB bh h g2 ag).next
 |store T x y=>
  simp only[cM]at U;split at U
  .rename_i eg k9 ar a8;simp only[Option.some.injEq]at U;subst U;simp only[bS,Option.map_eq_some_iff,Prod.mk.injEq]at he;obtain⟨s2,ag,rfl,rfl⟩:=he;obtain⟨aB,aL,ab,ad⟩:=PF bh h (fm h dX ar).2 (fm h dX a8).1 (fm h dX a8).2 ag;exact⟨.skip,aB,undef,F,aL,by simp[execOp,ab],.inr ⟨rfl,rfl⟩,ad,.inl ⟨rfl,by rw[aG];trivial⟩⟩
  .cases U
 |nilCheck x=>
  simp only[cM,Option.map_eq_some_iff]at U;obtain⟨eg,ar,rfl⟩:=U;obtain⟨g1,g2⟩:=fm h dX ar;simp only[bS,Option.map_eq_some_iff,Prod.mk.injEq]at he;obtain⟨d,ag,rfl,rfl⟩:=he;obtain⟨rfl,au,aH⟩:=PW h g2 ag;refine⟨.value (a.eval x),w,_,F,S,?_,.inl rfl,h,.inl ⟨au,g2⟩⟩;rcases aH with⟨b,R⟩|⟨f,c,R⟩<;>simp[execOp,R]
 |binOp op T x y agF=>
  simp only[cM]at U;split at U
  .rename_i eg k9 ar a8;simp only[Option.some.injEq]at U;subst U;simp only[bS,Option.map_eq_some_iff,Prod.mk.injEq]at he;obtain⟨d,ag,rfl,rfl⟩:=he;exact(PT bh h x y (fm h dX ar).2 (fm h dX a8).2 ag).next
  .cases U
 |unOp op T x=>
  simp only[cM,Option.map_eq_some_iff]at U;obtain⟨eg,ar,rfl⟩:=U;simp only[bS,Option.map_eq_some_iff,Prod.mk.injEq]at he;obtain⟨d,ag,rfl,rfl⟩:=he;exact(PU h (fm h dX ar).2 ag).next
 |convert A B x=>
  simp only[cM,Option.map_eq_some_iff]at U;obtain⟨eg,ar,rfl⟩:=U;simp only[bS,Option.map_eq_some_iff,Prod.mk.injEq]at he;obtain⟨d,ag,rfl,rfl⟩:=he;exact(P4 bh h (fm h dX ar).2 ag).next
 |makeFunc fn first cs=>
  cases fn with
  |func f=>
   simp only[cM]at U;split at U
   .rename_i Dl;simp only[Option.map_eq_some_iff]at U;obtain⟨ni,gb,rfl⟩:=U;simp only[bS,Option.some.injEq,Prod.mk.injEq]at he;obtain⟨rfl,rfl⟩:=he;have Dm:first= #[]:=by simpa using Dl
    subst Dm;refine⟨_,w,_,F,S,rfl,.inl rfl,h,.inl ⟨rfl,?_⟩⟩;rw[aG];refine⟨cs.map a.eval,by simp,?_⟩;simpa using zw h dX _ _ (sg gb)
   .cases U
  |_=>simp[cM]at U
 |makeSlice T l c=>
  simp only[cM]at U;split at U
  .rename_i eg k9 ar a8;simp only[Option.some.injEq]at U;subst U;simp only[bS,Option.map_eq_some_iff,Prod.mk.injEq]at he;obtain⟨d,ag,rfl,rfl⟩:=he;exact(Qu bh h (fm h dX ar).2 (fm h dX a8).2 ag).next
  .cases U
 |slice T x eS ak gF=>
  cases gF with
  |some m=>simp[cM]at U
  |none=>
   simp only[cM]at U;split at U
   .rename_i eg agG tG ar mZ na;simp only[Option.some.injEq]at U;subst U;obtain⟨g1,g2⟩:=fm h dX ar;have opt:∀{o:Option Operand} {lE:Option bg},vY o=some lE->pY w F s aC (lE.map (bp s)) (o.map a.eval):=by
     intro o lE bx;cases o with
     |none=>simp[vY]at bx;subst bx;trivial
     |some o=>
      simp only[vY,Option.map_eq_some_iff]at bx;obtain⟨x,ar,rfl⟩:=bx;exact(fm h dX ar).2
    exact(P7 bh h g1 g2 (opt mZ) (opt na) he).next
   .cases U
 |fieldAddr T x k=>
  simp only[cM,Option.map_eq_some_iff]at U;obtain⟨eg,ar,rfl⟩:=U;obtain⟨g1,g2⟩:=fm h dX ar;simp only[bS,Option.map_eq_some_iff,Prod.mk.injEq]at he;obtain⟨d,ag,rfl,rfl⟩:=he;exact(Pv bh h g1 g2 ag).next
 |indexAddr T x i=>
  simp only[cM]at U;split at U
  .rename_i eg k9 ar a8;simp only[Option.some.injEq]at U;subst U;simp only[bS,Option.map_eq_some_iff,Prod.mk.injEq]at he;obtain⟨d,ag,rfl,rfl⟩:=he;exact(Pw bh h (fm h dX ar).2 (fm h dX a8).2 ag).next
  .cases U
 |index T x i=>
  simp only[cM]at U;split at U
  .rename_i eg k9 ar a8;simp only[Option.some.injEq]at U;subst U;simp only[bS,Option.map_eq_some_iff,Prod.mk.injEq]at he;obtain⟨d,ag,rfl,rfl⟩:=he;exact(P2 bh h (fm h dX ar).2 (fm h dX a8).2 ag).next
  .cases U
 |makeMap t r=>
  cases r with
  |none=>
   simp only[cM,Option.some.injEq]at U;subst U;simp only[bS,Option.some.injEq,Prod.mk.injEq]at he;obtain⟨rfl,rfl⟩:=he;exact(Qt h t).next
  |some r=>simp[cM]at U
 |lookup T x i c=>
  cases c with
  |true=>simp[cM]at U
  |false=>
   simp only[cM]at U;split at U
   .rename_i eg pS ar ak;simp only[Option.some.injEq]at U;subst U;simp only[bS,Option.map_eq_some_iff,Prod.mk.injEq]at he;obtain⟨d,ag,rfl,rfl⟩:=he;exact(Qq bh h (fm h dX ar).2 (fm h dX ak).2 ag).next
   .cases U
 |mapUpdate T x i v=>
  simp only[cM]at U;split at U
  .rename_i eg pS fH ar ak aH;simp only[Option.some.injEq]at U;subst U;simp only[bS,Option.map_eq_some_iff,Prod.mk.injEq]at he;obtain⟨s2,ag,rfl,rfl⟩:=he;obtain⟨aB,aL,ab,ad⟩:=Qr bh h (fm h dX ar).2 (fm h dX ak).2 (fm h dX aH).2 ag;exact⟨.skip,aB,undef,F,aL,by simp[execOp,ab],.inr ⟨rfl,rfl⟩,ad,.inl ⟨rfl,by rw[aG];trivial⟩⟩
  .cases U
 |extract x k=>
  simp only[cM,Option.map_eq_some_iff]at U;obtain⟨eg,ar,rfl⟩:=U;simp only[bS,Option.map_eq_some_iff,Prod.mk.injEq]at he;obtain⟨d,ag,rfl,rfl⟩:=he;exact(PZ h (fm h dX ar).2 ag).next
 |field T x k=>
  simp only[cM,Option.map_eq_some_iff]at U;obtain⟨eg,ar,rfl⟩:=U;simp only[bS,Option.bind_eq_some_iff]at he;obtain⟨d,ag,he⟩:=he;obtain⟨v,aB,bF,aL,aK,fz,nI⟩:=P0 bh h (fm h dX ar).2 ag;unfold vZ at he;split at he
  .rename_i y q;have QJ:aG aB bF s aC (.h y q) v (λ_=>False):=by
    rcases nI with⟨_,g2⟩|⟨g1,_⟩
    .exact g2
    .cases g1
   obtain⟨bM,k0,b1,cb,Sn,eu,dp,e0,dv,k7,_⟩:=oP fz rfl QJ he;exact⟨.value v,aB,v,bF,bM,by simp[execOp,aK],.inl rfl,k0,.inr ⟨b1,cb,Sn,eu,dp,e0,dv,k7⟩⟩
  .simp only[Option.some.injEq,Prod.mk.injEq]at he;obtain⟨rfl,rfl⟩:=he;exact⟨.value v,aB,v,bF,aL,by simp[execOp,aK],.inl rfl,fz,nI⟩
 |call c=>
  obtain⟨callee,args,argTypes⟩:=c;simp only[cM]at U;split at U
  .split at U
   .simp only[Option.some.injEq]at U;subst U;simp[bS]at he
   .cases U
  .split at U
   .rename_i x T nj v7;simp only[Option.map_eq_some_iff]at U;obtain⟨eg,ar,rfl⟩:=U;simp only[bS,Option.map_eq_some_iff,Prod.mk.injEq]at he;obtain⟨d,ag,rfl,rfl⟩:=he;have:=(P3 (ty:=ty) bh h (fm h dX ar).2 ag).next;have aN:args= #[x]:=by apply Array.ext';exact nj
    have aR:argTypes= #[T]:=by apply Array.ext';exact v7
    subst aN aR;simpa [execOp,resolve,invoke,builtin]using this
   .cases U
  .split at U
   .rename_i x T nj v7;simp only[Option.map_eq_some_iff]at U;obtain⟨eg,ar,rfl⟩:=U;simp only[bS]at he;split at he
    .rename_i e aw QK;simp only[Option.some.injEq,Prod.mk.injEq]at he;obtain⟨rfl,rfl⟩:=he;have aH:=(fm h dX ar).2;rw[QK]at aH;have:=qT aH;obtain⟨i,d,z,aN,aR,aS,b0,cd,bQ,bH⟩:=bh.info (fP aw (by simp));rw[aw]at bH;have ag:=k_ bH;subst ag;have v8:args= #[x]:=by apply Array.ext';exact nj
     have QL:argTypes= #[T]:=by apply Array.ext';exact v7
     subst v8 QL;have aK:(Builtin.cap_ #[T] ty #[a.eval x]).run C.P w= .ok (.int .i64 0) w:=by
      rw[this];simp[Builtin.cap_,run_underlying bQ,goInt]
     have:=(Good.same (av:=.int .i64 0) h aK rfl (of_int _ _)).next;simpa [execOp,resolve,invoke,builtin]using this
    .cases he
   .cases U
  .split at U
   .rename_i x y nj;split at U
    .rename_i eg k9 ar a8;simp only[Option.some.injEq]at U;subst U;have aN:args= #[x,y]:=by apply Array.ext';exact nj
     subst aN;exact Jr h (fm h dX ar).2 (fm h dX a8).2 he (by simp[execOp,resolve,invoke,builtin,Builtin.min_])
    .cases U
   .cases U
  .split at U
   .rename_i x y nj;split at U
    .rename_i eg k9 ar a8;simp only[Option.some.injEq]at U;subst U;have aN:args= #[x,y]:=by apply Array.ext';exact nj
     subst aN;exact Jr h (fm h dX ar).2 (fm h dX a8).2 he (by simp[execOp,resolve,invoke,builtin,Builtin.max_])
    .cases U
   .cases U
  .split at U
   .rename_i x y T cL nj v7;split at U
    .rename_i eg k9 ar a8;simp only[Option.some.injEq]at U;subst U;have:=(Qh (ty:=ty) bh h (fm h dX ar).2 (fm h dX a8).2 he).next;have aN:args= #[x,y]:=by apply Array.ext';exact nj
     have aR:argTypes= #[T,cL]:=by apply Array.ext';exact v7
     subst aN aR;simpa [execOp,resolve,invoke,builtin]using this
    .cases U
   .cases U
  .cases U
 |_=>simp[cM]at U
end
mutual
def I.U:I->aiA
 | .h x _=>[x]
 | .au x _=>[x]
 | .R x _=>[x]
 | .fn _ cap=>I.eh cap
 |_=>[]
def I.eh:aiF->aiA
 |[]=>[]
 |d::ds=>d.U++I.eh ds
end
inductive o1 where
 |no
 |bT
 |cr
structure gr where
 k:o1
 x:Nat
 d:I
def o1.app (k:o1) (x:Nat) (a:I):I:=match k with
 | .no=>a
 | .bT=>cU.bT x a
 | .cr=>cU.cr x a
def gr.at (m:gr) (u:Nat) (a:I):I:=if u=m.x then m.d else m.k.app m.x a
def jz:List gr->Nat->I->I
 |[],_,a=>a
 |m::ms,u,a=>jz ms u (m.at u a)
def dx (ms:List gr) (s:ax):ax:=λu=>jz ms u (s u)
theorem Jt:∀(ms kz:List gr) (u:Nat) (a:I),jz (ms++kz) u a=jz kz u (jz ms u a)
 |[],_,_,_=>rfl
 |m::ms,kz,u,a=>by simp only[cons_append,jz];exact Jt ms kz u _
theorem mv (ms kz:List gr) (s:ax):dx (ms++kz) s=dx kz (dx ms s):=by
 funext u;simp[dx,Jt]
theorem QM {ms:List gr} {s aD:ax} {u:Nat} (h:aD u=s u):dx ms aD u=dx ms s u:=by simp[dx,h]
theorem si (s:ax) (x:Nat) (d:I):de (hA x s) x d=dx [⟨.bT,x,d⟩] s:=by
 funext u;simp only[dx,jz,gr.at,de,hA,o1.app]
theorem Ju (s:ax) (x:Nat) (d:I):de (k5 x s) x d=dx [⟨.cr,x,d⟩] s:=by
 funext u;simp only[dx,jz,gr.at,de,k5,o1.app]
theorem QN (s:ax) (x:Nat) (d:I):de s x d=dx [⟨.no,x,d⟩] s:=by
 funext u;simp only[dx,jz,gr.at,de,o1.app]
mutual
theorem v_ {x:Nat}:∀a:I,x∉a.U->bT x a=a
 | .h y q,h=>by
   simp only[I.U,mem_singleton]at h;simp only[bT];rw[if_neg (λe=>h e.symm)]
 | .au y q,h=>by
   simp only[I.U,mem_singleton]at h;simp only[bT];rw[if_neg (λe=>h e.symm)]
 | .R y q,h=>rfl
 | .fn f cap,h=>by simp only[bT];rw[Jv cap (by simpa [I.U]using h)]
 | .hole,_=>rfl
 | .bool _,_=>rfl
 | .e7,_=>rfl
 | .int _ _,_=>rfl
 | .str _,_=>rfl
 | .di,_=>rfl
 | .a_,_=>rfl
 | .slice _,_=>rfl
 | .al _ _,_=>rfl
 | .ref _,_=>rfl
 | .bb _,_=>rfl
 | .agg _,_=>rfl
 | .tuple _,_=>rfl
 | .dz _,_=>rfl
 | .fv _ _,_=>rfl
theorem Jv {x:Nat}:∀ds:aiF,x∉I.eh ds->h9 x ds=ds
 |[],_=>rfl
 |d::ds,h=>by
  simp only[I.eh,mem_append,not_or]at h;simp only[h9];rw[v_ d h.1,Jv ds h.2]
end
mutual
theorem Dn {x:Nat}:∀a:I,x∉a.U->cr x a=a
 | .h y q,h=>by
   simp only[I.U,mem_singleton]at h;simp only[cr];rw[if_neg (λe=>h e.symm)]
 | .au y q,h=>by
   simp only[I.U,mem_singleton]at h;simp only[cr];rw[if_neg (λe=>h e.symm)]
 | .R y q,h=>by
   simp only[I.U,mem_singleton]at h;simp only[cr];rw[if_neg (λe=>h e.symm)]
 | .fn f cap,h=>by simp only[cr];rw[Jw cap (by simpa [I.U]using h)]
 | .hole,_=>rfl
 | .bool _,_=>rfl
 | .e7,_=>rfl
 | .int _ _,_=>rfl
 | .str _,_=>rfl
 | .di,_=>rfl
 | .a_,_=>rfl
 | .slice _,_=>rfl
 | .al _ _,_=>rfl
 | .ref _,_=>rfl
 | .bb _,_=>rfl
 | .agg _,_=>rfl
 | .tuple _,_=>rfl
 | .dz _,_=>rfl
 | .fv _ _,_=>rfl
theorem Jw {x:Nat}:∀ds:aiF,x∉I.eh ds->iH x ds=ds
 |[],_=>rfl
 |d::ds,h=>by
  simp only[I.eh,mem_append,not_or]at h;simp only[iH];rw[Dn d h.1,Jw ds h.2]
end
theorem wa {k:o1} {x:Nat} {a:I} (h:k= .no\/x∉a.U):k.app x a=a:=by
 cases k with
 |no=>rfl
 |bT=>exact v_ a (by simpa using h)
 |cr=>exact Dn a (by simpa using h)
mutual
theorem Jx (x y:Nat):∀a:I,bT x (bT y a)=bT y (bT x a)
 | .h z q=>by simp only[bT];by_cases ab:z=x<;>by_cases ad:z=y<;>by_cases aA:q=[]<;>simp[ab,ad,aA,bT]<;>(subst_vars;simp_all [bT])
 | .au z q=>by simp only[bT];by_cases ab:z=x<;>by_cases ad:z=y<;>simp[ab,ad,bT]<;>(subst_vars;simp_all [bT])
 | .R z q=>rfl
 | .fn f cap=>by simp only[bT];rw[Jy x y cap]
 | .hole=>rfl
 | .bool _=>rfl
 | .e7=>rfl
 | .int _ _=>rfl
 | .str _=>rfl
 | .di=>rfl
 | .a_=>rfl
 | .slice _=>rfl
 | .al _ _=>rfl
 | .ref _=>rfl
 | .bb _=>rfl
 | .agg _=>rfl
 | .tuple _=>rfl
 | .dz _=>rfl
 | .fv _ _=>rfl
theorem Jy (x y:Nat):∀ds:aiF,h9 x (h9 y ds)=h9 y (h9 x ds)
 |[]=>rfl
 |d::ds=>by simp only[h9];rw[Jx x y d,Jy x y ds]
end
mutual
theorem Jz (x y:Nat):∀a:I,cr x (cr y a)=cr y (cr x a)
 | .h z q=>by simp only[cr];by_cases ab:z=x<;>by_cases ad:z=y<;>simp[ab,ad,cr]<;>(subst_vars;simp_all [cr])
 | .au z q=>by simp only[cr];by_cases ab:z=x<;>by_cases ad:z=y<;>simp[ab,ad,cr]<;>(subst_vars;simp_all [cr])
 | .R z q=>by simp only[cr];by_cases ab:z=x<;>by_cases ad:z=y<;>simp[ab,ad,cr]<;>(subst_vars;simp_all [cr])
 | .fn f cap=>by simp only[cr];rw[JA x y cap]
 | .hole=>rfl
 | .bool _=>rfl
 | .e7=>rfl
 | .int _ _=>rfl
 | .str _=>rfl
 | .di=>rfl
 | .a_=>rfl
 | .slice _=>rfl
 | .al _ _=>rfl
 | .ref _=>rfl
 | .bb _=>rfl
 | .agg _=>rfl
 | .tuple _=>rfl
 | .dz _=>rfl
 | .fv _ _=>rfl
theorem JA (x y:Nat):∀ds:aiF,iH x (iH y ds)=iH y (iH x ds)
 |[]=>rfl
 |d::ds=>by simp only[iH];rw[Jz x y d,JA x y ds]
end
mutual
theorem Dp (x y:Nat):∀a:I,bT x (cr y a)=cr y (bT x a)
 | .h z q=>by simp only[cr,bT];by_cases ab:z=x<;>by_cases ad:z=y<;>by_cases aA:q=[]<;>simp[ab,ad,aA,cr,bT]<;>(subst_vars;simp_all [cr,bT])
 | .au z q=>by simp only[cr,bT];by_cases ab:z=x<;>by_cases ad:z=y<;>simp[ab,ad,cr,bT]<;>(subst_vars;simp_all [cr,bT])
 | .R z q=>by simp only[cr,bT];by_cases ad:z=y<;>simp[ad,bT]
 | .fn f cap=>by simp only[cr,bT];rw[JB x y cap]
 | .hole=>rfl
 | .bool _=>rfl
 | .e7=>rfl
 | .int _ _=>rfl
 | .str _=>rfl
 | .di=>rfl
 | .a_=>rfl
 | .slice _=>rfl
 | .al _ _=>rfl
 | .ref _=>rfl
 | .bb _=>rfl
 | .agg _=>rfl
 | .tuple _=>rfl
 | .dz _=>rfl
 | .fv _ _=>rfl
theorem JB (x y:Nat):∀ds:aiF,h9 x (iH y ds)=iH y (h9 x ds)
 |[]=>rfl
 |d::ds=>by simp only[iH,h9];rw[Dp x y d,JB x y ds]
end
theorem QO (k l:o1) (x y:Nat) (a:I):k.app x (l.app y a)=l.app y (k.app x a):=by
 cases k<;>cases l<;>simp only[o1.app]<;>first|rfl|exact Jx .. |exact Jz .. |exact Dp .. |exact(Dp ..).symm
def bg.use (s:ax):bg->aiA
 | .t n=>n::(s n).U
 | .c av=>av.U
 | .f _=>[]
def bg.o2 (s:ax):List bg->aiA
 |[]=>[]
 |x::xs=>x.use s++bg.o2 s xs
def Dq (s:ax):Option bg->aiA
 |none=>[]
 |some x=>x.use s
def use (s:ax):dI->aiA
 | .iK x=>x.use s
 | .l4 x=>x.use s
 | .pick c a b=>c.use s++(a.use s++b.use s)
 | .jS _=>[]
 | .iJ _ x=>x.use s
 | .gH _ ps=>bg.o2 s (ps.map (·.2))
 | .eI _ _ ps=>bg.o2 s (ps.map (·.2))
 | .eR _ x=>x.use s
 | .ik _ x y=>x.use s++y.use s
 | .kb x=>x.use s
 | .eL _ _ x y=>x.use s++y.use s
 | .un _ x=>x.use s
 | .lB _ _ x=>x.use s
 | .l3 _ cs=>bg.o2 s cs
 | .ek _ l c=>l.use s++c.use s
 | .hC _ x eS ak=>x.use s++(Dq s eS++Dq s ak)
 | .gK _ x _=>x.use s
 | .jk _ x i=>x.use s++i.use s
 | .idx _ x i=>x.use s++i.use s
 | .ex x _=>x.use s
 | .lA _ x _=>x.use s
 | .call f args=>f.use s++bg.o2 s args
 | .len _ x=>x.use s
 | .app _ _ x y=>x.use s++y.use s
 | .shr bC=>use s bC
 | .mu x=>x.use s
 | .vX=>[]
 | .ng _ x i=>x.use s++i.use s
 | .l1 _ x i v=>x.use s++(i.use s++v.use s)
 | .cap _ x=>x.use s
 | .o0 _ x y=>x.use s++y.use s
 | .bad=>[]
def nU (s:ax):dI->aiA
 | .l4 x=>(bp s x).U
 | .iJ _ x=>(bp s x).U
 | .gH _ ps=>I.eh (ps.map λp=>bp s p.2)
 | .eI _ _ ps=>I.eh (ps.map λp=>bp s p.2)
 | .ik _ x y=>(bp s x).U++(bp s y).U
 | .lA _ x _=>(bp s x).U
 | .l1 _ x _ _=>(bp s x).U
 | .hC _ x _ _=>(bp s x).U
 | .app _ _ x y=>(bp s x).U++(bp s y).U
 | .shr bC=>nU s bC
 |_=>[]
def dB (cL:aiA) (aD s:ax):Prop:=∀u∈cL,aD u=s u
theorem dB.left {cL V:aiA} {aD s:ax} (h:dB (cL++V) aD s):dB cL aD s:=λu hu=>h u (mem_append_left _ hu)
theorem dB.right {cL V:aiA} {aD s:ax} (h:dB (cL++V) aD s):dB V aD s:=λu hu=>h u (mem_append_right _ hu)
theorem dB.dx {cL:aiA} {aD s:ax} (h:dB cL aD s) (ms:List gr):dB cL (dx ms aD) (dx ms s):=λu hu=>QM (h u hu)
theorem dB.sub {cL V:aiA} {aD s:ax} (h:dB cL aD s) (U:∀u∈V,u∈cL):dB V aD s:=λu hu=>h u (U u hu)
theorem bg.sj {s:ax} {x:bg}:∀u∈(bp s x).U,u∈x.use s:=by
 intro u hu;cases x with
 |t n=>
  simp only[bp,pR]at hu;split at hu
  .simp[bg.use,hu]
  .simp only[I.U,mem_singleton]at hu;simp[bg.use,hu]
 |c av=>exact hu
 |f g=>simp[bp,I.U,I.eh]at hu
theorem bg.fA {s aD:ax} {x:bg} (h:dB (x.use s) aD s):bp aD x=bp s x:=by
 cases x with
 |t n=>simp only[bp];rw[h n (by simp[bg.use])]
 |c av=>rfl
 |f g=>rfl
theorem dB.bp {s aD:ax} {x:bg} (h:dB (x.use s) aD s):dB (bp s x).U aD s:=h.sub bg.sj
theorem JC {s aD:ax} {x:Option bg} (h:dB (Dq s x) aD s):x.map (bp aD)=x.map (bp s):=by
 cases x with
 |none=>rfl
 |some x=>simp only[Option.map_some];rw[bg.fA h]
theorem bg.Dr {s aD:ax}:∀{xs:List bg},dB (bg.o2 s xs) aD s->xs.map (bp aD)=xs.map (bp s)
 |[],_=>rfl
 |x::xs,h=>by
  simp only[map_cons];rw[bg.fA (h.left),bg.Dr (h.right)]
theorem bg.Ds {s aD:ax}:∀{ps:List (Nat×bg)},dB (bg.o2 s (ps.map (·.2))) aD s->(ps.map λp=>(p.1,bp aD p.2))=ps.map λp=>(p.1,bp s p.2)
 |[],_=>rfl
 |x::xs,h=>by
  simp only[map_cons]at h⊢;rw[bg.fA (h.left),bg.Ds (h.right)]
theorem bg.zz {s:ax}:∀{xs:List bg},∀u∈I.eh (xs.map (bp s)),u∈bg.o2 s xs
 |[],u,h=>by simp[I.eh]at h
 |x::xs,u,h=>by
  simp only[map_cons,I.eh,mem_append]at h;simp only[bg.o2,mem_append];exact h.imp (bg.sj u) (bg.zz u)
section
variable {C:bY} {s aD:ax} {x y i:I} {T A B:TypeId}
theorem Dt (h:dB x.U aD s):loc aD x=loc s x:=by
 cases x<;>first
  |rfl
  |(simp only[loc];rw[h _ (by simp[I.U])])
theorem Du {z:Nat} {q:aiA} (h:loc s x=some (z,q)):z∈x.U:=by
 cases x with
 |h y p=>
  simp only[loc]at h;split at h
  .simp only[Option.some.injEq,Prod.mk.injEq]at h;simp[I.U,h.1]
  .cases h
 |au y p=>
  simp only[loc]at h;split at h
  .simp only[Option.some.injEq,Prod.mk.injEq]at h;simp[I.U,h.1]
  .cases h
 |_=>simp[loc]at h
theorem QP (h:dB x.U aD s):eR C aD T x=eR C s T x:=by
 have aO:=Dt h;unfold eR;split
 .rfl
 .rw[h _ (by simp[I.U])]
 .rw[aO];split
  .rename_i e;rw[h _ (Du e)]
  .rfl
theorem QQ {k:Nat} (h:dB x.U aD s):gK C aD T x k=gK C s T x k:=by
 have aO:=Dt h;unfold gK;split
 .split
  .split
   .split
    .rfl
    .rw[h _ (by simp[I.U])]
    .rw[aO];split
     .rename_i e;rw[h _ (Du e)]
     .rfl
   .rfl
  .rfl
 .rfl
theorem QR (h:dB x.U aD s):jk C aD T x i=jk C s T x i:=by
 cases x<;>first
  |rfl
  |(simp only[jk];rw[h _ (by simp[I.U])])
theorem QS (h:dB x.U aD s):pX C aD T x=pX C s T x:=by
 unfold pX;cases(C.T T).k<;>cases x<;>first
  |rfl
  |(simp only;rw[h _ (by simp[I.U])])
theorem QT (h:dB x.U aD s):lB C aD A B x=lB C s A B x:=by
 unfold lB;cases(C.T B).k<;>cases x<;>first
  |rfl
  |(simp only;rw[h _ (by simp[I.U])])
theorem QU (h:dB x.U aD s):jl aD x=jl s x:=by
 cases x<;>first
  |rfl
  |(simp only[jl];rw[h _ (by simp[I.U])])
theorem QV (h:dB x.U aD s):kP aD x=kP s x:=by
 cases x<;>first
  |rfl
  |(simp only[kP];rw[h _ (by simp[I.U])])
theorem QW {op:BinOp} (h:dB x.U aD s):eL C aD op T x y=eL C s op T x y:=by
 have ab:=QU h;have ad:=QV h;unfold eL;split<;>first|rfl|simp only[ab,ad]
theorem QX (h:dB x.U aD s):kb aD x=kb s x:=by
 cases x<;>first
  |rfl
  |(simp only[kb];rw[h _ (by simp[I.U])])
theorem QY {k y:Nat} {q:aiA} (h:lA C s T x k=some (.h y q)):x.U=[y]:=by
 unfold lA at h;split at h<;>try (cases h;done)
 split at h<;>try (cases h;done)
 split at h
 .split at h<;>try (cases h;done)
  split at h
  .rename_i aj;simp only[Option.some.injEq]at h;rw[h]at aj;exact absurd aj.2.2.2 (by simp[I.tree])
  .cases h
 .split at h<;>try (cases h;done)
  split at h<;>try (cases h;done)
  split at h<;>try (cases h;done)
  rename_i d ag aj;by_cases au:d.plain=true
  .simp only[au,if_true,Option.some.injEq]at h;rw[h]at aj;exact absurd aj.2.2.2 (by simp[I.tree])
  .simp only[au,Option.some.injEq]at h;injection h with ab ad;subst ab;rfl
 .cases h
theorem JD {k:Nat} (h:dB x.U aD s):lA C aD T x k=lA C s T x k:=by
 unfold lA;split<;>try rfl
 split<;>try rfl
 cases x<;>first
  |rfl
  |(simp only[];rw[h _ (by simp[I.U])])
theorem QZ {k:Nat} (h:dB x.U aD s):ex aD x k=ex s x k:=by
 cases x<;>first
  |rfl
  |(simp only[ex];rw[h _ (by simp[I.U])])
theorem tH:∀(q:aiA) (a d e:I),I.sub q a=some d->(d.plain=false\/q≠[])->(q=[]->e.U=[])->(I.put q e a).U=[]:=by
 intro q a d e h au he;cases q with
 |nil=>rw[I.put];exact he rfl
 |cons k q=>
  cases a<;>first
   |(simp[I.sub]at h;done)
   |skip
  all_goals
   unfold I.put
   repeat' split
   all_goals first|rfl|(simp_all;done)
end
def Loc {α:Type} (cL tI:aiA) (f:ax->Option (α×ax)) (s:ax) (av:α) (s1:ax):Prop:=
 ∃ms,s1=dx ms s/\(∀m∈ms,m.x∈tI/\m.d.U=[])/\∀aD,dB cL aD s->f aD=some (av,dx ms aD)
theorem Loc.pure {α:Type} {cL tI:aiA} {f:ax->Option (α×ax)} {s:ax} {av:α} (h:∀aD,dB cL aD s->f aD=some (av,aD)):Loc cL tI f s av s:=
 ⟨[],rfl,by simp,λaD U=>h aD U⟩
theorem Loc.mono {α:Type} {cL tI JE JF:aiA} {f:ax->Option (α×ax)} {s s1:ax} {av:α} (h:Loc cL tI f s av s1) (oY:∀u∈cL,u∈JE) (h_:∀u∈tI,u∈JF):Loc JE JF f s av s1:=by
 obtain⟨ms,ab,ad,aA⟩:=h;exact⟨ms,ab,λm hm=>⟨h_ _ (ad m hm).1,(ad m hm).2⟩,λaD U=>aA aD (U.sub oY)⟩
section
variable {C:bY} {s s1:ax} {x y d:I} {T A B:TypeId}
theorem q2 (h:cB s x=some (d,s1)):Loc x.U x.U (λs=>cB s x) s d s1:=by
 cases x with
 |h y q=>
  simp only[cB]at h;split at h
  .rename_i e he;split at h
   .cases h
   .rename_i au;simp only[Option.some.injEq,Prod.mk.injEq]at h;obtain⟨rfl,rfl⟩:=h;have au:e.plain=false:=by simpa using au
    refine⟨[⟨.bT,y,I.put q e.cN (s y)⟩],si _ _ _,?_,?_⟩
    .intro m hm;simp only[mem_singleton]at hm;subst hm;refine⟨by simp[I.U],tH q _ _ _ he (.inl au) λbX=>?_⟩;subst bX;cases e<;>first|(simp[I.plain]at au;done)|rfl
    .intro aD U;have aN:aD y=s y:=U y (by simp[I.U]);simp only[cB,aN,he,au];rw[<-si];rfl
  .cases h
 |au y q=>simp[cB]at h
 |R y q=>simp[cB]at h
 |fn f c=>simp[cB]at h
 |hole=>simp[cB]at h
 |_=>
  simp only[cB,Option.some.injEq,Prod.mk.injEq]at h;obtain⟨rfl,rfl⟩:=h;exact .pure λaD _=>rfl
mutual
theorem JG (x:Nat):∀a:I,∀u∈(bT x a).U,u∈a.U
 | .h y q,u,h=>by
   simp only[bT]at h;split at h
   .split at h
    .exact h
    .simp[I.U]at h
   .exact h
 | .au y q,u,h=>by
   simp only[bT]at h;split at h
   .simp[I.U]at h
   .exact h
 | .R y q,u,h=>h
 | .fn f cap,u,h=>by simp only[bT,I.U]at h⊢;exact JH x cap u h
 | .hole,u,h=>h
 | .bool _,u,h=>h
 | .e7,u,h=>h
 | .int _ _,u,h=>h
 | .str _,u,h=>h
 | .di,u,h=>h
 | .a_,u,h=>h
 | .slice _,u,h=>h
 | .al _ _,u,h=>h
 | .ref _,u,h=>h
 | .bb _,u,h=>h
 | .agg _,u,h=>h
 | .tuple _,u,h=>h
theorem JH (x:Nat):∀ds:aiF,∀u∈I.eh (h9 x ds),u∈I.eh ds
 |[],u,h=>h
 |d::ds,u,h=>by
  simp only[h9,I.eh,mem_append]at h⊢;exact h.imp (JG x d u) (JH x ds u)
end
theorem Dv (o:Option Nat) (a:I):∀u∈(j8 o a).U,u∈a.U:=by
 intro u h;cases o with
 |none=>exact h
 |some x=>exact JG x a u h
theorem JI:∀(os:List (Option Nat)) (a:I),∀u∈(ky os a).U,u∈a.U:=by
 intro os;induction os with
 |nil=>intro a u h;exact h
 |cons o os ih=>intro a u h;exact Dv o a u (ih (j8 o a) u h)
theorem JJ {place:Nat->Option (Nat×Nat)}:∀{ps:aiE} {s s1:ax} {dS ds:aiF} {os:List (Option Nat)},dY place s dS os ps=some (ds,s1)->
  Loc (I.eh (ps.map (·.2))) (I.eh (ps.map (·.2))) (λs=>dY place s dS os ps) s ds s1:=by
 intro ps;induction ps with
 |nil=>
  intro s s1 dS ds os h;simp only[dY,Option.some.injEq,Prod.mk.injEq]at h;obtain⟨rfl,rfl⟩:=h;exact .pure λaD _=>rfl
 |cons p ps ih=>
  intro s s1 dS ds os h;obtain⟨k,a⟩:=p;simp only[dY]at h;split at h
  .rename_i d s2 off n z aY fl bO;split at h
   .cases h
   .rename_i a6 l5;split at h
    .rename_i aj;obtain⟨nV,rfl,ad,aA⟩:=q2 aY;obtain⟨q1,rfl,bA,cH⟩:=ih h;refine⟨nV++q1,(mv _ _ _).symm,?_,?_⟩
     .intro m hm;simp only[map_cons,I.eh,mem_append]at hm⊢;rcases hm with hm|hm
      .exact⟨.inl (JI _ _ _ (ad m hm).1),(ad m hm).2⟩
      .exact⟨.inr (bA m hm).1,(bA m hm).2⟩
     .intro aD U;simp only[map_cons,I.eh]at U;have aN:=aA aD (U.left.sub (JI _ _));have aR:=cH (dx nV aD) (U.right.dx nV);simp only at aN aR;simp only[dY,aN,fl,bO,mv];rw[if_pos aj];exact aR
    .cases h
  .cases h
theorem Q0 {ps:aiE} {av:I} (h:gH C s T ps=some (av,s1)):Loc (I.eh (ps.map (·.2))) (I.eh (ps.map (·.2))) (λs=>gH C s T ps) s av s1:=by
 unfold gH at h;split at h
 .rename_i ay dS aw bO;split at h
  .rename_i aj;split at h
   .rename_i ds s2 bn;simp only[Option.some.injEq,Prod.mk.injEq]at h;obtain⟨rfl,rfl⟩:=h;obtain⟨ms,ab,ad,aA⟩:=JJ bn;refine⟨ms,ab,ad,λaD U=>?_⟩;have:=aA aD U;simp only at this;simp only[gH,aw,bO,if_pos aj,this]
   .cases h
  .cases h
 .cases h
theorem Q1 {n:Nat} {ps:aiE} {av:I} (h:eI C s T n ps=some (av,s1)):Loc (I.eh (ps.map (·.2))) (I.eh (ps.map (·.2))) (λs=>eI C s T n ps) s av s1:=by
 unfold eI at h;split at h
 .rename_i e aw;split at h
  .rename_i aj;split at h
   .rename_i ds s2 bn;simp only[Option.some.injEq,Prod.mk.injEq]at h;obtain⟨rfl,rfl⟩:=h;obtain⟨ms,ab,ad,aA⟩:=JJ bn;refine⟨ms,ab,ad,λaD U=>?_⟩;have:=aA aD U;simp only at this;simp only[eI,aw,if_pos aj,this]
   .cases h
  .cases h
 .cases h
theorem Q2 {av:I} (h:iJ s x=some (av,s1)):Loc x.U x.U (λs=>iJ s x) s av s1:=by
 unfold iJ at h;split at h
 .cases h
 .rename_i d s2 l5 aY;simp only[Option.some.injEq,Prod.mk.injEq]at h;obtain⟨rfl,rfl⟩:=h;obtain⟨ms,ab,ad,aA⟩:=q2 aY;refine⟨ms,ab,ad,λaD U=>?_⟩;have:=aA aD U;simp only at this;simp only[iJ,this]
 .cases h
theorem Q3 {s2:ax} (h:ik C s T x y=some s2):Loc (x.U++y.U) (x.U++y.U) (λs=>(ik C s T x y).map λs1=>(I.hole,s1)) s .hole s2:=by
 unfold ik at h;split at h
 .rename_i d s1 z q aY aO;obtain⟨ms,ab,ad,aA⟩:=q2 aY;have bO:=Du aO;have bX:q≠[]:=by
   cases x with
   |h y p=>
    simp only[loc]at aO;split at aO
    .simp only[Option.some.injEq,Prod.mk.injEq]at aO;simp[<-aO.2]
    .cases aO
   |au y p=>
    simp only[loc]at aO;split at aO
    .rename_i nL;simp only[Option.some.injEq,Prod.mk.injEq]at aO;obtain⟨rfl,rfl⟩:=aO;intro e;subst e;simp[I.ff]at nL
    .cases aO
   |_=>simp[loc]at aO
  split at h
  .cases h
  .rename_i a6 l5;split at h
   .rename_i d0 kx;split at h
    .rename_i aj;simp only[Option.some.injEq]at h;subst h;refine⟨ms++[⟨.bT,z,I.put q d (s z)⟩],?_,?_,?_⟩
     .rw[mv,<-ab,si]
     .intro m hm;simp only[mem_append,mem_singleton]at hm⊢;rcases hm with hm|rfl
      .exact⟨.inr (ad m hm).1,(ad m hm).2⟩
      .exact⟨.inl bO,tH q _ _ _ kx (.inr bX) λe=>(bX e).elim⟩
     .intro aD U;have aN:=aA aD U.right;simp only at aN;simp only[ik,aN,Dt U.left,aO,U.left z bO,kx];cases d<;>first|(simp only[if_pos aj,Option.map_some,mv,si];done)|exact(l5 _ rfl).elim
    .cases h
   .cases h
 .cases h
theorem Q4 {eS ak:Option I} {av:I} (h:hC C s T x eS ak=some (av,s1)):Loc x.U x.U (λs=>hC C s T x eS ak) s av s1:=by
 cases x with
 |h y q=>
  unfold hC at h;split at h<;>first|(cases h;done)|skip
  all_goals (rename_i ar;try cases ar)
  rename_i e aw;split at h
  .rename_i sz xs eQ;split at h
   .rename_i b mZ na;split at h
    .rename_i aj;split at h
     .rename_i d s2 aY;simp only[Option.some.injEq,Prod.mk.injEq]at h;obtain⟨rfl,rfl⟩:=h;obtain⟨ms,ab,ad,aA⟩:=q2 aY;refine⟨ms,ab,ad,λaD U=>?_⟩;have:=aA aD U;simp only at this;have aN:aD y=s y:=U y (by simp[I.U]);simp only[hC,aw,aN,eQ,mZ,na,if_pos aj,this]
     .cases h
    .cases h
   .cases h
  .cases h
 |_=>
  have p3:s1=s:=by
   unfold hC at h
   repeat' split at h
   all_goals first|(cases h;done)|(simp only[Option.some.injEq,Prod.mk.injEq]at h;exact h.2.symm)|simp_all
  subst p3;refine .pure λaD _=>?_;unfold hC at h⊢
  repeat' split at h
  all_goals first
   |(cases h;done)
   |(simp only[Option.some.injEq,Prod.mk.injEq]at h
     obtain⟨rfl,_⟩:=h;simp_all)
def o3 (C:bY) (e:TypeId) (s:ax):I->Option (I×ax)
 | .a_=>some (I.al (C.T e).sz [],s)
 | .h a q=>cB s (.h a q)
 |_=>none
def kT (s1:ax):I->Option (aiF×ax)
 | .a_=>some ([],s1)
 | .slice ys=>some (ys,s1)
 | .str l=>some (l.map mY,s1)
 | .h a q=>match cB s1 (.h a q)with
   |some (.al _ ys,s2)=>some (ys,s2)
   |_=>none
 |_=>none
theorem Dw (C:bY) (s:ax) (T cL:TypeId) (x y:I):p1 C s T cL x y=(match(C.T T).k with
 | .slice e=>if(C.T e).ok=true/\(C.T e).zero.wd=(C.T e).sz/\(flat (C.T e).zero).isSome=true/\zq C e cL=true then
   match o3 C e s x with
   |some (.al sz xs,s1)=>if sz=(C.T e).sz then
     match kT s1 (j8 x.owner y)with
     |some (ys,s2)=>if(∀d∈ys,d.wd=(C.T e).sz)/\(xs.length+ys.length)*(C.T e).bytes<=140737488355328/\xs.length+ys.length<=9223372036854775807 then some (.al sz (xs++ys),s2)else none
     |none=>none
    else none
   |_=>none
   else none
 |_=>none):=by
 unfold p1;generalize j8 x.owner y=k9;cases(C.T T).k<;>first
  |rfl
  |(cases x<;>cases k9<;>rfl)
theorem Q5 {e:TypeId} {d:I} (ab:o3 C e s x=some (d,s1)):Loc x.U x.U (λs=>o3 C e s x) s d s1:=by
 cases x with
 |a_=>
  simp only[o3,Option.some.injEq,Prod.mk.injEq]at ab;obtain⟨ab,rfl⟩:=ab;exact .pure λaD _=>by simp only[o3,ab]
 |h a q=>exact q2 ab
 |_=>simp[o3]at ab
theorem Q6 {ys:aiF} (ad:kT s y=some (ys,s1)):Loc y.U y.U (λs=>kT s y) s ys s1:=by
 cases y with
 |a_=>
  simp only[kT,Option.some.injEq,Prod.mk.injEq]at ad;obtain⟨rfl,rfl⟩:=ad;exact .pure λaD _=>rfl
 |slice ys=>
  simp only[kT,Option.some.injEq,Prod.mk.injEq]at ad;obtain⟨rfl,rfl⟩:=ad;exact .pure λaD _=>rfl
 |str l=>
  simp only[kT,Option.some.injEq,Prod.mk.injEq]at ad;obtain⟨rfl,rfl⟩:=ad;exact .pure λaD _=>rfl
 |h a q=>
  simp only[kT]at ad;split at ad
  .rename_i Qj agH jU aY;simp only[Option.some.injEq,Prod.mk.injEq]at ad;obtain⟨rfl,rfl⟩:=ad;obtain⟨ms,g1,g2,g3⟩:=q2 aY;refine⟨ms,g1,g2,λaD U=>?_⟩;have:=g3 aD U;simp only at this;simp only[kT,this]
  .cases ad
 |_=>simp[kT]at ad
theorem Q7 {av:I} (h:p1 C s T A x y=some (av,s1)):Loc (x.U++y.U) (x.U++y.U) (λs=>p1 C s T A x y) s av s1:=by
 rw[Dw]at h;split at h
 .rename_i e aw;split at h
  .rename_i aj;split at h
   .rename_i sz xs s2 ab;split at h
    .rename_i dP;split at h
     .rename_i ys q3 ad;split at h
      .rename_i lZ;simp only[Option.some.injEq,Prod.mk.injEq]at h;obtain⟨rfl,rfl⟩:=h;obtain⟨nV,rfl,a2,a3⟩:=Q5 ab;obtain⟨q1,rfl,ht,kS⟩:=(Q6 ad).mono (Dv _ _) (Dv _ _);refine⟨nV++q1,(mv _ _ _).symm,?_,?_⟩
       .intro m hm;simp only[mem_append]at hm⊢;rcases hm with hm|hm
        .exact⟨.inl (a2 m hm).1,(a2 m hm).2⟩
        .exact⟨.inr (ht m hm).1,(ht m hm).2⟩
       .intro aD U;have aN:=a3 aD U.left;have aR:=kS (dx nV aD) (U.right.dx nV);simp only at aN aR;simp only[Dw,aw,if_pos aj,aN,if_pos dP,aR,if_pos lZ,mv]
      .cases h
     .cases h
    .cases h
   .cases h
  .cases h
 .cases h
theorem Q8 {aD:ax} {i:I} (h:dB x.U aD s):ng C aD T x i=ng C s T x i:=by
 cases x with
 |h y q=>cases i<;>simp only[ng,h y (by simp[I.U])]
 |_=>rfl
theorem Q9 {i v:I} {s2:ax} (h:l1 C s T x i v=some s2):Loc x.U x.U (λs=>(l1 C s T x i v).map λs1=>(I.hole,s1)) s .hole s2:=by
 unfold l1 at h;split at h
 .rename_i y q k b;split at h
  .rename_i m ag;split at h
   .rename_i h_;simp only[Option.some.injEq]at h;subst h;refine⟨[⟨.bT,y,I.put q (.dz (.mp (oN k b m))) (s y)⟩],si _ _ _,?_,λaD U=>?_⟩
    .intro n aP;simp only[mem_singleton]at aP;subst aP;exact⟨by simp[I.U],tH q _ _ _ ag (.inl rfl) λ_=>rfl⟩
    .have aN:aD y=s y:=U y (by simp[I.U]);simp only[l1,aN,ag,h_,if_true,Option.map_some];rw[<-si]
   .cases h
  .cases h
 .cases h
theorem JK {bC:dI} {av:I} (h:bS C s bC=some (av,s1)):Loc (use s bC) (nU s bC) (λs=>bS C s bC) s av s1:=by
 cases bC with
 |shr bC=>simp[bS]at h
 |mu x=>
  simp only[bS,Option.some.injEq,Prod.mk.injEq]at h;obtain⟨rfl,rfl⟩:=h;exact .pure λaD U=>by simp only[bS,bg.fA (x:=x) U]
 |bad=>simp[bS]at h
 |o0 gF x y=>
  simp only[bS,Option.map_eq_some_iff,Prod.mk.injEq]at h;obtain⟨d,ag,rfl,rfl⟩:=h;exact .pure λaD U=>by
   simp only[use]at U;simp only[bS,bg.fA (x:=x) U.left,bg.fA (x:=y) U.right,ag,Option.map_some]
 |cap T x=>
  simp only[bS]at h;split at h
  .rename_i e aw ar;simp only[Option.some.injEq,Prod.mk.injEq]at h;obtain⟨rfl,rfl⟩:=h;exact .pure λaD U=>by simp only[bS,bg.fA (x:=x) U,aw,ar]
  .cases h
 |iK x=>
  simp only[bS,Option.some.injEq,Prod.mk.injEq]at h;obtain⟨rfl,rfl⟩:=h;exact .pure λaD U=>by simp only[bS,bg.fA (x:=x) U]
 |l4 x=>
  simp only[bS]at h;split at h
  .rename_i y q ar;obtain⟨ms,ab,ad,aA⟩:=q2 h;refine⟨ms,ab,by simpa only[nU,ar]using ad,λaD U=>?_⟩;have e:=bg.fA (x:=x) U;have aR:=aA aD (by rw[<-ar];exact dB.bp U);simp only[bS,e,ar];exact aR
  .rename_i Q_;simp only[Option.some.injEq,Prod.mk.injEq]at h;obtain⟨rfl,rfl⟩:=h;refine .pure λaD U=>?_;have e:=bg.fA (x:=x) U;simp only[bS,e]
 |pick c a b=>
  simp only[bS]at h;split at h
  .rename_i fk R;simp only[Option.some.injEq,Prod.mk.injEq]at h;obtain⟨rfl,rfl⟩:=h;refine .pure λaD U=>?_;simp only[use]at U;simp only[bS,bg.fA (x:=c) U.left,bg.fA (x:=a) U.right.left,bg.fA (x:=b) U.right.right,R]
  .cases h
 |jS T=>
  simp only[bS,Option.map_eq_some_iff,Prod.mk.injEq]at h;obtain⟨d,ag,rfl,rfl⟩:=h;exact .pure λaD U=>by simp only[bS,ag,Option.map_some]
 |iJ T x=>
  obtain⟨ms,ab,ad,aA⟩:=Q2 h;refine⟨ms,ab,ad,λaD U=>?_⟩;simp only[bS,bg.fA (x:=x) U];exact aA aD (dB.bp U)
 |gH T ps=>
  obtain⟨ms,ab,ad,aA⟩:=Q0 h;simp only[List.map_map,Function.comp_def]at ad aA;refine⟨ms,ab,ad,λaD U=>?_⟩;simp only[bS,bg.Ds (ps:=ps) U];refine aA aD (U.sub λu hu=>?_);simp only[use];exact bg.zz u (by simpa [List.map_map,Function.comp_def]using hu)
 |eI T n ps=>
  obtain⟨ms,ab,ad,aA⟩:=Q1 h;simp only[List.map_map,Function.comp_def]at ad aA;refine⟨ms,ab,ad,λaD U=>?_⟩;simp only[bS,bg.Ds (ps:=ps) U];refine aA aD (U.sub λu hu=>?_);simp only[use];exact bg.zz u (by simpa [List.map_map,Function.comp_def]using hu)
 |eR T x=>
  simp only[bS,Option.map_eq_some_iff,Prod.mk.injEq]at h;obtain⟨d,ag,rfl,rfl⟩:=h;exact .pure λaD U=>by simp only[bS,bg.fA (x:=x) U,QP (dB.bp U),ag,Option.map_some]
 |ik T x y=>
  simp only[bS,Option.map_eq_some_iff,Prod.mk.injEq]at h;obtain⟨s2,ag,rfl,rfl⟩:=h;obtain⟨ms,ab,ad,aA⟩:=Q3 ag;refine⟨ms,ab,ad,λaD U=>?_⟩;simp only[use]at U;simp only[bS,bg.fA (x:=x) U.left,bg.fA (x:=y) U.right];exact aA aD (U.sub λu hu=>by simp only[mem_append]at hu⊢;exact hu.imp (bg.sj u) (bg.sj u))
 |kb x=>
  simp only[bS,Option.map_eq_some_iff,Prod.mk.injEq]at h;obtain⟨d,ag,rfl,rfl⟩:=h;exact .pure λaD U=>by simp only[bS,bg.fA (x:=x) U,QX (dB.bp U),ag,Option.map_some]
 |eL op T x y=>
  simp only[bS,Option.map_eq_some_iff,Prod.mk.injEq]at h;obtain⟨d,ag,rfl,rfl⟩:=h;refine .pure λaD U=>?_;simp only[use]at U;simp only[bS,bg.fA (x:=x) U.left,bg.fA (x:=y) U.right,QW (dB.bp U.left),ag,Option.map_some]
 |un op x=>
  simp only[bS,Option.map_eq_some_iff,Prod.mk.injEq]at h;obtain⟨d,ag,rfl,rfl⟩:=h;exact .pure λaD U=>by simp only[bS,bg.fA (x:=x) U,ag,Option.map_some]
 |lB A B x=>
  simp only[bS,Option.map_eq_some_iff,Prod.mk.injEq]at h;obtain⟨d,ag,rfl,rfl⟩:=h;exact .pure λaD U=>by simp only[bS,bg.fA (x:=x) U,QT (dB.bp U),ag,Option.map_some]
 |l3 f cs=>
  simp only[bS,Option.some.injEq,Prod.mk.injEq]at h;obtain⟨rfl,rfl⟩:=h;exact .pure λaD U=>by simp only[bS,bg.Dr (xs:=cs) U]
 |ek T l c=>
  simp only[bS,Option.map_eq_some_iff,Prod.mk.injEq]at h;obtain⟨d,ag,rfl,rfl⟩:=h;refine .pure λaD U=>?_;simp only[use]at U;simp only[bS,bg.fA (x:=l) U.left,bg.fA (x:=c) U.right,ag,Option.map_some]
 |hC T x eS ak=>
  simp only[bS]at h;obtain⟨ms,ab,ad,aA⟩:=Q4 h;refine⟨ms,ab,ad,λaD U=>?_⟩;simp only[use]at U;simp only[bS,bg.fA (x:=x) U.left,JC U.right.left,JC U.right.right];exact aA aD (dB.bp U.left)
 |gK T x k=>
  simp only[bS,Option.map_eq_some_iff,Prod.mk.injEq]at h;obtain⟨d,ag,rfl,rfl⟩:=h;exact .pure λaD U=>by simp only[bS,bg.fA (x:=x) U,QQ (dB.bp U),ag,Option.map_some]
 |jk T x i=>
  simp only[bS,Option.map_eq_some_iff,Prod.mk.injEq]at h;obtain⟨d,ag,rfl,rfl⟩:=h;refine .pure λaD U=>?_;simp only[use]at U;simp only[bS,bg.fA (x:=x) U.left,bg.fA (x:=i) U.right,QR (dB.bp U.left),ag,Option.map_some]
 |idx T x i=>
  simp only[bS,Option.map_eq_some_iff,Prod.mk.injEq]at h;obtain⟨d,ag,rfl,rfl⟩:=h;refine .pure λaD U=>?_;simp only[use]at U;simp only[bS,bg.fA (x:=x) U.left,bg.fA (x:=i) U.right,ag,Option.map_some]
 |ex x k=>
  simp only[bS,Option.map_eq_some_iff,Prod.mk.injEq]at h;obtain⟨d,ag,rfl,rfl⟩:=h;exact .pure λaD U=>by simp only[bS,bg.fA (x:=x) U,QZ (dB.bp U),ag,Option.map_some]
 |vX=>
  simp only[bS,Option.some.injEq,Prod.mk.injEq]at h;obtain⟨rfl,rfl⟩:=h;exact .pure λaD U=>rfl
 |ng T x i=>
  simp only[bS,Option.map_eq_some_iff,Prod.mk.injEq]at h;obtain⟨d,ag,rfl,rfl⟩:=h;refine .pure λaD U=>?_;simp only[use]at U;simp only[bS,bg.fA (x:=x) U.left,bg.fA (x:=i) U.right,Q8 (dB.bp U.left),ag,Option.map_some]
 |l1 T x i v=>
  simp only[bS,Option.map_eq_some_iff,Prod.mk.injEq]at h;obtain⟨s2,ag,rfl,rfl⟩:=h;obtain⟨ms,ab,ad,aA⟩:=Q9 ag;refine⟨ms,ab,ad,λaD U=>?_⟩;simp only[use]at U;simp only[bS,bg.fA (x:=x) U.left,bg.fA (x:=i) U.right.left,bg.fA (x:=v) U.right.right];exact aA aD (dB.bp U.left)
 |lA T x k=>
  simp only[bS,Option.bind_eq_some_iff]at h;obtain⟨d,ag,h⟩:=h;unfold vZ at h;split at h
  .rename_i y q;have ar:=QY ag;obtain⟨ms,ab,ad,aA⟩:=q2 h;refine⟨ms,ab,by simpa only[nU,ar,I.U]using ad,λaD U=>?_⟩;have aR:=aA aD (by rw[show(I.h y q).U=(bp s x).U from ar.symm];exact dB.bp U);simp only[bS,bg.fA (x:=x) U,JD (dB.bp U),ag,Option.bind_some,vZ];exact aR
  .rename_i Q_;simp only[Option.some.injEq,Prod.mk.injEq]at h;obtain⟨rfl,rfl⟩:=h;refine .pure λaD U=>?_;simp only[bS,bg.fA (x:=x) U,JD (dB.bp U),ag,Option.bind_some,vZ]
 |call f args=>simp[bS]at h
 |len T x=>
  simp only[bS,Option.map_eq_some_iff,Prod.mk.injEq]at h;obtain⟨d,ag,rfl,rfl⟩:=h;exact .pure λaD U=>by simp only[bS,bg.fA (x:=x) U,QS (dB.bp U),ag,Option.map_some]
 |app T cL x y=>
  obtain⟨ms,ab,ad,aA⟩:=Q7 h;refine⟨ms,ab,ad,λaD U=>?_⟩;simp only[use]at U;simp only[bS,bg.fA (x:=x) U.left,bg.fA (x:=y) U.right];exact aA aD (U.sub λu hu=>by simp only[mem_append]at hu⊢;exact hu.imp (bg.sj u) (bg.sj u))
end
mutual
def view (s:ax):I->Option I
 | .h x q=>match I.sub q (s x)with
   |some d=>(match d with| .tuple _=>none| .dz _=>none| .fv _ _=>none|d=>if d.plain then none else some d.share)
   |none=>none
 | .au x q=>if I.ff q (s x)then(match I.sub q (s x)with
   |some d=>(match d with| .tuple _=>none|d=>some (.ref d.share))
   |none=>none)else none
 | .R _ _=>none
 | .fn f cap=>(views s cap).map (.fn f)
 | .hole=>none
 |d=>some d
def views (s:ax):aiF->Option aiF
 |[]=>some []
 |d::ds=>match view s d,views s ds with
  |some a,some b=>some (a::b)
  |_,_=>none
end
mutual
theorem Dx:∀d:I,d.share.plain=true
 | .hole=>rfl
 | .bool _=>rfl
 | .e7=>rfl
 | .int _ _=>rfl
 | .str _=>rfl
 | .di=>rfl
 | .a_=>rfl
 | .slice _=>rfl
 | .al _ _=>rfl
 | .ref _=>rfl
 | .bb _=>rfl
 | .agg ay=>by simp only[I.share,I.plain];exact Dy ay
 | .tuple ay=>by simp only[I.share,I.plain];exact Dy ay
 | .fn _ _=>rfl
 | .h _ _=>rfl
 | .au _ _=>rfl
 | .R _ _=>rfl
 | .dz _=>rfl
 | .fv _ _=>rfl
theorem Dy:∀ds:aiF,I.fY (I.shares ds)=true
 |[]=>rfl
 |d::ds=>by simp only[I.shares,I.fY];rw[Dx d,Dy ds];rfl
end
theorem Ra {s:ax} {a d:I} (h:a.plain=true) (he:view s a=some d):d.plain=true:=by
 cases a with
 |h x q=>
  simp only[view]at he;split at he
  .rename_i e eQ;cases e<;>simp only at he<;>first
    |(cases he;done)
    |(split at he
      .cases he
      .simp only[Option.some.injEq]at he;subst he;exact Dx _)
  .cases he
 |au x q=>
  simp only[view]at he;split at he
  .split at he
   .rename_i e eQ;cases e<;>simp only at he<;>first
     |(cases he;done)
     |(simp only[Option.some.injEq]at he;subst he;rfl)
   .cases he
  .cases he
 |fn f cap=>
  simp only[view,Option.map_eq_some_iff]at he;obtain⟨ds,_,rfl⟩:=he;rfl
 |hole=>simp[view]at he
 |R y q=>simp[view]at he
 |_=>simp only[view,Option.some.injEq]at he;subst he;exact h
theorem Dz {d:I} {v:Value} (ab:∀vs,d≠.tuple vs) (h:dd d v):dd d.share v:=by
 cases d<;>first|exact h|exact(ab _ rfl).elim
theorem Rb (w:World):∀(q:aiA) (av d a6:I) (cs cq:aiD) (a cA:Option (Nat×Nat)),I.sub q av=some d->a6.wd=d.wd->c7 w q av cs a=some (d,cq,cA)->
  c7 w q (I.put q a6 av) cs a=some (a6,cq,cA):=by
 intro q;induction q with
 |nil=>
  intro av d a6 cs cq a cA ag hw h;simp only[c7,Option.some.injEq,Prod.mk.injEq]at h;obtain⟨rfl,rfl,rfl⟩:=h;simp only[I.put,c7]
 |cons k q ih=>
  intro av d a6 cs cq a cA ag hw h;cases av with
  |agg ay=>
   simp only[I.sub]at ag;split at ag
   .rename_i x ar;have aw:k<ay.length:=(List.getElem?_eq_some_iff.1 ar).1;simp only[c7,ar]at h;simp only[I.put,ar,c7];rw[getElem?_set_self aw];simp only[take_set_of_le (Nat.le_refl k),I.tq q x d a6 ag hw];exact ih _ _ _ _ _ _ _ ag hw h
   .cases ag
  |tuple ay=>
   simp only[I.sub]at ag;split at ag
   .rename_i x ar;have aw:k<ay.length:=(List.getElem?_eq_some_iff.1 ar).1;simp only[c7,ar]at h;simp only[I.put,ar,c7];rw[getElem?_set_self aw];simp only[take_set_of_le (Nat.le_refl k),I.tq q x d a6 ag hw];exact ih _ _ _ _ _ _ _ ag hw h
   .cases ag
  |al sz ay=>
   simp only[I.sub]at ag;split at ag
   .rename_i x ar;have aw:k<ay.length:=(List.getElem?_eq_some_iff.1 ar).1;have jm:(ay.set k (I.put q a6 x))[k]? =some (I.put q a6 x):=getElem?_set_self aw;simp only[I.put,ar];rw[c7.eq_def]at h⊢;simp only[ar]at h;simp only;rw[jm];split at h
    .rename_i aN;simp only[Option.some.injEq]at aN;subst aN;exact ih _ _ _ _ _ _ _ ag hw h
    .cases h
   .cases ag
  |bb x=>
   cases k with
   |zero=>
    simp only[I.sub]at ag;rw[c7.eq_def]at h⊢;simp only at h;simp only[I.put];split at h
    .rw[I.tq q x d a6 ag hw];exact ih _ _ _ _ _ _ _ ag hw h
    .cases h
   |succ k=>simp[I.sub]at ag
  |_=>simp[I.sub]at ag
section
variable {w0 w aB:World} {F0 X F Fc:Nat->Prop} {S:Nat->Nat->Prop} {s aD:ax} {aC hb:Nat->Value}
theorem Rc (h:bs w0 F0 X F S s aC w) (bc:∀b,F b->Fc b):∀n,
  (∀(a:I) (v:Value) (d:I),SizeOf.sizeOf a<=n->(∀t∈a.U,∀b,S t b->Fc b)->view s a=some d->aG w F s aC a v (λ_=>False)->aG w Fc aD hb d v (λ_=>False))/\
  (∀(as:aiF) (vs:aiD) (ds:aiF),SizeOf.sizeOf as<=n->(∀t∈I.eh as,∀b,S t b->Fc b)->views s as=some ds->ee w F s aC as vs->ee w Fc aD hb ds vs):=by
 intro n;induction n with
 |zero=>exact⟨λa _ _ bO=>by cases a<;>simp at bO<;>omega,λas _ _ bO=>by cases as<;>simp at bO<;>omega⟩
 |succ n ih=>
  refine⟨λa v d bO br he aH=>?_,λas vs ds bO br he aH=>?_⟩
  .cases a with
   |h x q=>
    simp only[view]at he;split at he
    .rename_i e eQ;have key:(∀ay,e≠.tuple ay)/\e.plain=false/\d=e.share/\(∀o,e≠.dz o)/\∀f c,e≠.fv f c:=by
      cases e<;>simp only at he<;>first
       |(cases he;done)
       |(split at he
         .cases he
         .rename_i fl;simp only[Option.some.injEq]at he;exact⟨(λ_ h=>by cases h),by simpa using fl,he.symm,(λ_ h=>by cases h),λ_ _ h=>by cases h⟩)
     obtain⟨l5,fl,rfl,k6,DA⟩:=key;rw[aG]at aH;obtain⟨cq,cA,g1,g2,g3⟩:=aH e eQ fl;have aY:=hs eQ (.inl fl);have ar:=(aG.ca aY).1 (h.df x);obtain⟨fy,a2,dL,eY,k0,b1,cb,eu,dp,e0⟩:=ctx q (s x) (b9 (aC x)) (S x) none e ar.2 eQ;rw[g1]at k0;simp only[Option.some.injEq,Prod.mk.injEq,true_and]at k0;obtain⟨rfl,rfl⟩:=k0;have CR:e.share.tree=true:=by cases e<;>first|rfl|(simp[I.plain]at fl;done)|exact(k6 _ rfl).elim|exact(DA _ _ rfl).elim
     have aK:=aq.shared bc e cq eY (λb R=>br x (by simp[I.U]) b (cb b R)) dp;exact(aG.ca CR).2 ⟨Dz l5 g3,by rw[g2];exact aK⟩
    .cases he
   |au x q=>
    simp only[view]at he;split at he
    .rename_i nL;split at he
     .rename_i e eQ;have key:(∀ay,e≠.tuple ay)/\d= .ref e.share:=by
       cases e<;>simp only at he<;>first
        |(cases he;done)
        |(simp only[Option.some.injEq]at he;exact⟨(λ_ h=>by cases h),he.symm⟩)
      obtain⟨l5,rfl⟩:=key;rw[aG]at aH;obtain⟨cq,b,o,g1,rfl⟩:=aH e eQ nL;have aY:=hs eQ (.inr nL);have ar:=(aG.ca aY).1 (h.df x);obtain⟨fy,a2,dL,eY,k0,b1,cb,eu,dp,e0⟩:=ctx q (s x) (b9 (aC x)) (S x) none e ar.2 eQ;rw[g1]at k0;simp only[Option.some.injEq,Prod.mk.injEq,true_and]at k0;obtain⟨rfl,rfl⟩:=k0;have aK:=aq.shared bc e cq eY (λb R=>br x (by simp[I.U]) b (cb b R)) dp;rcases e0 with⟨l,r,_,aR,_⟩|⟨fk,cur,ty,fr,l,r,aN,aR,aS,b0,cd,_⟩
      .simp at aR
      .simp only[Option.some.injEq,Prod.mk.injEq]at aN;obtain⟨rfl,rfl⟩:=aN;refine(aG.ca rfl).2 ⟨rfl,?_⟩;rw[aq];refine⟨b,l.length,cq,rfl,br x (by simp[I.U]) b (b1 b aR),?_,aK⟩;intro j c bd;simp only[World.cell?,aS];have aj:cur[l.length+j]? =some c:=by
        rw[<-Array.getElem?_toList,cd,getElem?_append_right (by omega),getElem?_append_left (by
         have:=(List.getElem?_eq_some_iff.1 bd).1;omega)]
        rw[<-bd];congr 1;omega
       simpa using aj
     .cases he
    .cases he
   |fn f cap=>
    simp only[view,Option.map_eq_some_iff]at he;obtain⟨ds,gI,rfl⟩:=he;rw[aG]at aH;obtain⟨arr,rfl,aj⟩:=aH;rw[aG];exact⟨arr,rfl,ih.2 cap _ _ (by simp at bO;omega) (by simpa [I.U]using br) gI aj⟩
   |hole=>simp[view]at he
   |R y q=>simp[view]at he
   |_=>
    simp only[view,Option.some.injEq]at he;subst he;have lz:=(aG.ca rfl).1 aH;exact(aG.ca rfl).2 ⟨lz.1,aq.mono bc _ _ _ _ (λ_ h=>h) lz.2⟩
  .cases as with
   |nil=>
    simp only[views,Option.some.injEq]at he;subst he;rw[ee]at aH⊢;exact aH
   |cons a as=>
    simp only[views]at he;split at he
    .rename_i d ds ab ad;simp only[Option.some.injEq]at he;subst he;rw[ee]at aH⊢;obtain⟨v,kM,rfl,g1,g2⟩:=aH;simp at bO;simp only[I.eh,mem_append]at br;exact⟨v,kM,rfl,ih.1 a v d (by omega) (λt aY=>br t (.inl aY)) ab g1,ih.2 as kM ds (by omega) (λt aY=>br t (.inr aY)) ad g2⟩
    .cases he
theorem bs.ia (h:bs w0 F0 X F S s aC w) {x:Nat} {q:aiA} {d0 a6:I} {cq:aiD} {a:Option (Nat×Nat)} {Sn:Nat->Prop}
  (ag:I.sub q (s x)=some d0) (bn:c7 w q (s x) (b9 (aC x)) none=some (d0,cq,a)) (ad:∀vs,a6≠.tuple vs) (aY:q=[]->a6.tree=true/\dd a6 (aC x))
  (aA:∀k p,q=k::p->(s x).tree=true/\(∀v,hV d0 v->hV a6 v)) (hw:a6.wd=d0.wd)
  (aH:aq w F a6 cq Sn) (c9:∀b,Sn b->b<w.heap.size) (bc:∀b,Sn b->¬F b) (br:∀u b,Sn b->¬S u b) (a7:∀b,Sn b->X b\/w0.heap.size<=b):
  bs w0 F0 X F (fG S x (λb=>S x b\/Sn b)) (de (k5 x s) x (I.put q a6 (s x))) aC w:=by
 have dX:de aC x (aC x)=aC:=by funext u;simp only[de];split<;>simp_all
 have main:(I.put q a6 (s x)).tree=true/\dd (I.put q a6 (s x)) (aC x)/\aq w F (I.put q a6 (s x)) (b9 (aC x)) (λb=>S x b\/Sn b):=by
  cases q with
  |nil=>
   simp only[c7,Option.some.injEq,Prod.mk.injEq]at bn;obtain⟨aN,aR,aS⟩:=bn;obtain⟨g1,g2⟩:=aY rfl;simp only[I.put];refine⟨g1,?_,?_⟩
   .exact g2
   .rw[aR];exact aq.mono (λ_ h=>h) _ _ _ _ (λb R=>.inr R) aH
  |cons k p=>
   obtain⟨g1,g2⟩:=aA k p rfl;have ar:=(aG.ca g1).1 (h.df x);obtain⟨fy,a2,dL,eY,k0,b1,cb,eu,dp,e0⟩:=ctx (k::p) (s x) (b9 (aC x)) (S x) none d0 ar.2 ag;rw[bn]at k0;simp only[Option.some.injEq,Prod.mk.injEq,true_and]at k0;obtain⟨rfl,rfl⟩:=k0;refine⟨?_,?_,?_⟩
   .rcases qO k p a6 (s x)with⟨ay,gs,aN,e⟩|⟨ay,gs,aN,e⟩|⟨sz,xs,ys,aN,e⟩|⟨y,z,aN,e⟩|e<;>rw[e]<;>first|rfl|exact g1
   .refine vA ar.1 ag g2 (λ_ vs e=>(ad vs e).elim) hw
   .have mono:∀b,(dL b\/Sn b)->(S x b\/Sn b):=λb R=>R.imp (b1 b) id;rcases e0 with⟨l,r,aN,aR,aS⟩|⟨b,cur,ty,fr,l,r,aN,aR,aS,b0,cd,bQ⟩
    .rw[aN];exact aq.mono (λ_ h=>h) _ _ _ _ mono (aS w a6 cq Sn (λ_ _=>rfl) (λ_ _=>rfl) hw aH (λb R aj=>br x b R (b1 b aj)))
    .refine aq.mono (λ_ h=>h) _ _ _ _ mono (bQ w a6 cq Sn (λ_ _=>rfl) (λ_ _ _=>rfl) ?_ hw aH (λb R aj=>br x b R (b1 b aj)));rw[aS,<-cd]
 have:=h.Iq (t:=x) main.1 main.2.1 main.2.2 (by rintro b (R|R);exact h.dW x b R;exact c9 b R) (by rintro b (R|R);exact h.e8 x b R;exact bc b R)
  (by rintro u b cw (R|R);exact λhu=>h.eZ u x b cw hu R;exact br u b R) (by rintro b (R|R);exact h.dh x b R;exact a7 b R)
 rwa [dX]at this
end
mutual
def I.cu:I->Bool
 | .slice _=>false
 | .ref _=>false
 | .fn _ _=>false
 | .h _ _=>false
 | .au _ _=>false
 | .R _ _=>false
 | .al _ xs=>I.gU xs
 | .bb d=>d.cu
 | .agg ay=>I.gU ay
 | .tuple ay=>I.gU ay
 | .fv _ ay=>I.gU ay
 |_=>true
def I.gU:aiF->Bool
 |[]=>true
 |d::ds=>d.cu&&I.gU ds
end
mutual
theorem aq.cu {w:World} {F bF:Nat->Prop}:∀(d:I) (cs:aiD) (S:Nat->Prop),d.cu=true->aq w F d cs S->aq w bF d cs S
 | .hole,_,_,_,h=>h
 | .bool _,_,_,_,h=>h
 | .e7,_,_,_,h=>h
 | .int _ _,_,_,_,h=>h
 | .str _,_,_,_,h=>h
 | .di,_,_,_,h=>h
 | .a_,_,_,_,h=>h
 | .slice xs,cs,S,aP,h=>by simp[I.cu]at aP
 | .ref d,cs,S,aP,h=>by simp[I.cu]at aP
 | .al sz xs,cs,S,aP,h=>by
   rw[aq]at h⊢;rcases h with h|⟨b,cap,cur,e,fr,aL,ab,ad,aA,aZ,bA,cH,cI,gn,jv,ig,ku⟩
   .exact .inl h
   .exact .inr ⟨b,cap,cur,e,fr,aL,ab,ad,aA,aZ,bA,cH,cI,gn,aV.cu xs _ _ aP jv,ig,ku⟩
 | .bb d,cs,S,aP,h=>by
   rw[aq]at h⊢;obtain⟨b,cur,e,fr,aL,ab,ad,aA,aZ,bA,cH,cI⟩:=h;exact⟨b,cur,e,fr,aL,ab,ad,aA,aZ,aq.cu d _ _ aP bA,cH,cI⟩
 | .agg ay,cs,S,aP,h=>by rw[aq]at h⊢;exact aV.cu ay _ _ aP h
 | .tuple ay,cs,S,aP,h=>by rw[aq]at h⊢;exact aV.cu ay _ _ aP h
 | .fn _ _,_,_,aP,h=>by simp[I.cu]at aP
 | .h _ _,_,_,_,h=>h
 | .au _ _,_,_,_,h=>h
 | .R _ _,_,_,_,h=>h
 | .dz _,_,_,_,h=>h
 | .fv _ caps,cs,S,aP,h=>by
   rw[aq]at h⊢;obtain⟨arr,ab,ad,aA⟩:=h;exact⟨arr,ab,ad,aV.cu caps _ _ aP aA⟩
theorem aV.cu {w:World} {F bF:Nat->Prop}:∀(ds:aiF) (cs:aiD) (S:Nat->Prop),I.gU ds=true->aV w F ds cs S->aV w bF ds cs S
 |[],_,_,_,h=>h
 |d::ds,cs,S,aP,h=>by
  simp only[I.gU,Bool.and_eq_true]at aP;rw[aV]at h⊢;obtain⟨c1,c2,bM,c3,ab,ad,aA,aZ,bA,cH⟩:=h;exact⟨c1,c2,bM,c3,ab,aq.cu d _ _ aP.1 ad,aV.cu ds _ _ aP.2 aA,aZ,bA,cH⟩
end
theorem JL:∀(q:aiA) (av d e:I),I.sub q av=some d->I.sub q (I.put q e av)=some e:=by
 intro q;induction q with
 |nil=>intro av d e _;simp[I.put,I.sub]
 |cons k q ih=>
  intro av d e h;cases av with
  |agg ay=>
   simp only[I.sub]at h;split at h
   .rename_i x ar;have aw:k<ay.length:=(List.getElem?_eq_some_iff.1 ar).1;simp only[I.put,ar,I.sub,getElem?_set_self aw];exact ih _ _ _ h
   .cases h
  |tuple ay=>
   simp only[I.sub]at h;split at h
   .rename_i x ar;have aw:k<ay.length:=(List.getElem?_eq_some_iff.1 ar).1;simp only[I.put,ar,I.sub,getElem?_set_self aw];exact ih _ _ _ h
   .cases h
  |al sz ay=>
   simp only[I.sub]at h;split at h
   .rename_i x ar;have aw:k<ay.length:=(List.getElem?_eq_some_iff.1 ar).1;simp only[I.put,ar,I.sub,getElem?_set_self aw];exact ih _ _ _ h
   .cases h
  |bb x=>
   cases k with
   |zero=>simp only[I.sub]at h;simp only[I.put,I.sub];exact ih _ _ _ h
   |succ k=>simp[I.sub]at h
  |_=>simp[I.sub]at h
structure cf where
 a:I
 g:Bool
 d:I
 o:I
def I.own:I->Bool
 | .al _ _=>true
 | .bb _=>true
 |_=>false
def I.fS:I->Bool
 | .al _ _=>true
 | .bb _=>true
 | .dz _=>true
 | .fv _ _=>true
 | .agg ay=> !I.fY ay
 |_=>false
def q4 (d o:I):Bool:=match d,o with
 | .agg a,.agg b=>I.dH a==I.dH b
 | .agg _,_=>false
 |_,.agg _=>false
 |_,_=>true
theorem p4 {d:I} (h:d.fS=true):d.plain=false/\d.tree=true/\∀vs,d≠.tuple vs:=by
 cases d<;>simp[I.fS]at h<;>first|exact⟨rfl,rfl,λvs e=>by cases e⟩|exact⟨by simp only[I.plain];exact h,rfl,λvs e=>by cases e⟩
theorem Re {d o:I} (h:d.fS=true) (bx:o.fS=true) (aO:q4 d o=true):o.wd=d.wd/\(∀v,dd d v->dd o v)/\∀v,hV d.cN v->hV o v:=by
 cases d<;>simp[I.fS]at h<;>cases o<;>simp[I.fS]at bx<;>simp[q4]at aO<;>first
  |exact⟨rfl,λ_ h=>h,λ_ h=>h⟩
  |exact⟨by simp only[I.wd];exact aO.symm,λ_ h=>h,λ_ h=>h⟩
def cf.ok (s:ax) (p:cf):Prop:=
 if p.g then(match p.a with| .h x q=>I.sub q (s x)=some p.d/\p.d.fS=true/\(p.o= .hole\/(p.o.fS=true/\q4 p.d p.o=true))|_=>False)
 else view s p.a=some p.d
def h2:List cf->Bool
 |[]=>true
 |p::r=>(r.all λcj=> !(p.g||cj.g)||(p.a.U.all λu=> !cj.a.U.contains u))&&h2 r
def cf.take (s:ax) (p:cf):ax:=
 if p.g then(match p.a with| .h x q=>de (hA x s) x (I.put q p.d.cN (s x))|_=>s)else s
def cf.ia (s:ax) (p:cf):ax:=
 if p.g then(match p.a,p.o with|_,.hole=>s| .h x q,o=>de (k5 x s) x (I.put q o (s x))|_,_=>s)else s
def eT (s:ax) (ps:List cf):ax:=ps.foldl cf.take s
def hE (s:ax) (ps:List cf):ax:=ps.foldl cf.ia s
section
variable {w0 w aB:World} {F0 X F Fc:Nat->Prop} {S:Nat->Nat->Prop} {s aD:ax} {aC hb:Nat->Value}
def Rf (w:World) (F:Nat->Prop) (s1:ax) (aC:Nat->Value) (p:cf) (v:Value) (Sn:Nat->Prop):Prop:=
 ∃x q a0,p.a= .h x q/\I.sub q (s1 x)=some p.d.cN/\c7 w q (s1 x) (b9 (aC x)) none=some (p.d.cN,b9 v,a0)/\(s1 x).U=[]/\(q=[]->dd p.d (aC x))/\(q≠[]->(s1 x).tree=true)/\
  dd p.d v/\aq w F p.d (b9 v) Sn
theorem Rg {p:cf} {x:Nat} (h:(s x).U=[]) (au:p.g=true->x∉p.a.U):cf.take s p x=s x:=by
 unfold cf.take;split
 .rename_i bB;cases bU:p.a with
  |h y q=>
   have:x≠y:=by
    have:=au bB;rw[bU]at this;simpa [I.U]using this
   simp only;rw[iZ _ _ this];exact v_ _ (by rw[h];simp)
  |_=>rfl
 .rfl
theorem DB:∀{ps:List cf} {s:ax} {x:Nat},(s x).U=[]->(∀p∈ps,p.g=true->x∉p.a.U)->eT s ps x=s x:=by
 intro ps;induction ps with
 |nil=>intros;rfl
 |cons p ps ih=>
  intro s x h au;have e:=Rg (s:=s) (p:=p) h (au p (by simp));show eT (cf.take s p) ps x=s x;rw[ih (by rw[e];exact h) (λcj el=>au cj (by simp[el])),e]
theorem zA {d:I} (h:d.own=true):d.plain=false/\d.tree=true/\d.cN= .hole/\d.one=true/\d.wd=1/\(∀v,dd d v↔Value.fw v=true):=by
 cases d<;>simp[I.own]at h<;>exact⟨rfl,rfl,rfl,rfl,rfl,λv=>Iff.rfl⟩
theorem Rh:∀(ps:List cf) (vs:aiD) (s:ax) (S:Nat->Nat->Prop),bs w0 F0 X F S s aC w->ps.length=vs.length->
  (∀(i:Nat) (p:cf) (v:Value),ps[i]? =some p->vs[i]? =some v->p.a.plain=true/\aG w F s aC p.a v (λ_=>False)/\(p.g=true->p.ok s))->h2 ps=true->
  ∃(Sn bM:Nat->Nat->Prop),bs w0 F0 X F bM (eT s ps) aC w/\(∀u b,bM u b->S u b)/\
   (∀(i:Nat) (p:cf) (v:Value),ps[i]? =some p->vs[i]? =some v->p.g=true->Rf w F (eT s ps) aC p v (Sn i))/\
   (∀i b,Sn i b->∃p,ps[i]? =some p/\p.g=true)/\
   (∀i b,Sn i b->∃u,S u b)/\(∀i u b,Sn i b->¬bM u b)/\(∀i j b,i≠j->Sn i b->¬Sn j b)/\
   (∀(a6:I) (fH:Value) (aL:Nat->Prop),(∀p∈ps,p.g=true->∀u∈p.a.U,u∉a6.U)->aG w F s aC a6 fH aL->aG w F (eT s ps) aC a6 fH aL):=by
 intro ps;induction ps with
 |nil=>
  intro vs s S h aO _ _;exact⟨λ_ _=>False,S,h,λ_ _ h=>h,λi p v au=>by simp at au,λ_ _ h=>h.elim,λ_ _ h=>h.elim,λ_ _ _ h=>h.elim,λ_ _ _ _ h=>h.elim,λ_ _ _ _ h=>h⟩
 |cons p ps ih=>
  intro vs s S h aO vV jT;cases vs with
  |nil=>simp at aO
  |cons v vs=>
   simp only[length_cons,Nat.add_right_cancel_iff]at aO;simp only[h2,Bool.and_eq_true,List.all_eq_true,Bool.or_eq_true,Bool.not_eq_true']at jT;obtain⟨nW,nk⟩:=jT;have tJ:∀cj∈ps,(p.g=true\/cj.g=true)->∀u∈p.a.U,u∉cj.a.U:=by
    intro cj el bB u hu;rcases nW cj el with e|e
    .rcases bB with bB|bB<;>simp[bB]at e
    .simpa using e u hu
   obtain⟨f1,f2,f3⟩:=vV 0 p v rfl rfl;cases bB:p.g with
   |false=>
    have fR:cf.take s p=s:=by simp[cf.take,bB]
    obtain⟨Sn,bM,g1,g2,g3,g4,g5,g6,g7,g8⟩:=ih vs s S h aO (λi cj fH au aH=>vV (i+1) cj fH (by simpa using au) (by simpa using aH)) nk;have aN:eT s (p::ps)=eT s ps:=by show eT (cf.take s p) ps=_;rw[fR]
    rw[aN];refine⟨λi=>match i with|0=>λ_=>False|i+1=>Sn i,bM,g1,g2,?_,?_,?_,?_,?_,λa6 fH aL ag=>g8 a6 fH aL λcj el=>ag cj (by simp[el])⟩
    .intro i cj fH au aH hg;cases i with
     |zero=>simp at au;subst au;rw[bB]at hg;cases hg
     |succ i=>exact g3 i cj fH (by simpa using au) (by simpa using aH) hg
    .intro i b R;cases i with
     |zero=>exact R.elim
     |succ i=>simpa using g4 i b R
    .intro i b R;cases i with
     |zero=>exact R.elim
     |succ i=>exact g5 i b R
    .intro i u b R;cases i with
     |zero=>exact R.elim
     |succ i=>exact g6 i u b R
    .intro i j b cw ak bd;cases i with
     |zero=>exact ak.elim
     |succ i=>
      cases j with
      |zero=>exact bd.elim
      |succ j=>exact g7 i j b (by omega) ak bd
   |true=>
    have e1:=f3 bB;simp only[cf.ok,bB,if_true]at e1;split at e1
    .rename_i x q bU;obtain⟨eQ,wb,rZ⟩:=e1;obtain⟨lb,jA,nX⟩:=p4 wb;have Ri:cB s p.a=some (p.d,de (hA x s) x (I.put q p.d.cN (s x))):=by
      rw[bU];simp only[cB,eQ,lb];rfl
     obtain⟨bM,t1,t2,t3,Rj,t4,t5,t6,t7,t8,t9,t10,t11⟩:=oP h f1 f2 Ri;have fR:cf.take s p=de (hA x s) x (I.put q p.d.cN (s x)):=by simp[cf.take,bB,bU]
     have kc:∀cj∈ps,x∉cj.a.U:=λcj el=>tJ cj el (.inl bB) x (by rw[bU];simp[I.U]);have DC:cf.take s p x=I.put q p.d.cN (s x):=by rw[fR,ly]
     have JM:(cf.take s p x).U=[]:=by
      rw[DC];exact tH q _ _ _ eQ (.inl lb) (λ_=>by cases ag:p.d<;>first|rfl|(rw[ag]at wb;simp[I.fS]at wb))
     obtain⟨Sn,c3,g1,g2,g3,g4,g5,g6,g7,g8⟩:=ih vs (cf.take s p) bM (by rw[fR];exact t1) aO (by
      intro i cj fH au aH;obtain⟨b1,cb,eu⟩:=vV (i+1) cj fH (by simpa using au) (by simpa using aH);have hm:cj∈ps:=mem_of_getElem? au;refine⟨b1,?_,?_⟩
      .have:=t11 _ _ _ cb;rw[bU]at this;rw[fR];simp only[I.owner,j8]at this
       rwa [v_ _ (kc cj hm)]at this
      .intro hg;have:=eu hg;simp only[cf.ok,hg,if_true]at this⊢;split at this
       .rename_i y ij sk;have cw:y≠x:=λe=>kc cj hm (by rw[sk,e];simp[I.U]);rw[fR,iZ _ _ cw];have aY:=hs this.1 (.inl (p4 this.2.1).1);simp only[hA,CJ aY];exact this
       .exact this.elim) nk
     have aN:eT s (p::ps)=eT (cf.take s p) ps:=rfl;have nm:eT (cf.take s p) ps x=I.put q p.d.cN (s x):=by
      rw[DB JM (λcj el _=>kc cj el),DC]
     rw[aN];refine⟨λi=>match i with|0=>Rj|i+1=>Sn i,c3,g1,λu b R=>t9 u b (g2 u b R),?_,?_,?_,?_,?_,?_⟩
     rotate_left 5
     .intro a6 fH aL ag hW;refine g8 a6 fH aL (λcj el=>ag cj (by simp[el])) ?_;have:=t11 _ _ _ hW;rw[bU]at this;rw[fR];simp only[I.owner,j8]at this
      rwa [v_ _ (ag p (by simp) bB x (by rw[bU];simp[I.U]))]at this
     .intro i cj fH au aH hg;cases i with
      |zero=>
       simp at au aH;subst au aH;have zB:=f2;rw[bU,aG]at zB;obtain⟨cq,a0,c1,c2,zC⟩:=zB _ eQ lb;refine⟨x,q,a0,bU,?_,?_,?_,?_,?_,t3,t4⟩
       .rw[nm];exact JL q _ _ _ eQ
       .rw[nm,c2];exact Rb w q _ _ _ _ _ _ _ eQ (I.qM _) c1
       .rw[nm,<-DC];exact JM
       .intro bX;subst bX;simp only[I.sub,Option.some.injEq]at eQ;have:=(aG.ca (by rw[eQ];exact jA)).1 (h.df x);rw[eQ]at this;exact this.1
       .intro bX;have aY:=hs eQ (.inl lb);rw[nm];cases q with
        |nil=>exact(bX rfl).elim
        |cons k q=>rcases qO k q p.d.cN (s x)with⟨ay,gs,aN,e⟩|⟨ay,gs,aN,e⟩|⟨sz,xs,ys,aN,e⟩|⟨y,z,aN,e⟩|e<;>rw[e]<;>first|rfl|exact aY
      |succ i=>exact g3 i cj fH (by simpa using au) (by simpa using aH) hg
     .intro i b R;cases i with
      |zero=>exact⟨p,rfl,bB⟩
      |succ i=>simpa using g4 i b R
     .intro i b R;cases i with
      |zero=>exact t10 b R
      |succ i=>obtain⟨u,hu⟩:=g5 i b R;exact⟨u,t9 u b hu⟩
     .intro i u b R;cases i with
      |zero=>exact λhu=>t7 u b R (g2 u b hu)
      |succ i=>exact g6 i u b R
     .intro i j b cw ak bd;cases i with
      |zero=>
       cases j with
       |zero=>exact cw rfl
       |succ j=>obtain⟨u,hu⟩:=g5 j b bd;exact t7 u b ak hu
      |succ i=>
       cases j with
       |zero=>obtain⟨u,hu⟩:=g5 i b ak;exact t7 u b bd hu
       |succ j=>exact g7 i j b (by omega) ak bd
    .exact e1.elim
end
def nn:aiF->aiF->aiF
 |d::ds,.hole::us=>(if d.plain=true then d else .hole)::nn ds us
 |_::ds,u::us=>u::nn ds us
 |_,us=>us
def zD:I->I->I
 | .fv _ ds,.fv g us=>.fv g (nn ds us)
 |_,o=>o
theorem Rk {d o:I} (h:(zD d o).tree=true):o.tree=true:=by
 cases d<;>cases o<;>first|exact h|rfl
theorem JN {d:I} (h:d.one=true):d.wd=1:=by cases d<;>first|rfl|(simp[I.one]at h)
theorem JO {w aB:World} {F lF:Nat->Prop} (bc:∀b,F b->lF b) (hw:∀b,F b->aB.heap[b]? =w.heap[b]?):∀(ds us:aiF) (cs:aiD) (S aL:Nat->Prop),(∀d∈ds,d.one=true)->(∀d∈us,d.one=true)->
  aV w F ds cs S->aV aB lF us cs aL->aV aB lF (nn ds us) cs aL/\∀d∈nn ds us,d.one=true
 |[],us,cs,S,aL,_,ab,_,aA=>by
  have e:nn [] us=us:=by cases us<;>rfl
  rw[e];exact⟨aA,ab⟩
 |d::ds,[],cs,S,aL,_,_,_,aA=>by
  have e:nn (d::ds) []=[]:=rfl;rw[e];exact⟨aA,λd h=>by cases h⟩
 |d::ds,u::us,cs,S,aL,a7,ab,ad,aA=>by
  rw[aV]at ad aA;obtain⟨c1,c2,bM,c3,aN,J,a2,a3,a4,a5⟩:=ad;obtain⟨ka,ht,JP,JQ,aR,b1,cb,eu,dp,e0⟩:=aA;have ev:=aq.length _ _ _ J;have l2:=aq.length _ _ _ b1;rw[JN (a7 d (by simp))]at ev;rw[JN (ab u (by simp))]at l2;have aS:c1=ka/\c2=ht:=append_inj (aN.symm.trans aR) (by rw[ev,l2]);obtain⟨rfl,rfl⟩:=aS;obtain⟨cY,ba⟩:=JO bc hw ds us c2 c3 JQ (λd ag=>a7 d (by simp[ag])) (λd ag=>ab d (by simp[ag])) a2 cb;have key:∀y:I,aq aB lF y c1 JP->y.one=true->aV aB lF (y::nn ds us) cs aL/\∀d∈y::nn ds us,d.one=true:=by
   intro y a8 C4;rw[aV];exact⟨⟨c1,c2,JP,JQ,aR,a8,cY,eu,dp,e0⟩,λd ag=>by
    rcases mem_cons.1 ag with rfl|ag
    .exact C4
    .exact ba d ag⟩
  by_cases hu:u= .hole
  .subst hu;simp only[nn];by_cases au:d.plain=true
   .rw[if_pos au];exact key d (aq.plain _ _ _ _ au (aq.mono bc _ _ _ _ (λ_ h=>h) (aq.frame hw _ _ (λ_=>False) (λ_ h=>h.elim) (aq.plain _ _ _ _ au J)))) (a7 d (by simp))
   .rw[if_neg au];exact key .hole b1 rfl
  .have e:nn (d::ds) (u::us)=u::nn ds us:=by cases u<;>first|rfl|exact(hu rfl).elim
   rw[e];exact key u b1 (ab u (by simp))
theorem Rl {w aB:World} {F lF:Nat->Prop} {d o:I} {cs:aiD} {S aL:Nat->Prop} (bc:∀b,F b->lF b) (hw:∀b,F b->aB.heap[b]? =w.heap[b]?) (ab:aq w F d cs S) (ad:aq aB lF o cs aL):aq aB lF (zD d o) cs aL:=by
 cases d with
 |fv f ds=>
  cases o with
  |fv g us=>
   simp only[zD];rw[aq]at ab ad⊢;obtain⟨arr,rfl,a2,a3⟩:=ab;obtain⟨agI,e,ht,kS⟩:=ad;simp only[cons.injEq,Value.func.injEq,and_true]at e;obtain⟨aN,aR,aS⟩:=e;subst aS;obtain⟨cY,ba⟩:=JO bc hw ds us _ _ _ a2 ht a3 kS;exact⟨arr,by simp_all,ba,cY⟩
  |_=>exact ad
 |_=>cases o<;>exact ad
def eA (l:aiF):ax:=λi=>l.getD i .hole
def fI (l:aiD):Nat->Value:=λi=>l.getD i undef
def mw (P:Program) (f:FuncId) (args:Array Value) (w:World) (gd:Value->World->Prop):Prop:=
 ((callFunc f args).run P w= .ok (.enter f args) w/\Calls P f args w (λe aB=>∃v,e= .returned v/\gd v aB))\/
 ∃v aB,(callFunc f args).run P w= .ok (.value v) aB/\gd v aB
theorem mw.mono {P:Program} {f:FuncId} {args:Array Value} {w:World} {gd JR:Value->World->Prop} (h:mw P f args w gd) (aK:∀v aB,gd v aB->JR v aB):mw P f args w JR:=by
 rcases h with⟨ab,ad⟩|⟨v,aB,ab,ad⟩
 .exact .inl ⟨ab,Calls.mono ad λe aB ⟨v,e,h⟩=>⟨v,e,aK v aB h⟩⟩
 .exact .inr ⟨v,aB,ab,aK v aB ad⟩
def aW (C:bY) (f:FuncId) (as:aiF) (r:I) (outs:aiF):Prop:=
 ∀(w:World) (F X:Nat->Prop) (S:Nat->Nat->Prop) (vs:aiD),vs.length=as.length->bs w F X F S (eA as) (fI vs) w->
  mw C.P f vs.toArray w λv aB=>∃bF aL,bs w F X bF aL (eA (r::outs)) (fI (v::vs)) aB
def I.res:I->Bool
 | .h _ _=>false
 | .au _ _=>false
 | .R _ _=>false
 | .fn _ _=>false
 |_=>true
theorem JS {d:I} (h:d.tree=true):d.U=[]:=by cases d<;>first|rfl|(simp[I.tree]at h)
mutual
theorem DD {s aD:ax}:∀(a:I) (d:I),(∀u∈a.U,(s u).tree=true->aD u=s u)->view s a=some d->view aD a=some d
 | .h x q,d,hu,h=>by
   have aY:(s x).tree=true:=by
    simp only[view]at h;split at h
    .rename_i e eQ;cases e<;>simp only at h<;>first
      |(cases h;done)
      |(split at h
        .cases h
        .rename_i au;exact hs eQ (.inl (by simpa using au)))
    .cases h
   simp only[view]at h⊢;rw[hu x (by simp[I.U]) aY];exact h
 | .au x q,d,hu,h=>by
   have aY:(s x).tree=true:=by
    simp only[view]at h;split at h
    .rename_i aj;split at h
     .rename_i e eQ;exact hs eQ (.inr aj)
     .cases h
    .cases h
   simp only[view]at h⊢;rw[hu x (by simp[I.U]) aY];exact h
 | .R x q,d,hu,h=>by simp[view]at h
 | .fn f cap,d,hu,h=>by
   simp only[view,Option.map_eq_some_iff]at h⊢;obtain⟨ds,ab,ad⟩:=h;exact⟨ds,JT cap ds (by simpa [I.U]using hu) ab,ad⟩
 | .hole,d,hu,h=>h
 | .bool _,d,hu,h=>h
 | .e7,d,hu,h=>h
 | .int _ _,d,hu,h=>h
 | .str _,d,hu,h=>h
 | .di,d,hu,h=>h
 | .a_,d,hu,h=>h
 | .slice _,d,hu,h=>h
 | .al _ _,d,hu,h=>h
 | .ref _,d,hu,h=>h
 | .bb _,d,hu,h=>h
 | .agg _,d,hu,h=>h
 | .tuple _,d,hu,h=>h
 | .dz _,d,hu,h=>h
 | .fv _ _,d,hu,h=>h
theorem JT {s aD:ax}:∀(as:aiF) (ds:aiF),(∀u∈I.eh as,(s u).tree=true->aD u=s u)->views s as=some ds->views aD as=some ds
 |[],ds,hu,h=>h
 |a::as,ds,hu,h=>by
  simp only[I.eh,mem_append]at hu;simp only[views]at h⊢;split at h
  .rename_i x y ab ad;rw[DD a x (λu hm=>hu u (.inl hm)) ab,JT as y (λu hm=>hu u (.inr hm)) ad];exact h
  .cases h
end
section
variable {C:bY} {w0 w aB:World} {F0 X F Fc:Nat->Prop} {S:Nat->Nat->Prop} {s aD:ax} {aC hb:Nat->Value}
def Rm (w:World) (F:Nat->Prop) (s:ax) (aC:Nat->Value) (p:cf) (v:Value) (So:Nat->Prop):Prop:=
 p.g=true->p.o= .hole\/∃x q a0 d0,p.a= .h x q/\I.sub q (s x)=some d0/\c7 w q (s x) (b9 (aC x)) none=some (d0,b9 v,a0)/\(s x).U=[]/\
  (q=[]->dd p.o (aC x))/\(q≠[]->(s x).tree=true)/\p.o.fS=true/\aq w F p.o (b9 v) So/\p.o.wd=d0.wd/\∀v,hV d0 v->hV p.o v
theorem Rn:∀(ps:List cf) (vs:aiD) (s:ax) (S So:Nat->Nat->Prop),bs w0 F0 X F S s aC w->ps.length=vs.length->
  (∀(i:Nat) (p:cf) (v:Value),ps[i]? =some p->vs[i]? =some v->Rm w F s aC p v (So i))->
  (∀i b,So i b->b<w.heap.size/\¬F b/\(X b\/w0.heap.size<=b)/\∀u,¬S u b)->(∀i j b,i≠j->So i b->¬So j b)->h2 ps=true->
  ∃c3,bs w0 F0 X F c3 (hE s ps) aC w/\∀u b,c3 u b->S u b\/∃i,So i b:=by
 intro ps;induction ps with
 |nil=>intro vs s S So h _ _ _ _ _;exact⟨S,h,λu b R=>.inl R⟩
 |cons p ps ih=>
  intro vs s S So h aO DE R ag jT;cases vs with
  |nil=>simp at aO
  |cons v vs=>
   simp only[length_cons,Nat.add_right_cancel_iff]at aO;simp only[h2,Bool.and_eq_true,List.all_eq_true,Bool.or_eq_true,Bool.not_eq_true']at jT;obtain⟨nW,nk⟩:=jT;have tJ:∀cj∈ps,(p.g=true\/cj.g=true)->∀u∈p.a.U,u∉cj.a.U:=by
    intro cj el bB u hu;rcases nW cj el with e|e
    .rcases bB with bB|bB<;>simp[bB]at e
    .simpa using e u hu
   have skip:cf.ia s p=s->∃c3,bs w0 F0 X F c3 (hE s (p::ps)) aC w/\∀u b,c3 u b->S u b\/∃i,So i b:=by
    intro fR;obtain⟨c3,g1,g2⟩:=ih vs s S (λi=>So (i+1)) h aO (λi cj fH au aH=>DE (i+1) cj fH (by simpa using au) (by simpa using aH)) (λi b h=>R (i+1) b h)
     (λi j b cw=>ag (i+1) (j+1) b (by omega)) nk
    refine⟨c3,?_,λu b hu=>(g2 u b hu).imp id λ⟨i,ak⟩=>⟨i+1,ak⟩⟩;show bs _ _ _ _ _ (hE (cf.ia s p) ps) _ _;rw[fR];exact g1
   cases bB:p.g with
   |false=>exact skip (by simp[cf.ia,bB])
   |true=>
    rcases DE 0 p v rfl rfl bB with bx|⟨x,q,a0,d0,bU,c1,c2,zC,vJ,DF,e2,DG,hh,Ro⟩
    .exact skip (by simp only[cf.ia,bB,bx,if_true])
    .obtain⟨lb,jA,q5⟩:=p4 e2;have fR:cf.ia s p=de (k5 x s) x (I.put q p.o (s x)):=by
      simp only[cf.ia,bB,if_true,bU];cases Rp:p.o<;>first|rfl|(rw[Rp]at e2;simp[I.fS]at e2)
     have step:=h.ia (x:=x) (q:=q) (a6:=p.o) c1 c2 q5 (λbX=>⟨jA,vJ bX⟩) (λk r bX=>⟨DF (by rw[bX];simp),Ro⟩) hh DG
      (λb h=>(R 0 b h).1) (λb h=>(R 0 b h).2.1) (λu b h=>(R 0 b h).2.2.2 u) (λb h=>(R 0 b h).2.2.1)
     rw[<-fR]at step;obtain⟨c3,g1,g2⟩:=ih vs (cf.ia s p) _ (λi=>So (i+1)) step aO (by
      intro i cj fH au aH hg;have hm:cj∈ps:=mem_of_getElem? au;rcases DE (i+1) cj fH (by simpa using au) (by simpa using aH) hg with bx|⟨y,ij,J,d1,b1,cb,eu,dp,e0,dv,k7,dq,lC⟩
      .exact .inl bx
      .have cw:y≠x:=λe=>tJ cj hm (.inl bB) x (by rw[bU];simp[I.U]) (by rw[b1,e];simp[I.U]);have qQ:cf.ia s p y=s y:=by
        rw[fR,iZ _ _ cw];exact Dn _ (by rw[dp];simp)
       exact .inr ⟨y,ij,J,d1,b1,by rw[qQ];exact cb,by rw[qQ];exact eu,by rw[qQ];exact dp,e0,by rw[qQ];exact dv,k7,dq,lC⟩)
      (by
       intro i b ak;obtain⟨ka,ht,kS,bR⟩:=R (i+1) b ak;refine⟨ka,ht,kS,λu hu=>?_⟩;simp only[fG]at hu;split at hu
       .rcases hu with hu|hu
        .exact bR _ hu
        .exact ag 0 (i+1) b (by omega) hu ak
       .exact bR _ hu)
      (λi j b cw=>ag (i+1) (j+1) b (by omega)) nk
     refine⟨c3,g1,λu b hu=>?_⟩;rcases g2 u b hu with hu|⟨i,ak⟩
     .simp only[fG]at hu;split at hu
      .rename_i e;subst e;exact hu.imp id λh=>⟨0,h⟩
      .exact .inl hu
     .exact .inr ⟨i+1,ak⟩
def jV (ps:List cf):Bool:=ps.any λp=> !p.g&& !p.a.U.isEmpty
theorem Rq (h:bs w0 F0 X F S s aC w) {ps:List cf} {vs JU:aiD} {os:aiF} {f:FuncId} {r:I} (aO:ps.length=vs.length) (JV:∀(i:Nat) (p:cf),ps[i]? =some p->∃o,os[i]? =some o/\(p.o=o\/p.o=zD p.d o))
  (hW:∀(i:Nat) (p:cf) (v:Value),ps[i]? =some p->vs[i]? =some v->p.a.plain=true/\aG w F s aC p.a v (λ_=>False))
  (e1:∀p∈ps,p.ok s) (jT:h2 ps=true) (bn:∀(Fc kd:Nat->Prop) (dL:Nat->Nat->Prop),(∀b,F b->Fc b)->(∀b,kd b->∃u,S u b)->bs w Fc kd Fc dL (eA (ps.map (·.d))) (fI vs) w->
   mw C.P f JU.toArray w λv aB=>∃bF aL,bs w Fc kd bF aL (eA (r::os)) (fI (v::vs)) aB) (aK:r.res=true)
  (aP:jV ps=true->r.cu=true/\∀(i:Nat) (p:cf) (o:I),ps[i]? =some p->os[i]? =some o->p.g=true->o.cu=true):
  mw C.P f JU.toArray w λv aB=>∃bF aL,bs w0 F0 X bF aL (hE (eT s ps) ps) aC aB/\kv w0 X bF aL (hE (eT s ps) ps) aC aB r v/\∀b,F b->bF b/\aB.heap[b]? =w.heap[b]? :=by
 obtain⟨Sn,bM,g1,g2,g3,g4,g5,g6,g7,g8⟩:=Rh ps vs s S h aO (λi p v au aH=>⟨(hW i p v au aH).1,(hW i p v au aH).2,λ_=>e1 p (mem_of_getElem? au)⟩) jT;have apart:∀(i j:Nat) (p cj:cf),ps[i]? =some p->ps[j]? =some cj->i≠j->(p.g=true\/cj.g=true)->∀u∈p.a.U,u∉cj.a.U:=by
  clear hW e1 bn aP g1 g3 g4 g8 aO JV;induction ps with
  |nil=>intro i j p cj au;simp at au
  |cons g_ ps ih=>
   simp only[h2,Bool.and_eq_true,List.all_eq_true,Bool.or_eq_true,Bool.not_eq_true']at jT;obtain⟨nW,nk⟩:=jT;have tJ:∀cj∈ps,(g_.g=true\/cj.g=true)->∀u∈g_.a.U,u∉cj.a.U:=by
    intro cj el bB u hu;rcases nW cj el with e|e
    .rcases bB with bB|bB<;>simp[bB]at e
    .simpa using e u hu
   intro i j p cj au el cw bB u hu;cases i with
   |zero=>
    simp at au;subst au;cases j with
    |zero=>exact(cw rfl).elim
    |succ j=>exact tJ cj (mem_of_getElem? (by simpa using el)) bB u hu
   |succ i=>
    cases j with
    |zero=>
     simp at el;subst el;exact λwc=>tJ p (mem_of_getElem? (by simpa using au)) bB.symm u wc hu
    |succ j=>exact ih nk i j p cj (by simpa using au) (by simpa using el) (by omega) bB u hu
 let Fc:Nat->Prop:=λb=>F b\/(jV ps=true/\∃u,bM u b)
 let kd:Nat->Prop:=λb=>∃i,Sn i b
 have zE:∀b,F b->¬kd b:=λb bc ⟨i,ak⟩=>by obtain⟨u,hu⟩:=g5 i b ak;exact h.e8 u b hu bc
 have we:∀u b,bM u b->¬kd b:=λu b hu ⟨i,ak⟩=>g6 i u b ak hu;have aX:∀b,kd b->(X b\/w0.heap.size<=b)/\b<w.heap.size:=λb ⟨i,ak⟩=>by obtain⟨u,hu⟩:=g5 i b ak;exact⟨h.dh u b hu,h.dW u b hu⟩
 have pre:bs w Fc kd Fc Sn (eA (ps.map (·.d))) (fI vs) w:=by
  refine⟨λ_ h=>h,λ_ h=>.inl h,?_,λi b ak=>(aX b ⟨i,ak⟩).2,?_,λi j b cw=>g7 i j b cw,λi b ak=>.inl ⟨i,ak⟩,?_,λ_ _ _=>rfl,Nat.le_refl _,rfl,rfl,Out.refl _,h.gy.next h.size h.old λb R=>(aX b R).1⟩
  .rintro b (R|⟨_,u,hu⟩)
   .exact h.eH b R
   .exact g1.dW u b hu
  .rintro i b ak (R|⟨_,u,hu⟩)
   .exact zE b R ⟨i,ak⟩
   .exact g6 i u b ak hu
  .intro t;cases au:ps[t]? with
   |none=>
    have:eA (ps.map (·.d)) t= .hole:=by simp[eA,List.getD,au]
    rw[this,aG];trivial
   |some p=>
    have c9:t<vs.length:=by rw[<-aO];exact(List.getElem?_eq_some_iff.1 au).1
    have aH:vs[t]? =some vs[t]:=getElem?_eq_getElem c9;have aN:eA (ps.map (·.d)) t=p.d:=by simp[eA,List.getD,au]
    have aR:fI vs t=vs[t]:=by simp[fI,List.getD,aH]
    rw[aN,aR];have hm:p∈ps:=mem_of_getElem? au;have aw:=e1 p hm;cases bB:p.g with
    |true=>
     obtain⟨x,q,a0,b1,cb,eu,dp,e0,dv,k7,dq⟩:=g3 t p _ au aH bB;simp only[cf.ok,bB,if_true,b1]at aw;exact(aG.ca (p4 aw.2.1).2.1).2 ⟨k7,aq.mono (λb R=>.inl R) _ _ _ _ (λ_ h=>h) dq⟩
    |false=>
     simp only[cf.ok,bB]at aw;obtain⟨f1,f2⟩:=hW t p _ au aH;have JW:∀cj∈ps,cj.g=true->∀u∈cj.a.U,u∉p.a.U:=by
      intro cj el hg u hu;obtain⟨j,bd⟩:=getElem?_of_mem el;refine apart j t cj p bd au (λe=>?_) (.inl hg) u hu;subst e;rw[au]at bd;simp only[Option.some.injEq]at bd;rw[bd,hg]at bB;cases bB
     have zB:=g8 _ _ _ JW f2;have jm:view (eT s ps) p.a=some p.d:=DD _ _ (λu hu aY=>DB (JS aY) (λcj el hg wc=>JW cj el hg u wc hu)) (by simpa using aw);refine aG.nothing (Ra f1 jm) ((Rc g1 (Fc:=Fc) (λb R=>.inl R) (SizeOf.sizeOf p.a)).1 p.a _ p.d (Nat.le_refl _) ?_ jm zB);intro u hu b R;refine .inr ⟨?_,u,R⟩;simp only[jV,List.any_eq_true];refine⟨p,hm,?_⟩;cases mR:p.a.U with
     |nil=>rw[mR]at hu;cases hu
     |cons _ _=>simp[bB]
 refine mw.mono (bn Fc kd Sn (λb R=>.inl R) (λb ⟨i,ak⟩=>g5 i b ak) pre) ?_;rintro v aB ⟨bF,aL,aj⟩;have keep:∀b,b<w.heap.size->¬kd b->aB.heap[b]? =w.heap[b]? :=aj.old;let nY:Nat->Prop:=λb=>if jV ps=true then F b else bF b
 have JX:∀b,F b->bF b:=λb R=>aj.gx b (.inl R);have sl:∀b,F b->nY b:=λb R=>by
  simp only[nY];split
  .exact R
  .exact JX b R
 have lF:∀b,nY b->bF b:=λb R=>by
  simp only[nY]at R;split at R
  .exact JX b R
  .exact R
 have JY:∀b,nY b->F b\/kd b\/w.heap.size<=b:=λb R=>by
  simp only[nY]at R;split at R
  .exact .inl R
  .rename_i q0;rcases aj.gJ b R with(R|⟨ab,_⟩)|R|R
   .exact .inl R
   .exact(q0 ab).elim
   .exact .inr (.inl R)
   .exact .inr (.inr R)
 have mid:bs w0 F0 X nY bM (eT s ps) aC aB:=by
  refine⟨λb R=>sl b (g1.gx b R),?_,λb R=>aj.eH b (lF b R),λt b R=>Nat.lt_of_lt_of_le (g1.dW t b R) aj.size,?_,g1.eZ,g1.dh,?_,?_,Nat.le_trans g1.size aj.size,aj.os.trans g1.os,aj.tape.trans g1.tape,aj.output.trans g1.output,g1.gy⟩
  .intro b R;rcases JY b R with R|R|R
   .exact g1.gJ b R
   .rcases(aX b R).1 with h|h
    .exact .inr (.inl h)
    .exact .inr (.inr h)
   .exact .inr (.inr (Nat.le_trans g1.size R))
  .intro t b aY R;rcases JY b R with R|R|R
   .exact g1.e8 t b aY R
   .exact we t b aY R
   .exact absurd (g1.dW t b aY) (by omega)
  .intro t;exact aG.frame (Sx:=bM) (λb R=>keep b (h.eH b R) (zE b R)) sl (λx b R=>keep b (g1.dW x b R) (we x b R)) g1.df _ _ _ (λb R=>keep b (g1.dW t b R) (we t b R)) (g1.df t)
  .intro b R ji;refine(keep b (Nat.lt_of_lt_of_le R g1.size) λar=>?_).trans (g1.old b R ji);rcases(aX b ar).1 with h|h
   .exact ji h
   .omega
 have JZ:∀(d:I) (cs:aiD) (dh:Nat->Prop),(jV ps=true->d.cu=true)->aq aB bF d cs dh->aq aB nY d cs dh:=by
  intro d cs dh Rr e_;by_cases hle:jV ps=true
  .exact aq.cu d cs dh (Rr hle) e_
  .exact aq.mono (λb R=>by simp only[nY];rw[if_neg hle];exact R) _ _ _ _ (λ_ h=>h) e_
 have bound:∀i b,aL i b->b<aB.heap.size/\¬nY b/\(X b\/w0.heap.size<=b)/\∀u,¬bM u b:=by
  intro i b R;refine⟨aj.dW i b R,λbc=>aj.e8 i b R (lF b bc),?_,λu hu=>?_⟩
  .rcases aj.dh i b R with ar|ar
   .exact(aX b ar).1
   .exact .inr (Nat.le_trans g1.size ar)
  .rcases aj.dh i b R with ar|ar
   .exact we u b hu ar
   .exact absurd (g1.dW u b hu) (by omega)
 obtain⟨c3,b1,cb⟩:=Rn ps vs (eT s ps) bM (λi=>aL (i+1)) mid aO (by
  intro i p fH au aH bB;have hm:p∈ps:=mem_of_getElem? au;have aw:=e1 p hm;obtain⟨x,q,a0,aN,aR,aS,b0,cd,bQ,bH,gS⟩:=g3 i p fH au aH bB;simp only[cf.ok,bB,if_true,aN]at aw;rcases aw.2.2 with bx|bx
  .exact .inl bx
  .obtain⟨ev,l2,wg⟩:=Re aw.2.1 bx.1 bx.2;refine .inr ⟨x,q,a0,p.d.cN,aN,aR,?_,b0,λbX=>l2 _ (cd bX),bQ,bx.1,?_,ev.trans (I.qM _).symm,wg⟩
   .cases q with
    |nil=>simpa only[c7]using aS
    |cons k q=>
     have aY:=bQ (by simp);rw[za (k::q) _ _ (bM x) none _ ((aG.ca aY).1 (g1.df x)).2 aR (λb R=>keep b (g1.dW x b R) (we x b R))];exact aS
   .have:=aj.df (i+1);obtain⟨o,lb,jA⟩:=JV i p au;have jx:eA (r::os) (i+1)=o:=by simp[eA,List.getD,lb]
    have kQ:fI (v::vs) (i+1)=fH:=by simp[fI,List.getD,aH]
    rw[jx,kQ]at this;have Rs:o.tree=true:=by
     rcases jA with e|e
     .rw[<-e];exact(p4 bx.1).2.1
     .exact Rk (d:=p.d) (by rw[<-e];exact(p4 bx.1).2.1)
    have ab:=JZ _ _ _ (λhle=>(aP hle).2 i p o au lb bB) ((aG.ca Rs).1 this).2;rcases jA with e|e
    .rw[e];exact ab
    .rw[e];exact Rl sl (λb R=>keep b (h.eH b R) (zE b R)) gS ab)
  (λi b R=>bound (i+1) b R) (λi j b cw=>aj.eZ (i+1) (j+1) b (by omega)) jT
 refine⟨nY,c3,b1,?_,λb R=>⟨sl b R,keep b (h.eH b R) (zE b R)⟩⟩;have a7:=aj.df 0;have jx:eA (r::os) 0=r:=rfl;have kQ:fI (v::vs) 0=v:=rfl;rw[jx,kQ]at a7;cases aY:r.tree with
 |false=>
  cases r<;>first
   |(simp[I.tree]at aY;done)
   |(simp[I.res]at aK;done)
   |exact .inl ⟨rfl,by rw[aG];trivial⟩
 |true=>
  obtain⟨s1,s2⟩:=(aG.ca aY).1 a7;have q3:=JZ _ _ _ (λhle=>(aP hle).1) s2;refine .inr ⟨aY,s1,aL 0,q3,λb R=>(bound 0 b R).1,λb R=>(bound 0 b R).2.1,λu b R hu=>?_,λb R=>(bound 0 b R).2.2.1⟩;rcases cb u b hu with hu|⟨i,ak⟩
  .exact(bound 0 b R).2.2.2 u hu
  .exact aj.eZ 0 (i+1) b (by omega) R ak
theorem J0 (h:bs w0 F0 X F S s aC w) {ps:List cf} {vs:aiD} {f:FuncId} {r:I} (aO:ps.length=vs.length)
  (hW:∀(i:Nat) (p:cf) (v:Value),ps[i]? =some p->vs[i]? =some v->p.a.plain=true/\aG w F s aC p.a v (λ_=>False))
  (e1:∀p∈ps,p.ok s) (jT:h2 ps=true) (bn:∀(Fc kd:Nat->Prop) (dL:Nat->Nat->Prop),(∀b,F b->Fc b)->(∀b,kd b->∃u,S u b)->bs w Fc kd Fc dL (eA (ps.map (·.d))) (fI vs) w->
   mw C.P f vs.toArray w λv aB=>∃bF aL,bs w Fc kd bF aL (eA (r::ps.map (·.o))) (fI (v::vs)) aB) (aK:r.res=true)
  (aP:jV ps=true->r.cu=true/\∀p∈ps,p.o.cu=true):
  mw C.P f vs.toArray w λv aB=>∃bF aL,bs w0 F0 X bF aL (hE (eT s ps) ps) aC aB/\kv w0 X bF aL (hE (eT s ps) ps) aC aB r v/\∀b,F b->bF b/\aB.heap[b]? =w.heap[b]? :=
 Rq h aO (λi p au=>⟨p.o,by simp[au],.inl rfl⟩) hW e1 jT bn aK λhle=>⟨(aP hle).1,λi p o au bx _=>by
  rw[getElem?_map,au]at bx;have:=Option.some.inj bx;subst this;exact(aP hle).2 p (mem_of_getElem? au)⟩
theorem Rt (h:bs w0 F0 X F S s aC w) {ps:List cf} {vs:aiD} {f:FuncId} {r:I} (aO:ps.length=vs.length)
  (hW:∀(i:Nat) (p:cf) (v:Value),ps[i]? =some p->vs[i]? =some v->p.a.plain=true/\aG w F s aC p.a v (λ_=>False))
  (e1:∀p∈ps,p.ok s) (jT:h2 ps=true) (bn:aW C f (ps.map (·.d)) r (ps.map (·.o))) (aK:r.res=true)
  (aP:jV ps=true->r.cu=true/\∀p∈ps,p.o.cu=true):
  mw C.P f vs.toArray w λv aB=>∃bF aL,bs w0 F0 X bF aL (hE (eT s ps) ps) aC aB/\kv w0 X bF aL (hE (eT s ps) ps) aC aB r v/\∀b,F b->bF b/\aB.heap[b]? =w.heap[b]? :=
 J0 h aO hW e1 jT (λFc kd dL _ _ au=>bn w Fc kd dL vs (by simp[aO]) au) aK aP
end
structure bZ where
 dst:Option Nat
 bC:dI
 guard:Option (Nat×Bool)
def wh (ops:Array Oper):Option (Nat×Bool)->Option (Option (Nat×Bool))
 |none=>some none
 |some (j,b)=>match(ops[j]?).bind (·.dst)with
  |some t=>some (some (t,b))
  |none=>none
structure Fr where
 n:Nat
 fx:aiA
def kU (n:Fr):Option Nat->Bool
 |none=>true
 |some t=>decide (t<n.n)&& !n.fx.contains t
def nZ (op:Op):dI:=match cM op with
 |some bC=>bC
 |none=>.bad
def o4 (n:Fr) (ops:Array Oper) (o:Oper):Option bZ:=
 if kU n o.dst=true then match wh ops o.guard with
  |some g=>some ⟨o.dst,nZ o.op,g⟩
  |none=>none
 else none
def o5 (n:Fr) (ops:Array Oper):List Oper->Option (List bZ)
 |[]=>some []
 |o::os=>match o4 n ops o,o5 n ops os with
  |some r,some rs=>some (r::rs)
  |_,_=>none
def J1 (C:bY) (s:ax) (f:bg) (args:List bg) (K:I->ax->Prop):Prop:=
 ∃(g:FuncId) (caps:aiF) (ps:List cf) (r:I),bp s f= .fn g caps/\I.fY caps=true/\ps.map (·.a)=args.map (bp s)++caps/\(∀p∈ps,p.ok s)/\h2 ps=true/\
   aW C g (ps.map (·.d)) r (ps.map (·.o))/\r.res=true/\(jV ps=true->r.cu=true/\∀p∈ps,p.o.cu=true)/\K r (hE (eT s ps) ps)
def np (C:bY) (s:ax) (bC:dI) (K:I->ax->Prop):Prop:=
 match bC with
 | .call f args=>∃(g:FuncId) (caps:aiF) (ps:List cf) (r:I),bp s f= .fn g caps/\I.fY caps=true/\ps.map (·.a)=args.map (bp s)++caps/\(∀p∈ps,p.ok s)/\h2 ps=true/\
   aW C g (ps.map (·.d)) r (ps.map (·.o))/\r.res=true/\(jV ps=true->r.cu=true/\∀p∈ps,p.o.cu=true)/\K r (hE (eT s ps) ps)
 | .shr bC=>∃av s1,bS C s bC=some (av,s1)/\av.tree=true/\(∀vs,av≠.tuple vs)/\K av.share s1
 |bC=>∃av s1,bS C s bC=some (av,s1)/\K av s1
theorem zF {C:bY} {s:ax} {bC:dI} {K c_:I->ax->Prop} (h:np C s bC K) (aw:∀av s,K av s->c_ av s):np C s bC c_:=by
 cases bC with
 |call f args=>
  obtain⟨g,caps,ps,r,ab,iq,ad,aA,aZ,bA,cH,cI,gn⟩:=h;exact⟨g,caps,ps,r,ab,iq,ad,aA,aZ,bA,cH,cI,aw _ _ gn⟩
 |shr bC=>
  obtain⟨av,s1,ab,ad,aA,aZ⟩:=h;exact⟨av,s1,ab,ad,aA,aw _ _ aZ⟩
 |_=>
  obtain⟨av,s1,ab,ad⟩:=h;exact⟨av,s1,ab,aw _ _ ad⟩
def ld (C:bY) (s:ax) (o:bZ) (K:ax->Prop):Prop:=
 match o.guard with
 |none=>np C s o.bC λav s1=>K (fin s1 o.dst av)
 |some (t,b)=>match s t with
  | .bool fk=>if fk=b then np C s o.bC (λav s1=>K (fin s1 o.dst av))else K (fin s o.dst (.tuple []))
  | .tuple []=>K (fin s o.dst (.tuple []))
  |_=>False
def kV (C:bY) (s:ax):List bZ->(ax->Prop)->Prop
 |[],K=>K s
 |o::os,K=>ld C s o λs1=>kV C s1 os K
def jB (C:bY) (ros:List bZ) (s:ax):aiA->(ax->Prop)->Prop
 |[],K=>K s
 |i::l,K=>match ros[i]? with
  |none=>jB C ros s l K
  |some o=>ld C s o λs1=>jB C ros s1 l K
theorem Ru (C:bY) (K:ax->Prop):∀(rs pre:List bZ) (s:ax),kV C s rs K->jB C (pre++rs) s ((range rs.length).map (·+pre.length)) K:=by
 intro rs;induction rs with
 |nil=>intro pre s h;exact h
 |cons r rs ih=>
  intro pre s h;rw[length_cons,range_succ_eq_map,map_cons,List.map_map];simp only[jB,Nat.zero_add];rw[getElem?_append_right (Nat.le_refl _)];simp only[Nat.sub_self,getElem?_cons_zero];have key:∀s1,kV C s1 rs K->jB C (pre++r::rs) s1 ((range rs.length).map ((λx=>x+pre.length)∘succ)) K:=by
   intro s1 ab;have:=ih (pre++[r]) s1 ab;simp only[append_assoc,singleton_append,length_append,length_singleton]at this;have e:((λx=>x+pre.length)∘succ)=λx=>x+(pre.length+1):=by funext x;simp;omega
   rw[e];exact this
  simp only[kV]at h;unfold ld at h⊢;split
  .rename_i bB;rw[bB]at h;exact zF h λav s1=>key _
  .rename_i t b bB;rw[bB]at h;simp only at h;split
   .rename_i fk U;rw[U]at h;simp only at h;split
    .rename_i R;rw[if_pos R]at h;exact zF h λav s1=>key _
    .rename_i R;rw[if_neg R]at h;exact key _ h
   .rename_i U;rw[U]at h;exact key _ h
   .rename_i ab ad;split at h
    .exact ab _ (by assumption)
    .exact ad (by assumption)
    .exact h
structure Rel (w0:World) (F0 X:Nat->Prop) (n:Fr) (ρ:Nat->Value) (s:ax) (a:Act) (w:World):Prop where
 defers:a.defers=[]
 size:a.tmps.size=n.n
 fixed:∀i∈n.fx,a.tmps.getD i undef=ρ i
 rel:∃F S,bs w0 F0 X F S s (λt=>a.tmps.getD t undef) w
section
variable {C:bY} {w0 w:World} {F0 X:Nat->Prop} {n:Fr} {ρ:Nat->Value} {s s1:ax} {a:Act} {av:I} {Q:Exit->Act->World->Prop}
theorem wi {dst:Option Nat} (v:Value) (U:a.tmps.size=n.n) (ag:kU n dst=true):
  (λt=>(a.put dst v).tmps.getD t undef)=mn (λt=>a.tmps.getD t undef) dst v/\(a.put dst v).tmps.size=n.n/\(a.put dst v).defers=a.defers:=by
 cases dst with
 |none=>exact⟨rfl,U,rfl⟩
 |some d=>
  simp only[kU,Bool.and_eq_true,decide_eq_true_eq]at ag;refine⟨?_,by simp[Act.put,U],rfl⟩;funext t;simp only[Act.put,mn,de,Array.getD_eq_getD_getElem?];by_cases h:t=d
  .subst h;rw[if_pos rfl,Array.getElem?_setIfInBounds_self_of_lt (by omega)];rfl
  .rw[if_neg h,Array.getElem?_setIfInBounds_ne (λe=>h e.symm)]
theorem Rel.put {F S} (ag:a.defers=[]) (U:a.tmps.size=n.n) (bn:∀i∈n.fx,a.tmps.getD i undef=ρ i) {aB:World} (aK:bs w0 F0 X F S s (λt=>a.tmps.getD t undef) aB) {v:Value} (aH:kv w0 X F S s (λt=>a.tmps.getD t undef) aB av v)
  {dst:Option Nat} (e1:kU n dst=true):Rel w0 F0 X n ρ (fin s dst av) (a.put dst v) aB:=by
 obtain⟨aN,aR,aS⟩:=wi (n:=n) (dst:=dst) v U e1;obtain⟨aL,bq⟩:=aK.fin aH dst;refine⟨aS.trans ag,aR,λi ak=>?_,F,aL,by rw[aN];exact bq⟩;rw[congrFun aN i];cases dst with
 |none=>exact bn i ak
 |some d=>
  simp only[kU,Bool.and_eq_true,Bool.not_eq_true',contains_eq_mem,decide_eq_false_iff_not]at e1;have cw:i≠d:=λe=>e1.2 (by rw[<-e];exact ak);simp only[mn];rw[iZ _ _ cw];exact bn i ak
theorem Rel.skip (h:Rel w0 F0 X n ρ s a w) {dst:Option Nat} (e1:kU n dst=true):Rel w0 F0 X n ρ (fin s dst (.tuple [])) (a.put dst undef) w:=by
 obtain⟨ag,U,bn,F,S,aK⟩:=h;refine Rel.put (av:=.tuple []) ag U bn aK (.inl ⟨rfl,(aG.ca (d:=.tuple []) rfl).2 ⟨?_,?_⟩⟩) e1
 .exact⟨#[],rfl,rfl,λk d x aw=>by simp at aw⟩
 .rw[aq,aV];rfl
theorem J2 {F:Nat->Prop} {aC:Nat->Value} {w:World}:∀{ds es:aiF} {vs us:aiD},ee w F s aC ds vs->ee w F s aC es us->ee w F s aC (ds++es) (vs++us):=by
 intro ds;induction ds with
 |nil=>intro es vs us ab ad;rw[ee]at ab;subst ab;exact ad
 |cons d ds ih=>
  intro es vs us ab ad;rw[ee]at ab;obtain⟨v,kM,rfl,g1,g2⟩:=ab;rw[cons_append,cons_append,ee];exact⟨v,_,rfl,g1,ih g2 ad⟩
theorem J3 {F:Nat->Prop} {aC:Nat->Value} {w:World}:∀{ds:aiF} {vs:aiD},ee w F s aC ds vs->ds.length=vs.length/\∀(i:Nat) (d:I) (v:Value),ds[i]? =some d->vs[i]? =some v->aG w F s aC d v (λ_=>False):=by
 intro ds;induction ds with
 |nil=>intro vs h;rw[ee]at h;subst h;exact⟨rfl,λi d v h=>by simp at h⟩
 |cons d ds ih=>
  intro vs h;rw[ee]at h;obtain⟨v,kM,rfl,g1,g2⟩:=h;obtain⟨b1,cb⟩:=ih g2;refine⟨by simp[b1],λi a6 fH ag aH=>?_⟩;cases i with
  |zero=>simp at ag aH;subst ag aH;exact g1
  |succ i=>exact cb i a6 fH (by simpa using ag) (by simpa using aH)
theorem q6 {op:Op} {bC:dI} (h:nZ op=bC):bC= .bad\/cM op=some bC:=by
 unfold nZ at h;split at h
 .subst h;right;assumption
 .exact .inl h.symm
theorem Rv {op:Op} {bC:dI}:cM op≠some (.shr bC):=by
 intro h;unfold cM at h;split at h<;>(try split at h)<;>(try split at h)<;>(try split at h)<;>(try simp[Option.map_eq_some_iff]at h)
theorem Rw {op:Op} {x:bg}:cM op≠some (.mu x):=by
 intro h;unfold cM at h;split at h<;>(try split at h)<;>(try split at h)<;>(try split at h)<;>(try simp[Option.map_eq_some_iff]at h)
theorem Rx {op:Op} {x:bg} (h:cM op=some (.l4 x)):∃eg,op= .assign eg/\dj eg=some x:=by
 unfold cM at h;split at h<;>(try split at h)<;>(try split at h)<;>(try split at h)<;>(try simp[Option.map_eq_some_iff]at h)
 exact⟨_,rfl,h⟩
theorem bs.alias {F:Nat->Prop} {S:Nat->Nat->Prop} {aC:Nat->Value} {u x:Nat} (h:bs w0 F0 X F S s aC w) (hu:s u= .hole) (ar:(s x).own=true) (aH:b9 (aC u)=b9 (aC x)) (ab:Value.fw (aC u)=true):
  bs w0 F0 X F (fG S u (λ_=>False)) (de s u (.h x [])) aC w:=by
 have dX:de aC u (aC u)=aC:=by funext y;simp only[de];split<;>simp_all
 have:=h.vz (t:=u) (d:=.h x []) (v:=aC u) rfl (by
  rw[aG];intro d ag au;simp only[I.sub,Option.some.injEq]at ag;subst ag;exact⟨b9 (aC x),none,rfl,aH,((zA ar).2.2.2.2.2 _).2 ab⟩)
 rwa [dX]at this
theorem kv.less {F:Nat->Prop} {S aL:Nat->Nat->Prop} {aC:Nat->Value} {s1:ax} {v:Value} (br:∀u b,aL u b->S u b) (aK:av.res=true) (h:kv w0 X F S s aC w av v):kv w0 X F aL s1 aC w av v:=by
 rcases h with⟨ab,ad⟩|⟨ab,ad,Sn,aA,aZ,bA,cH,cI⟩
 .refine .inl ⟨ab,?_⟩;cases av<;>first
   |(simp[I.res]at aK;done)
   |(rw[aG];trivial)
   |(rw[aG]at ad⊢;exact ad)
 .exact .inr ⟨ab,ad,Sn,aA,aZ,bA,λu b R hu=>cH u b R (br u b hu),cI⟩
theorem Ry (bh:C.Ok) (h:Rel w0 F0 X n ρ s a w) {o:Oper} {f:bg} {args:List bg} (cg:cM o.op=some (.call f args)) (ag:kU n o.dst=true) {K:I->ax->Prop} {L:ax->Prop} {next:Act->World->Prop}
  (hw:J1 C s f args K) (DH:∀F S bF aL w aB av s1 v,bs w0 F0 X F S s (λt=>a.tmps.getD t undef) w->K av s1->av.res=true->bs w0 F0 X bF aL s1 (λt=>a.tmps.getD t undef) aB->kv w0 X bF aL s1 (λt=>a.tmps.getD t undef) aB av v->(∀b,F b->bF b/\aB.heap[b]? =w.heap[b]?)->
   ∃s2 c3,L (fin s2 o.dst av)/\bs w0 F0 X bF c3 s2 (λt=>a.tmps.getD t undef) aB/\kv w0 X bF c3 s2 (λt=>a.tmps.getD t undef) aB av v)
  (aP:∀aD cA aB,L aD->Rel w0 F0 X n ρ aD cA aB->next cA aB):o.wp C.P a w next Q:=by
 have hrel:=h;obtain⟨ke,dP,ir,F,S,aK⟩:=h;obtain⟨g,caps,ps,r,ab,iq,ad,aA,aZ,bA,cH,cI,gn⟩:=hw;obtain⟨dst,op,ty,pos,after,guard⟩:=o;simp only at cg ag DH;cases op with
 |call c=>
  obtain⟨callee,l6,argTypes⟩:=c;simp only[cM]at cg;split at cg
  .split at cg
   .rename_i wj _ _ Rz xs bn kc;simp only[Option.some.injEq,dI.call.injEq]at cg;obtain⟨rfl,rfl⟩:=cg;obtain⟨f1,f2⟩:=fm aK (λ_=>rfl) bn;rw[ab,aG]at f2;obtain⟨arr,f3,f4⟩:=f2;have wk:execOp a.eval {dst,op:=.call {callee:=.value wj,args:=l6,argTypes},type:=ty,pos,after,guard}=callFunc g ((l6.toList.map a.eval++arr.toList).toArray):=by
     have:a.eval wj= .func (.func g) #[] arr:=f3;simp only[execOp,resolve,this,Deferred.ofValue,pure_bind,invoke];congr 1;apply Array.ext';simp
    unfold Oper.wp;rw[wk];have wm:ee w F s (λt=>a.tmps.getD t undef) (xs.map (bp s)++caps) (l6.toList.map a.eval++arr.toList):=J2 (zw aK (λ_=>rfl) _ _ (sg kc)) f4;rw[<-ad]at wm;obtain⟨ev,l2⟩:=J3 wm;have fl:∀d∈xs.map (bp s)++caps,d.plain=true:=by
     intro d ag;rcases mem_append.1 ag with ag|ag
     .obtain⟨x,ar,rfl⟩:=mem_map.1 ag;exact Iw s x λav e=>by
       subst e;have hm:=sg kc;have:some (bg.c av)∈xs.map some:=mem_map.2 ⟨_,ar,rfl⟩;rw[<-hm]at this;obtain⟨o,_,bx⟩:=mem_map.1 this;cases o with
       |const v=>simp only[dj,Option.map_eq_some_iff]at bx;obtain⟨c,aj,e⟩:=bx;cases e;exact CP aj
       |tmp n=>simp[dj]at bx
       |func g=>simp[dj]at bx
       |global g=>simp[dj]at bx
     .obtain⟨k,aw⟩:=getElem?_of_mem ag;exact y_ iq aw
    have tK:=Rt (C:=C) aK (ps:=ps) (vs:=l6.toList.map a.eval++arr.toList) (f:=g) (r:=r) (by simpa using ev)
     (λi p v au aH=>⟨fl p.a (by rw[<-ad];exact mem_map.2 ⟨p,mem_of_getElem? au,rfl⟩),l2 i p.a v (by simp[au]) aH⟩) aA aZ bA cH cI
    rcases tK with⟨cY,ba⟩|⟨v,aB,cY,bF,aL,ba,cG,bV⟩
    .rw[cY,Oper.upon_enter];refine Calls.mono ba ?_;rintro e aB ⟨v,rfl,bF,aL,b1,cb,eu⟩;obtain⟨s2,c3,m1,m2,m3⟩:=DH _ _ _ _ _ _ _ _ _ aK gn cH b1 cb eu;exact aP _ _ _ m1 (Rel.put ke dP ir m2 m3 ag)
    .rw[cY,Oper.upon_value];obtain⟨s2,c3,m1,m2,m3⟩:=DH _ _ _ _ _ _ _ _ _ aK gn cH ba cG bV;exact aP _ _ _ m1 (Rel.put ke dP ir m2 m3 ag)
   .cases cg
  .split at cg
   .simp only[Option.map_eq_some_iff]at cg;obtain⟨_,_,cg⟩:=cg;cases cg
   .cases cg
  .split at cg
   .simp only[Option.map_eq_some_iff]at cg;obtain⟨_,_,cg⟩:=cg;cases cg
   .cases cg
  iterate 3
   .split at cg
    .split at cg<;>cases cg
    .cases cg
  .cases cg
 |makeFunc fn first cs=>
  cases fn<;>simp only[cM]at cg<;>first|(cases cg;done)|(split at cg<;>simp at cg)
 |slice T x eS ak gF=>
  cases gF<;>simp only[cM]at cg<;>first|(cases cg;done)|(split at cg<;>simp at cg)
 |makeMap T r=>cases r<;>simp only[cM]at cg<;>simp at cg
 |lookup T x i c=>cases c<;>simp only[cM]at cg<;>first|(cases cg;done)|(split at cg<;>simp at cg)
 |_=>simp only[cM]at cg<;>first|(cases cg;done)|(simp at cg;done)|(split at cg<;>simp at cg)
theorem RA (bh:C.Ok) (h:Rel w0 F0 X n ρ s a w) {o:Oper} {bC:dI} (cg:cM o.op=some bC) (ag:kU n o.dst=true) {K:ax->Prop} {next:Act->World->Prop}
  (hw:np C s bC λav s1=>K (fin s1 o.dst av)) (aP:∀aD cA aB,K aD->Rel w0 F0 X n ρ aD cA aB->next cA aB):o.wp C.P a w next Q:=by
 have hrel:=h;obtain⟨ke,dP,ir,F,S,aK⟩:=h;have plain:∀av s1,bS C s bC=some (av,s1)->K (fin s1 o.dst av)->o.wp C.P a w next Q:=by
  intro av s1 he aw;obtain⟨r,aB,v,bF,aL,ab,ad,aA,aZ⟩:=Js (a:=a) bh aK (λ_=>rfl) cg he;unfold Oper.wp;rw[ab];rcases ad with rfl|⟨rfl,rfl⟩
  .exact aP _ _ _ aw (Rel.put ke dP ir aA aZ ag)
  .exact aP _ _ _ aw (Rel.put ke dP ir aA aZ ag)
 cases bC with
 |shr bC=>exact(Rv cg).elim
 |call f args=>exact Ry bh ⟨ke,dP,ir,F,S,aK⟩ cg ag (K:=λav s1=>K (fin s1 o.dst av)) hw (λ_ _ _ aL _ _ _ s1 _ _ ad _ aA aZ _=>⟨s1,aL,ad,aA,aZ⟩) aP
 |mu x=>exact(Rw cg).elim
 |_=>
  obtain⟨av,s1,he,aw⟩:=hw;exact plain av s1 he aw
theorem kv.share {F:Nat->Prop} {S:Nat->Nat->Prop} {aC:Nat->Value} {v:Value} (h:bs w0 F0 X F S s aC w) (aH:kv w0 X F S s aC w av v) (aY:av.tree=true) (aP:∀vs,av≠.tuple vs):
  ∃bF,bs w0 F0 X bF S s aC w/\kv w0 X bF S s aC w av.share v:=by
 obtain⟨Sn,hd,gz,il,im,qU,DI⟩:∃Sn:Nat->Prop,dd av v/\aq w F av (b9 v) Sn/\(∀b,Sn b->b<w.heap.size)/\(∀b,Sn b->¬F b)/\(∀u b,Sn b->¬S u b)/\(∀b,Sn b->X b\/w0.heap.size<=b):=by
  rcases aH with⟨ab,ad⟩|⟨_,ad,Sn,aA,aZ,bA,cH,cI⟩
  .rw[aG.ca aY]at ad;exact⟨λ_=>False,ad.1,ad.2,λ_ h=>h.elim,λ_ h=>h.elim,λ_ _ h=>h.elim,λ_ h=>h.elim⟩
  .exact⟨Sn,ad,aA,aZ,bA,cH,cI⟩
 refine⟨λb=>F b\/Sn b,?_,.inl ⟨Dx av,?_⟩⟩
 .exact {
   gx:=λb R=>.inl (h.gx b R)
   gJ:=λb R=>by
    rcases R with R|R
    .exact h.gJ b R
    .exact .inr (DI b R)
   eH:=λb R=>R.elim (h.eH b) (il b)
   dW:=h.dW
   e8:=λt b R bn=>bn.elim (h.e8 t b R) (λU=>qU t b U R)
   eZ:=h.eZ
   dh:=h.dh
   df:=λt=>aG.frame (λ_ _=>rfl) (λb R=>.inl R) (λ_ _ _=>rfl) h.df _ _ _ (λ_ _=>rfl) (h.df t)
   old:=h.old
   size:=h.size
   os:=h.os
   tape:=h.tape
   output:=h.output
   gy:=h.gy}
 .by_cases bx:∃o,av= .dz o
  .obtain⟨o,rfl⟩:=bx;rw[I.share,aG];trivial
  by_cases sm:∃f c,av= .fv f c
  .obtain⟨f,c,rfl⟩:=sm;rw[I.share,aG];trivial
  have RB:av.share.tree=true:=by cases av<;>first|exact aY|rfl|exact(bx ⟨_,rfl⟩).elim|exact(sm ⟨_,_,rfl⟩).elim
  rw[aG.ca RB];exact⟨Dz aP hd,aq.shared (λb R=>.inl R) av _ Sn (λb R=>.inr R) gz⟩
theorem RC (bh:C.Ok) (h:Rel w0 F0 X n ρ s a w) {o:Oper} {bC:dI} (cg:nZ o.op=bC.base) (ag:kU n o.dst=true) {K:ax->Prop} {next:Act->World->Prop}
  (hw:np C s bC λav s1=>K (fin s1 o.dst av)) (aP:∀aD cA aB,K aD->Rel w0 F0 X n ρ aD cA aB->next cA aB):o.wp C.P a w next Q:=by
 cases bC with
 |shr bC=>
  obtain⟨av,s1,he,aY,l5,aw⟩:=hw;rcases q6 cg with cg|cg
  .change bC= .bad at cg;subst cg;cases he
  obtain⟨ke,dP,ir,F,S,aK⟩:=h;obtain⟨r,aB,v,bF,aL,ab,ad,aA,aZ⟩:=Js (a:=a) bh aK (λ_=>rfl) cg he;obtain⟨lF,g3,g4⟩:=kv.share aA aZ aY l5;unfold Oper.wp;rw[ab];rcases ad with rfl|⟨rfl,rfl⟩
  .exact aP _ _ _ aw (Rel.put ke dP ir g3 g4 ag)
  .exact aP _ _ _ aw (Rel.put ke dP ir g3 g4 ag)
 |bad=>obtain⟨av,s1,he,_⟩:=hw;cases he
 |mu x=>
  obtain⟨av,s1,he,aw⟩:=hw;rcases q6 cg with R|R
  .cases R
  .obtain⟨eg,J4,ar⟩:=Rx R;obtain⟨ke,dP,ir,F,S,aK⟩:=h;obtain⟨dst,op,ty,pos,after,guard⟩:=o;simp only at J4 ag aw;subst J4;simp only[bS,Option.some.injEq,Prod.mk.injEq]at he;obtain⟨rfl,rfl⟩:=he;obtain⟨g1,g2⟩:=fm aK (λ_=>rfl) ar;obtain⟨r,aB,v,bF,aL,ab,ad,aA,aZ⟩:Next C w0 F0 X (λt=>a.tmps.getD t undef) w (execOp a.eval ⟨dst,.assign eg,ty,pos,after,guard⟩) (bp s x) s:=⟨_,w,_,F,S,rfl,.inl rfl,aK,.inl ⟨g1,g2⟩⟩
   unfold Oper.wp;rw[ab];rcases ad with rfl|⟨rfl,rfl⟩
   .exact aP _ _ _ aw (Rel.put ke dP ir aA aZ ag)
   .exact aP _ _ _ aw (Rel.put ke dP ir aA aZ ag)
 |_=>
  rcases q6 cg with R|R
  .cases R
  .exact RA bh h R ag hw aP
end
end Go.cU
