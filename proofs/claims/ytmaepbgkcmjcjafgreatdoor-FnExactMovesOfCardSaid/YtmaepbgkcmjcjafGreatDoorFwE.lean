/- Part of a proof that a law returns true for every input. No condition. -/
import Derived.Test.YtmaepbgkcmjcjafGreatDoorFwD
import Derived.Laws.Tables
namespace Go.eg
open List Go.IntKind Nat
section
variable {C:cm} {w0 w:World} {F0 X F:Nat->Prop} {S:Nat->Nat->Prop} {s s1:ak} {aI:Nat->Value} {av:I}
theorem MC (z:ayi):∀n,(range (n*z.length)).map (λi=>z[i%z.length]!)=(replicate n z).flatten
 |0=>by simp
 |n+1=>by
  rw[Nat.add_mul,Nat.one_mul,range_add,map_append,MC z n,replicate_succ',flatten_append];congr 1;simp only[List.map_map,flatten_cons,flatten_nil,append_nil];apply ext_getElem
  .simp
  .intro i ad af;have aj:i<z.length:=af;simp[mod_eq_of_lt aj,aj]
theorem bt.replicate {d:I} {cs:ayi} (h:∀a7,aB w F d cs a7):∀n a7,bt w F (replicate n d) (replicate n cs).flatten a7
 |0,a7=>by simp only[replicate_zero,flatten_nil];rw[bt]
 |n+1,a7=>by
  rw[replicate_succ,replicate_succ,flatten_cons,bt];exact⟨cs,_,λ_=>False,λ_=>False,rfl,h _,bt.replicate h n _,λ_ h=>h.elim,λ_ h=>h.elim,λ_ h=>h.elim⟩
def fF (C:cm) (T:TypeId) (l c:I):Option I:=
 match(C.T T).k,l,c with
 | .slice e,.int .i64 n,.int .i64 m=>if n=m/\0<=n/\(C.T e).ok=true/\(C.T e).zero.wd=(C.T e).sz/\(flat (C.T e).zero).isSome=true/\(C.T e).sz≠0/\(C.T e).bytes*n<=140737488355328/\n<=9223372036854775807 then
   some (.ag (C.T e).sz (replicate n.toNat (C.T e).zero))else none
 |_,_,_=>none
theorem ady (bP:C.fH) (h:cb w0 F0 X F S s aI w) {T:TypeId} {l c:I} {Ul Um:Value} (hl:aO w F s aI l Ul (λ_=>False)) (ar:aO w F s aI c Um (λ_=>False)) (he:fF C T l c=some av):
  Good C w0 F0 X aI w (Instr.makeSlice T Ul Um) av s:=by
 unfold fF at he;split at he
 .rename_i e n m au;have:=qf hl;subst this;have:=qf ar;subst this;obtain⟨Ua,d,Ub,aP,aY,aU,b4,cM,cl,b9⟩:=bP.info (hz au (by simp));rw[au]at b9;have:=oD b9;subst this;split at he
  .rename_i D2;obtain⟨rfl,aV,vh,yK,yL,fj,awj,yN⟩:=D2;simp only[Option.some.injEq]at he;subst he;obtain⟨i,Uc,z,f1,f2,f3,f4,f5,f6,f7⟩:=bP.info vh;obtain⟨h7,qh⟩:=Option.isSome_iff_exists.1 yL;have yM:=f5 h7 qh;have h6:∀a7,aB w F (C.T e).zero h7 a7:=λa7=>(aB.flat _).1 _ h7 a7 (Nat.le_refl _) qh;have w8:h7.length=(C.T e).sz:=by rw[aB.length _ _ _ (h6 (λ_=>False)),yK]
   obtain⟨n,rfl⟩:=Int.eq_ofNat_of_zero_le aV;simp only[Int.toNat_natCast];have Un:i64.wrap (n:Int)=n:=by
    rw[wrap_i64];omega
   have H8:∀k (w:World),(askRoom k).run C.P w= .ok () w:=by
    intro k w;unfold askRoom;split<;>rfl
   have sc:((Array.range (n*(C.T e).sz)).map (h7.toArray[·%h7.toArray.size]!)).toList=(replicate n h7).flatten:=by
    have:=MC h7 n;rw[w8]at this;simpa [w8]using this
   have eI:¬(281474976710656<(i.bytes:Int)*n):=by
    rw[f3];omega
   have Uo:¬((n:Int)<0):=by omega
   have run:(Instr.makeSlice T (.int .i64 n) (.int .i64 n)).run C.P w= .ok (.slice (some ⟨w.heap.size,0,none⟩) n n)
     (w.alloc (.cells (if n*(C.T e).sz=0 then(Array.range (n*(C.T e).sz)).map (λ_=>default)else(Array.range (n*(C.T e).sz)).map (h7.toArray[·%h7.toArray.size]!)) e)):=by
    by_cases a_:n*(C.T e).sz=0
    .simp[Instr.makeSlice,run_underlying cl,asInt,asIntOf,DY f1,Un,eI,Uo,H8,nh f1,f2,a_,newRow]
    .simp only[a_,if_false];simp[Instr.makeSlice,run_underlying cl,asInt,asIntOf,DY f1,Un,eI,Uo,H8,nh f1,f2,a_,newRow,yA f1 f4,yM]
   have pH:(if n*(C.T e).sz=0 then(Array.range (n*(C.T e).sz)).map (λ_=>(default:Value))else(Array.range (n*(C.T e).sz)).map (h7.toArray[·%h7.toArray.size]!)).toList=(replicate n h7).flatten:=by
    split
    .rename_i a_;have:n=0:=by
      rcases mul_eq_zero.1 a_ with h|h
      .exact h
      .exact(fj h).elim
     subst this;simp
    .exact sc
   generalize Ec:(if n*(C.T e).sz=0 then(Array.range (n*(C.T e).sz)).map (λ_=>(default:Value))else(Array.range (n*(C.T e).sz)).map (h7.toArray[·%h7.toArray.size]!))=cur at run pH;have kl:(replicate n h7).flatten.length=n*(C.T e).sz:=by simp[w8]
   have iC:cur.size=n*(C.T e).sz:=by
    have:cur.size=cur.toList.length:=by simp
    rw[this,pH,kl]
   have oF:=h.H4 (aN:=w.alloc (.cells cur e)) (sz:=(C.T e).sz) (cap:=n) (xs:=replicate n (C.T e).zero) (cur:=cur) (e:=e) (fr:=(0,0)) (Sn:=λ_=>False) rfl rfl rfl ⟨rfl,λ_=>Nat.le_refl _⟩
    (λo _ ⟨_,af⟩=>absurd af (not_lt_zero _)) (by simp) (by unfold maxLen;omega) iC (by intro d an;rw[eq_of_mem_replicate an];exact yK)
    (by rw[pH,length_replicate,take_of_length_le (by rw[kl];exact Nat.le_refl _)];exact bt.replicate h6 n _) (λ_ h=>h.elim) (λ_ h=>h.elim) (λ_ _ h=>h.elim) (λ_ h=>h.elim)
   rw[length_replicate]at oF;exact⟨_,_,F,S,run,oF.1,oF.2⟩
  .cases he
 .cases he
def pJ (s:ak) (f:FuncId) (cs:List bz):Option I:=some (.fn f (cs.map (bu s)))
theorem Ie {a:Act} (h:cb w0 F0 X F S s aI w) (fc:∀t,aI t=a.tmps.getD t undef):∀(os:List Operand) (xs:List bz),os.map eJ=xs.map some->e_ w F s aI (xs.map (bu s)) (os.map a.eval)
 |[],[],_=>by simp only[map_nil];rw[e_]
 |[],x::xs,h=>by simp at h
 |o::os,[],h=>by simp at h
 |o::os,x::xs,bC=>by
  simp only[map_cons,cons.injEq]at bC⊢;rw[e_];exact⟨_,_,rfl,(gA h fc bC.1).2,Ie h fc os xs bC.2⟩
theorem Up:∀(vs:ayi) (k off:Nat) (A:Array Value) (l m r:ayi),A.toList=l++(m++r)->l.length=off+k->m.length=vs.length->
  ((vs.zipIdx k).foldl (λcs (x:Value×Nat)=>cs.setIfInBounds (off+x.2) x.1) A).toList=l++(vs++r)
 |[],k,off,A,l,m,r,ja,hl,hm=>by
  have:m=[]:=by simpa using hm
  subst this;simpa using ja
 |v::vs,k,off,A,l,m,r,ja,hl,hm=>by
  obtain⟨x,m,rfl⟩:∃x jG,m=x::jG:=by
   cases m with
   |nil=>simp at hm
   |cons x m=>exact⟨x,m,rfl⟩
  rw[zipIdx_cons,foldl_cons];have:=Up vs (k+1) off (A.setIfInBounds (off+k) v) (l++[v]) m r (by
   rw[Array.toList_setIfInBounds,ja,<-hl,set_append_right _ _ (Nat.le_refl _)];simp) (by simp;omega) (by simpa using hm)
  simpa using this
def nE (os:List (Option Nat)) (a:I):I:=os.foldl (λa o=>ng o a) a
def eM (place:Nat->Option (Nat×Nat)):ak->ayk->List (Option Nat)->ayj->Option (ayk×ak)
 |s,fs,_,[]=>some (fs,s)
 |s,fs,os,(k,a)::r=>match dG s (nE os a),place k,fs[k]? with
  |some (d,s1),some (off,n),some z=>match d with
   | .tuple _=>none
   |d=>if d.wd=n/\z.wd=n/\I.e9 (fs.take k)=off then eM place s1 (fs.set k d) (os++[(nE os a).owner]) r else none
  |_,_,_=>none
def q4 (w:World) (F:Nat->Prop) (s:ak) (aI:Nat->Value):ayj->List (Nat×Value)->Prop
 |[],[]=>True
 |(k,a)::r,(di,v)::hN=>k=di/\a.plain=true/\aO w F s aI a v (λ_=>False)/\q4 w F s aI r hN
 |_,_=>False
theorem adz (x:Nat):∀d:I,d.plain=true->(cJ x d).plain=true
 | .h y q,_=>by simp only[cJ];split<;>(try split)<;>rfl
 | .ax y q,_=>by simp only[cJ];split<;>rfl
 | .aa y q,_=>rfl
 | .fn f c,_=>by simp only[cJ];rfl
 | .hole,h=>h
 | .bool _,h=>h
 | .gn,h=>h
 | .int _ _,h=>h
 | .str _,h=>h
 | .er,h=>h
 | .bg,h=>h
 | .slice _,h=>h
 | .ag _ _,h=>h
 | .ref _,h=>h
 | .aS _,h=>h
 | .agg _,h=>h
 | .tuple _,h=>h
theorem adA (o:Option Nat) (d:I) (h:d.plain=true):(ng o d).plain=true:=by
 cases o with
 |none=>exact h
 |some x=>exact adz x d h
theorem q4.cJ {w:World} {F:Nat->Prop} {s s1:ak} {aI:Nat->Value} {o:Option Nat} (ax:∀(bJ:I) (hq:Value) (a7:Nat->Prop),aO w F s aI bJ hq a7->aO w F s1 aI (ng o bJ) hq a7):
  ∀(r:ayj) (hN:List (Nat×Value)),q4 w F s aI r hN->q4 w F s1 aI (r.map λp=>(p.1,ng o p.2)) hN
 |[],[],_=>trivial
 |(k,a)::r,(di,v)::hN,h=>by
  obtain⟨ad,af,aG,bf⟩:=h;exact⟨ad,adA _ _ af,ax _ _ _ aG,q4.cJ ax r hN bf⟩
 |[],_::_,h=>h.elim
 |_::_,[],h=>h.elim
theorem MD {place:Nat->Option (Nat×Nat)}:∀(ps:ayj) (vs:List (Nat×Value)) (os:List (Option Nat)) (s:ak) (S:Nat->Nat->Prop) (fs:ayk) (A:Array Value) (ji:Nat->Prop),
  cb w0 F0 X F S s aI w->q4 w F s aI (ps.map λp=>(p.1,nE os p.2)) vs->bt w F fs A.toList ji->(∀b,ji b->b<w.heap.size)->(∀b,ji b->¬F b)->(∀u b,ji b->¬S u b)->(∀b,ji b->X b\/w0.heap.size<=b)->
  ∀ds s1,eM place s fs os ps=some (ds,s1)->∃pd cI h2,Instr.fill place A vs=some pd/\cb w0 F0 X F cI s1 aI w/\bt w F ds pd.toList h2/\(∀b,h2 b->b<w.heap.size)/\(∀b,h2 b->¬F b)/\(∀u b,h2 b->¬cI u b)/\
   (∀b,h2 b->X b\/w0.heap.size<=b)/\ds.length=fs.length/\I.e9 ds=I.e9 fs/\(∀n,(∀d∈fs,d.wd=n)->∀d∈ds,d.wd=n)
 |[],[],os,s,S,fs,A,ji,h,_,ad,af,aG,bf,bU,ds,s1,he=>by
  simp only[eM,Option.some.injEq,Prod.mk.injEq]at he;obtain⟨rfl,rfl⟩:=he;exact⟨A,S,ji,rfl,h,ad,af,aG,bf,bU,rfl,rfl,λ_ h=>h⟩
 |(k,a)::ps,(di,v)::vs,os,s,S,fs,A,ji,h,ax,ad,af,aG,bf,bU,ds,s1,he=>by
  obtain⟨rfl,nF,r9,Ed⟩:=ax;simp only[eM]at he;split at he
  .rename_i d AY off n z ba fI b8;have key:∀d:I,(∀aF,d≠.tuple aF)->dG s (nE os a)=some (d,AY)->(if d.wd=n/\z.wd=n/\I.e9 (fs.take k)=off then eM place AY (fs.set k d) (os++[(nE os a).owner]) ps else none)=some (ds,s1)->
     ∃pd cI h2,Instr.fill place A ((k,v)::vs)=some pd/\cb w0 F0 X F cI s1 aI w/\bt w F ds pd.toList h2/\(∀b,h2 b->b<w.heap.size)/\(∀b,h2 b->¬F b)/\(∀u b,h2 b->¬cI u b)/\
     (∀b,h2 b->X b\/w0.heap.size<=b)/\ds.length=fs.length/\I.e9 ds=I.e9 fs/\(∀n,(∀d∈fs,d.wd=n)->∀d∈ds,d.wd=n):=by
    intro d vd ba he;split at he
    .rename_i ar;obtain⟨nj,lf,Uq⟩:=ar;obtain⟨cI,g0,g1,g2,Sn,g3,g4,g5,g6,g7,g8,g9,g10⟩:=r_ h nF r9 ba;obtain⟨cr,ha,c2,Sx,jw,ja,jj,gT,iO,j2,ho,o4⟩:=bt.pick fs _ _ k z ad b8;have sc:=D1 g2 vd;have si:=aB.length _ _ _ g3;have Ur:=aB.length _ _ _ ho;have w3:=o4 w d (cT v) Sn (λ_ _=>rfl) (λ_ _=>rfl) g3 (λb adB adC=>by obtain⟨u,hu⟩:=g9 b adB;exact bf u b (gT b adC) hu);have Us:=Up (cT v) 0 off A cr ha c2 ja (by rw[jj,Uq];rfl) (by rw[Ur,si,nj,lf]);generalize Ee:((cT v).zipIdx 0).foldl (λcs (x:Value×Nat)=>cs.setIfInBounds (off+x.2) x.1) A=o_ at Us;obtain⟨pd,eF,h2,m1,m2,m3,m4,m5,m6,m7,m8,m9,m10⟩:=MD (place:=place) ps vs (os++[(nE os a).owner]) AY cI (fs.set k d) o_ (λb=>Sx b\/Sn b) g0 (by have:=q4.cJ g10 _ _ Ed;simpa [nE,foldl_append,Function.comp_def]using this) (by rw[Us];exact w3)
      (by rintro b (aa|aa);exact af b (gT b aa);exact g4 b aa) (by rintro b (aa|aa);exact aG b (gT b aa);exact g5 b aa)
      (by rintro u b (aa|aa);exact λhu=>bf u b (gT b aa) (g8 u b hu);exact g6 u b aa) (by rintro b (aa|aa);exact bU b (gT b aa);exact g7 b aa) ds s1 he
     refine⟨pd,eF,h2,?_,m2,m3,m4,m5,m6,m7,by rw[m8];simp,by rw[m9];exact LV _ _ _ _ b8 (by rw[nj,lf]),?_⟩
     .have ME:off+n<=A.size:=by
       have:A.size=A.toList.length:=by simp
       rw[this,ja];simp[jj,Uq,Ur,lf]
      simp only[Instr.fill,fI,sc,List.size_toArray,si,nj];have nA:¬(n≠n\/A.size<off+n):=by omega
      have adD:(cT v).toArray.zipIdx.foldl (λcs (x:Value×Nat)=>cs.setIfInBounds (off+x.2) x.1) A=o_:=by
       rw[<-Ee,<-Array.foldl_toList];simp
      simp only[ne_eq,not_true_eq_false,decide_false,Bool.false_or,decide_eq_true_eq,gt_iff_lt];rw[if_neg (by simp;omega)];rw[show(cT v).toArray.zipIdx.foldl (λcs x=>match x with|(c,j)=>cs.setIfInBounds (off+j) c) A=o_ from adD];exact m1
     .intro MF xc;refine m10 MF (LW xc ?_);rw[nj,<-lf];exact xc z (mem_of_getElem? b8)
    .cases he
   split at he
   .cases he
   .rename_i vd;exact key _ (λaF e=>vd aF e) ba he
  .cases he
 |[],_::_,_,_,_,_,_,_,_,ax,_,_,_,_,_,_,_,_=>ax.elim
 |_::_,[],_,_,_,_,_,_,_,ax,_,_,_,_,_,_,_,_=>ax.elim
def gz (C:cm) (s:ak) (T:TypeId) (ps:ayj):Option (I×ak):=
 match(C.T T).k,(C.T T).zero with
 | .struct aF,.agg fs=>if(flat (.agg fs)).isSome=true/\(∀f∈aF,(C.T f.1).ok=true)then
   (match eM (λk=>(aF[k]?).map λf=>(f.2,(C.T f.1).sz)) s fs [] ps with
   |some (ds,s1)=>some (.agg ds,s1)
   |none=>none)else none
 |_,_=>none
def dW (C:cm) (s:ak) (T:TypeId) (n:Nat) (ps:ayj):Option (I×ak):=
 match(C.T T).k with
 | .slice e=>if(C.T e).ok=true/\(C.T e).zero.wd=(C.T e).sz/\(flat (C.T e).zero).isSome=true/\(C.T e).sz≠0/\n*(C.T e).sz<=16777216 then
   (match eM (λk=>some (k*(C.T e).sz,(C.T e).sz)) s (replicate n (C.T e).zero) [] ps with
   |some (ds,s1)=>some (.ag (C.T e).sz ds,s1)
   |none=>none)else none
 |_=>none
theorem adE (bP:C.fH):∀(gs:List Field),(∀g∈gs,(C.T g.type).ok=true)->
  gs.mapM (λf=>(C.P.info? f.type).map λi=>(f.offset,i.size))=some (gs.map λg=>(g.offset,(C.T g.type).sz)):=by
 intro gs;induction gs with
 |nil=>intro _;simp
 |cons g gs ih=>
  intro hg;obtain⟨i,d,z,f1,f2,f3,f4,f5,f6,f7⟩:=bP.info (hg g (by simp));have:=ih (λg iQ=>hg g (by simp[iQ]));simp[mapM_cons,f1,f2,this]
theorem adF (bP:C.fH) (h:cb w0 F0 X F S s aI w) {T:TypeId} {ps:ayj} {vs:List (Nat×Value)} (ax:q4 w F s aI ps vs) (he:gz C s T ps=some (av,s1)):
  Good C w0 F0 X aI w (Instr.build T vs.toArray) av s1:=by
 unfold gz at he;split at he
 .rename_i aF fs au b8;split at he
  .rename_i ar;obtain⟨yL,adG⟩:=ar;split at he
   .rename_i ds s2 kl;simp only[Option.some.injEq,Prod.mk.injEq]at he;obtain⟨rfl,rfl⟩:=he;obtain⟨i,d,z,aP,aY,aU,b4,cM,cl,b9⟩:=bP.info (hz au (by simp));rw[au]at b9;obtain⟨gs,rfl,Ut⟩:=DX b9;obtain⟨h7,qh⟩:=Option.isSome_iff_exists.1 yL;have yM:=cM h7 (by rw[b8];exact qh);have h6:bt w F fs h7.toArray.toList (λ_=>False):=by
     have:=(aB.flat (w:=w) (F:=F) _).1 (.agg fs) h7 (λ_=>False) (Nat.le_refl _) qh;rw[aB]at this;simpa using this
    have fp:q4 w F s aI (ps.map λp=>(p.1,nE [] p.2)) vs:=by simpa [nE]using ax
    obtain⟨pd,cI,h2,m1,m2,m3,m4,m5,m6,m7,m8,m9,m10⟩:=MD ps vs [] s S fs h7.toArray (λ_=>False) h fp h6 (λ_ h=>h.elim) (λ_ h=>h.elim) (λ_ _ h=>h.elim) (λ_ h=>h.elim) ds s2 kl;have fI:=adE bP gs.toList (λg hg=>adG (g.type,g.offset) (by rw[<-Ut];exact List.mem_map_of_mem hg));have adH:(λ(k:Nat)=>(aF[k]?).map λ(f:TypeId×Nat)=>(f.2,(C.T f.1).sz))=λ(k:Nat)=>((gs.toList.map λg=>(g.offset,(C.T g.type).sz)).toArray)[k]? :=by
     funext k;rw[<-Ut];simp only[getElem?_map,getElem?_toArray,Option.map_map];rfl
    rw[adH]at m1;refine⟨.agg pd,w,F,cI,run_build w T vs.toArray pd ?_,m2,.inr ⟨rfl,⟨_,rfl⟩,h2,by simp only[cT,jx];rw[aB];exact m3,m4,m5,m6,m7⟩⟩;unfold Program.built;simp only[aP,cl,b4,fI,yM];exact m1
   .cases he
  .cases he
 .cases he
theorem adI (bP:C.fH) (h:cb w0 F0 X F S s aI w) {T:TypeId} {n:Nat} {ps:ayj} {vs:List (Nat×Value)} (ax:q4 w F s aI ps vs) (he:dW C s T n ps=some (av,s1)):
  Good C w0 F0 X aI w (Instr.buildSlice T n vs.toArray) av s1:=by
 unfold dW at he;split at he
 .rename_i e au;split at he
  .rename_i ar;obtain⟨vh,yK,yL,fj,awk⟩:=ar;split at he
   .rename_i ds s2 kl;simp only[Option.some.injEq,Prod.mk.injEq]at he;obtain⟨rfl,rfl⟩:=he;obtain⟨Ua,d,Ub,aP,aY,aU,b4,cM,cl,b9⟩:=bP.info (hz au (by simp));rw[au]at b9;have:=oD b9;subst this;obtain⟨i,Uc,z,f1,f2,f3,f4,f5,f6,f7⟩:=bP.info vh;obtain⟨h7,qh⟩:=Option.isSome_iff_exists.1 yL;have yM:=f5 h7 qh;have h6:∀a7,aB w F (C.T e).zero h7 a7:=λa7=>(aB.flat _).1 _ h7 a7 (Nat.le_refl _) qh;have w8:h7.length=(C.T e).sz:=by rw[aB.length _ _ _ (h6 (λ_=>False)),yK]
    generalize ja:((Array.range (n*(C.T e).sz)).map ((if n*(C.T e).sz=0 then #[]else h7.toArray)[·%(if n*(C.T e).sz=0 then(#[]:Array Value)else h7.toArray).size]!))=A;have ME:A.toList=(replicate n h7).flatten:=by
     rw[<-ja];by_cases a_:n*(C.T e).sz=0
     .have:n=0:=by
       rcases mul_eq_zero.1 a_ with h|h
       .exact h
       .exact(fj h).elim
      subst this;simp
     .simp only[a_,if_false];have:=MC h7 n;rw[w8]at this;simpa [w8]using this
    have fp:q4 w F s aI (ps.map λp=>(p.1,nE [] p.2)) vs:=by simpa [nE]using ax
    obtain⟨pd,cI,h2,m1,m2,m3,m4,m5,m6,m7,m8,m9,m10⟩:=MD ps vs [] s S (replicate n (C.T e).zero) A (λ_=>False) h fp (by rw[ME];exact bt.replicate h6 n _) (λ_ h=>h.elim) (λ_ h=>h.elim) (λ_ _ h=>h.elim) (λ_ h=>h.elim) ds s2 kl;have hlen:ds.length=n:=by rw[m8];simp
    have Uu:=m10 (C.T e).sz (by intro d an;rw[eq_of_mem_replicate an];exact yK);have adJ:pd.toList.length=n*(C.T e).sz:=by rw[bt.yJ m3 Uu,hlen]
    have adK:pd.size=n*(C.T e).sz:=by rw[<-adJ];simp
    have awl:n<=16777216:=by
     have:n*1<=n*(C.T e).sz:=mul_le_mul_left _ (by omega);omega
    have oF:=m2.H4 (aN:=w.alloc (.cells pd e)) (sz:=(C.T e).sz) (cap:=n) (xs:=ds) (cur:=pd) (e:=e) (fr:=(0,0)) (Sn:=h2) rfl rfl rfl ⟨rfl,λ_=>Nat.le_refl _⟩
     (λo _ ⟨_,af⟩=>absurd af (not_lt_zero _)) (by omega) (by unfold maxLen;omega) adK Uu (by rw[hlen,take_of_length_le (by omega)];exact m3) m4 m5 m6 m7
    rw[hlen]at oF;refine⟨_,_,F,cI,?_,oF.1,oF.2⟩;by_cases a_:n*(C.T e).sz=0
    .simp only[a_,if_true]at ja;have AZ:(Array.map (λ_=>(default:Value)) (Array.range 0))=A:=by
      have:n=0:=by
       rcases mul_eq_zero.1 a_ with h|h
       .exact h
       .exact(fj h).elim
      apply Array.ext';rw[ME,this];simp
     simp[Instr.buildSlice,run_underlying cl,nh f1,f2,a_,newRow];rw[AZ,m1];simp
    .simp only[a_,if_false]at ja;have nA:¬(16777216<n*(C.T e).sz):=by omega
     simp[Instr.buildSlice,run_underlying cl,nh f1,f2,a_,nA,yA f1 f4,yM,newRow];have AZ:(Array.map (λx=>h7[x%h7.length]?.getD default) (Array.range (n*(C.T e).sz)))=A:=by
      rw[<-ja];simp
     rw[AZ,m1];simp
   .cases he
  .cases he
 .cases he
end
inductive e2 where
 |gM (x:bz)
 |hO (x:bz)
 |pick (c a b:bz)
 |mL (T:TypeId)
 |ij (T:TypeId) (x:bz)
 |gz (T:TypeId) (ps:List (Nat×bz))
 |dW (T:TypeId) (n:Nat) (ps:List (Nat×bz))
 |fS (T:TypeId) (x:bz)
 |kR (T:TypeId) (x y:bz)
 |mm (x:bz)
 |eL (op:BinOp) (T:TypeId) (x y:bz)
 |un (op:UnOp) (x:bz)
 |kT (A B:TypeId) (x:bz)
 |pJ (f:FuncId) (cs:List bz)
 |fF (T:TypeId) (l c:bz)
 |iP (T:TypeId) (x:bz) (fP aj:Option bz)
 |hU (T:TypeId) (x:bz) (k:Nat)
 |kD (T:TypeId) (x i:bz)
 |idx (T:TypeId) (x i:bz)
 |ex (x:bz) (k:Nat)
 |pa (T:TypeId) (x:bz) (k:Nat)
 |call (f:bz) (args:List bz)
 |len (T:TypeId) (x:bz)
 |app (T dU:TypeId) (x y:bz)
 |shr (bX:e2)
 |cap (T:TypeId) (x:bz)
 |kF (fq:Bool) (x y:bz)
 |bad
 |mM (f:bz) (args:List bz) (us:ayf)
 |l0 (T:TypeId) (x:bz)
 |pK (x:bz)
 |pe (x:bz)
 |sj
 |jH (T:TypeId) (x i:bz)
 |kU (T:TypeId) (x i v:bz)
def e2.base:e2->e2
 | .shr bX=>bX
 | .mM f args _=>.call f args
 | .l0 T x=>.ij T x
 | .pK x=>.hO x
 | .pe x=>.gM x
 |bX=>bX
def sk:List Operand->Option (List bz)
 |[]=>some []
 |o::os=>match eJ o,sk os with
  |some x,some xs=>some (x::xs)
  |_,_=>none
def A0:List (Nat×Operand)->Option (List (Nat×bz))
 |[]=>some []
 |(k,o)::os=>match eJ o,A0 os with
  |some x,some xs=>some ((k,x)::xs)
  |_,_=>none
def Ef:Option Operand->Option (Option bz)
 |none=>some none
 |some o=>(eJ o).map some
def dB:Op->Option e2
 | .move x=>(eJ x).map .gM
 | .assign x=>(eJ x).map .hO
 | .pick c a b=>match eJ c,eJ a,eJ b with
   |some c,some a,some b=>some (.pick c a b)
   |_,_,_=>none
 | .alloc T=>some (.mL T)
 | .box T x=>(eJ x).map (.ij T)
 | .build T ps=>(A0 ps.toList).map (.gz T)
 | .buildSlice T n ps=>(A0 ps.toList).map (.dW T n)
 | .load T x=>(eJ x).map (.fS T)
 | .store T x y=>match eJ x,eJ y with
   |some x,some y=>some (.kR T x y)
   |_,_=>none
 | .nilCheck x=>(eJ x).map .mm
 | .binOp op T x y _=>match eJ x,eJ y with
   |some x,some y=>some (.eL op T x y)
   |_,_=>none
 | .unOp op _ x=>(eJ x).map (.un op)
 | .convert A B x=>(eJ x).map (.kT A B)
 | .makeFunc (.func f) first cs=>if first.isEmpty then(sk cs.toList).map (.pJ f)else none
 | .makeSlice T l c=>match eJ l,eJ c with
   |some l,some c=>some (.fF T l c)
   |_,_=>none
 | .slice T x fP aj none=>match eJ x,Ef fP,Ef aj with
   |some x,some fP,some aj=>some (.iP T x fP aj)
   |_,_,_=>none
 | .fieldAddr T x k=>(eJ x).map λx=>.hU T x k
 | .indexAddr T x i=>match eJ x,eJ i with
   |some x,some i=>some (.kD T x i)
   |_,_=>none
 | .index T x i=>match eJ x,eJ i with
   |some x,some i=>some (.idx T x i)
   |_,_=>none
 | .extract x k=>(eJ x).map λx=>.ex x k
 | .field T x k=>(eJ x).map λx=>.pa T x k
 | .makeMap _ none=>some .sj
 | .lookup T x i false=>match eJ x,eJ i with
   |some x,some i=>some (.jH T x i)
   |_,_=>none
 | .mapUpdate T x i v=>match eJ x,eJ i,eJ v with
   |some x,some i,some v=>some (.kU T x i v)
   |_,_,_=>none
 | .call c=>match c.callee with
   | .value f=>match eJ f,sk c.args.toList with
     |some f,some xs=>some (.call f xs)
     |_,_=>none
   | .builtin .len=>match c.args.toList,c.argTypes.toList with
     |[x],[T]=>(eJ x).map (.len T)
     |_,_=>none
   | .builtin .cap=>match c.args.toList,c.argTypes.toList with
     |[x],[T]=>(eJ x).map (.cap T)
     |_,_=>none
   | .builtin .min=>match c.args.toList with
     |[x,y]=>match eJ x,eJ y with
      |some x,some y=>some (.kF false x y)
      |_,_=>none
     |_=>none
   | .builtin .max=>match c.args.toList with
     |[x,y]=>match eJ x,eJ y with
      |some x,some y=>some (.kF true x y)
      |_,_=>none
     |_=>none
   | .builtin .append=>match c.args.toList,c.argTypes.toList with
     |[x,y],[T,dU]=>match eJ x,eJ y with
      |some x,some y=>some (.app T dU x y)
      |_,_=>none
     |_,_=>none
   |_=>none
 |_=>none
def kF (fq:Bool):I->I->Option I
 | .str a,.str b=>some (.str (hT fq a b))
 | .int k a,.int di b=>if k=di then some (.int k (kQ fq a b))else none
 |_,_=>none
def tJ (s:ak):I->Option (I×ak)
 | .h y q=>dG s (.h y q)
 |d=>some (d,s)
def cf (C:cm) (s:ak):e2->Option (I×ak)
 | .gM x=>some (bu s x,s)
 | .hO x=>match bu s x with
   | .h y q=>dG s (.h y q)
   |d=>some (d,s)
 | .pick c a b=>match bu s c with
   | .bool gL=>some (if gL then bu s a else bu s b,s)
   |_=>none
 | .mL T=>(mL C T).map λd=>(d,s)
 | .ij _ x=>ij s (bu s x)
 | .gz T ps=>gz C s T (ps.map λp=>(p.1,bu s p.2))
 | .dW T n ps=>dW C s T n (ps.map λp=>(p.1,bu s p.2))
 | .fS T x=>(fS C s T (bu s x)).map λd=>(d,s)
 | .kR T x y=>(kR C s T (bu s x) (bu s y)).map λs1=>(.hole,s1)
 | .mm x=>(mm s (bu s x)).map λd=>(d,s)
 | .eL op T x y=>(eL C s op T (bu s x) (bu s y)).map λd=>(d,s)
 | .un op x=>(un op (bu s x)).map λd=>(d,s)
 | .kT A B x=>(kT C s A B (bu s x)).map λd=>(d,s)
 | .pJ f cs=>some (.fn f (cs.map (bu s)),s)
 | .fF T l c=>(fF C T (bu s l) (bu s c)).map λd=>(d,s)
 | .iP T x fP aj=>iP C s T (bu s x) (fP.map (bu s)) (aj.map (bu s))
 | .hU T x k=>(hU C s T (bu s x) k).map λd=>(d,s)
 | .kD T x i=>(kD C s T (bu s x) (bu s i)).map λd=>(d,s)
 | .idx T x i=>(idx C T (bu s x) (bu s i)).map λd=>(d,s)
 | .ex x k=>(ex s (bu s x) k).map λd=>(d,s)
 | .pa T x k=>(pa C s T (bu s x) k).bind (tJ s)
 | .call _ _=>none
 | .len T x=>(vf C s T (bu s x)).map λd=>(d,s)
 | .app T dU x y=>vj C s T dU (bu s x) (bu s y)
 | .shr _=>none
 | .mM _ _ _=>none
 | .l0 _ x=>l0 s (bu s x)
 | .pK x=>some (bu s x,s)
 | .pe x=>tJ s (bu s x)
 | .sj=>some (.cc (.mp []),s)
 | .jH T x i=>(jH C s T (bu s x) (bu s i)).map λd=>(d,s)
 | .kU T x i v=>(kU C s T (bu s x) (bu s i) (bu s v)).map λs1=>(.hole,s1)
 | .cap T x=>match(C.T T).k,bu s x with
   | .slice _,.bg=>some (.int .i64 0,s)
   |_,_=>none
 | .kF fq x y=>(kF fq (bu s x) (bu s y)).map λd=>(d,s)
 | .bad=>none
section
variable {C:cm} {w0 w:World} {F0 X F:Nat->Prop} {S:Nat->Nat->Prop} {s s1:ak} {a:Act} {av:I}
theorem yQ:∀{os:List Operand} {xs:List bz},sk os=some xs->os.map eJ=xs.map some
 |[],xs,h=>by simp[sk]at h;subst h;rfl
 |o::os,xs,h=>by
  simp only[sk]at h;split at h
  .rename_i x Uv ad af;simp at h;subst h;simp[ad,yQ af]
  .cases h
theorem MG {aI:Nat->Value} (h:cb w0 F0 X F S s aI w) (fc:∀t,aI t=a.tmps.getD t undef):∀{ps:List (Nat×Operand)} {xs:List (Nat×bz)},A0 ps=some xs->
  q4 w F s aI (xs.map λp=>(p.1,bu s p.2)) (ps.map λp=>(p.1,a.eval p.2))
 |[],xs,h=>by simp[A0]at h;subst h;trivial
 |(k,o)::ps,xs,bC=>by
  simp only[A0]at bC;split at bC
  .rename_i x Uv ad af;simp at bC;subst bC;obtain⟨g1,g2⟩:=gA h fc ad;exact⟨rfl,g1,g2,MG h fc af⟩
  .cases bC
def Next (C:cm) (w0:World) (F0 X:Nat->Prop) (aI:Nat->Value) (w:World) (m:Sem Go.Next) (av:I) (s1:ak):Prop:=
 ∃r aN v ch a7,m.run C.P w= .ok r aN/\(r= .value v\/r= .skip/\v=undef)/\cb w0 F0 X ch a7 s1 aI aN/\n1 w0 X ch a7 s1 aI aN av v
theorem Good.next {aI:Nat->Value} {m:Sem Value} (h:Good C w0 F0 X aI w m av s1):Next C w0 F0 X aI w (do pure (.value (<-m))) av s1:=by
 obtain⟨v,aN,ch,a7,ad,af,aG⟩:=h;exact⟨.value v,aN,v,ch,a7,by simp[ad],.inl rfl,af,aG⟩
theorem Uw {aI:Nat->Value} (h:cb w0 F0 X F S s aI w) {fq:Bool} {x y:I} {km lI:Value} {m:Sem Go.Next} (ad:aO w F s aI x km (λ_=>False)) (af:aO w F s aI y lI (λ_=>False))
  (he:(kF fq x y).map (λd=>(d,s))=some (av,s1)) (hm:m=(do pure (.value (<-if fq then Builtin.max2 km lI else Builtin.min2 km lI)))):Next C w0 F0 X aI w m av s1:=by
 simp only[Option.map_eq_some_iff,Prod.mk.injEq]at he;obtain⟨d,an,rfl,rfl⟩:=he;unfold kF at an;split at an
 .rename_i a b;simp only[Option.some.injEq]at an;subst an;have aP:=o9 ad;have aY:=o9 af;subst aP aY;subst hm;refine⟨.value (.string ⟨⟨hT fq a b⟩⟩),w,_,F,S,?_,.inl rfl,h,.inl ⟨rfl,sd _⟩⟩;cases fq
  .simp only[Builtin.min2,Op.stringOp,D3,hT,Bool.false_eq_true,if_false];cases aa:(Op.bytesLess a b||a==b)<;>simp[asBool]
  .simp only[Builtin.max2,Op.stringOp,D3,hT,if_true];cases aa:Op.bytesLess a b<;>simp[asBool]
 .rename_i k a di b;split at an
  .rename_i au;subst au;simp only[Option.some.injEq]at an;subst an;have aP:=qf ad;have aY:=qf af;subst aP aY;subst hm;refine⟨.value (.int k (kQ fq a b)),w,_,F,S,?_,.inl rfl,h,.inl ⟨rfl,of_int _ _⟩⟩;cases fq<;>simp[Builtin.min2,Builtin.max2,kQ]
  .cases an
 .cases an
theorem Ux (bP:C.fH) {aI:Nat->Value} (h:cb w0 F0 X F S s aI w) (fc:∀t,aI t=a.tmps.getD t undef) {o:Oper} {bX:e2} (ab:dB o.op=some bX) (he:cf C s bX=some (av,s1)):
  Next C w0 F0 X aI w (execOp a.eval o) av s1:=by
 obtain⟨dst,op,ty,pos,after,guard⟩:=o;simp only at ab;cases op with
 |move x=>
  simp only[dB,Option.map_eq_some_iff]at ab;obtain⟨cN,ao,rfl⟩:=ab;obtain⟨g1,g2⟩:=gA h fc ao;simp only[cf,Option.some.injEq,Prod.mk.injEq]at he;obtain⟨rfl,rfl⟩:=he;exact⟨_,w,_,F,S,rfl,.inl rfl,h,.inl ⟨g1,g2⟩⟩
 |assign x=>
  simp only[dB,Option.map_eq_some_iff]at ab;obtain⟨cN,ao,rfl⟩:=ab;obtain⟨g1,g2⟩:=gA h fc ao;simp only[cf]at he;split at he
  .rename_i y q hy;rw[hy]at g1 g2;obtain⟨cI,k0,bS,ct,Sn,dT,ed,eQ,de,kE,_⟩:=r_ h g1 g2 he;exact⟨_,w,_,F,cI,rfl,.inl rfl,k0,.inr ⟨bS,ct,Sn,dT,ed,eQ,de,kE⟩⟩
  .simp only[Option.some.injEq,Prod.mk.injEq]at he;obtain⟨rfl,rfl⟩:=he;exact⟨_,w,_,F,S,rfl,.inl rfl,h,.inl ⟨g1,g2⟩⟩
 |pick c x y=>
  simp only[dB]at ab;split at ab
  .rename_i xd cN nZ ar ao hy;simp only[Option.some.injEq]at ab;subst ab;simp only[cf]at he;split at he
   .rename_i b aa;simp only[Option.some.injEq,Prod.mk.injEq]at he;obtain⟨rfl,rfl⟩:=he;have Ec:=(gA h fc ar).2;rw[aa]at Ec;have Ec:=w4 Ec;obtain⟨R,ae⟩:=gA h fc ao;obtain⟨ft,hr⟩:=gA h fc hy;refine⟨.value (if b then a.eval x else a.eval y),w,_,F,S,?_,.inl rfl,h,.inl ?_⟩
    .simp[execOp,Ec,asBool]
    .cases b
     .exact⟨ft,hr⟩
     .exact⟨R,ae⟩
   .cases he
  .cases ab
 |alloc T=>
  simp only[dB,Option.some.injEq]at ab;subst ab;simp only[cf,Option.map_eq_some_iff,Prod.mk.injEq]at he;obtain⟨d,an,rfl,rfl⟩:=he;exact(acJ bP h an).next
 |box T x=>
  simp only[dB,Option.map_eq_some_iff]at ab;obtain⟨cN,ao,rfl⟩:=ab;obtain⟨g1,g2⟩:=gA h fc ao;exact(acM h g1 g2 he).next
 |build T ps=>
  simp only[dB,Option.map_eq_some_iff]at ab;obtain⟨adL,ax,rfl⟩:=ab;obtain⟨ps⟩:=ps;have:=(adF bP h (MG h fc ax) he).next;simpa [execOp]using this
 |buildSlice T n ps=>
  simp only[dB,Option.map_eq_some_iff]at ab;obtain⟨adL,ax,rfl⟩:=ab;obtain⟨ps⟩:=ps;have:=(adI bP h (MG h fc ax) he).next;simpa [execOp]using this
 |load T x=>
  simp only[dB,Option.map_eq_some_iff]at ab;obtain⟨cN,ao,rfl⟩:=ab;obtain⟨g1,g2⟩:=gA h fc ao;simp only[cf,Option.map_eq_some_iff,Prod.mk.injEq]at he;obtain⟨d,an,rfl,rfl⟩:=he;exact(acE bP h g2 an).next
 |store T x y=>
  simp only[dB]at ab;split at ab
  .rename_i cN nZ ao hy;simp only[Option.some.injEq]at ab;subst ab;simp only[cf,Option.map_eq_some_iff,Prod.mk.injEq]at he;obtain⟨s2,an,rfl,rfl⟩:=he;obtain⟨aN,a7,ad,af⟩:=acH bP h (gA h fc ao).2 (gA h fc hy).1 (gA h fc hy).2 an;exact⟨.skip,aN,undef,F,a7,by simp[execOp,ad],.inr ⟨rfl,rfl⟩,af,.inl ⟨rfl,by rw[aO];trivial⟩⟩
  .cases ab
 |nilCheck x=>
  simp only[dB,Option.map_eq_some_iff]at ab;obtain⟨cN,ao,rfl⟩:=ab;obtain⟨g1,g2⟩:=gA h fc ao;simp only[cf,Option.map_eq_some_iff,Prod.mk.injEq]at he;obtain⟨d,an,rfl,rfl⟩:=he;obtain⟨rfl,ax,aJ⟩:=acY h g2 an;refine⟨.value (a.eval x),w,_,F,S,?_,.inl rfl,h,.inl ⟨ax,g2⟩⟩;rcases aJ with⟨b,aa⟩|⟨f,c,aa⟩<;>simp[execOp,aa]
 |binOp op T x y awm=>
  simp only[dB]at ab;split at ab
  .rename_i cN nZ ao hy;simp only[Option.some.injEq]at ab;subst ab;simp only[cf,Option.map_eq_some_iff,Prod.mk.injEq]at he;obtain⟨d,an,rfl,rfl⟩:=he;exact(acV bP h x y (gA h fc ao).2 (gA h fc hy).2 an).next
  .cases ab
 |unOp op T x=>
  simp only[dB,Option.map_eq_some_iff]at ab;obtain⟨cN,ao,rfl⟩:=ab;simp only[cf,Option.map_eq_some_iff,Prod.mk.injEq]at he;obtain⟨d,an,rfl,rfl⟩:=he;exact(acW h (gA h fc ao).2 an).next
 |convert A B x=>
  simp only[dB,Option.map_eq_some_iff]at ab;obtain⟨cN,ao,rfl⟩:=ab;simp only[cf,Option.map_eq_some_iff,Prod.mk.injEq]at he;obtain⟨d,an,rfl,rfl⟩:=he;exact(ac7 bP h (gA h fc ao).2 an).next
 |makeFunc fn first cs=>
  cases fn with
  |func f=>
   simp only[dB]at ab;split at ab
   .rename_i MH;simp only[Option.map_eq_some_iff]at ab;obtain⟨q5,iC,rfl⟩:=ab;simp only[cf,Option.some.injEq,Prod.mk.injEq]at he;obtain⟨rfl,rfl⟩:=he;have MI:first= #[]:=by simpa using MH
    subst MI;refine⟨_,w,_,F,S,rfl,.inl rfl,h,.inl ⟨rfl,?_⟩⟩;rw[aO];refine⟨cs.map a.eval,by simp,?_⟩;simpa using Ie h fc _ _ (yQ iC)
   .cases ab
  |_=>simp[dB]at ab
 |makeSlice T l c=>
  simp only[dB]at ab;split at ab
  .rename_i cN nZ ao hy;simp only[Option.some.injEq]at ab;subst ab;simp only[cf,Option.map_eq_some_iff,Prod.mk.injEq]at he;obtain⟨d,an,rfl,rfl⟩:=he;exact(ady bP h (gA h fc ao).2 (gA h fc hy).2 an).next
  .cases ab
 |slice T x fP aj fq=>
  cases fq with
  |some m=>simp[dB]at ab
  |none=>
   simp only[dB]at ab;split at ab
   .rename_i cN awn Eg ao qY qZ;simp only[Option.some.injEq]at ab;subst ab;obtain⟨g1,g2⟩:=gA h fc ao;have opt:∀{o:Option Operand} {qk:Option bz},Ef o=some qk->vg w F s aI (qk.map (bu s)) (o.map a.eval):=by
     intro o qk bI;cases o with
     |none=>simp[Ef]at bI;subst bI;trivial
     |some o=>
      simp only[Ef,Option.map_eq_some_iff]at bI;obtain⟨x,ao,rfl⟩:=bI;exact(gA h fc ao).2
    exact(ac_ bP h g1 g2 (opt qY) (opt qZ) he).next
   .cases ab
 |fieldAddr T x k=>
  simp only[dB,Option.map_eq_some_iff]at ab;obtain⟨cN,ao,rfl⟩:=ab;obtain⟨g1,g2⟩:=gA h fc ao;simp only[cf,Option.map_eq_some_iff,Prod.mk.injEq]at he;obtain⟨d,an,rfl,rfl⟩:=he;exact(acy bP h g1 g2 an).next
 |indexAddr T x i=>
  simp only[dB]at ab;split at ab
  .rename_i cN nZ ao hy;simp only[Option.some.injEq]at ab;subst ab;simp only[cf,Option.map_eq_some_iff,Prod.mk.injEq]at he;obtain⟨d,an,rfl,rfl⟩:=he;exact(acz bP h (gA h fc ao).2 (gA h fc hy).2 an).next
  .cases ab
 |index T x i=>
  simp only[dB]at ab;split at ab
  .rename_i cN nZ ao hy;simp only[Option.some.injEq]at ab;subst ab;simp only[cf,Option.map_eq_some_iff,Prod.mk.injEq]at he;obtain⟨d,an,rfl,rfl⟩:=he;exact(ac4 bP h (gA h fc ao).2 (gA h fc hy).2 an).next
  .cases ab
 |makeMap t r=>
  cases r with
  |none=>
   simp only[dB,Option.some.injEq]at ab;subst ab;simp only[cf,Option.some.injEq,Prod.mk.injEq]at he;obtain⟨rfl,rfl⟩:=he;exact(adx h t).next
  |some r=>simp[dB]at ab
 |lookup T x i c=>
  cases c with
  |true=>simp[dB]at ab
  |false=>
   simp only[dB]at ab;split at ab
   .rename_i cN tC ao aj;simp only[Option.some.injEq]at ab;subst ab;simp only[cf,Option.map_eq_some_iff,Prod.mk.injEq]at he;obtain⟨d,an,rfl,rfl⟩:=he;exact(adu bP h (gA h fc ao).2 (gA h fc aj).2 an).next
   .cases ab
 |mapUpdate T x i v=>
  simp only[dB]at ab;split at ab
  .rename_i cN tC hq ao aj aJ;simp only[Option.some.injEq]at ab;subst ab;simp only[cf,Option.map_eq_some_iff,Prod.mk.injEq]at he;obtain⟨s2,an,rfl,rfl⟩:=he;obtain⟨aN,a7,ad,af⟩:=adv bP h (gA h fc ao).2 (gA h fc aj).2 (gA h fc aJ).2 an;exact⟨.skip,aN,undef,F,a7,by simp[execOp,ad],.inr ⟨rfl,rfl⟩,af,.inl ⟨rfl,by rw[aO];trivial⟩⟩
  .cases ab
 |extract x k=>
  simp only[dB,Option.map_eq_some_iff]at ab;obtain⟨cN,ao,rfl⟩:=ab;simp only[cf,Option.map_eq_some_iff,Prod.mk.injEq]at he;obtain⟨d,an,rfl,rfl⟩:=he;exact(ac1 h (gA h fc ao).2 an).next
 |field T x k=>
  simp only[dB,Option.map_eq_some_iff]at ab;obtain⟨cN,ao,rfl⟩:=ab;simp only[cf,Option.bind_eq_some_iff]at he;obtain⟨d,an,he⟩:=he;obtain⟨v,aN,ch,a7,aQ,o6,r8⟩:=ac2 bP h (gA h fc ao).2 an;unfold tJ at he;split at he
  .rename_i y q;have adM:aO aN ch s aI (.h y q) v (λ_=>False):=by
    rcases r8 with⟨_,g2⟩|⟨g1,_⟩
    .exact g2
    .cases g1
   obtain⟨cI,k0,bS,ct,Sn,dT,ed,eQ,de,kE,_⟩:=r_ o6 rfl adM he;exact⟨.value v,aN,v,ch,cI,by simp[execOp,aQ],.inl rfl,k0,.inr ⟨bS,ct,Sn,dT,ed,eQ,de,kE⟩⟩
  .simp only[Option.some.injEq,Prod.mk.injEq]at he;obtain⟨rfl,rfl⟩:=he;exact⟨.value v,aN,v,ch,a7,by simp[execOp,aQ],.inl rfl,o6,r8⟩
 |call c=>
  obtain⟨callee,args,argTypes⟩:=c;simp only[dB]at ab;split at ab
  .split at ab
   .simp only[Option.some.injEq]at ab;subst ab;simp[cf]at he
   .cases ab
  .split at ab
   .rename_i x T q6 Eh;simp only[Option.map_eq_some_iff]at ab;obtain⟨cN,ao,rfl⟩:=ab;simp only[cf,Option.map_eq_some_iff,Prod.mk.injEq]at he;obtain⟨d,an,rfl,rfl⟩:=he;have:=(ac5 (ty:=ty) bP h (gA h fc ao).2 an).next;have aP:args= #[x]:=by apply Array.ext';exact q6
    have aY:argTypes= #[T]:=by apply Array.ext';exact Eh
    subst aP aY;simpa [execOp,resolve,invoke,builtin]using this
   .cases ab
  .split at ab
   .rename_i x T q6 Eh;simp only[Option.map_eq_some_iff]at ab;obtain⟨cN,ao,rfl⟩:=ab;simp only[cf]at he;split at he
    .rename_i e au adN;simp only[Option.some.injEq,Prod.mk.injEq]at he;obtain⟨rfl,rfl⟩:=he;have aJ:=(gA h fc ao).2;rw[adN]at aJ;have:=w5 aJ;obtain⟨i,d,z,aP,aY,aU,b4,cM,cl,b9⟩:=bP.info (hz au (by simp));rw[au]at b9;have an:=oD b9;subst an;have adO:args= #[x]:=by apply Array.ext';exact q6
     have adP:argTypes= #[T]:=by apply Array.ext';exact Eh
     subst adO adP;have aQ:(Builtin.cap_ #[T] ty #[a.eval x]).run C.P w= .ok (.int .i64 0) w:=by
      rw[this];simp[Builtin.cap_,run_underlying cl,goInt]
     have:=(Good.same (av:=.int .i64 0) h aQ rfl (of_int _ _)).next;simpa [execOp,resolve,invoke,builtin]using this
    .cases he
   .cases ab
  .split at ab
   .rename_i x y q6;split at ab
    .rename_i cN nZ ao hy;simp only[Option.some.injEq]at ab;subst ab;have aP:args= #[x,y]:=by apply Array.ext';exact q6
     subst aP;exact Uw h (gA h fc ao).2 (gA h fc hy).2 he (by simp[execOp,resolve,invoke,builtin,Builtin.min_])
    .cases ab
   .cases ab
  .split at ab
   .rename_i x y q6;split at ab
    .rename_i cN nZ ao hy;simp only[Option.some.injEq]at ab;subst ab;have aP:args= #[x,y]:=by apply Array.ext';exact q6
     subst aP;exact Uw h (gA h fc ao).2 (gA h fc hy).2 he (by simp[execOp,resolve,invoke,builtin,Builtin.max_])
    .cases ab
   .cases ab
  .split at ab
   .rename_i x y T dU q6 Eh;split at ab
    .rename_i cN nZ ao hy;simp only[Option.some.injEq]at ab;subst ab;have:=(adm (ty:=ty) bP h (gA h fc ao).2 (gA h fc hy).2 he).next;have aP:args= #[x,y]:=by apply Array.ext';exact q6
     have aY:argTypes= #[T,dU]:=by apply Array.ext';exact Eh
     subst aP aY;simpa [execOp,resolve,invoke,builtin]using this
    .cases ab
   .cases ab
  .cases ab
 |_=>simp[dB]at ab
end
mutual
def I.ab:I->ayf
 | .h x _=>[x]
 | .ax x _=>[x]
 | .aa x _=>[x]
 | .fn _ cap=>I.e3 cap
 |_=>[]
def I.e3:ayk->ayf
 |[]=>[]
 |d::ds=>d.ab++I.e3 ds
end
inductive tK where
 |no
 |cJ
 |dy
structure h8 where
 k:tK
 x:Nat
 d:I
def tK.app (k:tK) (x:Nat) (a:I):I:=match k with
 | .no=>a
 | .cJ=>eg.cJ x a
 | .dy=>eg.dy x a
def h8.at (m:h8) (u:Nat) (a:I):I:=if u=m.x then m.d else m.k.app m.x a
def mn:List h8->Nat->I->I
 |[],_,a=>a
 |m::ms,u,a=>mn ms u (m.at u a)
def eR (ms:List h8) (s:ak):ak:=λu=>mn ms u (s u)
theorem Uy:∀(ms l3:List h8) (u:Nat) (a:I),mn (ms++l3) u a=mn l3 u (mn ms u a)
 |[],_,_,_=>rfl
 |m::ms,l3,u,a=>by simp only[cons_append,mn];exact Uy ms l3 u _
theorem pf (ms l3:List h8) (s:ak):eR (ms++l3) s=eR l3 (eR ms s):=by
 funext u;simp[eR,Uy]
theorem adQ {ms:List h8} {s aH:ak} {u:Nat} (h:aH u=s u):eR ms aH u=eR ms s u:=by simp[eR,h]
theorem yR (s:ak) (x:Nat) (d:I):ei (jk x s) x d=eR [⟨.cJ,x,d⟩] s:=by
 funext u;simp only[eR,mn,h8.at,ei,jk,tK.app]
theorem Uz (s:ak) (x:Nat) (d:I):ei (oB x s) x d=eR [⟨.dy,x,d⟩] s:=by
 funext u;simp only[eR,mn,h8.at,ei,oB,tK.app]
theorem UA (s:ak) (x:Nat) (d:I):ei s x d=eR [⟨.no,x,d⟩] s:=by
 funext u;simp only[eR,mn,h8.at,ei,tK.app]
mutual
theorem Ei {x:Nat}:∀a:I,x∉a.ab->cJ x a=a
 | .h y q,h=>by
   simp only[I.ab,mem_singleton]at h;simp only[cJ];rw[if_neg (λe=>h e.symm)]
 | .ax y q,h=>by
   simp only[I.ab,mem_singleton]at h;simp only[cJ];rw[if_neg (λe=>h e.symm)]
 | .aa y q,h=>rfl
 | .fn f cap,h=>by simp only[cJ];rw[UB cap (by simpa [I.ab]using h)]
 | .hole,_=>rfl
 | .bool _,_=>rfl
 | .gn,_=>rfl
 | .int _ _,_=>rfl
 | .str _,_=>rfl
 | .er,_=>rfl
 | .bg,_=>rfl
 | .slice _,_=>rfl
 | .ag _ _,_=>rfl
 | .ref _,_=>rfl
 | .aS _,_=>rfl
 | .agg _,_=>rfl
 | .tuple _,_=>rfl
 | .cc _,_=>rfl
theorem UB {x:Nat}:∀ds:ayk,x∉I.e3 ds->kC x ds=ds
 |[],_=>rfl
 |d::ds,h=>by
  simp only[I.e3,mem_append,not_or]at h;simp only[kC];rw[Ei d h.1,UB ds h.2]
end
mutual
theorem MJ {x:Nat}:∀a:I,x∉a.ab->dy x a=a
 | .h y q,h=>by
   simp only[I.ab,mem_singleton]at h;simp only[dy];rw[if_neg (λe=>h e.symm)]
 | .ax y q,h=>by
   simp only[I.ab,mem_singleton]at h;simp only[dy];rw[if_neg (λe=>h e.symm)]
 | .aa y q,h=>by
   simp only[I.ab,mem_singleton]at h;simp only[dy];rw[if_neg (λe=>h e.symm)]
 | .fn f cap,h=>by simp only[dy];rw[UC cap (by simpa [I.ab]using h)]
 | .hole,_=>rfl
 | .bool _,_=>rfl
 | .gn,_=>rfl
 | .int _ _,_=>rfl
 | .str _,_=>rfl
 | .er,_=>rfl
 | .bg,_=>rfl
 | .slice _,_=>rfl
 | .ag _ _,_=>rfl
 | .ref _,_=>rfl
 | .aS _,_=>rfl
 | .agg _,_=>rfl
 | .tuple _,_=>rfl
 | .cc _,_=>rfl
theorem UC {x:Nat}:∀ds:ayk,x∉I.e3 ds->la x ds=ds
 |[],_=>rfl
 |d::ds,h=>by
  simp only[I.e3,mem_append,not_or]at h;simp only[la];rw[MJ d h.1,UC ds h.2]
end
theorem Ej {k:tK} {x:Nat} {a:I} (h:k= .no\/x∉a.ab):k.app x a=a:=by
 cases k with
 |no=>rfl
 |cJ=>exact Ei a (by simpa using h)
 |dy=>exact MJ a (by simpa using h)
mutual
theorem UD (x y:Nat):∀a:I,cJ x (cJ y a)=cJ y (cJ x a)
 | .h z q=>by simp only[cJ];by_cases ad:z=x<;>by_cases af:z=y<;>by_cases aG:q=[]<;>simp[ad,af,aG,cJ]<;>(subst_vars;simp_all [cJ])
 | .ax z q=>by simp only[cJ];by_cases ad:z=x<;>by_cases af:z=y<;>simp[ad,af,cJ]<;>(subst_vars;simp_all [cJ])
 | .aa z q=>rfl
 | .fn f cap=>by simp only[cJ];rw[UE x y cap]
 | .hole=>rfl
 | .bool _=>rfl
 | .gn=>rfl
 | .int _ _=>rfl
 | .str _=>rfl
 | .er=>rfl
 | .bg=>rfl
 | .slice _=>rfl
 | .ag _ _=>rfl
 | .ref _=>rfl
 | .aS _=>rfl
 | .agg _=>rfl
 | .tuple _=>rfl
 | .cc _=>rfl
theorem UE (x y:Nat):∀ds:ayk,kC x (kC y ds)=kC y (kC x ds)
 |[]=>rfl
 |d::ds=>by simp only[kC];rw[UD x y d,UE x y ds]
end
mutual
theorem UF (x y:Nat):∀a:I,dy x (dy y a)=dy y (dy x a)
 | .h z q=>by simp only[dy];by_cases ad:z=x<;>by_cases af:z=y<;>simp[ad,af,dy]<;>(subst_vars;simp_all [dy])
 | .ax z q=>by simp only[dy];by_cases ad:z=x<;>by_cases af:z=y<;>simp[ad,af,dy]<;>(subst_vars;simp_all [dy])
 | .aa z q=>by simp only[dy];by_cases ad:z=x<;>by_cases af:z=y<;>simp[ad,af,dy]<;>(subst_vars;simp_all [dy])
 | .fn f cap=>by simp only[dy];rw[UG x y cap]
 | .hole=>rfl
 | .bool _=>rfl
 | .gn=>rfl
 | .int _ _=>rfl
 | .str _=>rfl
 | .er=>rfl
 | .bg=>rfl
 | .slice _=>rfl
 | .ag _ _=>rfl
 | .ref _=>rfl
 | .aS _=>rfl
 | .agg _=>rfl
 | .tuple _=>rfl
 | .cc _=>rfl
theorem UG (x y:Nat):∀ds:ayk,la x (la y ds)=la y (la x ds)
 |[]=>rfl
 |d::ds=>by simp only[la];rw[UF x y d,UG x y ds]
end
mutual
theorem MK (x y:Nat):∀a:I,cJ x (dy y a)=dy y (cJ x a)
 | .h z q=>by simp only[dy,cJ];by_cases ad:z=x<;>by_cases af:z=y<;>by_cases aG:q=[]<;>simp[ad,af,aG,dy,cJ]<;>(subst_vars;simp_all [dy,cJ])
 | .ax z q=>by simp only[dy,cJ];by_cases ad:z=x<;>by_cases af:z=y<;>simp[ad,af,dy,cJ]<;>(subst_vars;simp_all [dy,cJ])
 | .aa z q=>by simp only[dy,cJ];by_cases af:z=y<;>simp[af,cJ]
 | .fn f cap=>by simp only[dy,cJ];rw[UH x y cap]
 | .hole=>rfl
 | .bool _=>rfl
 | .gn=>rfl
 | .int _ _=>rfl
 | .str _=>rfl
 | .er=>rfl
 | .bg=>rfl
 | .slice _=>rfl
 | .ag _ _=>rfl
 | .ref _=>rfl
 | .aS _=>rfl
 | .agg _=>rfl
 | .tuple _=>rfl
 | .cc _=>rfl
theorem UH (x y:Nat):∀ds:ayk,kC x (la y ds)=la y (kC x ds)
 |[]=>rfl
 |d::ds=>by simp only[la,kC];rw[MK x y d,UH x y ds]
end
theorem adR (k l:tK) (x y:Nat) (a:I):k.app x (l.app y a)=l.app y (k.app x a):=by
 cases k<;>cases l<;>simp only[tK.app]<;>first|rfl|exact UD .. |exact UF .. |exact MK .. |exact(MK ..).symm
def bz.use (s:ak):bz->ayf
 | .t n=>n::(s n).ab
 | .c av=>av.ab
 | .f _=>[]
def bz.sl (s:ak):List bz->ayf
 |[]=>[]
 |x::xs=>x.use s++bz.sl s xs
def ML (s:ak):Option bz->ayf
 |none=>[]
 |some x=>x.use s
def use (s:ak):e2->ayf
 | .gM x=>x.use s
 | .hO x=>x.use s
 | .pick c a b=>c.use s++(a.use s++b.use s)
 | .mL _=>[]
 | .ij _ x=>x.use s
 | .gz _ ps=>bz.sl s (ps.map (·.2))
 | .dW _ _ ps=>bz.sl s (ps.map (·.2))
 | .fS _ x=>x.use s
 | .kR _ x y=>x.use s++y.use s
 | .mm x=>x.use s
 | .eL _ _ x y=>x.use s++y.use s
 | .un _ x=>x.use s
 | .kT _ _ x=>x.use s
 | .pJ _ cs=>bz.sl s cs
 | .fF _ l c=>l.use s++c.use s
 | .iP _ x fP aj=>x.use s++(ML s fP++ML s aj)
 | .hU _ x _=>x.use s
 | .kD _ x i=>x.use s++i.use s
 | .idx _ x i=>x.use s++i.use s
 | .ex x _=>x.use s
 | .pa _ x _=>x.use s
 | .call f args=>f.use s++bz.sl s args
 | .len _ x=>x.use s
 | .app _ _ x y=>x.use s++y.use s
 | .shr bX=>use s bX
 | .mM f args us=>us.flatMap (λu=>u::(s u).ab)++(f.use s++bz.sl s args)
 | .l0 _ x=>x.use s
 | .pK x=>x.use s
 | .pe x=>x.use s
 | .sj=>[]
 | .jH _ x i=>x.use s++i.use s
 | .kU _ x i v=>x.use s++(i.use s++v.use s)
 | .cap _ x=>x.use s
 | .kF _ x y=>x.use s++y.use s
 | .bad=>[]
def l4 (s:ak):e2->ayf
 | .hO x=>(bu s x).ab
 | .ij _ x=>(bu s x).ab
 | .gz _ ps=>I.e3 (ps.map λp=>bu s p.2)
 | .dW _ _ ps=>I.e3 (ps.map λp=>bu s p.2)
 | .kR _ x y=>(bu s x).ab++(bu s y).ab
 | .pa _ x _=>(bu s x).ab
 | .pe x=>(bu s x).ab
 | .kU _ x _ _=>(bu s x).ab
 | .iP _ x _ _=>(bu s x).ab
 | .app _ _ x y=>(bu s x).ab++(bu s y).ab
 | .shr bX=>l4 s bX
 |_=>[]
def eN (dU:ayf) (aH s:ak):Prop:=∀u∈dU,aH u=s u
theorem eN.left {dU V:ayf} {aH s:ak} (h:eN (dU++V) aH s):eN dU aH s:=λu hu=>h u (mem_append_left _ hu)
theorem eN.right {dU V:ayf} {aH s:ak} (h:eN (dU++V) aH s):eN V aH s:=λu hu=>h u (mem_append_right _ hu)
theorem eN.eR {dU:ayf} {aH s:ak} (h:eN dU aH s) (ms:List h8):eN dU (eR ms aH) (eR ms s):=λu hu=>adQ (h u hu)
theorem eN.sub {dU V:ayf} {aH s:ak} (h:eN dU aH s) (ab:∀u∈V,u∈dU):eN V aH s:=λu hu=>h u (ab u hu)
theorem bz.yS {s:ak} {x:bz}:∀u∈(bu s x).ab,u∈x.use s:=by
 intro u hu;cases x with
 |t n=>
  simp only[bu,tA]at hu;split at hu
  .simp[bz.use,hu]
  .simp only[I.ab,mem_singleton]at hu;simp[bz.use,hu]
 |c av=>exact hu
 |f g=>simp[bu,I.ab,I.e3]at hu
theorem bz.gE {s aH:ak} {x:bz} (h:eN (x.use s) aH s):bu aH x=bu s x:=by
 cases x with
 |t n=>simp only[bu];rw[h n (by simp[bz.use])]
 |c av=>rfl
 |f g=>rfl
theorem eN.bu {s aH:ak} {x:bz} (h:eN (x.use s) aH s):eN (bu s x).ab aH s:=h.sub bz.yS
theorem UI {s aH:ak} {x:Option bz} (h:eN (ML s x) aH s):x.map (bu aH)=x.map (bu s):=by
 cases x with
 |none=>rfl
 |some x=>simp only[Option.map_some];rw[bz.gE h]
theorem bz.MM {s aH:ak}:∀{xs:List bz},eN (bz.sl s xs) aH s->xs.map (bu aH)=xs.map (bu s)
 |[],_=>rfl
 |x::xs,h=>by
  simp only[map_cons];rw[bz.gE (h.left),bz.MM (h.right)]
theorem bz.MN {s aH:ak}:∀{ps:List (Nat×bz)},eN (bz.sl s (ps.map (·.2))) aH s->(ps.map λp=>(p.1,bu aH p.2))=ps.map λp=>(p.1,bu s p.2)
 |[],_=>rfl
 |x::xs,h=>by
  simp only[map_cons]at h⊢;rw[bz.gE (h.left),bz.MN (h.right)]
theorem bz.Ig {s:ak}:∀{xs:List bz},∀u∈I.e3 (xs.map (bu s)),u∈bz.sl s xs
 |[],u,h=>by simp[I.e3]at h
 |x::xs,u,h=>by
  simp only[map_cons,I.e3,mem_append]at h;simp only[bz.sl,mem_append];exact h.imp (bz.yS u) (bz.Ig u)
section
variable {C:cm} {s aH:ak} {x y i:I} {T A B:TypeId}
theorem MO (h:eN x.ab aH s):loc aH x=loc s x:=by
 cases x<;>first
  |rfl
  |(simp only[loc];rw[h _ (by simp[I.ab])])
theorem MP {z:Nat} {q:ayf} (h:loc s x=some (z,q)):z∈x.ab:=by
 cases x with
 |h y p=>
  simp only[loc]at h;split at h
  .simp only[Option.some.injEq,Prod.mk.injEq]at h;simp[I.ab,h.1]
  .cases h
 |ax y p=>
  simp only[loc]at h;split at h
  .simp only[Option.some.injEq,Prod.mk.injEq]at h;simp[I.ab,h.1]
  .cases h
 |_=>simp[loc]at h
theorem adS (h:eN x.ab aH s):fS C aH T x=fS C s T x:=by
 have hl:=MO h;unfold fS;split
 .rfl
 .rw[h _ (by simp[I.ab])]
 .rw[hl];split
  .rename_i e;rw[h _ (MP e)]
  .rfl
theorem adT {k:Nat} (h:eN x.ab aH s):hU C aH T x k=hU C s T x k:=by
 have hl:=MO h;unfold hU;split
 .split
  .split
   .split
    .rfl
    .rw[h _ (by simp[I.ab])]
    .rw[hl];split
     .rename_i e;rw[h _ (MP e)]
     .rfl
   .rfl
  .rfl
 .rfl
theorem adU (h:eN x.ab aH s):kD C aH T x i=kD C s T x i:=by
 cases x<;>first
  |rfl
  |(simp only[kD];rw[h _ (by simp[I.ab])])
theorem adV (h:eN x.ab aH s):vf C aH T x=vf C s T x:=by
 unfold vf;cases(C.T T).k<;>cases x<;>first
  |rfl
  |(simp only;rw[h _ (by simp[I.ab])])
theorem adW (h:eN x.ab aH s):kT C aH A B x=kT C s A B x:=by
 unfold kT;cases(C.T B).k<;>cases x<;>first
  |rfl
  |(simp only;rw[h _ (by simp[I.ab])])
theorem adX (h:eN x.ab aH s):l1 aH x=l1 s x:=by
 cases x<;>first
  |rfl
  |(simp only[l1];rw[h _ (by simp[I.ab])])
theorem adY (h:eN x.ab aH s):n3 aH x=n3 s x:=by
 cases x<;>first
  |rfl
  |(simp only[n3];rw[h _ (by simp[I.ab])])
theorem adZ {op:BinOp} (h:eN x.ab aH s):eL C aH op T x y=eL C s op T x y:=by
 have ad:=adX h;have af:=adY h;unfold eL;split<;>first|rfl|simp only[ad,af]
theorem ad0 (h:eN x.ab aH s):mm aH x=mm s x:=by
 cases x<;>first
  |rfl
  |(simp only[mm];rw[h _ (by simp[I.ab])])
theorem ad1 {k y:Nat} {q:ayf} (h:pa C s T x k=some (.h y q)):x.ab=[y]:=by
 unfold pa at h;split at h<;>try (cases h;done)
 split at h<;>try (cases h;done)
 split at h
 .split at h<;>try (cases h;done)
  split at h
  .rename_i ar;simp only[Option.some.injEq]at h;rw[h]at ar;exact absurd ar.2.2.2 (by simp[I.tree])
  .cases h
 .split at h<;>try (cases h;done)
  split at h<;>try (cases h;done)
  split at h<;>try (cases h;done)
  rename_i d an ar;by_cases ax:d.plain=true
  .simp only[ax,if_true,Option.some.injEq]at h;rw[h]at ar;exact absurd ar.2.2.2 (by simp[I.tree])
  .simp only[ax,Option.some.injEq]at h;injection h with ad af;subst ad;rfl
 .cases h
theorem UJ {k:Nat} (h:eN x.ab aH s):pa C aH T x k=pa C s T x k:=by
 unfold pa;split<;>try rfl
 split<;>try rfl
 cases x<;>first
  |rfl
  |(simp only[];rw[h _ (by simp[I.ab])])
theorem ad2 {k:Nat} (h:eN x.ab aH s):ex aH x k=ex s x k:=by
 cases x<;>first
  |rfl
  |(simp only[ex];rw[h _ (by simp[I.ab])])
theorem A1:∀(q:ayf) (a d e:I),I.sub q a=some d->(d.plain=false\/q≠[])->(q=[]->e.ab=[])->(I.put q e a).ab=[]:=by
 intro q a d e h ax he;cases q with
 |nil=>rw[I.put];exact he rfl
 |cons k q=>
  cases a<;>first
   |(simp[I.sub]at h;done)
   |skip
  all_goals
   unfold I.put
   repeat' split
   all_goals first|rfl|(simp_all;done)
end
def Loc {α:Type} (dU A2:ayf) (f:ak->Option (α×ak)) (s:ak) (av:α) (s1:ak):Prop:=
 ∃ms,s1=eR ms s/\(∀m∈ms,m.x∈A2/\m.d.ab=[])/\∀aH,eN dU aH s->f aH=some (av,eR ms aH)
theorem Loc.pure {α:Type} {dU A2:ayf} {f:ak->Option (α×ak)} {s:ak} {av:α} (h:∀aH,eN dU aH s->f aH=some (av,aH)):Loc dU A2 f s av s:=
 ⟨[],rfl,by simp,λaH ab=>h aH ab⟩
theorem Loc.mono {α:Type} {dU A2 UK UL:ayf} {f:ak->Option (α×ak)} {s s1:ak} {av:α} (h:Loc dU A2 f s av s1) (tH:∀u∈dU,u∈UK) (ld:∀u∈A2,u∈UL):Loc UK UL f s av s1:=by
 obtain⟨ms,ad,af,aG⟩:=h;exact⟨ms,ad,λm hm=>⟨ld _ (af m hm).1,(af m hm).2⟩,λaH ab=>aG aH (ab.sub tH)⟩
section
variable {C:cm} {s s1:ak} {x y d:I} {T A B:TypeId}
theorem vk (h:dG s x=some (d,s1)):Loc x.ab x.ab (λs=>dG s x) s d s1:=by
 cases x with
 |h y q=>
  simp only[dG]at h;split at h
  .rename_i e he;split at h
   .cases h
   .rename_i ax;simp only[Option.some.injEq,Prod.mk.injEq]at h;obtain⟨rfl,rfl⟩:=h;have ax:e.plain=false:=by simpa using ax
    refine⟨[⟨.cJ,y,I.put q e.dY (s y)⟩],yR _ _ _,?_,?_⟩
    .intro m hm;simp only[mem_singleton]at hm;subst hm;refine⟨by simp[I.ab],A1 q _ _ _ he (.inl ax) λcy=>?_⟩;subst cy;cases e<;>first|(simp[I.plain]at ax;done)|rfl
    .intro aH ab;have aP:aH y=s y:=ab y (by simp[I.ab]);simp only[dG,aP,he,ax];rw[<-yR];rfl
  .cases h
 |ax y q=>simp[dG]at h
 |aa y q=>simp[dG]at h
 |fn f c=>simp[dG]at h
 |hole=>simp[dG]at h
 |_=>
  simp only[dG,Option.some.injEq,Prod.mk.injEq]at h;obtain⟨rfl,rfl⟩:=h;exact .pure λaH _=>rfl
mutual
theorem UM (x:Nat):∀a:I,∀u∈(cJ x a).ab,u∈a.ab
 | .h y q,u,h=>by
   simp only[cJ]at h;split at h
   .split at h
    .exact h
    .simp[I.ab]at h
   .exact h
 | .ax y q,u,h=>by
   simp only[cJ]at h;split at h
   .simp[I.ab]at h
   .exact h
 | .aa y q,u,h=>h
 | .fn f cap,u,h=>by simp only[cJ,I.ab]at h⊢;exact UN x cap u h
 | .hole,u,h=>h
 | .bool _,u,h=>h
 | .gn,u,h=>h
 | .int _ _,u,h=>h
 | .str _,u,h=>h
 | .er,u,h=>h
 | .bg,u,h=>h
 | .slice _,u,h=>h
 | .ag _ _,u,h=>h
 | .ref _,u,h=>h
 | .aS _,u,h=>h
 | .agg _,u,h=>h
 | .tuple _,u,h=>h
theorem UN (x:Nat):∀ds:ayk,∀u∈I.e3 (kC x ds),u∈I.e3 ds
 |[],u,h=>h
 |d::ds,u,h=>by
  simp only[kC,I.e3,mem_append]at h⊢;exact h.imp (UM x d u) (UN x ds u)
end
theorem MQ (o:Option Nat) (a:I):∀u∈(ng o a).ab,u∈a.ab:=by
 intro u h;cases o with
 |none=>exact h
 |some x=>exact UM x a u h
theorem UO:∀(os:List (Option Nat)) (a:I),∀u∈(nE os a).ab,u∈a.ab:=by
 intro os;induction os with
 |nil=>intro a u h;exact h
 |cons o os ih=>intro a u h;exact MQ o a u (ih (ng o a) u h)
theorem UP {place:Nat->Option (Nat×Nat)}:∀{ps:ayj} {s s1:ak} {fs ds:ayk} {os:List (Option Nat)},eM place s fs os ps=some (ds,s1)->
  Loc (I.e3 (ps.map (·.2))) (I.e3 (ps.map (·.2))) (λs=>eM place s fs os ps) s ds s1:=by
 intro ps;induction ps with
 |nil=>
  intro s s1 fs ds os h;simp only[eM,Option.some.injEq,Prod.mk.injEq]at h;obtain⟨rfl,rfl⟩:=h;exact .pure λaH _=>rfl
 |cons p ps ih=>
  intro s s1 fs ds os h;obtain⟨k,a⟩:=p;simp only[eM]at h;split at h
  .rename_i d s2 off n z ba fI b8;split at h
   .cases h
   .rename_i bJ nG;split at h
    .rename_i ar;obtain⟨so,rfl,af,aG⟩:=vk ba;obtain⟨xb,rfl,bU,dc⟩:=ih h;refine⟨so++xb,(pf _ _ _).symm,?_,?_⟩
     .intro m hm;simp only[map_cons,I.e3,mem_append]at hm⊢;rcases hm with hm|hm
      .exact⟨.inl (UO _ _ _ (af m hm).1),(af m hm).2⟩
      .exact⟨.inr (bU m hm).1,(bU m hm).2⟩
     .intro aH ab;simp only[map_cons,I.e3]at ab;have aP:=aG aH (ab.left.sub (UO _ _));have aY:=dc (eR so aH) (ab.right.eR so);simp only at aP aY;simp only[eM,aP,fI,b8,pf];rw[if_pos ar];exact aY
    .cases h
  .cases h
theorem ad3 {ps:ayj} {av:I} (h:gz C s T ps=some (av,s1)):Loc (I.e3 (ps.map (·.2))) (I.e3 (ps.map (·.2))) (λs=>gz C s T ps) s av s1:=by
 unfold gz at h;split at h
 .rename_i aF fs au b8;split at h
  .rename_i ar;split at h
   .rename_i ds s2 bD;simp only[Option.some.injEq,Prod.mk.injEq]at h;obtain⟨rfl,rfl⟩:=h;obtain⟨ms,ad,af,aG⟩:=UP bD;refine⟨ms,ad,af,λaH ab=>?_⟩;have:=aG aH ab;simp only at this;simp only[gz,au,b8,if_pos ar,this]
   .cases h
  .cases h
 .cases h
theorem ad4 {n:Nat} {ps:ayj} {av:I} (h:dW C s T n ps=some (av,s1)):Loc (I.e3 (ps.map (·.2))) (I.e3 (ps.map (·.2))) (λs=>dW C s T n ps) s av s1:=by
 unfold dW at h;split at h
 .rename_i e au;split at h
  .rename_i ar;split at h
   .rename_i ds s2 bD;simp only[Option.some.injEq,Prod.mk.injEq]at h;obtain⟨rfl,rfl⟩:=h;obtain⟨ms,ad,af,aG⟩:=UP bD;refine⟨ms,ad,af,λaH ab=>?_⟩;have:=aG aH ab;simp only at this;simp only[dW,au,if_pos ar,this]
   .cases h
  .cases h
 .cases h
theorem ad5 {av:I} (h:ij s x=some (av,s1)):Loc x.ab x.ab (λs=>ij s x) s av s1:=by
 unfold ij at h;split at h
 .cases h
 .rename_i d s2 nG ba;simp only[Option.some.injEq,Prod.mk.injEq]at h;obtain⟨rfl,rfl⟩:=h;obtain⟨ms,ad,af,aG⟩:=vk ba;refine⟨ms,ad,af,λaH ab=>?_⟩;have:=aG aH ab;simp only at this;simp only[ij,this]
 .cases h
theorem ad6 {av:I} (h:l0 s x=some (av,s1)):Loc x.ab [] (λs=>l0 s x) s av s1:=by
 unfold l0 at h;split at h
 .rename_i y q;split at h
  .rename_i ds qe;split at h
   .cases h
   .rename_i D0;simp only[Option.some.injEq,Prod.mk.injEq]at h;obtain⟨rfl,rfl⟩:=h;refine .pure λaH ab=>?_;have e:aH y=s y:=ab y (by simp[I.ab]);simp only[l0,e,qe,if_neg D0]
  .cases h
 .split at h
  .rename_i ar;simp only[Option.some.injEq,Prod.mk.injEq]at h;obtain⟨rfl,rfl⟩:=h;exact .pure λaH ab=>by simp only[l0,ar,if_true]
  .cases h
 .cases h
theorem ad7 {s2:ak} (h:kR C s T x y=some s2):Loc (x.ab++y.ab) (x.ab++y.ab) (λs=>(kR C s T x y).map λs1=>(I.hole,s1)) s .hole s2:=by
 unfold kR at h;split at h
 .rename_i d s1 z q ba hl;obtain⟨ms,ad,af,aG⟩:=vk ba;have b8:=MP hl;have cy:q≠[]:=by
   cases x with
   |h y p=>
    simp only[loc]at hl;split at hl
    .simp only[Option.some.injEq,Prod.mk.injEq]at hl;simp[<-hl.2]
    .cases hl
   |ax y p=>
    simp only[loc]at hl;split at hl
    .rename_i sb;simp only[Option.some.injEq,Prod.mk.injEq]at hl;obtain⟨rfl,rfl⟩:=hl;intro e;subst e;simp[I.gC]at sb
    .cases hl
   |_=>simp[loc]at hl
  split at h
  .cases h
  .rename_i bJ nG;split at h
   .rename_i d0 nB;split at h
    .rename_i ar;simp only[Option.some.injEq]at h;subst h;refine⟨ms++[⟨.cJ,z,I.put q d (s z)⟩],?_,?_,?_⟩
     .rw[pf,<-ad,yR]
     .intro m hm;simp only[mem_append,mem_singleton]at hm⊢;rcases hm with hm|rfl
      .exact⟨.inr (af m hm).1,(af m hm).2⟩
      .exact⟨.inl b8,A1 q _ _ _ nB (.inr cy) λe=>(cy e).elim⟩
     .intro aH ab;have aP:=aG aH ab.right;simp only at aP;simp only[kR,aP,MO ab.left,hl,ab.left z b8,nB];cases d<;>first|(simp only[if_pos ar,Option.map_some,pf,yR];done)|exact(nG _ rfl).elim
    .cases h
   .cases h
 .cases h
theorem ad8 {fP aj:Option I} {av:I} (h:iP C s T x fP aj=some (av,s1)):Loc x.ab x.ab (λs=>iP C s T x fP aj) s av s1:=by
 cases x with
 |h y q=>
  unfold iP at h;split at h<;>first|(cases h;done)|skip
  all_goals (rename_i ao;try cases ao)
  rename_i e au;split at h
  .rename_i sz xs fU;split at h
   .rename_i b qY qZ;split at h
    .rename_i ar;split at h
     .rename_i d s2 ba;simp only[Option.some.injEq,Prod.mk.injEq]at h;obtain⟨rfl,rfl⟩:=h;obtain⟨ms,ad,af,aG⟩:=vk ba;refine⟨ms,ad,af,λaH ab=>?_⟩;have:=aG aH ab;simp only at this;have aP:aH y=s y:=ab y (by simp[I.ab]);simp only[iP,au,aP,fU,qY,qZ,if_pos ar,this]
     .cases h
    .cases h
   .cases h
  .cases h
 |_=>
  have vl:s1=s:=by
   unfold iP at h
   repeat' split at h
   all_goals first|(cases h;done)|(simp only[Option.some.injEq,Prod.mk.injEq]at h;exact h.2.symm)|simp_all
  subst vl;refine .pure λaH _=>?_;unfold iP at h⊢
  repeat' split at h
  all_goals first
   |(cases h;done)
   |(simp only[Option.some.injEq,Prod.mk.injEq]at h
     obtain⟨rfl,_⟩:=h;simp_all)
def tL (C:cm) (e:TypeId) (s:ak):I->Option (I×ak)
 | .bg=>some (I.ag (C.T e).sz [],s)
 | .h a q=>dG s (.h a q)
 |_=>none
def n4 (s1:ak):I->Option (ayk×ak)
 | .bg=>some ([],s1)
 | .slice cP=>some (cP,s1)
 | .str l=>some (l.map i_,s1)
 | .h a q=>match dG s1 (.h a q)with
   |some (.ag _ cP,s2)=>some (cP,s2)
   |_=>none
 |_=>none
theorem MR (C:cm) (s:ak) (T dU:TypeId) (x y:I):vj C s T dU x y=(match(C.T T).k with
 | .slice e=>if(C.T e).ok=true/\(C.T e).zero.wd=(C.T e).sz/\(flat (C.T e).zero).isSome=true/\H9 C e dU=true then
   match tL C e s x with
   |some (.ag sz xs,s1)=>if sz=(C.T e).sz then
     match n4 s1 (ng x.owner y)with
     |some (cP,s2)=>if(∀d∈cP,d.wd=(C.T e).sz)/\(xs.length+cP.length)*(C.T e).bytes<=140737488355328/\xs.length+cP.length<=9223372036854775807 then some (.ag sz (xs++cP),s2)else none
     |none=>none
    else none
   |_=>none
   else none
 |_=>none):=by
 unfold vj;generalize ng x.owner y=nZ;cases(C.T T).k<;>first
  |rfl
  |(cases x<;>cases nZ<;>rfl)
theorem ad9 {e:TypeId} {d:I} (ad:tL C e s x=some (d,s1)):Loc x.ab x.ab (λs=>tL C e s x) s d s1:=by
 cases x with
 |bg=>
  simp only[tL,Option.some.injEq,Prod.mk.injEq]at ad;obtain⟨ad,rfl⟩:=ad;exact .pure λaH _=>by simp only[tL,ad]
 |h a q=>exact vk ad
 |_=>simp[tL]at ad
theorem ad_ {cP:ayk} (af:n4 s y=some (cP,s1)):Loc y.ab y.ab (λs=>n4 s y) s cP s1:=by
 cases y with
 |bg=>
  simp only[n4,Option.some.injEq,Prod.mk.injEq]at af;obtain⟨rfl,rfl⟩:=af;exact .pure λaH _=>rfl
 |slice cP=>
  simp only[n4,Option.some.injEq,Prod.mk.injEq]at af;obtain⟨rfl,rfl⟩:=af;exact .pure λaH _=>rfl
 |str l=>
  simp only[n4,Option.some.injEq,Prod.mk.injEq]at af;obtain⟨rfl,rfl⟩:=af;exact .pure λaH _=>rfl
 |h a q=>
  simp only[n4]at af;split at af
  .rename_i ado awo mN ba;simp only[Option.some.injEq,Prod.mk.injEq]at af;obtain⟨rfl,rfl⟩:=af;obtain⟨ms,g1,g2,g3⟩:=vk ba;refine⟨ms,g1,g2,λaH ab=>?_⟩;have:=g3 aH ab;simp only at this;simp only[n4,this]
  .cases af
 |_=>simp[n4]at af
theorem aea {av:I} (h:vj C s T A x y=some (av,s1)):Loc (x.ab++y.ab) (x.ab++y.ab) (λs=>vj C s T A x y) s av s1:=by
 rw[MR]at h;split at h
 .rename_i e au;split at h
  .rename_i ar;split at h
   .rename_i sz xs s2 ad;split at h
    .rename_i fj;split at h
     .rename_i cP pg af;split at h
      .rename_i lf;simp only[Option.some.injEq,Prod.mk.injEq]at h;obtain⟨rfl,rfl⟩:=h;obtain⟨so,rfl,a2,a3⟩:=ad9 ad;obtain⟨xb,rfl,fV,gd⟩:=(ad_ af).mono (MQ _ _) (MQ _ _);refine⟨so++xb,(pf _ _ _).symm,?_,?_⟩
       .intro m hm;simp only[mem_append]at hm⊢;rcases hm with hm|hm
        .exact⟨.inl (a2 m hm).1,(a2 m hm).2⟩
        .exact⟨.inr (fV m hm).1,(fV m hm).2⟩
       .intro aH ab;have aP:=a3 aH ab.left;have aY:=gd (eR so aH) (ab.right.eR so);simp only at aP aY;simp only[MR,au,if_pos ar,aP,if_pos fj,aY,if_pos lf,pf]
      .cases h
     .cases h
    .cases h
   .cases h
  .cases h
 .cases h
theorem aeb {aH:ak} {i:I} (h:eN x.ab aH s):jH C aH T x i=jH C s T x i:=by
 cases x with
 |h y q=>cases i<;>simp only[jH,h y (by simp[I.ab])]
 |_=>rfl
theorem aec {i v:I} {s2:ak} (h:kU C s T x i v=some s2):Loc x.ab x.ab (λs=>(kU C s T x i v).map λs1=>(I.hole,s1)) s .hole s2:=by
 unfold kU at h;split at h
 .rename_i y q k b;split at h
  .rename_i m an;split at h
   .rename_i ld;simp only[Option.some.injEq]at h;subst h;refine⟨[⟨.cJ,y,I.put q (.cc (.mp (kh k b m))) (s y)⟩],yR _ _ _,?_,λaH ab=>?_⟩
    .intro n aV;simp only[mem_singleton]at aV;subst aV;exact⟨by simp[I.ab],A1 q _ _ _ an (.inl rfl) λ_=>rfl⟩
    .have aP:aH y=s y:=ab y (by simp[I.ab]);simp only[kU,aP,an,ld,if_true,Option.map_some];rw[<-yR]
   .cases h
  .cases h
 .cases h
theorem UQ {bX:e2} {av:I} (h:cf C s bX=some (av,s1)):Loc (use s bX) (l4 s bX) (λs=>cf C s bX) s av s1:=by
 cases bX with
 |shr bX=>simp[cf]at h
 |mM f args L=>simp[cf]at h
 |pe x=>
  simp only[cf]at h;unfold tJ at h;split at h
  .rename_i y q ao;obtain⟨ms,ad,af,aG⟩:=vk h;refine⟨ms,ad,by simpa only[l4,ao]using af,λaH ab=>?_⟩;have e:=bz.gE (x:=x) ab;have aY:=aG aH (by rw[<-ao];exact eN.bu ab);simp only[cf,e,ao,tJ];exact aY
  .rename_i UR;simp only[Option.some.injEq,Prod.mk.injEq]at h;obtain⟨rfl,rfl⟩:=h;refine .pure λaH ab=>?_;have e:=bz.gE (x:=x) ab;simp only[cf,e,tJ]
 |pK x=>
  simp only[cf,Option.some.injEq,Prod.mk.injEq]at h;obtain⟨rfl,rfl⟩:=h;exact .pure λaH ab=>by simp only[cf,bz.gE (x:=x) ab]
 |l0 T x=>
  obtain⟨ms,ad,af,aG⟩:=ad6 h;refine⟨ms,ad,af,λaH ab=>?_⟩;simp only[cf,bz.gE (x:=x) ab];exact aG aH (eN.bu ab)
 |bad=>simp[cf]at h
 |kF fq x y=>
  simp only[cf,Option.map_eq_some_iff,Prod.mk.injEq]at h;obtain⟨d,an,rfl,rfl⟩:=h;exact .pure λaH ab=>by
   simp only[use]at ab;simp only[cf,bz.gE (x:=x) ab.left,bz.gE (x:=y) ab.right,an,Option.map_some]
 |cap T x=>
  simp only[cf]at h;split at h
  .rename_i e au ao;simp only[Option.some.injEq,Prod.mk.injEq]at h;obtain⟨rfl,rfl⟩:=h;exact .pure λaH ab=>by simp only[cf,bz.gE (x:=x) ab,au,ao]
  .cases h
 |gM x=>
  simp only[cf,Option.some.injEq,Prod.mk.injEq]at h;obtain⟨rfl,rfl⟩:=h;exact .pure λaH ab=>by simp only[cf,bz.gE (x:=x) ab]
 |hO x=>
  simp only[cf]at h;split at h
  .rename_i y q ao;obtain⟨ms,ad,af,aG⟩:=vk h;refine⟨ms,ad,by simpa only[l4,ao]using af,λaH ab=>?_⟩;have e:=bz.gE (x:=x) ab;have aY:=aG aH (by rw[<-ao];exact eN.bu ab);simp only[cf,e,ao];exact aY
  .rename_i UR;simp only[Option.some.injEq,Prod.mk.injEq]at h;obtain⟨rfl,rfl⟩:=h;refine .pure λaH ab=>?_;have e:=bz.gE (x:=x) ab;simp only[cf,e]
 |pick c a b=>
  simp only[cf]at h;split at h
  .rename_i gL aa;simp only[Option.some.injEq,Prod.mk.injEq]at h;obtain⟨rfl,rfl⟩:=h;refine .pure λaH ab=>?_;simp only[use]at ab;simp only[cf,bz.gE (x:=c) ab.left,bz.gE (x:=a) ab.right.left,bz.gE (x:=b) ab.right.right,aa]
  .cases h
 |mL T=>
  simp only[cf,Option.map_eq_some_iff,Prod.mk.injEq]at h;obtain⟨d,an,rfl,rfl⟩:=h;exact .pure λaH ab=>by simp only[cf,an,Option.map_some]
 |ij T x=>
  obtain⟨ms,ad,af,aG⟩:=ad5 h;refine⟨ms,ad,af,λaH ab=>?_⟩;simp only[cf,bz.gE (x:=x) ab];exact aG aH (eN.bu ab)
 |gz T ps=>
  obtain⟨ms,ad,af,aG⟩:=ad3 h;simp only[List.map_map,Function.comp_def]at af aG;refine⟨ms,ad,af,λaH ab=>?_⟩;simp only[cf,bz.MN (ps:=ps) ab];refine aG aH (ab.sub λu hu=>?_);simp only[use];exact bz.Ig u (by simpa [List.map_map,Function.comp_def]using hu)
 |dW T n ps=>
  obtain⟨ms,ad,af,aG⟩:=ad4 h;simp only[List.map_map,Function.comp_def]at af aG;refine⟨ms,ad,af,λaH ab=>?_⟩;simp only[cf,bz.MN (ps:=ps) ab];refine aG aH (ab.sub λu hu=>?_);simp only[use];exact bz.Ig u (by simpa [List.map_map,Function.comp_def]using hu)
 |fS T x=>
  simp only[cf,Option.map_eq_some_iff,Prod.mk.injEq]at h;obtain⟨d,an,rfl,rfl⟩:=h;exact .pure λaH ab=>by simp only[cf,bz.gE (x:=x) ab,adS (eN.bu ab),an,Option.map_some]
 |kR T x y=>
  simp only[cf,Option.map_eq_some_iff,Prod.mk.injEq]at h;obtain⟨s2,an,rfl,rfl⟩:=h;obtain⟨ms,ad,af,aG⟩:=ad7 an;refine⟨ms,ad,af,λaH ab=>?_⟩;simp only[use]at ab;simp only[cf,bz.gE (x:=x) ab.left,bz.gE (x:=y) ab.right];exact aG aH (ab.sub λu hu=>by simp only[mem_append]at hu⊢;exact hu.imp (bz.yS u) (bz.yS u))
 |mm x=>
  simp only[cf,Option.map_eq_some_iff,Prod.mk.injEq]at h;obtain⟨d,an,rfl,rfl⟩:=h;exact .pure λaH ab=>by simp only[cf,bz.gE (x:=x) ab,ad0 (eN.bu ab),an,Option.map_some]
 |eL op T x y=>
  simp only[cf,Option.map_eq_some_iff,Prod.mk.injEq]at h;obtain⟨d,an,rfl,rfl⟩:=h;refine .pure λaH ab=>?_;simp only[use]at ab;simp only[cf,bz.gE (x:=x) ab.left,bz.gE (x:=y) ab.right,adZ (eN.bu ab.left),an,Option.map_some]
 |un op x=>
  simp only[cf,Option.map_eq_some_iff,Prod.mk.injEq]at h;obtain⟨d,an,rfl,rfl⟩:=h;exact .pure λaH ab=>by simp only[cf,bz.gE (x:=x) ab,an,Option.map_some]
 |kT A B x=>
  simp only[cf,Option.map_eq_some_iff,Prod.mk.injEq]at h;obtain⟨d,an,rfl,rfl⟩:=h;exact .pure λaH ab=>by simp only[cf,bz.gE (x:=x) ab,adW (eN.bu ab),an,Option.map_some]
 |pJ f cs=>
  simp only[cf,Option.some.injEq,Prod.mk.injEq]at h;obtain⟨rfl,rfl⟩:=h;exact .pure λaH ab=>by simp only[cf,bz.MM (xs:=cs) ab]
 |fF T l c=>
  simp only[cf,Option.map_eq_some_iff,Prod.mk.injEq]at h;obtain⟨d,an,rfl,rfl⟩:=h;refine .pure λaH ab=>?_;simp only[use]at ab;simp only[cf,bz.gE (x:=l) ab.left,bz.gE (x:=c) ab.right,an,Option.map_some]
 |iP T x fP aj=>
  simp only[cf]at h;obtain⟨ms,ad,af,aG⟩:=ad8 h;refine⟨ms,ad,af,λaH ab=>?_⟩;simp only[use]at ab;simp only[cf,bz.gE (x:=x) ab.left,UI ab.right.left,UI ab.right.right];exact aG aH (eN.bu ab.left)
 |hU T x k=>
  simp only[cf,Option.map_eq_some_iff,Prod.mk.injEq]at h;obtain⟨d,an,rfl,rfl⟩:=h;exact .pure λaH ab=>by simp only[cf,bz.gE (x:=x) ab,adT (eN.bu ab),an,Option.map_some]
 |kD T x i=>
  simp only[cf,Option.map_eq_some_iff,Prod.mk.injEq]at h;obtain⟨d,an,rfl,rfl⟩:=h;refine .pure λaH ab=>?_;simp only[use]at ab;simp only[cf,bz.gE (x:=x) ab.left,bz.gE (x:=i) ab.right,adU (eN.bu ab.left),an,Option.map_some]
 |idx T x i=>
  simp only[cf,Option.map_eq_some_iff,Prod.mk.injEq]at h;obtain⟨d,an,rfl,rfl⟩:=h;refine .pure λaH ab=>?_;simp only[use]at ab;simp only[cf,bz.gE (x:=x) ab.left,bz.gE (x:=i) ab.right,an,Option.map_some]
 |ex x k=>
  simp only[cf,Option.map_eq_some_iff,Prod.mk.injEq]at h;obtain⟨d,an,rfl,rfl⟩:=h;exact .pure λaH ab=>by simp only[cf,bz.gE (x:=x) ab,ad2 (eN.bu ab),an,Option.map_some]
 |sj=>
  simp only[cf,Option.some.injEq,Prod.mk.injEq]at h;obtain⟨rfl,rfl⟩:=h;exact .pure λaH ab=>rfl
 |jH T x i=>
  simp only[cf,Option.map_eq_some_iff,Prod.mk.injEq]at h;obtain⟨d,an,rfl,rfl⟩:=h;refine .pure λaH ab=>?_;simp only[use]at ab;simp only[cf,bz.gE (x:=x) ab.left,bz.gE (x:=i) ab.right,aeb (eN.bu ab.left),an,Option.map_some]
 |kU T x i v=>
  simp only[cf,Option.map_eq_some_iff,Prod.mk.injEq]at h;obtain⟨s2,an,rfl,rfl⟩:=h;obtain⟨ms,ad,af,aG⟩:=aec an;refine⟨ms,ad,af,λaH ab=>?_⟩;simp only[use]at ab;simp only[cf,bz.gE (x:=x) ab.left,bz.gE (x:=i) ab.right.left,bz.gE (x:=v) ab.right.right];exact aG aH (eN.bu ab.left)
 |pa T x k=>
  simp only[cf,Option.bind_eq_some_iff]at h;obtain⟨d,an,h⟩:=h;unfold tJ at h;split at h
  .rename_i y q;have ao:=ad1 an;obtain⟨ms,ad,af,aG⟩:=vk h;refine⟨ms,ad,by simpa only[l4,ao,I.ab]using af,λaH ab=>?_⟩;have aY:=aG aH (by rw[show(I.h y q).ab=(bu s x).ab from ao.symm];exact eN.bu ab);simp only[cf,bz.gE (x:=x) ab,UJ (eN.bu ab),an,Option.bind_some,tJ];exact aY
  .rename_i UR;simp only[Option.some.injEq,Prod.mk.injEq]at h;obtain⟨rfl,rfl⟩:=h;refine .pure λaH ab=>?_;simp only[cf,bz.gE (x:=x) ab,UJ (eN.bu ab),an,Option.bind_some,tJ]
 |call f args=>simp[cf]at h
 |len T x=>
  simp only[cf,Option.map_eq_some_iff,Prod.mk.injEq]at h;obtain⟨d,an,rfl,rfl⟩:=h;exact .pure λaH ab=>by simp only[cf,bz.gE (x:=x) ab,adV (eN.bu ab),an,Option.map_some]
 |app T dU x y=>
  obtain⟨ms,ad,af,aG⟩:=aea h;refine⟨ms,ad,af,λaH ab=>?_⟩;simp only[use]at ab;simp only[cf,bz.gE (x:=x) ab.left,bz.gE (x:=y) ab.right];exact aG aH (ab.sub λu hu=>by simp only[mem_append]at hu⊢;exact hu.imp (bz.yS u) (bz.yS u))
end
def I.one:I->Bool
 | .agg _=>false
 | .tuple _=>false
 |_=>true
mutual
def view (s:ak):I->Option I
 | .h x q=>match I.sub q (s x)with
   |some d=>(match d with| .tuple _=>none| .cc _=>none|d=>if d.plain then none else some d.share)
   |none=>none
 | .ax x q=>if I.gC q (s x)then(match I.sub q (s x)with
   |some d=>(match d with| .tuple _=>none|d=>some (.ref d.share))
   |none=>none)else none
 | .aa _ _=>none
 | .fn f cap=>(views s cap).map (.fn f)
 | .hole=>none
 |d=>some d
def views (s:ak):ayk->Option ayk
 |[]=>some []
 |d::ds=>match view s d,views s ds with
  |some a,some b=>some (a::b)
  |_,_=>none
end
mutual
theorem MS:∀d:I,d.share.plain=true
 | .hole=>rfl
 | .bool _=>rfl
 | .gn=>rfl
 | .int _ _=>rfl
 | .str _=>rfl
 | .er=>rfl
 | .bg=>rfl
 | .slice _=>rfl
 | .ag _ _=>rfl
 | .ref _=>rfl
 | .aS _=>rfl
 | .agg aF=>by simp only[I.share,I.plain];exact MT aF
 | .tuple aF=>by simp only[I.share,I.plain];exact MT aF
 | .fn _ _=>rfl
 | .h _ _=>rfl
 | .ax _ _=>rfl
 | .aa _ _=>rfl
 | .cc _=>rfl
theorem MT:∀ds:ayk,I.e5 (I.shares ds)=true
 |[]=>rfl
 |d::ds=>by simp only[I.shares,I.e5];rw[MS d,MT ds];rfl
end
theorem aed {s:ak} {a d:I} (h:a.plain=true) (he:view s a=some d):d.plain=true:=by
 cases a with
 |h x q=>
  simp only[view]at he;split at he
  .rename_i e fU;cases e<;>simp only at he<;>first
    |(cases he;done)
    |(split at he
      .cases he
      .simp only[Option.some.injEq]at he;subst he;exact MS _)
  .cases he
 |ax x q=>
  simp only[view]at he;split at he
  .split at he
   .rename_i e fU;cases e<;>simp only at he<;>first
     |(cases he;done)
     |(simp only[Option.some.injEq]at he;subst he;rfl)
   .cases he
  .cases he
 |fn f cap=>
  simp only[view,Option.map_eq_some_iff]at he;obtain⟨ds,_,rfl⟩:=he;rfl
 |hole=>simp[view]at he
 |aa y q=>simp[view]at he
 |_=>simp only[view,Option.some.injEq]at he;subst he;exact h
theorem MU {d:I} {v:Value} (ad:∀vs,d≠.tuple vs) (h:eY d v):eY d.share v:=by
 cases d<;>first|exact h|exact(ad _ rfl).elim
theorem aee (w:World):∀(q:ayf) (av d bJ:I) (cs dx:ayi) (a dt:Option (Nat×Nat)),I.sub q av=some d->bJ.wd=d.wd->et w q av cs a=some (d,dx,dt)->
  et w q (I.put q bJ av) cs a=some (bJ,dx,dt):=by
 intro q;induction q with
 |nil=>
  intro av d bJ cs dx a dt an hw h;simp only[et,Option.some.injEq,Prod.mk.injEq]at h;obtain⟨rfl,rfl,rfl⟩:=h;simp only[I.put,et]
 |cons k q ih=>
  intro av d bJ cs dx a dt an hw h;cases av with
  |agg aF=>
   simp only[I.sub]at an;split at an
   .rename_i x ao;have au:k<aF.length:=(List.getElem?_eq_some_iff.1 ao).1;simp only[et,ao]at h;simp only[I.put,ao,et];rw[getElem?_set_self au];simp only[take_set_of_le (Nat.le_refl k),I.AH q x d bJ an hw];exact ih _ _ _ _ _ _ _ an hw h
   .cases an
  |tuple aF=>
   simp only[I.sub]at an;split at an
   .rename_i x ao;have au:k<aF.length:=(List.getElem?_eq_some_iff.1 ao).1;simp only[et,ao]at h;simp only[I.put,ao,et];rw[getElem?_set_self au];simp only[take_set_of_le (Nat.le_refl k),I.AH q x d bJ an hw];exact ih _ _ _ _ _ _ _ an hw h
   .cases an
  |ag sz aF=>
   simp only[I.sub]at an;split at an
   .rename_i x ao;have au:k<aF.length:=(List.getElem?_eq_some_iff.1 ao).1;have nD:(aF.set k (I.put q bJ x))[k]? =some (I.put q bJ x):=getElem?_set_self au;simp only[I.put,ao];rw[et.eq_def]at h⊢;simp only[ao]at h;simp only;rw[nD];split at h
    .rename_i aP;simp only[Option.some.injEq]at aP;subst aP;exact ih _ _ _ _ _ _ _ an hw h
    .cases h
   .cases an
  |aS x=>
   cases k with
   |zero=>
    simp only[I.sub]at an;rw[et.eq_def]at h⊢;simp only at h;simp only[I.put];split at h
    .rw[I.AH q x d bJ an hw];exact ih _ _ _ _ _ _ _ an hw h
    .cases h
   |succ k=>simp[I.sub]at an
  |_=>simp[I.sub]at an
section
variable {w0 w aN:World} {F0 X F Fc:Nat->Prop} {S:Nat->Nat->Prop} {s aH:ak} {aI mI:Nat->Value}
theorem aef (h:cb w0 F0 X F S s aI w) (bE:∀b,F b->Fc b):∀n,
  (∀(a:I) (v:Value) (d:I),SizeOf.sizeOf a<=n->(∀t∈a.ab,∀b,S t b->Fc b)->view s a=some d->aO w F s aI a v (λ_=>False)->aO w Fc aH mI d v (λ_=>False))/\
  (∀(as:ayk) (vs:ayi) (ds:ayk),SizeOf.sizeOf as<=n->(∀t∈I.e3 as,∀b,S t b->Fc b)->views s as=some ds->e_ w F s aI as vs->e_ w Fc aH mI ds vs):=by
 intro n;induction n with
 |zero=>exact⟨λa _ _ b8=>by cases a<;>simp at b8<;>omega,λas _ _ b8=>by cases as<;>simp at b8<;>omega⟩
 |succ n ih=>
  refine⟨λa v d b8 cj he aJ=>?_,λas vs ds b8 cj he aJ=>?_⟩
  .cases a with
   |h x q=>
    simp only[view]at he;split at he
    .rename_i e fU;have key:(∀aF,e≠.tuple aF)/\e.plain=false/\d=e.share/\∀o,e≠.cc o:=by
      cases e<;>simp only at he<;>first
       |(cases he;done)
       |(split at he
         .cases he
         .rename_i fI;simp only[Option.some.injEq]at he;exact⟨(λ_ h=>by cases h),by simpa using fI,he.symm,λ_ h=>by cases h⟩)
     obtain⟨nG,fI,rfl,nA⟩:=key;rw[aO]at aJ;obtain⟨dx,dt,g1,g2,g3⟩:=aJ e fU fI;have ba:=jy fU (.inl fI);have ao:=(aO.dh ba).1 (h.el x);obtain⟨hb,a2,fi,gp,k0,bS,ct,dT,ed,eQ⟩:=ctx q (s x) (cT (aI x)) (S x) none e ao.2 fU;rw[g1]at k0;simp only[Option.some.injEq,Prod.mk.injEq,true_and]at k0;obtain⟨rfl,rfl⟩:=k0;have DU:e.share.tree=true:=by cases e<;>first|rfl|(simp[I.plain]at fI;done)|exact(nA _ rfl).elim
     have aQ:=aB.shared bE e dx gp (λb aa=>cj x (by simp[I.ab]) b (ct b aa)) ed;exact(aO.dh DU).2 ⟨MU nG g3,by rw[g2];exact aQ⟩
    .cases he
   |ax x q=>
    simp only[view]at he;split at he
    .rename_i sb;split at he
     .rename_i e fU;have key:(∀aF,e≠.tuple aF)/\d= .ref e.share:=by
       cases e<;>simp only at he<;>first
        |(cases he;done)
        |(simp only[Option.some.injEq]at he;exact⟨(λ_ h=>by cases h),he.symm⟩)
      obtain⟨nG,rfl⟩:=key;rw[aO]at aJ;obtain⟨dx,b,o,g1,rfl⟩:=aJ e fU sb;have ba:=jy fU (.inr sb);have ao:=(aO.dh ba).1 (h.el x);obtain⟨hb,a2,fi,gp,k0,bS,ct,dT,ed,eQ⟩:=ctx q (s x) (cT (aI x)) (S x) none e ao.2 fU;rw[g1]at k0;simp only[Option.some.injEq,Prod.mk.injEq,true_and]at k0;obtain⟨rfl,rfl⟩:=k0;have aQ:=aB.shared bE e dx gp (λb aa=>cj x (by simp[I.ab]) b (ct b aa)) ed;rcases eQ with⟨l,r,_,aY,_⟩|⟨gL,cur,ty,fr,l,r,aP,aY,aU,b4,cM,_⟩
      .simp at aY
      .simp only[Option.some.injEq,Prod.mk.injEq]at aP;obtain⟨rfl,rfl⟩:=aP;refine(aO.dh rfl).2 ⟨rfl,?_⟩;rw[aB];refine⟨b,l.length,dx,rfl,cj x (by simp[I.ab]) b (bS b aY),?_,aQ⟩;intro j c bF;simp only[World.cell?,aU];have ar:cur[l.length+j]? =some c:=by
        rw[<-Array.getElem?_toList,cM,getElem?_append_right (by omega),getElem?_append_left (by
         have:=(List.getElem?_eq_some_iff.1 bF).1;omega)]
        rw[<-bF];congr 1;omega
       simpa using ar
     .cases he
    .cases he
   |fn f cap=>
    simp only[view,Option.map_eq_some_iff]at he;obtain⟨ds,lK,rfl⟩:=he;rw[aO]at aJ;obtain⟨arr,rfl,ar⟩:=aJ;rw[aO];exact⟨arr,rfl,ih.2 cap _ _ (by simp at b8;omega) (by simpa [I.ab]using cj) lK ar⟩
   |hole=>simp[view]at he
   |aa y q=>simp[view]at he
   |_=>
    simp only[view,Option.some.injEq]at he;subst he;have o7:=(aO.dh rfl).1 aJ;exact(aO.dh rfl).2 ⟨o7.1,aB.mono bE _ _ _ _ (λ_ h=>h) o7.2⟩
  .cases as with
   |nil=>
    simp only[views,Option.some.injEq]at he;subst he;rw[e_]at aJ⊢;exact aJ
   |cons a as=>
    simp only[views]at he;split at he
    .rename_i d ds ad af;simp only[Option.some.injEq]at he;subst he;rw[e_]at aJ⊢;obtain⟨v,lY,rfl,g1,g2⟩:=aJ;simp at b8;simp only[I.e3,mem_append]at cj;exact⟨v,lY,rfl,ih.1 a v d (by omega) (λt ba=>cj t (.inl ba)) ad g1,ih.2 as lY ds (by omega) (λt ba=>cj t (.inr ba)) af g2⟩
    .cases he
theorem cb.kG (h:cb w0 F0 X F S s aI w) {x:Nat} {q:ayf} {d0 bJ:I} {dx:ayi} {a:Option (Nat×Nat)} {Sn:Nat->Prop}
  (an:I.sub q (s x)=some d0) (bD:et w q (s x) (cT (aI x)) none=some (d0,dx,a)) (af:∀vs,bJ≠.tuple vs) (ba:q=[]->bJ.tree=true/\eY bJ (aI x))
  (aG:∀k p,q=k::p->(s x).tree=true/\(∀v,j3 d0 v->j3 bJ v)) (hw:bJ.wd=d0.wd)
  (aJ:aB w F bJ dx Sn) (eI:∀b,Sn b->b<w.heap.size) (bE:∀b,Sn b->¬F b) (cj:∀u b,Sn b->¬S u b) (a_:∀b,Sn b->X b\/w0.heap.size<=b):
  cb w0 F0 X F (hc S x (λb=>S x b\/Sn b)) (ei (oB x s) x (I.put q bJ (s x))) aI w:=by
 have fc:ei aI x (aI x)=aI:=by funext u;simp only[ei];split<;>simp_all
 have main:(I.put q bJ (s x)).tree=true/\eY (I.put q bJ (s x)) (aI x)/\aB w F (I.put q bJ (s x)) (cT (aI x)) (λb=>S x b\/Sn b):=by
  cases q with
  |nil=>
   simp only[et,Option.some.injEq,Prod.mk.injEq]at bD;obtain⟨aP,aY,aU⟩:=bD;obtain⟨g1,g2⟩:=ba rfl;simp only[I.put];refine⟨g1,?_,?_⟩
   .exact g2
   .rw[aY];exact aB.mono (λ_ h=>h) _ _ _ _ (λb aa=>.inr aa) aJ
  |cons k p=>
   obtain⟨g1,g2⟩:=aG k p rfl;have ao:=(aO.dh g1).1 (h.el x);obtain⟨hb,a2,fi,gp,k0,bS,ct,dT,ed,eQ⟩:=ctx (k::p) (s x) (cT (aI x)) (S x) none d0 ao.2 an;rw[bD]at k0;simp only[Option.some.injEq,Prod.mk.injEq,true_and]at k0;obtain⟨rfl,rfl⟩:=k0;refine⟨?_,?_,?_⟩
   .rcases w2 k p bJ (s x)with⟨aF,gs,aP,e⟩|⟨aF,gs,aP,e⟩|⟨sz,xs,cP,aP,e⟩|⟨y,z,aP,e⟩|e<;>rw[e]<;>first|rfl|exact g1
   .refine DQ ao.1 an g2 (λ_ vs e=>(af vs e).elim) hw
   .have mono:∀b,(fi b\/Sn b)->(S x b\/Sn b):=λb aa=>aa.imp (bS b) id;rcases eQ with⟨l,r,aP,aY,aU⟩|⟨b,cur,ty,fr,l,r,aP,aY,aU,b4,cM,cl⟩
    .rw[aP];exact aB.mono (λ_ h=>h) _ _ _ _ mono (aU w bJ dx Sn (λ_ _=>rfl) (λ_ _=>rfl) hw aJ (λb aa ar=>cj x b aa (bS b ar)))
    .refine aB.mono (λ_ h=>h) _ _ _ _ mono (cl w bJ dx Sn (λ_ _=>rfl) (λ_ _ _=>rfl) ?_ hw aJ (λb aa ar=>cj x b aa (bS b ar)));rw[aU,<-cM]
 have:=h.TA (t:=x) main.1 main.2.1 main.2.2 (by rintro b (aa|aa);exact h.fz x b aa;exact eI b aa) (by rintro b (aa|aa);exact h.gD x b aa;exact bE b aa)
  (by rintro u b d_ (aa|aa);exact λhu=>h.ga u x b d_ hu aa;exact cj u b aa) (by rintro b (aa|aa);exact h.eU x b aa;exact a_ b aa)
 rwa [fc]at this
end
mutual
def I.cX:I->Bool
 | .slice _=>false
 | .ref _=>false
 | .fn _ _=>false
 | .h _ _=>false
 | .ax _ _=>false
 | .aa _ _=>false
 | .ag _ xs=>I.hd xs
 | .aS d=>d.cX
 | .agg aF=>I.hd aF
 | .tuple aF=>I.hd aF
 |_=>true
def I.hd:ayk->Bool
 |[]=>true
 |d::ds=>d.cX&&I.hd ds
end
mutual
theorem aB.cX {w:World} {F ch:Nat->Prop}:∀(d:I) (cs:ayi) (S:Nat->Prop),d.cX=true->aB w F d cs S->aB w ch d cs S
 | .hole,_,_,_,h=>h
 | .bool _,_,_,_,h=>h
 | .gn,_,_,_,h=>h
 | .int _ _,_,_,_,h=>h
 | .str _,_,_,_,h=>h
 | .er,_,_,_,h=>h
 | .bg,_,_,_,h=>h
 | .slice xs,cs,S,aV,h=>by simp[I.cX]at aV
 | .ref d,cs,S,aV,h=>by simp[I.cX]at aV
 | .ag sz xs,cs,S,aV,h=>by
   rw[aB]at h⊢;rcases h with h|⟨b,cap,cur,e,fr,a7,ad,af,aG,bf,bU,dc,c1,g_,iN,k9,oA⟩
   .exact .inl h
   .exact .inr ⟨b,cap,cur,e,fr,a7,ad,af,aG,bf,bU,dc,c1,g_,bt.cX xs _ _ aV iN,k9,oA⟩
 | .aS d,cs,S,aV,h=>by
   rw[aB]at h⊢;obtain⟨b,cur,e,fr,a7,ad,af,aG,bf,bU,dc,c1⟩:=h;exact⟨b,cur,e,fr,a7,ad,af,aG,bf,aB.cX d _ _ aV bU,dc,c1⟩
 | .agg aF,cs,S,aV,h=>by rw[aB]at h⊢;exact bt.cX aF _ _ aV h
 | .tuple aF,cs,S,aV,h=>by rw[aB]at h⊢;exact bt.cX aF _ _ aV h
 | .fn _ _,_,_,aV,h=>by simp[I.cX]at aV
 | .h _ _,_,_,_,h=>h
 | .ax _ _,_,_,_,h=>h
 | .aa _ _,_,_,_,h=>h
 | .cc _,_,_,_,h=>h
theorem bt.cX {w:World} {F ch:Nat->Prop}:∀(ds:ayk) (cs:ayi) (S:Nat->Prop),I.hd ds=true->bt w F ds cs S->bt w ch ds cs S
 |[],_,_,_,h=>h
 |d::ds,cs,S,aV,h=>by
  simp only[I.hd,Bool.and_eq_true]at aV;rw[bt]at h⊢;obtain⟨cr,c2,cI,eF,ad,af,aG,bf,bU,dc⟩:=h;exact⟨cr,c2,cI,eF,ad,aB.cX d _ _ aV.1 af,bt.cX ds _ _ aV.2 aG,bf,bU,dc⟩
end
theorem US:∀(q:ayf) (av d e:I),I.sub q av=some d->I.sub q (I.put q e av)=some e:=by
 intro q;induction q with
 |nil=>intro av d e _;simp[I.put,I.sub]
 |cons k q ih=>
  intro av d e h;cases av with
  |agg aF=>
   simp only[I.sub]at h;split at h
   .rename_i x ao;have au:k<aF.length:=(List.getElem?_eq_some_iff.1 ao).1;simp only[I.put,ao,I.sub,getElem?_set_self au];exact ih _ _ _ h
   .cases h
  |tuple aF=>
   simp only[I.sub]at h;split at h
   .rename_i x ao;have au:k<aF.length:=(List.getElem?_eq_some_iff.1 ao).1;simp only[I.put,ao,I.sub,getElem?_set_self au];exact ih _ _ _ h
   .cases h
  |ag sz aF=>
   simp only[I.sub]at h;split at h
   .rename_i x ao;have au:k<aF.length:=(List.getElem?_eq_some_iff.1 ao).1;simp only[I.put,ao,I.sub,getElem?_set_self au];exact ih _ _ _ h
   .cases h
  |aS x=>
   cases k with
   |zero=>simp only[I.sub]at h;simp only[I.put,I.sub];exact ih _ _ _ h
   |succ k=>simp[I.sub]at h
  |_=>simp[I.sub]at h
structure dp where
 a:I
 g:Bool
 d:I
 o:I
def I.own:I->Bool
 | .ag _ _=>true
 | .aS _=>true
 |_=>false
def I.hH:I->Bool
 | .ag _ _=>true
 | .aS _=>true
 | .cc _=>true
 | .agg aF=> !I.e5 aF
 |_=>false
def xe (d o:I):Bool:=match d,o with
 | .agg a,.agg b=>I.e9 a==I.e9 b
 | .agg _,_=>false
 |_,.agg _=>false
 |_,_=>true
theorem xf {d:I} (h:d.hH=true):d.plain=false/\d.tree=true/\∀vs,d≠.tuple vs:=by
 cases d<;>simp[I.hH]at h<;>first|exact⟨rfl,rfl,λvs e=>by cases e⟩|exact⟨by simp only[I.plain];exact h,rfl,λvs e=>by cases e⟩
theorem aeg {d o:I} (h:d.hH=true) (bI:o.hH=true) (hl:xe d o=true):o.wd=d.wd/\(∀v,eY d v->eY o v)/\∀v,j3 d.dY v->j3 o v:=by
 cases d<;>simp[I.hH]at h<;>cases o<;>simp[I.hH]at bI<;>simp[xe]at hl<;>first
  |exact⟨rfl,λ_ h=>h,λ_ h=>h⟩
  |exact⟨by simp only[I.wd];exact hl.symm,λ_ h=>h,λ_ h=>h⟩
def dp.ok (s:ak) (p:dp):Prop:=
 if p.g then(match p.a with| .h x q=>I.sub q (s x)=some p.d/\p.d.hH=true/\(p.o= .hole\/(p.o.hH=true/\xe p.d p.o=true))|_=>False)
 else view s p.a=some p.d
def jI:List dp->Bool
 |[]=>true
 |p::r=>(r.all λda=> !(p.g||da.g)||(p.a.ab.all λu=> !da.a.ab.contains u))&&jI r
def dp.take (s:ak) (p:dp):ak:=
 if p.g then(match p.a with| .h x q=>ei (jk x s) x (I.put q p.d.dY (s x))|_=>s)else s
def dp.kG (s:ak) (p:dp):ak:=
 if p.g then(match p.a,p.o with|_,.hole=>s| .h x q,o=>ei (oB x s) x (I.put q o (s x))|_,_=>s)else s
def fT (s:ak) (ps:List dp):ak:=ps.foldl dp.take s
def jb (s:ak) (ps:List dp):ak:=ps.foldl dp.kG s
section
variable {w0 w aN:World} {F0 X F Fc:Nat->Prop} {S:Nat->Nat->Prop} {s aH:ak} {aI mI:Nat->Value}
def aeh (w:World) (F:Nat->Prop) (s1:ak) (aI:Nat->Value) (p:dp) (v:Value) (Sn:Nat->Prop):Prop:=
 ∃x q a0,p.a= .h x q/\I.sub q (s1 x)=some p.d.dY/\et w q (s1 x) (cT (aI x)) none=some (p.d.dY,cT v,a0)/\(s1 x).ab=[]/\(q=[]->eY p.d (aI x))/\(q≠[]->(s1 x).tree=true)/\
  eY p.d v/\aB w F p.d (cT v) Sn
theorem aei {p:dp} {x:Nat} (h:(s x).ab=[]) (ax:p.g=true->x∉p.a.ab):dp.take s p x=s x:=by
 unfold dp.take;split
 .rename_i hg;cases br:p.a with
  |h y q=>
   have:x≠y:=by
    have:=ax hg;rw[br]at this;simpa [I.ab]using this
   simp only;rw[lb _ _ this];exact Ei _ (by rw[h];simp)
  |_=>rfl
 .rfl
theorem MV:∀{ps:List dp} {s:ak} {x:Nat},(s x).ab=[]->(∀p∈ps,p.g=true->x∉p.a.ab)->fT s ps x=s x:=by
 intro ps;induction ps with
 |nil=>intros;rfl
 |cons p ps ih=>
  intro s x h ax;have e:=aei (s:=s) (p:=p) h (ax p (by simp));show fT (dp.take s p) ps x=s x;rw[ih (by rw[e];exact h) (λda fp=>ax da (by simp[fp])),e]
theorem yT {d:I} (h:d.own=true):d.plain=false/\d.tree=true/\d.dY= .hole/\d.one=true/\d.wd=1/\(∀v,eY d v↔Value.hF v=true):=by
 cases d<;>simp[I.own]at h<;>exact⟨rfl,rfl,rfl,rfl,rfl,λv=>Iff.rfl⟩
theorem aej:∀(ps:List dp) (vs:ayi) (s:ak) (S:Nat->Nat->Prop),cb w0 F0 X F S s aI w->ps.length=vs.length->
  (∀(i:Nat) (p:dp) (v:Value),ps[i]? =some p->vs[i]? =some v->p.a.plain=true/\aO w F s aI p.a v (λ_=>False)/\(p.g=true->p.ok s))->jI ps=true->
  ∃(Sn cI:Nat->Nat->Prop),cb w0 F0 X F cI (fT s ps) aI w/\(∀u b,cI u b->S u b)/\
   (∀(i:Nat) (p:dp) (v:Value),ps[i]? =some p->vs[i]? =some v->p.g=true->aeh w F (fT s ps) aI p v (Sn i))/\
   (∀i b,Sn i b->∃p,ps[i]? =some p/\p.g=true)/\
   (∀i b,Sn i b->∃u,S u b)/\(∀i u b,Sn i b->¬cI u b)/\(∀i j b,i≠j->Sn i b->¬Sn j b)/\
   (∀(bJ:I) (hq:Value) (a7:Nat->Prop),(∀p∈ps,p.g=true->∀u∈p.a.ab,u∉bJ.ab)->aO w F s aI bJ hq a7->aO w F (fT s ps) aI bJ hq a7):=by
 intro ps;induction ps with
 |nil=>
  intro vs s S h hl _ _;exact⟨λ_ _=>False,S,h,λ_ _ h=>h,λi p v ax=>by simp at ax,λ_ _ h=>h.elim,λ_ _ h=>h.elim,λ_ _ _ h=>h.elim,λ_ _ _ _ h=>h.elim,λ_ _ _ _ h=>h⟩
 |cons p ps ih=>
  intro vs s S h hl Ed nF;cases vs with
  |nil=>simp at hl
  |cons v vs=>
   simp only[length_cons,Nat.add_right_cancel_iff]at hl;simp only[jI,Bool.and_eq_true,List.all_eq_true,Bool.or_eq_true,Bool.not_eq_true']at nF;obtain⟨sq,q7⟩:=nF;have A3:∀da∈ps,(p.g=true\/da.g=true)->∀u∈p.a.ab,u∉da.a.ab:=by
    intro da fp hg u hu;rcases sq da fp with e|e
    .rcases hg with hg|hg<;>simp[hg]at e
    .simpa using e u hu
   obtain⟨f1,f2,f3⟩:=Ed 0 p v rfl rfl;cases hg:p.g with
   |false=>
    have gb:dp.take s p=s:=by simp[dp.take,hg]
    obtain⟨Sn,cI,g1,g2,g3,g4,g5,g6,g7,g8⟩:=ih vs s S h hl (λi da hq ax aJ=>Ed (i+1) da hq (by simpa using ax) (by simpa using aJ)) q7;have aP:fT s (p::ps)=fT s ps:=by show fT (dp.take s p) ps=_;rw[gb]
    rw[aP];refine⟨λi=>match i with|0=>λ_=>False|i+1=>Sn i,cI,g1,g2,?_,?_,?_,?_,?_,λbJ hq a7 an=>g8 bJ hq a7 λda fp=>an da (by simp[fp])⟩
    .intro i da hq ax aJ iQ;cases i with
     |zero=>simp at ax;subst ax;rw[hg]at iQ;cases iQ
     |succ i=>exact g3 i da hq (by simpa using ax) (by simpa using aJ) iQ
    .intro i b aa;cases i with
     |zero=>exact aa.elim
     |succ i=>simpa using g4 i b aa
    .intro i b aa;cases i with
     |zero=>exact aa.elim
     |succ i=>exact g5 i b aa
    .intro i u b aa;cases i with
     |zero=>exact aa.elim
     |succ i=>exact g6 i u b aa
    .intro i j b d_ aj bF;cases i with
     |zero=>exact aj.elim
     |succ i=>
      cases j with
      |zero=>exact bF.elim
      |succ j=>exact g7 i j b (by omega) aj bF
   |true=>
    have gF:=f3 hg;simp only[dp.ok,hg,if_true]at gF;split at gF
    .rename_i x q br;obtain⟨fU,MW,yx⟩:=gF;obtain⟨ql,nH,sr⟩:=xf MW;have vm:dG s p.a=some (p.d,ei (jk x s) x (I.put q p.d.dY (s x))):=by
      rw[br];simp only[dG,fU,ql];rfl
     obtain⟨cI,t1,t2,t3,aek,t4,t5,t6,t7,t8,t9,t10,t11⟩:=r_ h f1 f2 vm;have gb:dp.take s p=ei (jk x s) x (I.put q p.d.dY (s x)):=by simp[dp.take,hg,br]
     have tM:∀da∈ps,x∉da.a.ab:=λda fp=>A3 da fp (.inl hg) x (by rw[br];simp[I.ab]);have MX:dp.take s p x=I.put q p.d.dY (s x):=by rw[gb,oC]
     have Ih:(dp.take s p x).ab=[]:=by
      rw[MX];exact A1 q _ _ _ fU (.inl ql) (λ_=>by cases an:p.d<;>first|rfl|(rw[an]at MW;simp[I.hH]at MW))
     obtain⟨Sn,eF,g1,g2,g3,g4,g5,g6,g7,g8⟩:=ih vs (dp.take s p) cI (by rw[gb];exact t1) hl (by
      intro i da hq ax aJ;obtain⟨bS,ct,dT⟩:=Ed (i+1) da hq (by simpa using ax) (by simpa using aJ);have hm:da∈ps:=mem_of_getElem? ax;refine⟨bS,?_,?_⟩
      .have:=t11 _ _ _ ct;rw[br]at this;rw[gb];simp only[I.owner,ng]at this
       rwa [Ei _ (tM da hm)]at this
      .intro iQ;have:=dT iQ;simp only[dp.ok,iQ,if_true]at this⊢;split at this
       .rename_i y lH yU;have d_:y≠x:=λe=>tM da hm (by rw[yU,e];simp[I.ab]);rw[gb,lb _ _ d_];have ba:=jy this.1 (.inl (xf this.2.1).1);simp only[jk,L5 ba];exact this
       .exact this.elim) q7
     have aP:fT s (p::ps)=fT (dp.take s p) ps:=rfl;have xg:fT (dp.take s p) ps x=I.put q p.d.dY (s x):=by
      rw[MV Ih (λda fp _=>tM da fp),MX]
     rw[aP];refine⟨λi=>match i with|0=>aek|i+1=>Sn i,eF,g1,λu b aa=>t9 u b (g2 u b aa),?_,?_,?_,?_,?_,?_⟩
     rotate_left 5
     .intro bJ hq a7 an lg;refine g8 bJ hq a7 (λda fp=>an da (by simp[fp])) ?_;have:=t11 _ _ _ lg;rw[br]at this;rw[gb];simp only[I.owner,ng]at this
      rwa [Ei _ (an p (by simp) hg x (by rw[br];simp[I.ab]))]at this
     .intro i da hq ax aJ iQ;cases i with
      |zero=>
       simp at ax aJ;subst ax aJ;have Ii:=f2;rw[br,aO]at Ii;obtain⟨dx,a0,cr,c2,c3⟩:=Ii _ fU ql;refine⟨x,q,a0,br,?_,?_,?_,?_,?_,t3,t4⟩
       .rw[xg];exact US q _ _ _ fU
       .rw[xg,c2];exact aee w q _ _ _ _ _ _ _ fU (I.w1 _) cr
       .rw[xg,<-MX];exact Ih
       .intro cy;subst cy;simp only[I.sub,Option.some.injEq]at fU;have:=(aO.dh (by rw[fU];exact nH)).1 (h.el x);rw[fU]at this;exact this.1
       .intro cy;have ba:=jy fU (.inl ql);rw[xg];cases q with
        |nil=>exact(cy rfl).elim
        |cons k q=>rcases w2 k q p.d.dY (s x)with⟨aF,gs,aP,e⟩|⟨aF,gs,aP,e⟩|⟨sz,xs,cP,aP,e⟩|⟨y,z,aP,e⟩|e<;>rw[e]<;>first|rfl|exact ba
      |succ i=>exact g3 i da hq (by simpa using ax) (by simpa using aJ) iQ
     .intro i b aa;cases i with
      |zero=>exact⟨p,rfl,hg⟩
      |succ i=>simpa using g4 i b aa
     .intro i b aa;cases i with
      |zero=>exact t10 b aa
      |succ i=>obtain⟨u,hu⟩:=g5 i b aa;exact⟨u,t9 u b hu⟩
     .intro i u b aa;cases i with
      |zero=>exact λhu=>t7 u b aa (g2 u b hu)
      |succ i=>exact g6 i u b aa
     .intro i j b d_ aj bF;cases i with
      |zero=>
       cases j with
       |zero=>exact d_ rfl
       |succ j=>obtain⟨u,hu⟩:=g5 j b bF;exact t7 u b aj hu
      |succ i=>
       cases j with
       |zero=>obtain⟨u,hu⟩:=g5 i b aj;exact t7 u b bF hu
       |succ j=>exact g7 i j b (by omega) aj bF
    .exact gF.elim
end
def gf (l:ayk):ak:=λi=>l.getD i .hole
def ik (l:ayi):Nat->Value:=λi=>l.getD i undef
def q8 (P:Program) (f:FuncId) (args:Array Value) (w:World) (j4:Value->World->Prop):Prop:=
 ((callFunc f args).run P w= .ok (.enter f args) w/\Calls P f args w (λe aN=>∃v,e= .returned v/\j4 v aN))\/
 ∃v aN,(callFunc f args).run P w= .ok (.value v) aN/\j4 v aN
theorem q8.mono {P:Program} {f:FuncId} {args:Array Value} {w:World} {j4 UT:Value->World->Prop} (h:q8 P f args w j4) (aQ:∀v aN,j4 v aN->UT v aN):q8 P f args w UT:=by
 rcases h with⟨ad,af⟩|⟨v,aN,ad,af⟩
 .exact .inl ⟨ad,Calls.mono af λe aN ⟨v,e,h⟩=>⟨v,e,aQ v aN h⟩⟩
 .exact .inr ⟨v,aN,ad,aQ v aN af⟩
def aW (C:cm) (f:FuncId) (as:ayk) (r:I) (outs:ayk):Prop:=
 ∀(w:World) (F X:Nat->Prop) (S:Nat->Nat->Prop) (vs:ayi),vs.length=as.length->cb w F X F S (gf as) (ik vs) w->
  q8 C.P f vs.toArray w λv aN=>∃ch a7,cb w F X ch a7 (gf (r::outs)) (ik (v::vs)) aN
def I.res:I->Bool
 | .h _ _=>false
 | .ax _ _=>false
 | .aa _ _=>false
 | .fn _ _=>false
 |_=>true
theorem MY {d:I} (h:d.tree=true):d.ab=[]:=by cases d<;>first|rfl|(simp[I.tree]at h)
mutual
theorem MZ {s aH:ak}:∀(a:I) (d:I),(∀u∈a.ab,(s u).tree=true->aH u=s u)->view s a=some d->view aH a=some d
 | .h x q,d,hu,h=>by
   have ba:(s x).tree=true:=by
    simp only[view]at h;split at h
    .rename_i e fU;cases e<;>simp only at h<;>first
      |(cases h;done)
      |(split at h
        .cases h
        .rename_i ax;exact jy fU (.inl (by simpa using ax)))
    .cases h
   simp only[view]at h⊢;rw[hu x (by simp[I.ab]) ba];exact h
 | .ax x q,d,hu,h=>by
   have ba:(s x).tree=true:=by
    simp only[view]at h;split at h
    .rename_i ar;split at h
     .rename_i e fU;exact jy fU (.inr ar)
     .cases h
    .cases h
   simp only[view]at h⊢;rw[hu x (by simp[I.ab]) ba];exact h
 | .aa x q,d,hu,h=>by simp[view]at h
 | .fn f cap,d,hu,h=>by
   simp only[view,Option.map_eq_some_iff]at h⊢;obtain⟨ds,ad,af⟩:=h;exact⟨ds,UU cap ds (by simpa [I.ab]using hu) ad,af⟩
 | .hole,d,hu,h=>h
 | .bool _,d,hu,h=>h
 | .gn,d,hu,h=>h
 | .int _ _,d,hu,h=>h
 | .str _,d,hu,h=>h
 | .er,d,hu,h=>h
 | .bg,d,hu,h=>h
 | .slice _,d,hu,h=>h
 | .ag _ _,d,hu,h=>h
 | .ref _,d,hu,h=>h
 | .aS _,d,hu,h=>h
 | .agg _,d,hu,h=>h
 | .tuple _,d,hu,h=>h
 | .cc _,d,hu,h=>h
theorem UU {s aH:ak}:∀(as:ayk) (ds:ayk),(∀u∈I.e3 as,(s u).tree=true->aH u=s u)->views s as=some ds->views aH as=some ds
 |[],ds,hu,h=>h
 |a::as,ds,hu,h=>by
  simp only[I.e3,mem_append]at hu;simp only[views]at h⊢;split at h
  .rename_i x y ad af;rw[MZ a x (λu hm=>hu u (.inl hm)) ad,UU as y (λu hm=>hu u (.inr hm)) af];exact h
  .cases h
end
section
variable {C:cm} {w0 w aN:World} {F0 X F Fc:Nat->Prop} {S:Nat->Nat->Prop} {s aH:ak} {aI mI:Nat->Value}
def ael (w:World) (F:Nat->Prop) (s:ak) (aI:Nat->Value) (p:dp) (v:Value) (q9:Nat->Prop):Prop:=
 p.g=true->p.o= .hole\/∃x q a0 d0,p.a= .h x q/\I.sub q (s x)=some d0/\et w q (s x) (cT (aI x)) none=some (d0,cT v,a0)/\(s x).ab=[]/\
  (q=[]->eY p.o (aI x))/\(q≠[]->(s x).tree=true)/\p.o.hH=true/\aB w F p.o (cT v) q9/\p.o.wd=d0.wd/\∀v,j3 d0 v->j3 p.o v
theorem aem:∀(ps:List dp) (vs:ayi) (s:ak) (S q9:Nat->Nat->Prop),cb w0 F0 X F S s aI w->ps.length=vs.length->
  (∀(i:Nat) (p:dp) (v:Value),ps[i]? =some p->vs[i]? =some v->ael w F s aI p v (q9 i))->
  (∀i b,q9 i b->b<w.heap.size/\¬F b/\(X b\/w0.heap.size<=b)/\∀u,¬S u b)->(∀i j b,i≠j->q9 i b->¬q9 j b)->jI ps=true->
  ∃eF,cb w0 F0 X F eF (jb s ps) aI w/\∀u b,eF u b->S u b\/∃i,q9 i b:=by
 intro ps;induction ps with
 |nil=>intro vs s S q9 h _ _ _ _ _;exact⟨S,h,λu b aa=>.inl aa⟩
 |cons p ps ih=>
  intro vs s S q9 h hl M0 aa an nF;cases vs with
  |nil=>simp at hl
  |cons v vs=>
   simp only[length_cons,Nat.add_right_cancel_iff]at hl;simp only[jI,Bool.and_eq_true,List.all_eq_true,Bool.or_eq_true,Bool.not_eq_true']at nF;obtain⟨sq,q7⟩:=nF;have A3:∀da∈ps,(p.g=true\/da.g=true)->∀u∈p.a.ab,u∉da.a.ab:=by
    intro da fp hg u hu;rcases sq da fp with e|e
    .rcases hg with hg|hg<;>simp[hg]at e
    .simpa using e u hu
   have skip:dp.kG s p=s->∃eF,cb w0 F0 X F eF (jb s (p::ps)) aI w/\∀u b,eF u b->S u b\/∃i,q9 i b:=by
    intro gb;obtain⟨eF,g1,g2⟩:=ih vs s S (λi=>q9 (i+1)) h hl (λi da hq ax aJ=>M0 (i+1) da hq (by simpa using ax) (by simpa using aJ)) (λi b h=>aa (i+1) b h)
     (λi j b d_=>an (i+1) (j+1) b (by omega)) q7
    refine⟨eF,?_,λu b hu=>(g2 u b hu).imp id λ⟨i,aj⟩=>⟨i+1,aj⟩⟩;show cb _ _ _ _ _ (jb (dp.kG s p) ps) _ _;rw[gb];exact g1
   cases hg:p.g with
   |false=>exact skip (by simp[dp.kG,hg])
   |true=>
    rcases M0 0 p v rfl rfl hg with bI|⟨x,q,a0,d0,br,cr,c2,c3,c4,c5,eG,M1,il,c9⟩
    .exact skip (by simp only[dp.kG,hg,bI,if_true])
    .obtain⟨ql,nH,xh⟩:=xf eG;have gb:dp.kG s p=ei (oB x s) x (I.put q p.o (s x)):=by
      simp only[dp.kG,hg,if_true,br];cases aen:p.o<;>first|rfl|(rw[aen]at eG;simp[I.hH]at eG)
     have step:=h.kG (x:=x) (q:=q) (bJ:=p.o) cr c2 xh (λcy=>⟨nH,c4 cy⟩) (λk r cy=>⟨c5 (by rw[cy];simp),c9⟩) il M1
      (λb h=>(aa 0 b h).1) (λb h=>(aa 0 b h).2.1) (λu b h=>(aa 0 b h).2.2.2 u) (λb h=>(aa 0 b h).2.2.1)
     rw[<-gb]at step;obtain⟨eF,g1,g2⟩:=ih vs (dp.kG s p) _ (λi=>q9 (i+1)) step hl (by
      intro i da hq ax aJ iQ;have hm:da∈ps:=mem_of_getElem? ax;rcases M0 (i+1) da hq (by simpa using ax) (by simpa using aJ) iQ with bI|⟨y,lH,J,d1,bS,ct,dT,ed,eQ,de,kE,fK,pc⟩
      .exact .inl bI
      .have d_:y≠x:=λe=>A3 da hm (.inl hg) x (by rw[br];simp[I.ab]) (by rw[bS,e];simp[I.ab]);have qe:dp.kG s p y=s y:=by
        rw[gb,lb _ _ d_];exact MJ _ (by rw[ed];simp)
       exact .inr ⟨y,lH,J,d1,bS,by rw[qe];exact ct,by rw[qe];exact dT,by rw[qe];exact ed,eQ,by rw[qe];exact de,kE,fK,pc⟩)
      (by
       intro i b aj;obtain⟨hA,fV,gd,bM⟩:=aa (i+1) b aj;refine⟨hA,fV,gd,λu hu=>?_⟩;simp only[hc]at hu;split at hu
       .rcases hu with hu|hu
        .exact bM _ hu
        .exact an 0 (i+1) b (by omega) hu aj
       .exact bM _ hu)
      (λi j b d_=>an (i+1) (j+1) b (by omega)) q7
     refine⟨eF,g1,λu b hu=>?_⟩;rcases g2 u b hu with hu|⟨i,aj⟩
     .simp only[hc]at hu;split at hu
      .rename_i e;subst e;exact hu.imp id λh=>⟨0,h⟩
      .exact .inl hu
     .exact .inr ⟨i+1,aj⟩
def l5 (ps:List dp):Bool:=ps.any λp=> !p.g&& !p.a.ab.isEmpty
theorem UW (h:cb w0 F0 X F S s aI w) {ps:List dp} {vs:ayi} {f:FuncId} {r:I} (hl:ps.length=vs.length)
  (lg:∀(i:Nat) (p:dp) (v:Value),ps[i]? =some p->vs[i]? =some v->p.a.plain=true/\aO w F s aI p.a v (λ_=>False))
  (gF:∀p∈ps,p.ok s) (nF:jI ps=true) (bD:∀(Fc ph:Nat->Prop) (fi:Nat->Nat->Prop),(∀b,F b->Fc b)->(∀b,ph b->∃u,S u b)->cb w Fc ph Fc fi (gf (ps.map (·.d))) (ik vs) w->
   q8 C.P f vs.toArray w λv aN=>∃ch a7,cb w Fc ph ch a7 (gf (r::ps.map (·.o))) (ik (v::vs)) aN) (aQ:r.res=true)
  (aV:l5 ps=true->r.cX=true/\∀p∈ps,p.o.cX=true):
  q8 C.P f vs.toArray w λv aN=>∃ch a7,cb w0 F0 X ch a7 (jb (fT s ps) ps) aI aN/\n1 w0 X ch a7 (jb (fT s ps) ps) aI aN r v/\∀b,F b->ch b/\aN.heap[b]? =w.heap[b]? :=by
 obtain⟨Sn,cI,g1,g2,g3,g4,g5,g6,g7,g8⟩:=aej ps vs s S h hl (λi p v ax aJ=>⟨(lg i p v ax aJ).1,(lg i p v ax aJ).2,λ_=>gF p (mem_of_getElem? ax)⟩) nF;have apart:∀(i j:Nat) (p da:dp),ps[i]? =some p->ps[j]? =some da->i≠j->(p.g=true\/da.g=true)->∀u∈p.a.ab,u∉da.a.ab:=by
  clear lg gF bD aV g1 g3 g4 g8 hl;induction ps with
  |nil=>intro i j p da ax;simp at ax
  |cons jj ps ih=>
   simp only[jI,Bool.and_eq_true,List.all_eq_true,Bool.or_eq_true,Bool.not_eq_true']at nF;obtain⟨sq,q7⟩:=nF;have A3:∀da∈ps,(jj.g=true\/da.g=true)->∀u∈jj.a.ab,u∉da.a.ab:=by
    intro da fp hg u hu;rcases sq da fp with e|e
    .rcases hg with hg|hg<;>simp[hg]at e
    .simpa using e u hu
   intro i j p da ax fp d_ hg u hu;cases i with
   |zero=>
    simp at ax;subst ax;cases j with
    |zero=>exact(d_ rfl).elim
    |succ j=>exact A3 da (mem_of_getElem? (by simpa using fp)) hg u hu
   |succ i=>
    cases j with
    |zero=>
     simp at fp;subst fp;exact λEk=>A3 p (mem_of_getElem? (by simpa using ax)) hg.symm u Ek hu
    |succ j=>exact ih q7 i j p da (by simpa using ax) (by simpa using fp) (by omega) hg u hu
 let Fc:Nat->Prop:=λb=>F b\/(l5 ps=true/\∃u,cI u b)
 let ph:Nat->Prop:=λb=>∃i,Sn i b
 have M3:∀b,F b->¬ph b:=λb bE ⟨i,aj⟩=>by obtain⟨u,hu⟩:=g5 i b aj;exact h.gD u b hu bE
 have El:∀u b,cI u b->¬ph b:=λu b hu ⟨i,aj⟩=>g6 i u b aj hu;have aK:∀b,ph b->(X b\/w0.heap.size<=b)/\b<w.heap.size:=λb ⟨i,aj⟩=>by obtain⟨u,hu⟩:=g5 i b aj;exact⟨h.eU u b hu,h.fz u b hu⟩
 have pre:cb w Fc ph Fc Sn (gf (ps.map (·.d))) (ik vs) w:=by
  refine⟨λ_ h=>h,λ_ h=>.inl h,?_,λi b aj=>(aK b ⟨i,aj⟩).2,?_,λi j b d_=>g7 i j b d_,λi b aj=>.inl ⟨i,aj⟩,?_,λ_ _ _=>rfl,Nat.le_refl _,rfl,rfl,Out.refl _,h.gq.next h.size h.old λb aa=>(aK b aa).1⟩
  .rintro b (aa|⟨_,u,hu⟩)
   .exact h.f_ b aa
   .exact g1.fz u b hu
  .rintro i b aj (aa|⟨_,u,hu⟩)
   .exact M3 b aa ⟨i,aj⟩
   .exact g6 i u b aj hu
  .intro t;cases ax:ps[t]? with
   |none=>
    have:gf (ps.map (·.d)) t= .hole:=by simp[gf,List.getD,ax]
    rw[this,aO];trivial
   |some p=>
    have eI:t<vs.length:=by rw[<-hl];exact(List.getElem?_eq_some_iff.1 ax).1
    have aJ:vs[t]? =some vs[t]:=getElem?_eq_getElem eI;have aP:gf (ps.map (·.d)) t=p.d:=by simp[gf,List.getD,ax]
    have aY:ik vs t=vs[t]:=by simp[ik,List.getD,aJ]
    rw[aP,aY];have hm:p∈ps:=mem_of_getElem? ax;have au:=gF p hm;cases hg:p.g with
    |true=>
     obtain⟨x,q,a0,bS,ct,dT,ed,eQ,de,kE,fK⟩:=g3 t p _ ax aJ hg;simp only[dp.ok,hg,if_true,bS]at au;exact(aO.dh (xf au.2.1).2.1).2 ⟨kE,aB.mono (λb aa=>.inl aa) _ _ _ _ (λ_ h=>h) fK⟩
    |false=>
     simp only[dp.ok,hg]at au;obtain⟨f1,f2⟩:=lg t p _ ax aJ;have UX:∀da∈ps,da.g=true->∀u∈da.a.ab,u∉p.a.ab:=by
      intro da fp iQ u hu;obtain⟨j,bF⟩:=getElem?_of_mem fp;refine apart j t da p bF ax (λe=>?_) (.inl iQ) u hu;subst e;rw[ax]at bF;simp only[Option.some.injEq]at bF;rw[bF,iQ]at hg;cases hg
     have Ii:=g8 _ _ _ UX f2;have nD:view (fT s ps) p.a=some p.d:=MZ _ _ (λu hu ba=>MV (MY ba) (λda fp iQ Ek=>UX da fp iQ u Ek hu)) (by simpa using au);refine aO.nothing (aed f1 nD) ((aef g1 (Fc:=Fc) (λb aa=>.inl aa) (SizeOf.sizeOf p.a)).1 p.a _ p.d (Nat.le_refl _) ?_ nD Ii);intro u hu b aa;refine .inr ⟨?_,u,aa⟩;simp only[l5,List.any_eq_true];refine⟨p,hm,?_⟩;cases kj:p.a.ab with
     |nil=>rw[kj]at hu;cases hu
     |cons _ _=>simp[hg]
 refine q8.mono (bD Fc ph Sn (λb aa=>.inl aa) (λb ⟨i,aj⟩=>g5 i b aj) pre) ?_;rintro v aN ⟨ch,a7,ar⟩;have keep:∀b,b<w.heap.size->¬ph b->aN.heap[b]? =w.heap[b]? :=ar.old;let ss:Nat->Prop:=λb=>if l5 ps=true then F b else ch b
 have UY:∀b,F b->ch b:=λb aa=>ar.h3 b (.inl aa);have A4:∀b,F b->ss b:=λb aa=>by
  simp only[ss];split
  .exact aa
  .exact UY b aa
 have vn:∀b,ss b->ch b:=λb aa=>by
  simp only[ss]at aa;split at aa
  .exact UY b aa
  .exact aa
 have UZ:∀b,ss b->F b\/ph b\/w.heap.size<=b:=λb aa=>by
  simp only[ss]at aa;split at aa
  .exact .inl aa
  .rename_i w_;rcases ar.iB b aa with(aa|⟨ad,_⟩)|aa|aa
   .exact .inl aa
   .exact(w_ ad).elim
   .exact .inr (.inl aa)
   .exact .inr (.inr aa)
 have mid:cb w0 F0 X ss cI (fT s ps) aI aN:=by
  refine⟨λb aa=>A4 b (g1.h3 b aa),?_,λb aa=>ar.f_ b (vn b aa),λt b aa=>Nat.lt_of_lt_of_le (g1.fz t b aa) ar.size,?_,g1.ga,g1.eU,?_,?_,Nat.le_trans g1.size ar.size,ar.os.trans g1.os,ar.tape.trans g1.tape,ar.output.trans g1.output,g1.gq⟩
  .intro b aa;rcases UZ b aa with aa|aa|aa
   .exact g1.iB b aa
   .rcases(aK b aa).1 with h|h
    .exact .inr (.inl h)
    .exact .inr (.inr h)
   .exact .inr (.inr (Nat.le_trans g1.size aa))
  .intro t b ba aa;rcases UZ b aa with aa|aa|aa
   .exact g1.gD t b ba aa
   .exact El t b ba aa
   .exact absurd (g1.fz t b ba) (by omega)
  .intro t;exact aO.frame (Sx:=cI) (λb aa=>keep b (h.f_ b aa) (M3 b aa)) A4 (λx b aa=>keep b (g1.fz x b aa) (El x b aa)) g1.el _ _ _ (λb aa=>keep b (g1.fz t b aa) (El t b aa)) (g1.el t)
  .intro b aa mJ;refine(keep b (Nat.lt_of_lt_of_le aa g1.size) λao=>?_).trans (g1.old b aa mJ);rcases(aK b ao).1 with h|h
   .exact mJ h
   .omega
 have U0:∀(d:I) (cs:ayi) (eU:Nat->Prop),(l5 ps=true->d.cX=true)->aB aN ch d cs eU->aB aN ss d cs eU:=by
  intro d cs eU aeo h6;by_cases hle:l5 ps=true
  .exact aB.cX d cs eU (aeo hle) h6
  .exact aB.mono (λb aa=>by simp only[ss];rw[if_neg hle];exact aa) _ _ _ _ (λ_ h=>h) h6
 have bound:∀i b,a7 i b->b<aN.heap.size/\¬ss b/\(X b\/w0.heap.size<=b)/\∀u,¬cI u b:=by
  intro i b aa;refine⟨ar.fz i b aa,λbE=>ar.gD i b aa (vn b bE),?_,λu hu=>?_⟩
  .rcases ar.eU i b aa with ao|ao
   .exact(aK b ao).1
   .exact .inr (Nat.le_trans g1.size ao)
  .rcases ar.eU i b aa with ao|ao
   .exact El u b hu ao
   .exact absurd (g1.fz u b hu) (by omega)
 obtain⟨eF,bS,ct⟩:=aem ps vs (fT s ps) cI (λi=>a7 (i+1)) mid hl (by
  intro i p hq ax aJ hg;have hm:p∈ps:=mem_of_getElem? ax;have au:=gF p hm;obtain⟨x,q,a0,aP,aY,aU,b4,cM,cl,b9,fJ⟩:=g3 i p hq ax aJ hg;simp only[dp.ok,hg,if_true,aP]at au;rcases au.2.2 with bI|bI
  .exact .inl bI
  .obtain⟨h5,l2,Em⟩:=aeg au.2.1 bI.1 bI.2;refine .inr ⟨x,q,a0,p.d.dY,aP,aY,?_,b4,λcy=>l2 _ (cM cy),cl,bI.1,?_,h5.trans (I.w1 _).symm,Em⟩
   .cases q with
    |nil=>simpa only[et]using aU
    |cons k q=>
     have ba:=cl (by simp);rw[HP (k::q) _ _ (cI x) none _ ((aO.dh ba).1 (g1.el x)).2 aY (λb aa=>keep b (g1.fz x b aa) (El x b aa))];exact aU
   .have:=ar.el (i+1);have jl:gf (r::ps.map (·.o)) (i+1)=p.o:=by simp[gf,List.getD,ax]
    have iD:ik (v::vs) (i+1)=hq:=by simp[ik,List.getD,aJ]
    rw[jl,iD]at this;exact U0 _ _ _ (λhle=>(aV hle).2 p hm) ((aO.dh (xf bI.1).2.1).1 this).2)
  (λi b aa=>bound (i+1) b aa) (λi j b d_=>ar.ga (i+1) (j+1) b (by omega)) nF
 refine⟨ss,eF,bS,?_,λb aa=>⟨A4 b aa,keep b (h.f_ b aa) (M3 b aa)⟩⟩;have a_:=ar.el 0;have jl:gf (r::ps.map (·.o)) 0=r:=rfl;have iD:ik (v::vs) 0=v:=rfl;rw[jl,iD]at a_;cases ba:r.tree with
 |false=>
  cases r<;>first
   |(simp[I.tree]at ba;done)
   |(simp[I.res]at aQ;done)
   |exact .inl ⟨rfl,by rw[aO];trivial⟩
 |true=>
  obtain⟨s1,s2⟩:=(aO.dh ba).1 a_;have pg:=U0 _ _ _ (λhle=>(aV hle).1) s2;refine .inr ⟨ba,s1,a7 0,pg,λb aa=>(bound 0 b aa).1,λb aa=>(bound 0 b aa).2.1,λu b aa hu=>?_,λb aa=>(bound 0 b aa).2.2.1⟩;rcases ct u b hu with hu|⟨i,aj⟩
  .exact(bound 0 b aa).2.2.2 u hu
  .exact ar.ga 0 (i+1) b (by omega) aa aj
theorem aep (h:cb w0 F0 X F S s aI w) {ps:List dp} {vs:ayi} {f:FuncId} {r:I} (hl:ps.length=vs.length)
  (lg:∀(i:Nat) (p:dp) (v:Value),ps[i]? =some p->vs[i]? =some v->p.a.plain=true/\aO w F s aI p.a v (λ_=>False))
  (gF:∀p∈ps,p.ok s) (nF:jI ps=true) (bD:aW C f (ps.map (·.d)) r (ps.map (·.o))) (aQ:r.res=true)
  (aV:l5 ps=true->r.cX=true/\∀p∈ps,p.o.cX=true):
  q8 C.P f vs.toArray w λv aN=>∃ch a7,cb w0 F0 X ch a7 (jb (fT s ps) ps) aI aN/\n1 w0 X ch a7 (jb (fT s ps) ps) aI aN r v/\∀b,F b->ch b/\aN.heap[b]? =w.heap[b]? :=
 UW h hl lg gF nF (λFc ph fi _ _ ax=>bD w Fc ph fi vs (by simp[hl]) ax) aQ aV
end
structure cu where
 dst:Option Nat
 bX:e2
 guard:Option (Nat×Bool)
def En (ops:Array Oper):Option (Nat×Bool)->Option (Option (Nat×Bool))
 |none=>some none
 |some (j,b)=>match(ops[j]?).bind (·.dst)with
  |some t=>some (some (t,b))
  |none=>none
structure Fr where
 n:Nat
 fx:ayf
def n5 (n:Fr):Option Nat->Bool
 |none=>true
 |some t=>decide (t<n.n)&& !n.fx.contains t
def su (op:Op):e2:=match dB op with
 |some bX=>bX
 |none=>.bad
def tN (n:Fr) (ops:Array Oper) (o:Oper):Option cu:=
 if n5 n o.dst=true then match En ops o.guard with
  |some g=>some ⟨o.dst,su o.op,g⟩
  |none=>none
 else none
def tO (n:Fr) (ops:Array Oper):List Oper->Option (List cu)
 |[]=>some []
 |o::os=>match tN n ops o,tO n ops os with
  |some r,some rs=>some (r::rs)
  |_,_=>none
def M4 (C:cm) (s:ak) (f:bz) (args:List bz) (K:I->ak->Prop):Prop:=
 ∃(g:FuncId) (caps:ayk) (ps:List dp) (r:I),bu s f= .fn g caps/\I.e5 caps=true/\ps.map (·.a)=args.map (bu s)++caps/\(∀p∈ps,p.ok s)/\jI ps=true/\
   aW C g (ps.map (·.d)) r (ps.map (·.o))/\r.res=true/\(l5 ps=true->r.cX=true/\∀p∈ps,p.o.cX=true)/\K r (jb (fT s ps) ps)
mutual
def I.gG (s:ak):I->Bool
 | .h x q=>q.isEmpty&&(s x).own
 | .aa x _=> !(s x).plain
 | .ax _ _=>false
 | .hole=>true
 | .fn _ cap=>I.q_ s cap
 |d=>d.plain
def I.q_ (s:ak):ayk->Bool
 |[]=>true
 |d::ds=>d.gG s&&I.q_ s ds
end
def pL (s:ak):ayj->ak
 |[]=>s
 |p::L=>pL (ei s p.1 p.2) L
def n6 (s:ak):ayj->Bool
 |[]=>true
 |p::L=>p.2.gG s&&n6 s L
def lh (s:ak) (us:ayf):ayj:=us.map λu=>(u,s u)
def ra (C:cm) (s:ak) (bX:e2) (K:I->ak->Prop):Prop:=
 match bX with
 | .call f args=>∃(g:FuncId) (caps:ayk) (ps:List dp) (r:I),bu s f= .fn g caps/\I.e5 caps=true/\ps.map (·.a)=args.map (bu s)++caps/\(∀p∈ps,p.ok s)/\jI ps=true/\
   aW C g (ps.map (·.d)) r (ps.map (·.o))/\r.res=true/\(l5 ps=true->r.cX=true/\∀p∈ps,p.o.cX=true)/\K r (jb (fT s ps) ps)
 | .shr bX=>∃av s1,cf C s bX=some (av,s1)/\av.tree=true/\(∀vs,av≠.tuple vs)/\K av.share s1
 | .mM f args us=>n6 s (lh s us)=true/\M4 C s f args λav s1=>n6 s1 (lh s us)=true/\K av (pL s1 (lh s us))
 |bX=>∃av s1,cf C s bX=some (av,s1)/\K av s1
theorem Ij {C:cm} {s:ak} {bX:e2} {K eD:I->ak->Prop} (h:ra C s bX K) (au:∀av s,K av s->eD av s):ra C s bX eD:=by
 cases bX with
 |call f args=>
  obtain⟨g,caps,ps,r,ad,hV,af,aG,bf,bU,dc,c1,g_⟩:=h;exact⟨g,caps,ps,r,ad,hV,af,aG,bf,bU,dc,c1,au _ _ g_⟩
 |shr bX=>
  obtain⟨av,s1,ad,af,aG,bf⟩:=h;exact⟨av,s1,ad,af,aG,au _ _ bf⟩
 |mM f args us=>
  obtain⟨ct,g,caps,ps,r,ad,hV,af,aG,bf,bU,dc,c1,g_,iN⟩:=h;exact⟨ct,g,caps,ps,r,ad,hV,af,aG,bf,bU,dc,c1,g_,au _ _ iN⟩
 |_=>
  obtain⟨av,s1,ad,af⟩:=h;exact⟨av,s1,ad,au _ _ af⟩
def oG (C:cm) (s:ak) (o:cu) (K:ak->Prop):Prop:=
 match o.guard with
 |none=>ra C s o.bX λav s1=>K (fin s1 o.dst av)
 |some (t,b)=>match s t with
  | .bool gL=>if gL=b then ra C s o.bX (λav s1=>K (fin s1 o.dst av))else K (fin s o.dst (.tuple []))
  | .tuple []=>K (fin s o.dst (.tuple []))
  |_=>False
def n7 (C:cm) (s:ak):List cu->(ak->Prop)->Prop
 |[],K=>K s
 |o::os,K=>oG C s o λs1=>n7 C s1 os K
def kH (C:cm) (ros:List cu) (s:ak):ayf->(ak->Prop)->Prop
 |[],K=>K s
 |i::l,K=>match ros[i]? with
  |none=>kH C ros s l K
  |some o=>oG C s o λs1=>kH C ros s1 l K
theorem aeq (C:cm) (K:ak->Prop):∀(rs pre:List cu) (s:ak),n7 C s rs K->kH C (pre++rs) s ((range rs.length).map (·+pre.length)) K:=by
 intro rs;induction rs with
 |nil=>intro pre s h;exact h
 |cons r rs ih=>
  intro pre s h;rw[length_cons,range_succ_eq_map,map_cons,List.map_map];simp only[kH,Nat.zero_add];rw[getElem?_append_right (Nat.le_refl _)];simp only[Nat.sub_self,getElem?_cons_zero];have key:∀s1,n7 C s1 rs K->kH C (pre++r::rs) s1 ((range rs.length).map ((λx=>x+pre.length)∘succ)) K:=by
   intro s1 ad;have:=ih (pre++[r]) s1 ad;simp only[append_assoc,singleton_append,length_append,length_singleton]at this;have e:((λx=>x+pre.length)∘succ)=λx=>x+(pre.length+1):=by funext x;simp;omega
   rw[e];exact this
  simp only[n7]at h;unfold oG at h⊢;split
  .rename_i hg;rw[hg]at h;exact Ij h λav s1=>key _
  .rename_i t b hg;rw[hg]at h;simp only at h;split
   .rename_i gL ab;rw[ab]at h;simp only at h;split
    .rename_i aa;rw[if_pos aa]at h;exact Ij h λav s1=>key _
    .rename_i aa;rw[if_neg aa]at h;exact key _ h
   .rename_i ab;rw[ab]at h;exact key _ h
   .rename_i ad af;split at h
    .exact ad _ (by assumption)
    .exact af (by assumption)
    .exact h
structure Rel (w0:World) (F0 X:Nat->Prop) (n:Fr) (ρ:Nat->Value) (s:ak) (a:Act) (w:World):Prop where
 defers:a.defers=[]
 size:a.tmps.size=n.n
 fixed:∀i∈n.fx,a.tmps.getD i undef=ρ i
 rel:∃F S,cb w0 F0 X F S s (λt=>a.tmps.getD t undef) w
section
variable {C:cm} {w0 w:World} {F0 X:Nat->Prop} {n:Fr} {ρ:Nat->Value} {s s1:ak} {a:Act} {av:I} {Q:Exit->Act->World->Prop}
theorem Eo {dst:Option Nat} (v:Value) (ab:a.tmps.size=n.n) (an:n5 n dst=true):
  (λt=>(a.put dst v).tmps.getD t undef)=qd (λt=>a.tmps.getD t undef) dst v/\(a.put dst v).tmps.size=n.n/\(a.put dst v).defers=a.defers:=by
 cases dst with
 |none=>exact⟨rfl,ab,rfl⟩
 |some d=>
  simp only[n5,Bool.and_eq_true,decide_eq_true_eq]at an;refine⟨?_,by simp[Act.put,ab],rfl⟩;funext t;simp only[Act.put,qd,ei,Array.getD_eq_getD_getElem?];by_cases h:t=d
  .subst h;rw[if_pos rfl,Array.getElem?_setIfInBounds_self_of_lt (by omega)];rfl
  .rw[if_neg h,Array.getElem?_setIfInBounds_ne (λe=>h e.symm)]
theorem Rel.put {F S} (an:a.defers=[]) (ab:a.tmps.size=n.n) (bD:∀i∈n.fx,a.tmps.getD i undef=ρ i) {aN:World} (aQ:cb w0 F0 X F S s (λt=>a.tmps.getD t undef) aN) {v:Value} (aJ:n1 w0 X F S s (λt=>a.tmps.getD t undef) aN av v)
  {dst:Option Nat} (gF:n5 n dst=true):Rel w0 F0 X n ρ (fin s dst av) (a.put dst v) aN:=by
 obtain⟨aP,aY,aU⟩:=Eo (n:=n) (dst:=dst) v ab gF;obtain⟨a7,bC⟩:=aQ.fin aJ dst;refine⟨aU.trans an,aY,λi aj=>?_,F,a7,by rw[aP];exact bC⟩;rw[congrFun aP i];cases dst with
 |none=>exact bD i aj
 |some d=>
  simp only[n5,Bool.and_eq_true,Bool.not_eq_true',contains_eq_mem,decide_eq_false_iff_not]at gF;have d_:i≠d:=λe=>gF.2 (by rw[<-e];exact aj);simp only[qd];rw[lb _ _ d_];exact bD i aj
theorem Rel.skip (h:Rel w0 F0 X n ρ s a w) {dst:Option Nat} (gF:n5 n dst=true):Rel w0 F0 X n ρ (fin s dst (.tuple [])) (a.put dst undef) w:=by
 obtain⟨an,ab,bD,F,S,aQ⟩:=h;refine Rel.put (av:=.tuple []) an ab bD aQ (.inl ⟨rfl,(aO.dh (d:=.tuple []) rfl).2 ⟨?_,?_⟩⟩) gF
 .exact⟨#[],rfl,rfl,λk d x au=>by simp at au⟩
 .rw[aB,bt];rfl
theorem U1 {F:Nat->Prop} {aI:Nat->Value} {w:World}:∀{ds es:ayk} {vs us:ayi},e_ w F s aI ds vs->e_ w F s aI es us->e_ w F s aI (ds++es) (vs++us):=by
 intro ds;induction ds with
 |nil=>intro es vs us ad af;rw[e_]at ad;subst ad;exact af
 |cons d ds ih=>
  intro es vs us ad af;rw[e_]at ad;obtain⟨v,lY,rfl,g1,g2⟩:=ad;rw[cons_append,cons_append,e_];exact⟨v,_,rfl,g1,ih g2 af⟩
theorem U2 {F:Nat->Prop} {aI:Nat->Value} {w:World}:∀{ds:ayk} {vs:ayi},e_ w F s aI ds vs->ds.length=vs.length/\∀(i:Nat) (d:I) (v:Value),ds[i]? =some d->vs[i]? =some v->aO w F s aI d v (λ_=>False):=by
 intro ds;induction ds with
 |nil=>intro vs h;rw[e_]at h;subst h;exact⟨rfl,λi d v h=>by simp at h⟩
 |cons d ds ih=>
  intro vs h;rw[e_]at h;obtain⟨v,lY,rfl,g1,g2⟩:=h;obtain⟨bS,ct⟩:=ih g2;refine⟨by simp[bS],λi bJ hq an aJ=>?_⟩;cases i with
  |zero=>simp at an aJ;subst an aJ;exact g1
  |succ i=>exact ct i bJ hq (by simpa using an) (by simpa using aJ)
theorem sv {op:Op} {bX:e2} (h:su op=bX):bX= .bad\/dB op=some bX:=by
 unfold su at h;split at h
 .subst h;right;assumption
 .exact .inl h.symm
theorem aer {op:Op} {bX:e2}:dB op≠some (.shr bX):=by
 intro h;unfold dB at h;split at h<;>(try split at h)<;>(try split at h)<;>(try split at h)<;>(try simp[Option.map_eq_some_iff]at h)
theorem aes {op:Op} {f:bz} {args:List bz} {us:ayf}:dB op≠some (.mM f args us):=by
 intro h;unfold dB at h;split at h<;>(try split at h)<;>(try split at h)<;>(try split at h)<;>(try simp[Option.map_eq_some_iff]at h)
theorem aet {op:Op} {T:TypeId} {x:bz}:dB op≠some (.l0 T x):=by
 intro h;unfold dB at h;split at h<;>(try split at h)<;>(try split at h)<;>(try split at h)<;>(try simp[Option.map_eq_some_iff]at h)
theorem aeu {op:Op} {x:bz}:dB op≠some (.pK x):=by
 intro h;unfold dB at h;split at h<;>(try split at h)<;>(try split at h)<;>(try split at h)<;>(try simp[Option.map_eq_some_iff]at h)
theorem aev {op:Op} {x:bz}:dB op≠some (.pe x):=by
 intro h;unfold dB at h;split at h<;>(try split at h)<;>(try split at h)<;>(try split at h)<;>(try simp[Option.map_eq_some_iff]at h)
theorem aew {op:Op} {x:bz} (h:dB op=some (.gM x)):∃cN,op= .move cN/\eJ cN=some x:=by
 unfold dB at h;split at h<;>(try split at h)<;>(try split at h)<;>(try split at h)<;>(try simp[Option.map_eq_some_iff]at h)
 exact⟨_,rfl,h⟩
theorem aex {op:Op} {x:bz} (h:dB op=some (.hO x)):∃cN,op= .assign cN/\eJ cN=some x:=by
 unfold dB at h;split at h<;>(try split at h)<;>(try split at h)<;>(try split at h)<;>(try simp[Option.map_eq_some_iff]at h)
 exact⟨_,rfl,h⟩
theorem cb.alias {F:Nat->Prop} {S:Nat->Nat->Prop} {aI:Nat->Value} {u x:Nat} (h:cb w0 F0 X F S s aI w) (hu:s u= .hole) (ao:(s x).own=true) (aJ:cT (aI u)=cT (aI x)) (ad:Value.hF (aI u)=true):
  cb w0 F0 X F (hc S u (λ_=>False)) (ei s u (.h x [])) aI w:=by
 have fc:ei aI u (aI u)=aI:=by funext y;simp only[ei];split<;>simp_all
 have:=h.AK (t:=u) (d:=.h x []) (v:=aI u) rfl (by
  rw[aO];intro d an ax;simp only[I.sub,Option.some.injEq]at an;subst an;exact⟨cT (aI x),none,rfl,aJ,((yT ao).2.2.2.2.2 _).2 ad⟩)
 rwa [fc]at this
theorem n1.less {F:Nat->Prop} {S a7:Nat->Nat->Prop} {aI:Nat->Value} {s1:ak} {v:Value} (cj:∀u b,a7 u b->S u b) (aQ:av.res=true) (h:n1 w0 X F S s aI w av v):n1 w0 X F a7 s1 aI w av v:=by
 rcases h with⟨ad,af⟩|⟨ad,af,Sn,aG,bf,bU,dc,c1⟩
 .refine .inl ⟨ad,?_⟩;cases av<;>first
   |(simp[I.res]at aQ;done)
   |(rw[aO];trivial)
   |(rw[aO]at af⊢;exact af)
 .exact .inr ⟨ad,af,Sn,aG,bf,bU,λu b aa hu=>dc u b aa (cj u b hu),c1⟩
theorem U3 (bP:C.fH) (h:Rel w0 F0 X n ρ s a w) {o:Oper} {f:bz} {args:List bz} (c7:dB o.op=some (.call f args)) (an:n5 n o.dst=true) {K:I->ak->Prop} {L:ak->Prop} {next:Act->World->Prop}
  (hw:M4 C s f args K) (nk:∀F S ch a7 w aN av s1 v,cb w0 F0 X F S s (λt=>a.tmps.getD t undef) w->K av s1->av.res=true->cb w0 F0 X ch a7 s1 (λt=>a.tmps.getD t undef) aN->n1 w0 X ch a7 s1 (λt=>a.tmps.getD t undef) aN av v->(∀b,F b->ch b/\aN.heap[b]? =w.heap[b]?)->
   ∃s2 eF,L (fin s2 o.dst av)/\cb w0 F0 X ch eF s2 (λt=>a.tmps.getD t undef) aN/\n1 w0 X ch eF s2 (λt=>a.tmps.getD t undef) aN av v)
  (aV:∀aH dt aN,L aH->Rel w0 F0 X n ρ aH dt aN->next dt aN):o.wp C.P a w next Q:=by
 have sw:=h;obtain⟨kV,fj,jn,F,S,aQ⟩:=h;obtain⟨g,caps,ps,r,ad,hV,af,aG,bf,bU,dc,c1,g_⟩:=hw;obtain⟨dst,op,ty,pos,after,guard⟩:=o;simp only at c7 an nk;cases op with
 |call c=>
  obtain⟨callee,pM,argTypes⟩:=c;simp only[dB]at c7;split at c7
  .split at c7
   .rename_i Ep _ _ aey xs bD tM;simp only[Option.some.injEq,e2.call.injEq]at c7;obtain⟨rfl,rfl⟩:=c7;obtain⟨f1,f2⟩:=gA aQ (λ_=>rfl) bD;rw[ad,aO]at f2;obtain⟨arr,f3,f4⟩:=f2;have Er:execOp a.eval {dst,op:=.call {callee:=.value Ep,args:=pM,argTypes},type:=ty,pos,after,guard}=callFunc g ((pM.toList.map a.eval++arr.toList).toArray):=by
     have:a.eval Ep= .func (.func g) #[] arr:=f3;simp only[execOp,resolve,this,Deferred.ofValue,pure_bind,invoke];congr 1;apply Array.ext';simp
    unfold Oper.wp;rw[Er];have Es:e_ w F s (λt=>a.tmps.getD t undef) (xs.map (bu s)++caps) (pM.toList.map a.eval++arr.toList):=U1 (Ie aQ (λ_=>rfl) _ _ (yQ tM)) f4;rw[<-af]at Es;obtain⟨h5,l2⟩:=U2 Es;have fI:∀d∈xs.map (bu s)++caps,d.plain=true:=by
     intro d an;rcases mem_append.1 an with an|an
     .obtain⟨x,ao,rfl⟩:=mem_map.1 an;exact TG s x λav e=>by
       subst e;have hm:=yQ tM;have:some (bz.c av)∈xs.map some:=mem_map.2 ⟨_,ao,rfl⟩;rw[<-hm]at this;obtain⟨o,_,bI⟩:=mem_map.1 this;cases o with
       |const v=>simp only[eJ,Option.map_eq_some_iff]at bI;obtain⟨c,ar,e⟩:=bI;cases e;exact Md ar
       |tmp n=>simp[eJ]at bI
       |func g=>simp[eJ]at bI
       |global g=>simp[eJ]at bI
     .obtain⟨k,au⟩:=getElem?_of_mem an;exact HO hV au
    have M5:=aep (C:=C) aQ (ps:=ps) (vs:=pM.toList.map a.eval++arr.toList) (f:=g) (r:=r) (by simpa using h5)
     (λi p v ax aJ=>⟨fI p.a (by rw[<-af];exact mem_map.2 ⟨p,mem_of_getElem? ax,rfl⟩),l2 i p.a v (by simp[ax]) aJ⟩) aG bf bU dc c1
    rcases M5 with⟨eh,bc⟩|⟨v,aN,eh,ch,a7,bc,dm,bG⟩
    .rw[eh,Oper.upon_enter];refine Calls.mono bc ?_;rintro e aN ⟨v,rfl,ch,a7,bS,ct,dT⟩;obtain⟨s2,eF,m1,m2,m3⟩:=nk _ _ _ _ _ _ _ _ _ aQ g_ dc bS ct dT;exact aV _ _ _ m1 (Rel.put kV fj jn m2 m3 an)
    .rw[eh,Oper.upon_value];obtain⟨s2,eF,m1,m2,m3⟩:=nk _ _ _ _ _ _ _ _ _ aQ g_ dc bc dm bG;exact aV _ _ _ m1 (Rel.put kV fj jn m2 m3 an)
   .cases c7
  .split at c7
   .simp only[Option.map_eq_some_iff]at c7;obtain⟨_,_,c7⟩:=c7;cases c7
   .cases c7
  .split at c7
   .simp only[Option.map_eq_some_iff]at c7;obtain⟨_,_,c7⟩:=c7;cases c7
   .cases c7
  iterate 3
   .split at c7
    .split at c7<;>cases c7
    .cases c7
  .cases c7
 |makeFunc fn first cs=>
  cases fn<;>simp only[dB]at c7<;>first|(cases c7;done)|(split at c7<;>simp at c7)
 |slice T x fP aj fq=>
  cases fq<;>simp only[dB]at c7<;>first|(cases c7;done)|(split at c7<;>simp at c7)
 |makeMap T r=>cases r<;>simp only[dB]at c7<;>simp at c7
 |lookup T x i c=>cases c<;>simp only[dB]at c7<;>first|(cases c7;done)|(split at c7<;>simp at c7)
 |_=>simp only[dB]at c7<;>first|(cases c7;done)|(simp at c7;done)|(split at c7<;>simp at c7)
theorem aez (bP:C.fH) (h:Rel w0 F0 X n ρ s a w) {o:Oper} {bX:e2} (c7:dB o.op=some bX) (an:n5 n o.dst=true) {K:ak->Prop} {next:Act->World->Prop}
  (hw:ra C s bX λav s1=>K (fin s1 o.dst av)) (aV:∀aH dt aN,K aH->Rel w0 F0 X n ρ aH dt aN->next dt aN):o.wp C.P a w next Q:=by
 have sw:=h;obtain⟨kV,fj,jn,F,S,aQ⟩:=h;have plain:∀av s1,cf C s bX=some (av,s1)->K (fin s1 o.dst av)->o.wp C.P a w next Q:=by
  intro av s1 he au;obtain⟨r,aN,v,ch,a7,ad,af,aG,bf⟩:=Ux (a:=a) bP aQ (λ_=>rfl) c7 he;unfold Oper.wp;rw[ad];rcases af with rfl|⟨rfl,rfl⟩
  .exact aV _ _ _ au (Rel.put kV fj jn aG bf an)
  .exact aV _ _ _ au (Rel.put kV fj jn aG bf an)
 cases bX with
 |shr bX=>exact(aer c7).elim
 |call f args=>exact U3 bP ⟨kV,fj,jn,F,S,aQ⟩ c7 an (K:=λav s1=>K (fin s1 o.dst av)) hw (λ_ _ _ a7 _ _ _ s1 _ _ af _ aG bf _=>⟨s1,a7,af,aG,bf⟩) aV
 |mM f args L=>exact(aes c7).elim
 |l0 T x=>exact(aet c7).elim
 |pK x=>exact(aeu c7).elim
 |pe x=>exact(aev c7).elim
 |_=>
  obtain⟨av,s1,he,au⟩:=hw;exact plain av s1 he au
theorem n1.share {F:Nat->Prop} {S:Nat->Nat->Prop} {aI:Nat->Value} {v:Value} (h:cb w0 F0 X F S s aI w) (aJ:n1 w0 X F S s aI w av v) (ba:av.tree=true) (aV:∀vs,av≠.tuple vs):
  ∃ch,cb w0 F0 X ch S s aI w/\n1 w0 X ch S s aI w av.share v:=by
 obtain⟨Sn,gU,gy,iE,i7,qX,Et⟩:∃Sn:Nat->Prop,eY av v/\aB w F av (cT v) Sn/\(∀b,Sn b->b<w.heap.size)/\(∀b,Sn b->¬F b)/\(∀u b,Sn b->¬S u b)/\(∀b,Sn b->X b\/w0.heap.size<=b):=by
  rcases aJ with⟨ad,af⟩|⟨_,af,Sn,aG,bf,bU,dc,c1⟩
  .rw[aO.dh ba]at af;exact⟨λ_=>False,af.1,af.2,λ_ h=>h.elim,λ_ h=>h.elim,λ_ _ h=>h.elim,λ_ h=>h.elim⟩
  .exact⟨Sn,af,aG,bf,bU,dc,c1⟩
 refine⟨λb=>F b\/Sn b,?_,.inl ⟨MS av,?_⟩⟩
 .exact {
   h3:=λb aa=>.inl (h.h3 b aa)
   iB:=λb aa=>by
    rcases aa with aa|aa
    .exact h.iB b aa
    .exact .inr (Et b aa)
   f_:=λb aa=>aa.elim (h.f_ b) (iE b)
   fz:=h.fz
   gD:=λt b aa bD=>bD.elim (h.gD t b aa) (λab=>qX t b ab aa)
   ga:=h.ga
   eU:=h.eU
   el:=λt=>aO.frame (λ_ _=>rfl) (λb aa=>.inl aa) (λ_ _ _=>rfl) h.el _ _ _ (λ_ _=>rfl) (h.el t)
   old:=h.old
   size:=h.size
   os:=h.os
   tape:=h.tape
   output:=h.output
   gq:=h.gq}
 .by_cases bI:∃o,av= .cc o
  .obtain⟨o,rfl⟩:=bI;rw[I.share,aO];trivial
  have M6:av.share.tree=true:=by cases av<;>first|exact ba|rfl|exact(bI ⟨_,rfl⟩).elim
  rw[aO.dh M6];exact⟨MU aV gU,aB.shared (λb aa=>.inl aa) av _ Sn (λb aa=>.inr aa) gy⟩
theorem aeA {op:Op} {T:TypeId} {x:bz} (h:dB op=some (.ij T x)):∃a,op= .box T a/\eJ a=some x:=by
 cases op with
 |box M7 a=>
  simp only[dB,Option.map_eq_some_iff,e2.ij.injEq]at h;obtain⟨y,hy,rfl,rfl⟩:=h;exact⟨a,rfl,hy⟩
 |_=>
  exfalso;unfold dB at h;split at h<;>(try split at h)<;>(try split at h)<;>(try split at h)<;>(try simp[Option.map_eq_some_iff]at h)<;>contradiction
theorem aeB {aN:World} {F ch:Nat->Prop} {s s1:ak} {aI:Nat->Value} (bE:∀b,F b->ch b/\aN.heap[b]? =w.heap[b]?):∀(n:Nat),
  (∀(d:I) (v:Value) (S:Nat->Prop),SizeOf.sizeOf d<=n->d.gG s=true->d.gG s1=true->aO w F s aI d v S->aO aN ch s1 aI d v (λ_=>False))/\
  (∀(ds:ayk) (vs:ayi),SizeOf.sizeOf ds<=n->I.q_ s ds=true->I.q_ s1 ds=true->e_ w F s aI ds vs->e_ aN ch s1 aI ds vs):=by
 intro n;induction n with
 |zero=>
  refine⟨λd v S b8=>?_,λds vs b8=>?_⟩
  .cases d<;>simp at b8<;>omega
  .cases ds<;>simp at b8<;>omega
 |succ n ih=>
  refine⟨λd v S b8 bS ct h=>?_,λds vs b8 bS ct h=>?_⟩
  .cases d with
   |hole=>rw[aO];trivial
   |h x q=>
    simp only[I.gG,Bool.and_eq_true,isEmpty_iff]at bS ct;obtain⟨rfl,bS⟩:=bS;rw[aO]at h⊢;obtain⟨dx,a,gT,iO,j2⟩:=h (s x) (by simp only[I.sub]) (yT bS).1;simp only[et,Option.some.injEq,Prod.mk.injEq,true_and]at gT;intro d an _;simp only[I.sub,Option.some.injEq]at an;subst an;exact⟨cT (aI x),none,by simp only[et],by rw[iO,<-gT.1],((yT ct.2).2.2.2.2.2 _).2 (((yT bS).2.2.2.2.2 _).1 j2)⟩
   |ax x q=>simp[I.gG]at bS
   |aa x k=>
    simp only[I.gG,Bool.not_eq_true']at bS;rw[aO]at h⊢;obtain⟨b,cur,e,fr,ad,af,aG,bf⟩:=h bS;exact λ_=>⟨b,cur,e,fr,ad,(bE b af).1,(bE b af).2.trans aG,bf⟩
   |fn f cap=>
    simp only[I.gG]at bS ct;rw[aO]at h⊢;obtain⟨arr,rfl,ar⟩:=h;exact⟨arr,rfl,ih.2 _ _ (by simp at b8;omega) bS ct ar⟩
   |_=>
    simp only[I.gG]at bS;have bC:=(aO.dh rfl).1 h;exact(aO.dh rfl).2 ⟨bC.1,aB.mono (λb aa=>(bE b aa).1) _ _ _ _ (λ_ h=>h) (aB.frame (λb aa=>(bE b aa).2) _ _ _ (λ_ h=>h.elim) (aB.plain _ _ _ _ bS bC.2))⟩
  .cases ds with
   |nil=>rw[e_]at h⊢;exact h
   |cons d ds=>
    simp only[I.q_,Bool.and_eq_true]at bS ct;rw[e_]at h⊢;obtain⟨v,lY,rfl,ad,af⟩:=h;simp at b8;exact⟨v,lY,rfl,ih.1 _ _ _ (by omega) bS.1 ct.1 ad,ih.2 _ _ (by omega) bS.2 ct.2 af⟩
theorem aeC {s:ak} {d:I} (h:d.gG s=true):d.plain=true:=by
 cases d<;>first|rfl|(simpa [I.gG]using h)
theorem cb.pL {F:Nat->Prop} {aI:Nat->Value}:∀(L:ayj) (s:ak) (S:Nat->Nat->Prop),cb w0 F0 X F S s aI w->(∀p∈L,p.2.plain=true/\aO w F s aI p.2 (aI p.1) (λ_=>False))->
  ∃a7,cb w0 F0 X F a7 (eg.pL s L) aI w/\∀u b,a7 u b->S u b:=by
 intro L;induction L with
 |nil=>intro s S h _;exact⟨S,h,λ_ _ h=>h⟩
 |cons p L ih=>
  intro s S h nk;obtain⟨ad,af⟩:=nk p (by simp);have fc:ei aI p.1 (aI p.1)=aI:=by funext u;simp only[ei];split<;>simp_all
  have aG:=h.AK (t:=p.1) ad af;rw[fc]at aG;have iA:∀x,x≠p.1->(ei s p.1 p.2 x).tree=true->ei s p.1 p.2 x=s x/\aI x=aI x:=λx ao _=>⟨lb _ _ ao,rfl⟩
  obtain⟨a7,g1,g2⟩:=ih _ _ aG (λq cy=>⟨(nk q (by simp[cy])).1,(aO.void (t:=p.1) iA (by rw[oC];exact ad) _).1 _ _ _ (Nat.le_refl _) (nk q (by simp[cy])).2⟩);refine⟨a7,g1,λu b aa=>?_⟩;have:=g2 u b aa;simp only[hc]at this;split at this
  .exact this.elim
  .exact this
theorem M8 {s:ak}:∀{L:ayj},n6 s L=true->∀p∈L,p.2.gG s=true
 |q::L,ad,p,ax=>by
  simp only[n6,Bool.and_eq_true]at ad;rcases mem_cons.1 ax with rfl|ax
  .exact ad.1
  .exact M8 ad.2 p ax
theorem aeD {s:ak} {us:ayf} {p:Nat×I} (h:p∈lh s us):p.1∈us/\s p.1=p.2:=by
 obtain⟨u,hu,rfl⟩:=mem_map.1 h;exact⟨hu,rfl⟩
theorem aeE (bP:C.fH) (h:Rel w0 F0 X n ρ s a w) {o:Oper} {bX:e2} (c7:su o.op=bX.base) (an:n5 n o.dst=true) {K:ak->Prop} {next:Act->World->Prop}
  (hw:ra C s bX λav s1=>K (fin s1 o.dst av)) (aV:∀aH dt aN,K aH->Rel w0 F0 X n ρ aH dt aN->next dt aN):o.wp C.P a w next Q:=by
 cases bX with
 |shr bX=>
  obtain⟨av,s1,he,ba,nG,au⟩:=hw;rcases sv c7 with c7|c7
  .change bX= .bad at c7;subst c7;cases he
  obtain⟨kV,fj,jn,F,S,aQ⟩:=h;obtain⟨r,aN,v,ch,a7,ad,af,aG,bf⟩:=Ux (a:=a) bP aQ (λ_=>rfl) c7 he;obtain⟨vn,g3,g4⟩:=n1.share aG bf ba nG;unfold Oper.wp;rw[ad];rcases af with rfl|⟨rfl,rfl⟩
  .exact aV _ _ _ au (Rel.put kV fj jn g3 g4 an)
  .exact aV _ _ _ au (Rel.put kV fj jn g3 g4 an)
 |bad=>obtain⟨av,s1,he,_⟩:=hw;cases he
 |mM f args L=>
  obtain⟨aY,hw⟩:=hw;rcases sv c7 with aa|aa
  .cases aa
  .refine U3 bP h aa an hw ?_ aV;rintro F S ch a7 w aN av s1 v gU ⟨gy,i7⟩ qX Et M9 aeF;obtain⟨eF,g1,g2⟩:=Et.pL (lh s L) s1 a7 (λp ax=>by
    have eh:=(aeD ax).2;have bc:=M8 aY p ax;have dm:=M8 gy p ax;refine⟨aeC bc,(aeB aeF _).1 _ _ (S p.1) (Nat.le_refl _) bc dm ?_⟩;have:=gU.el p.1;rw[eh]at this;exact this)
   exact⟨_,eF,i7,g1,M9.less g2 qX⟩
 |l0 T x=>
  obtain⟨av,s1,he,au⟩:=hw;rcases sv c7 with aa|aa
  .cases aa
  .obtain⟨cN,xi,ao⟩:=aeA aa;obtain⟨kV,fj,jn,F,S,aQ⟩:=h;obtain⟨dst,op,ty,pos,after,guard⟩:=o;simp only at xi an au;subst xi;obtain⟨r,aN,v,ch,a7,ad,af,aG,bf⟩:Next C w0 F0 X (λt=>a.tmps.getD t undef) w (execOp a.eval ⟨dst,.box T cN,ty,pos,after,guard⟩) av s1:=(acL (T:=T) aQ (gA aQ (λ_=>rfl) ao).2 he).next;unfold Oper.wp;rw[ad];rcases af with rfl|⟨rfl,rfl⟩
   .exact aV _ _ _ au (Rel.put kV fj jn aG bf an)
   .exact aV _ _ _ au (Rel.put kV fj jn aG bf an)
 |pe x=>
  obtain⟨av,s1,he,au⟩:=hw;rcases sv c7 with aa|aa
  .cases aa
  .obtain⟨cN,xi,ao⟩:=aew aa;obtain⟨kV,fj,jn,F,S,aQ⟩:=h;obtain⟨dst,op,ty,pos,after,guard⟩:=o;simp only at xi an au;subst xi;simp only[cf]at he;obtain⟨g1,g2⟩:=gA aQ (λ_=>rfl) ao;obtain⟨r,aN,v,ch,a7,ad,af,aG,bf⟩:Next C w0 F0 X (λt=>a.tmps.getD t undef) w (execOp a.eval ⟨dst,.move cN,ty,pos,after,guard⟩) av s1:=by
    unfold tJ at he;split at he
    .rename_i y q hy;rw[hy]at g1 g2;obtain⟨cI,k0,bS,ct,Sn,dT,ed,eQ,de,kE,_⟩:=r_ aQ g1 g2 he;exact⟨_,w,_,F,cI,rfl,.inl rfl,k0,.inr ⟨bS,ct,Sn,dT,ed,eQ,de,kE⟩⟩
    .simp only[Option.some.injEq,Prod.mk.injEq]at he;obtain⟨rfl,rfl⟩:=he;exact⟨_,w,_,F,S,rfl,.inl rfl,aQ,.inl ⟨g1,g2⟩⟩
   unfold Oper.wp;rw[ad];rcases af with rfl|⟨rfl,rfl⟩
   .exact aV _ _ _ au (Rel.put kV fj jn aG bf an)
   .exact aV _ _ _ au (Rel.put kV fj jn aG bf an)
 |pK x=>
  obtain⟨av,s1,he,au⟩:=hw;rcases sv c7 with aa|aa
  .cases aa
  .obtain⟨cN,xi,ao⟩:=aex aa;obtain⟨kV,fj,jn,F,S,aQ⟩:=h;obtain⟨dst,op,ty,pos,after,guard⟩:=o;simp only at xi an au;subst xi;simp only[cf,Option.some.injEq,Prod.mk.injEq]at he;obtain⟨rfl,rfl⟩:=he;obtain⟨g1,g2⟩:=gA aQ (λ_=>rfl) ao;obtain⟨r,aN,v,ch,a7,ad,af,aG,bf⟩:Next C w0 F0 X (λt=>a.tmps.getD t undef) w (execOp a.eval ⟨dst,.assign cN,ty,pos,after,guard⟩) (bu s x) s:=⟨_,w,_,F,S,rfl,.inl rfl,aQ,.inl ⟨g1,g2⟩⟩
   unfold Oper.wp;rw[ad];rcases af with rfl|⟨rfl,rfl⟩
   .exact aV _ _ _ au (Rel.put kV fj jn aG bf an)
   .exact aV _ _ _ au (Rel.put kV fj jn aG bf an)
 |_=>
  rcases sv c7 with aa|aa
  .cases aa
  .exact aez bP h aa an hw aV
end
end Go.eg
