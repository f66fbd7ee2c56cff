/- Part of a proof that a law returns true for every input. No condition. -/
import Derived.Test.YtmaepbgkcmjcjaiGreatDoorFwD
import Derived.Laws.Tables
namespace Go.eg
open List Go.IntKind Nat
section
variable {C:cl} {w0 w:World} {F0 X F:Nat->Prop} {S:Nat->Nat->Prop} {s s1:al} {aG:Nat->Value} {av:I}
theorem MU (z:azi):∀n,(range (n*z.length)).map (λi=>z[i%z.length]!)=(replicate n z).flatten
 |0=>by simp
 |n+1=>by
  rw[Nat.add_mul,Nat.one_mul,range_add,map_append,MU z n,replicate_succ',flatten_append];congr 1;simp only[List.map_map,flatten_cons,flatten_nil,append_nil];apply ext_getElem
  .simp
  .intro i ad ae;have ai:i<z.length:=ae;simp[mod_eq_of_lt ai,ai]
theorem bA.replicate {d:I} {cs:azi} (h:∀aZ,aA w F d cs aZ):∀n aZ,bA w F (replicate n d) (replicate n cs).flatten aZ
 |0,aZ=>by simp only[replicate_zero,flatten_nil];rw[bA]
 |n+1,aZ=>by
  rw[replicate_succ,replicate_succ,flatten_cons,bA];exact⟨cs,_,λ_=>False,λ_=>False,rfl,h _,bA.replicate h n _,λ_ h=>h.elim,λ_ h=>h.elim,λ_ h=>h.elim⟩
def fB (C:cl) (T:TypeId) (l c:I):Option I:=
 match(C.T T).k,l,c with
 | .slice e,.int .i64 n,.int .i64 m=>if n=m/\0<=n/\(C.T e).ok=true/\(C.T e).zero.wd=(C.T e).sz/\(flat (C.T e).zero).isSome=true/\(C.T e).sz≠0/\(C.T e).bytes*n<=140737488355328/\n<=9223372036854775807 then
   some (.ak (C.T e).sz (replicate n.toNat (C.T e).zero))else none
 |_,_,_=>none
theorem adN (bO:C.fH) (h:cd w0 F0 X F S s aG w) {T:TypeId} {l c:I} {Uw Ux:Value} (aC:aS w F s aG l Uw (λ_=>False)) (ar:aS w F s aG c Ux (λ_=>False)) (he:fB C T l c=some av):
  Good C w0 F0 X aG w (Instr.makeSlice T Uw Ux) av s:=by
 unfold fB at he;split at he
 .rename_i e n m ax;have:=qg aC;subst this;have:=qg ar;subst this;obtain⟨Ul,d,Um,aO,aU,aM,bT,cv,ck,bY⟩:=bO.info (hv ax (by simp));rw[ax]at bY;have:=oC bY;subst this;split at he
  .rename_i Eh;obtain⟨rfl,aR,vC,y3,y4,fg,aw0,y6⟩:=Eh;simp only[Option.some.injEq]at he;subst he;obtain⟨i,Un,z,f1,f2,f3,f4,f5,f6,f7⟩:=bO.info vC;obtain⟨hU,qi⟩:=Option.isSome_iff_exists.1 y4;have y5:=f5 hU qi;have hT:∀aZ,aA w F (C.T e).zero hU aZ:=λaZ=>(aA.flat _).1 _ hU aZ (Nat.le_refl _) qi;have xu:hU.length=(C.T e).sz:=by rw[aA.length _ _ _ (hT (λ_=>False)),y3]
   obtain⟨n,rfl⟩:=Int.eq_ofNat_of_zero_le aR;simp only[Int.toNat_natCast];have Uy:i64.wrap (n:Int)=n:=by
    rw[wrap_i64];omega
   have H9:∀k (w:World),(askRoom k).run C.P w= .ok () w:=by
    intro k w;unfold askRoom;split<;>rfl
   have yU:((Array.range (n*(C.T e).sz)).map (hU.toArray[·%hU.toArray.size]!)).toList=(replicate n hU).flatten:=by
    have:=MU hU n;rw[xu]at this;simpa [xu]using this
   have er:¬(281474976710656<(i.bytes:Int)*n):=by
    rw[f3];omega
   have Uz:¬((n:Int)<0):=by omega
   have run:(Instr.makeSlice T (.int .i64 n) (.int .i64 n)).run C.P w= .ok (.slice (some ⟨w.heap.size,0,none⟩) n n)
     (w.alloc (.cells (if n*(C.T e).sz=0 then(Array.range (n*(C.T e).sz)).map (λ_=>default)else(Array.range (n*(C.T e).sz)).map (hU.toArray[·%hU.toArray.size]!)) e)):=by
    by_cases a7:n*(C.T e).sz=0
    .simp[Instr.makeSlice,run_underlying ck,asInt,asIntOf,Ef f1,Uy,er,Uz,H9,nf f1,f2,a7,newRow]
    .simp only[a7,if_false];simp[Instr.makeSlice,run_underlying ck,asInt,asIntOf,Ef f1,Uy,er,Uz,H9,nf f1,f2,a7,newRow,yR f1 f4,y5]
   have pJ:(if n*(C.T e).sz=0 then(Array.range (n*(C.T e).sz)).map (λ_=>(default:Value))else(Array.range (n*(C.T e).sz)).map (hU.toArray[·%hU.toArray.size]!)).toList=(replicate n hU).flatten:=by
    split
    .rename_i a7;have:n=0:=by
      rcases mul_eq_zero.1 a7 with h|h
      .exact h
      .exact(fg h).elim
     subst this;simp
    .exact yU
   generalize Et:(if n*(C.T e).sz=0 then(Array.range (n*(C.T e).sz)).map (λ_=>(default:Value))else(Array.range (n*(C.T e).sz)).map (hU.toArray[·%hU.toArray.size]!))=cur at run pJ;have ke:(replicate n hU).flatten.length=n*(C.T e).sz:=by simp[xu]
   have iF:cur.size=n*(C.T e).sz:=by
    have:cur.size=cur.toList.length:=by simp
    rw[this,pJ,ke]
   have oE:=h.H5 (aL:=w.alloc (.cells cur e)) (sz:=(C.T e).sz) (cap:=n) (xs:=replicate n (C.T e).zero) (cur:=cur) (e:=e) (fr:=(0,0)) (Sn:=λ_=>False) rfl rfl rfl ⟨rfl,λ_=>Nat.le_refl _⟩
    (λo _ ⟨_,ae⟩=>absurd ae (not_lt_zero _)) (by simp) (by unfold maxLen;omega) iF (by intro d ao;rw[eq_of_mem_replicate ao];exact y3)
    (by rw[pJ,length_replicate,take_of_length_le (by rw[ke];exact Nat.le_refl _)];exact bA.replicate hT n _) (λ_ h=>h.elim) (λ_ h=>h.elim) (λ_ _ h=>h.elim) (λ_ h=>h.elim)
   rw[length_replicate]at oE;exact⟨_,_,F,S,run,oE.1,oE.2⟩
  .cases he
 .cases he
def o9 (s:al) (f:FuncId) (cs:List bE):Option I:=some (.fn f (cs.map (bt s)))
theorem Ig {a:Act} (h:cd w0 F0 X F S s aG w) (e_:∀t,aG t=a.tmps.getD t undef):∀(os:List Operand) (xs:List bE),os.map eC=xs.map some->fo w F s aG (xs.map (bt s)) (os.map a.eval)
 |[],[],_=>by simp only[map_nil];rw[fo]
 |[],x::xs,h=>by simp at h
 |o::os,[],h=>by simp at h
 |o::os,x::xs,bD=>by
  simp only[map_cons,cons.injEq]at bD⊢;rw[fo];exact⟨_,_,rfl,(gF h e_ bD.1).2,Ig h e_ os xs bD.2⟩
theorem UA:∀(vs:azi) (k off:Nat) (A:Array Value) (l m r:azi),A.toList=l++(m++r)->l.length=off+k->m.length=vs.length->
  ((vs.zipIdx k).foldl (λcs (x:Value×Nat)=>cs.setIfInBounds (off+x.2) x.1) A).toList=l++(vs++r)
 |[],k,off,A,l,m,r,iS,aC,hm=>by
  have:m=[]:=by simpa using hm
  subst this;simpa using iS
 |v::vs,k,off,A,l,m,r,iS,aC,hm=>by
  obtain⟨x,m,rfl⟩:∃x jG,m=x::jG:=by
   cases m with
   |nil=>simp at hm
   |cons x m=>exact⟨x,m,rfl⟩
  rw[zipIdx_cons,foldl_cons];have:=UA vs (k+1) off (A.setIfInBounds (off+k) v) (l++[v]) m r (by
   rw[Array.toList_setIfInBounds,iS,<-aC,set_append_right _ _ (Nat.le_refl _)];simp) (by simp;omega) (by simpa using hm)
  simpa using this
def nA (os:List (Option Nat)) (a:I):I:=os.foldl (λa o=>nd o a) a
def ez (place:Nat->Option (Nat×Nat)):al->azk->List (Option Nat)->azj->Option (azk×al)
 |s,fe,_,[]=>some (fe,s)
 |s,fe,os,(k,a)::r=>match dD s (nA os a),place k,fe[k]? with
  |some (d,s1),some (off,n),some z=>match d with
   | .tuple _=>none
   |d=>if d.wd=n/\z.wd=n/\I.eZ (fe.take k)=off then ez place s1 (fe.set k d) (os++[(nA os a).owner]) r else none
  |_,_,_=>none
def q1 (w:World) (F:Nat->Prop) (s:al) (aG:Nat->Value):azj->List (Nat×Value)->Prop
 |[],[]=>True
 |(k,a)::r,(da,v)::mj=>k=da/\a.plain=true/\aS w F s aG a v (λ_=>False)/\q1 w F s aG r mj
 |_,_=>False
theorem adO (x:Nat):∀d:I,d.plain=true->(cG x d).plain=true
 | .h y q,_=>by simp only[cG];split<;>(try split)<;>rfl
 | .ay y q,_=>by simp only[cG];split<;>rfl
 | .ab y q,_=>rfl
 | .fn f c,_=>by simp only[cG];rfl
 | .hole,h=>h
 | .bool _,h=>h
 | .gA,h=>h
 | .int _ _,h=>h
 | .str _,h=>h
 | .eh,h=>h
 | .a8,h=>h
 | .slice _,h=>h
 | .ak _ _,h=>h
 | .ref _,h=>h
 | .aQ _,h=>h
 | .agg _,h=>h
 | .tuple _,h=>h
theorem adP (o:Option Nat) (d:I) (h:d.plain=true):(nd o d).plain=true:=by
 cases o with
 |none=>exact h
 |some x=>exact adO x d h
theorem q1.cG {w:World} {F:Nat->Prop} {s s1:al} {aG:Nat->Value} {o:Option Nat} (ay:∀(bM:I) (hl:Value) (aZ:Nat->Prop),aS w F s aG bM hl aZ->aS w F s1 aG (nd o bM) hl aZ):
  ∀(r:azj) (mj:List (Nat×Value)),q1 w F s aG r mj->q1 w F s1 aG (r.map λp=>(p.1,nd o p.2)) mj
 |[],[],_=>trivial
 |(k,a)::r,(da,v)::mj,h=>by
  obtain⟨ad,ae,aJ,bh⟩:=h;exact⟨ad,adP _ _ ae,ay _ _ _ aJ,q1.cG ay r mj bh⟩
 |[],_::_,h=>h.elim
 |_::_,[],h=>h.elim
theorem MV {place:Nat->Option (Nat×Nat)}:∀(ps:azj) (vs:List (Nat×Value)) (os:List (Option Nat)) (s:al) (S:Nat->Nat->Prop) (fe:azk) (A:Array Value) (i_:Nat->Prop),
  cd w0 F0 X F S s aG w->q1 w F s aG (ps.map λp=>(p.1,nA os p.2)) vs->bA w F fe A.toList i_->(∀b,i_ b->b<w.heap.size)->(∀b,i_ b->¬F b)->(∀u b,i_ b->¬S u b)->(∀b,i_ b->X b\/w0.heap.size<=b)->
  ∀ds s1,ez place s fe os ps=some (ds,s1)->∃o_ cD hS,Instr.fill place A vs=some o_/\cd w0 F0 X F cD s1 aG w/\bA w F ds o_.toList hS/\(∀b,hS b->b<w.heap.size)/\(∀b,hS b->¬F b)/\(∀u b,hS b->¬cD u b)/\
   (∀b,hS b->X b\/w0.heap.size<=b)/\ds.length=fe.length/\I.eZ ds=I.eZ fe/\(∀n,(∀d∈fe,d.wd=n)->∀d∈ds,d.wd=n)
 |[],[],os,s,S,fe,A,i_,h,_,ad,ae,aJ,bh,b2,ds,s1,he=>by
  simp only[ez,Option.some.injEq,Prod.mk.injEq]at he;obtain⟨rfl,rfl⟩:=he;exact⟨A,S,i_,rfl,h,ad,ae,aJ,bh,b2,rfl,rfl,λ_ h=>h⟩
 |(k,a)::ps,(da,v)::vs,os,s,S,fe,A,i_,h,ay,ad,ae,aJ,bh,b2,ds,s1,he=>by
  obtain⟨rfl,nB,sj,Eu⟩:=ay;simp only[ez]at he;split at he
  .rename_i d Bf off n z aY fI cf;have key:∀d:I,(∀aE,d≠.tuple aE)->dD s (nA os a)=some (d,Bf)->(if d.wd=n/\z.wd=n/\I.eZ (fe.take k)=off then ez place Bf (fe.set k d) (os++[(nA os a).owner]) ps else none)=some (ds,s1)->
     ∃o_ cD hS,Instr.fill place A ((k,v)::vs)=some o_/\cd w0 F0 X F cD s1 aG w/\bA w F ds o_.toList hS/\(∀b,hS b->b<w.heap.size)/\(∀b,hS b->¬F b)/\(∀u b,hS b->¬cD u b)/\
     (∀b,hS b->X b\/w0.heap.size<=b)/\ds.length=fe.length/\I.eZ ds=I.eZ fe/\(∀n,(∀d∈fe,d.wd=n)->∀d∈ds,d.wd=n):=by
    intro d vy aY he;split at he
    .rename_i ar;obtain⟨ni,ld,UB⟩:=ar;obtain⟨cD,g0,g1,g2,Sn,g3,g4,g5,g6,g7,g8,g9,g10⟩:=sk h nB sj aY;obtain⟨cA,hc,c2,Sx,jt,iS,ja,hs,iE,j1,hh,o1⟩:=bA.pick fe _ _ k z ad cf;have yU:=MC g2 vy;have oF:=aA.length _ _ _ g3;have UC:=aA.length _ _ _ hh;have xo:=o1 w d (dd v) Sn (λ_ _=>rfl) (λ_ _=>rfl) g3 (λb adQ adR=>by obtain⟨u,hu⟩:=g9 b adQ;exact bh u b (hs b adR) hu);have UD:=UA (dd v) 0 off A cA hc c2 iS (by rw[ja,UB];rfl) (by rw[UC,oF,ni,ld]);generalize Ev:((dd v).zipIdx 0).foldl (λcs (x:Value×Nat)=>cs.setIfInBounds (off+x.2) x.1) A=o6 at UD;obtain⟨o_,eH,hS,m1,m2,m3,m4,m5,m6,m7,m8,m9,m10⟩:=MV (place:=place) ps vs (os++[(nA os a).owner]) Bf cD (fe.set k d) o6 (λb=>Sx b\/Sn b) g0 (by have:=q1.cG g10 _ _ Eu;simpa [nA,foldl_append,Function.comp_def]using this) (by rw[UD];exact xo)
      (by rintro b (ab|ab);exact ae b (hs b ab);exact g4 b ab) (by rintro b (ab|ab);exact aJ b (hs b ab);exact g5 b ab)
      (by rintro u b (ab|ab);exact λhu=>bh u b (hs b ab) (g8 u b hu);exact g6 u b ab) (by rintro b (ab|ab);exact b2 b (hs b ab);exact g7 b ab) ds s1 he
     refine⟨o_,eH,hS,?_,m2,m3,m4,m5,m6,m7,by rw[m8];simp,by rw[m9];exact Mb _ _ _ _ cf (by rw[ni,ld]),?_⟩
     .have MW:off+n<=A.size:=by
       have:A.size=A.toList.length:=by simp
       rw[this,iS];simp[ja,UB,UC,ld]
      simp only[Instr.fill,fI,yU,List.size_toArray,oF,ni];have nx:¬(n≠n\/A.size<off+n):=by omega
      have adS:(dd v).toArray.zipIdx.foldl (λcs (x:Value×Nat)=>cs.setIfInBounds (off+x.2) x.1) A=o6:=by
       rw[<-Ev,<-Array.foldl_toList];simp
      simp only[ne_eq,not_true_eq_false,decide_false,Bool.false_or,decide_eq_true_eq,gt_iff_lt];rw[if_neg (by simp;omega)];rw[show(dd v).toArray.zipIdx.foldl (λcs x=>match x with|(c,j)=>cs.setIfInBounds (off+j) c) A=o6 from adS];exact m1
     .intro MX oG;refine m10 MX (Mc oG ?_);rw[ni,<-ld];exact oG z (mem_of_getElem? cf)
    .cases he
   split at he
   .cases he
   .rename_i vy;exact key _ (λaE e=>vy aE e) aY he
  .cases he
 |[],_::_,_,_,_,_,_,_,_,ay,_,_,_,_,_,_,_,_=>ay.elim
 |_::_,[],_,_,_,_,_,_,_,ay,_,_,_,_,_,_,_,_=>ay.elim
def gm (C:cl) (s:al) (T:TypeId) (ps:azj):Option (I×al):=
 match(C.T T).k,(C.T T).zero with
 | .struct aE,.agg fe=>if(flat (.agg fe)).isSome=true/\(∀f∈aE,(C.T f.1).ok=true)then
   (match ez (λk=>(aE[k]?).map λf=>(f.2,(C.T f.1).sz)) s fe [] ps with
   |some (ds,s1)=>some (.agg ds,s1)
   |none=>none)else none
 |_,_=>none
def dS (C:cl) (s:al) (T:TypeId) (n:Nat) (ps:azj):Option (I×al):=
 match(C.T T).k with
 | .slice e=>if(C.T e).ok=true/\(C.T e).zero.wd=(C.T e).sz/\(flat (C.T e).zero).isSome=true/\(C.T e).sz≠0/\n*(C.T e).sz<=16777216 then
   (match ez (λk=>some (k*(C.T e).sz,(C.T e).sz)) s (replicate n (C.T e).zero) [] ps with
   |some (ds,s1)=>some (.ak (C.T e).sz ds,s1)
   |none=>none)else none
 |_=>none
theorem adT (bO:C.fH):∀(gs:List Field),(∀g∈gs,(C.T g.type).ok=true)->
  gs.mapM (λf=>(C.P.info? f.type).map λi=>(f.offset,i.size))=some (gs.map λg=>(g.offset,(C.T g.type).sz)):=by
 intro gs;induction gs with
 |nil=>intro _;simp
 |cons g gs ih=>
  intro hg;obtain⟨i,d,z,f1,f2,f3,f4,f5,f6,f7⟩:=bO.info (hg g (by simp));have:=ih (λg iK=>hg g (by simp[iK]));simp[mapM_cons,f1,f2,this]
theorem adU (bO:C.fH) (h:cd w0 F0 X F S s aG w) {T:TypeId} {ps:azj} {vs:List (Nat×Value)} (ay:q1 w F s aG ps vs) (he:gm C s T ps=some (av,s1)):
  Good C w0 F0 X aG w (Instr.build T vs.toArray) av s1:=by
 unfold gm at he;split at he
 .rename_i aE fe ax cf;split at he
  .rename_i ar;obtain⟨y4,adV⟩:=ar;split at he
   .rename_i ds s2 ke;simp only[Option.some.injEq,Prod.mk.injEq]at he;obtain⟨rfl,rfl⟩:=he;obtain⟨i,d,z,aO,aU,aM,bT,cv,ck,bY⟩:=bO.info (hv ax (by simp));rw[ax]at bY;obtain⟨gs,rfl,UE⟩:=Ee bY;obtain⟨hU,qi⟩:=Option.isSome_iff_exists.1 y4;have y5:=cv hU (by rw[cf];exact qi);have hT:bA w F fe hU.toArray.toList (λ_=>False):=by
     have:=(aA.flat (w:=w) (F:=F) _).1 (.agg fe) hU (λ_=>False) (Nat.le_refl _) qi;rw[aA]at this;simpa using this
    have fj:q1 w F s aG (ps.map λp=>(p.1,nA [] p.2)) vs:=by simpa [nA]using ay
    obtain⟨o_,cD,hS,m1,m2,m3,m4,m5,m6,m7,m8,m9,m10⟩:=MV ps vs [] s S fe hU.toArray (λ_=>False) h fj hT (λ_ h=>h.elim) (λ_ h=>h.elim) (λ_ _ h=>h.elim) (λ_ h=>h.elim) ds s2 ke;have fI:=adT bO gs.toList (λg hg=>adV (g.type,g.offset) (by rw[<-UE];exact List.mem_map_of_mem hg));have adW:(λ(k:Nat)=>(aE[k]?).map λ(f:TypeId×Nat)=>(f.2,(C.T f.1).sz))=λ(k:Nat)=>((gs.toList.map λg=>(g.offset,(C.T g.type).sz)).toArray)[k]? :=by
     funext k;rw[<-UE];simp only[getElem?_map,getElem?_toArray,Option.map_map];rfl
    rw[adW]at m1;refine⟨.agg o_,w,F,cD,run_build w T vs.toArray o_ ?_,m2,.inr ⟨rfl,⟨_,rfl⟩,hS,by simp only[dd,jb];rw[aA];exact m3,m4,m5,m6,m7⟩⟩;unfold Program.built;simp only[aO,ck,bT,fI,y5];exact m1
   .cases he
  .cases he
 .cases he
theorem adX (bO:C.fH) (h:cd w0 F0 X F S s aG w) {T:TypeId} {n:Nat} {ps:azj} {vs:List (Nat×Value)} (ay:q1 w F s aG ps vs) (he:dS C s T n ps=some (av,s1)):
  Good C w0 F0 X aG w (Instr.buildSlice T n vs.toArray) av s1:=by
 unfold dS at he;split at he
 .rename_i e ax;split at he
  .rename_i ar;obtain⟨vC,y3,y4,fg,aw1⟩:=ar;split at he
   .rename_i ds s2 ke;simp only[Option.some.injEq,Prod.mk.injEq]at he;obtain⟨rfl,rfl⟩:=he;obtain⟨Ul,d,Um,aO,aU,aM,bT,cv,ck,bY⟩:=bO.info (hv ax (by simp));rw[ax]at bY;have:=oC bY;subst this;obtain⟨i,Un,z,f1,f2,f3,f4,f5,f6,f7⟩:=bO.info vC;obtain⟨hU,qi⟩:=Option.isSome_iff_exists.1 y4;have y5:=f5 hU qi;have hT:∀aZ,aA w F (C.T e).zero hU aZ:=λaZ=>(aA.flat _).1 _ hU aZ (Nat.le_refl _) qi;have xu:hU.length=(C.T e).sz:=by rw[aA.length _ _ _ (hT (λ_=>False)),y3]
    generalize iS:((Array.range (n*(C.T e).sz)).map ((if n*(C.T e).sz=0 then #[]else hU.toArray)[·%(if n*(C.T e).sz=0 then(#[]:Array Value)else hU.toArray).size]!))=A;have MW:A.toList=(replicate n hU).flatten:=by
     rw[<-iS];by_cases a7:n*(C.T e).sz=0
     .have:n=0:=by
       rcases mul_eq_zero.1 a7 with h|h
       .exact h
       .exact(fg h).elim
      subst this;simp
     .simp only[a7,if_false];have:=MU hU n;rw[xu]at this;simpa [xu]using this
    have fj:q1 w F s aG (ps.map λp=>(p.1,nA [] p.2)) vs:=by simpa [nA]using ay
    obtain⟨o_,cD,hS,m1,m2,m3,m4,m5,m6,m7,m8,m9,m10⟩:=MV ps vs [] s S (replicate n (C.T e).zero) A (λ_=>False) h fj (by rw[MW];exact bA.replicate hT n _) (λ_ h=>h.elim) (λ_ h=>h.elim) (λ_ _ h=>h.elim) (λ_ h=>h.elim) ds s2 ke;have hlen:ds.length=n:=by rw[m8];simp
    have UF:=m10 (C.T e).sz (by intro d ao;rw[eq_of_mem_replicate ao];exact y3);have adY:o_.toList.length=n*(C.T e).sz:=by rw[bA.y2 m3 UF,hlen]
    have adZ:o_.size=n*(C.T e).sz:=by rw[<-adY];simp
    have aw2:n<=16777216:=by
     have:n*1<=n*(C.T e).sz:=mul_le_mul_left _ (by omega);omega
    have oE:=m2.H5 (aL:=w.alloc (.cells o_ e)) (sz:=(C.T e).sz) (cap:=n) (xs:=ds) (cur:=o_) (e:=e) (fr:=(0,0)) (Sn:=hS) rfl rfl rfl ⟨rfl,λ_=>Nat.le_refl _⟩
     (λo _ ⟨_,ae⟩=>absurd ae (not_lt_zero _)) (by omega) (by unfold maxLen;omega) adZ UF (by rw[hlen,take_of_length_le (by omega)];exact m3) m4 m5 m6 m7
    rw[hlen]at oE;refine⟨_,_,F,cD,?_,oE.1,oE.2⟩;by_cases a7:n*(C.T e).sz=0
    .simp only[a7,if_true]at iS;have Bg:(Array.map (λ_=>(default:Value)) (Array.range 0))=A:=by
      have:n=0:=by
       rcases mul_eq_zero.1 a7 with h|h
       .exact h
       .exact(fg h).elim
      apply Array.ext';rw[MW,this];simp
     simp[Instr.buildSlice,run_underlying ck,nf f1,f2,a7,newRow];rw[Bg,m1];simp
    .simp only[a7,if_false]at iS;have nx:¬(16777216<n*(C.T e).sz):=by omega
     simp[Instr.buildSlice,run_underlying ck,nf f1,f2,a7,nx,yR f1 f4,y5,newRow];have Bg:(Array.map (λx=>hU[x%hU.length]?.getD default) (Array.range (n*(C.T e).sz)))=A:=by
      rw[<-iS];simp
     rw[Bg,m1];simp
   .cases he
  .cases he
 .cases he
end
inductive eS where
 |hV (x:bE)
 |h4 (x:bE)
 |pick (c a b:bE)
 |mL (T:TypeId)
 |iG (T:TypeId) (x:bE)
 |gm (T:TypeId) (ps:List (Nat×bE))
 |dS (T:TypeId) (n:Nat) (ps:List (Nat×bE))
 |fL (T:TypeId) (x:bE)
 |kV (T:TypeId) (x y:bE)
 |ml (x:bE)
 |eG (op:BinOp) (T:TypeId) (x y:bE)
 |un (op:UnOp) (x:bE)
 |kW (A B:TypeId) (x:bE)
 |o9 (f:FuncId) (cs:List bE)
 |fB (T:TypeId) (l c:bE)
 |iJ (T:TypeId) (x:bE) (fM ai:Option bE)
 |hP (T:TypeId) (x:bE) (k:Nat)
 |kF (T:TypeId) (x i:bE)
 |idx (T:TypeId) (x i:bE)
 |ex (x:bE) (k:Nat)
 |jd (T:TypeId) (x:bE) (k:Nat)
 |call (f:bE) (args:List bE)
 |len (T:TypeId) (x:bE)
 |app (T dN:TypeId) (x y:bE)
 |shr (bU:eS)
 |cap (T:TypeId) (x:bE)
 |ki (fc:Bool) (x y:bE)
 |bad
 |pL (x:bE)
 |pa (x:bE)
 |sv
 |jI (T:TypeId) (x i:bE)
 |kX (T:TypeId) (x i v:bE)
def eS.base:eS->eS
 | .shr bU=>bU
 | .pL x=>.h4 x
 | .pa x=>.hV x
 |bU=>bU
def sw:List Operand->Option (List bE)
 |[]=>some []
 |o::os=>match eC o,sw os with
  |some x,some xs=>some (x::xs)
  |_,_=>none
def Bh:List (Nat×Operand)->Option (List (Nat×bE))
 |[]=>some []
 |(k,o)::os=>match eC o,Bh os with
  |some x,some xs=>some ((k,x)::xs)
  |_,_=>none
def Ew:Option Operand->Option (Option bE)
 |none=>some none
 |some o=>(eC o).map some
def dG:Op->Option eS
 | .move x=>(eC x).map .hV
 | .assign x=>(eC x).map .h4
 | .pick c a b=>match eC c,eC a,eC b with
   |some c,some a,some b=>some (.pick c a b)
   |_,_,_=>none
 | .alloc T=>some (.mL T)
 | .box T x=>(eC x).map (.iG T)
 | .build T ps=>(Bh ps.toList).map (.gm T)
 | .buildSlice T n ps=>(Bh ps.toList).map (.dS T n)
 | .load T x=>(eC x).map (.fL T)
 | .store T x y=>match eC x,eC y with
   |some x,some y=>some (.kV T x y)
   |_,_=>none
 | .nilCheck x=>(eC x).map .ml
 | .binOp op T x y _=>match eC x,eC y with
   |some x,some y=>some (.eG op T x y)
   |_,_=>none
 | .unOp op _ x=>(eC x).map (.un op)
 | .convert A B x=>(eC x).map (.kW A B)
 | .makeFunc (.func f) first cs=>if first.isEmpty then(sw cs.toList).map (.o9 f)else none
 | .makeSlice T l c=>match eC l,eC c with
   |some l,some c=>some (.fB T l c)
   |_,_=>none
 | .slice T x fM ai none=>match eC x,Ew fM,Ew ai with
   |some x,some fM,some ai=>some (.iJ T x fM ai)
   |_,_,_=>none
 | .fieldAddr T x k=>(eC x).map λx=>.hP T x k
 | .indexAddr T x i=>match eC x,eC i with
   |some x,some i=>some (.kF T x i)
   |_,_=>none
 | .index T x i=>match eC x,eC i with
   |some x,some i=>some (.idx T x i)
   |_,_=>none
 | .extract x k=>(eC x).map λx=>.ex x k
 | .field T x k=>(eC x).map λx=>.jd T x k
 | .makeMap _ none=>some .sv
 | .lookup T x i false=>match eC x,eC i with
   |some x,some i=>some (.jI T x i)
   |_,_=>none
 | .mapUpdate T x i v=>match eC x,eC i,eC v with
   |some x,some i,some v=>some (.kX T x i v)
   |_,_,_=>none
 | .call c=>match c.callee with
   | .value f=>match eC f,sw c.args.toList with
     |some f,some xs=>some (.call f xs)
     |_,_=>none
   | .builtin .len=>match c.args.toList,c.argTypes.toList with
     |[x],[T]=>(eC x).map (.len T)
     |_,_=>none
   | .builtin .cap=>match c.args.toList,c.argTypes.toList with
     |[x],[T]=>(eC x).map (.cap T)
     |_,_=>none
   | .builtin .min=>match c.args.toList with
     |[x,y]=>match eC x,eC y with
      |some x,some y=>some (.ki false x y)
      |_,_=>none
     |_=>none
   | .builtin .max=>match c.args.toList with
     |[x,y]=>match eC x,eC y with
      |some x,some y=>some (.ki true x y)
      |_,_=>none
     |_=>none
   | .builtin .append=>match c.args.toList,c.argTypes.toList with
     |[x,y],[T,dN]=>match eC x,eC y with
      |some x,some y=>some (.app T dN x y)
      |_,_=>none
     |_,_=>none
   |_=>none
 |_=>none
def ki (fc:Bool):I->I->Option I
 | .str a,.str b=>some (.str (hO fc a b))
 | .int k a,.int da b=>if k=da then some (.int k (jr fc a b))else none
 |_,_=>none
def tU (s:al):I->Option (I×al)
 | .h y q=>dD s (.h y q)
 |d=>some (d,s)
def b_ (C:cl) (s:al):eS->Option (I×al)
 | .hV x=>some (bt s x,s)
 | .h4 x=>match bt s x with
   | .h y q=>dD s (.h y q)
   |d=>some (d,s)
 | .pick c a b=>match bt s c with
   | .bool gO=>some (if gO then bt s a else bt s b,s)
   |_=>none
 | .mL T=>(mL C T).map λd=>(d,s)
 | .iG _ x=>iG s (bt s x)
 | .gm T ps=>gm C s T (ps.map λp=>(p.1,bt s p.2))
 | .dS T n ps=>dS C s T n (ps.map λp=>(p.1,bt s p.2))
 | .fL T x=>(fL C s T (bt s x)).map λd=>(d,s)
 | .kV T x y=>(kV C s T (bt s x) (bt s y)).map λs1=>(.hole,s1)
 | .ml x=>(ml s (bt s x)).map λd=>(d,s)
 | .eG op T x y=>(eG C s op T (bt s x) (bt s y)).map λd=>(d,s)
 | .un op x=>(un op (bt s x)).map λd=>(d,s)
 | .kW A B x=>(kW C s A B (bt s x)).map λd=>(d,s)
 | .o9 f cs=>some (.fn f (cs.map (bt s)),s)
 | .fB T l c=>(fB C T (bt s l) (bt s c)).map λd=>(d,s)
 | .iJ T x fM ai=>iJ C s T (bt s x) (fM.map (bt s)) (ai.map (bt s))
 | .hP T x k=>(hP C s T (bt s x) k).map λd=>(d,s)
 | .kF T x i=>(kF C s T (bt s x) (bt s i)).map λd=>(d,s)
 | .idx T x i=>(idx C T (bt s x) (bt s i)).map λd=>(d,s)
 | .ex x k=>(ex s (bt s x) k).map λd=>(d,s)
 | .jd T x k=>(jd C s T (bt s x) k).bind (tU s)
 | .call _ _=>none
 | .len T x=>(vA C s T (bt s x)).map λd=>(d,s)
 | .app T dN x y=>vE C s T dN (bt s x) (bt s y)
 | .shr _=>none
 | .pL x=>some (bt s x,s)
 | .pa x=>tU s (bt s x)
 | .sv=>some (.b9 (.mp []),s)
 | .jI T x i=>(jI C s T (bt s x) (bt s i)).map λd=>(d,s)
 | .kX T x i v=>(kX C s T (bt s x) (bt s i) (bt s v)).map λs1=>(.hole,s1)
 | .cap T x=>match(C.T T).k,bt s x with
   | .slice _,.a8=>some (.int .i64 0,s)
   |_,_=>none
 | .ki fc x y=>(ki fc (bt s x) (bt s y)).map λd=>(d,s)
 | .bad=>none
section
variable {C:cl} {w0 w:World} {F0 X F:Nat->Prop} {S:Nat->Nat->Prop} {s s1:al} {a:Act} {av:I}
theorem y9:∀{os:List Operand} {xs:List bE},sw os=some xs->os.map eC=xs.map some
 |[],xs,h=>by simp[sw]at h;subst h;rfl
 |o::os,xs,h=>by
  simp only[sw]at h;split at h
  .rename_i x UG ad ae;simp at h;subst h;simp[ad,y9 ae]
  .cases h
theorem MY {aG:Nat->Value} (h:cd w0 F0 X F S s aG w) (e_:∀t,aG t=a.tmps.getD t undef):∀{ps:List (Nat×Operand)} {xs:List (Nat×bE)},Bh ps=some xs->
  q1 w F s aG (xs.map λp=>(p.1,bt s p.2)) (ps.map λp=>(p.1,a.eval p.2))
 |[],xs,h=>by simp[Bh]at h;subst h;trivial
 |(k,o)::ps,xs,bD=>by
  simp only[Bh]at bD;split at bD
  .rename_i x UG ad ae;simp at bD;subst bD;obtain⟨g1,g2⟩:=gF h e_ ad;exact⟨rfl,g1,g2,MY h e_ ae⟩
  .cases bD
def Next (C:cl) (w0:World) (F0 X:Nat->Prop) (aG:Nat->Value) (w:World) (m:Sem Go.Next) (av:I) (s1:al):Prop:=
 ∃r aL v ct aZ,m.run C.P w= .ok r aL/\(r= .value v\/r= .skip/\v=undef)/\cd w0 F0 X ct aZ s1 aG aL/\nV w0 X ct aZ s1 aG aL av v
theorem Good.next {aG:Nat->Value} {m:Sem Value} (h:Good C w0 F0 X aG w m av s1):Next C w0 F0 X aG w (do pure (.value (<-m))) av s1:=by
 obtain⟨v,aL,ct,aZ,ad,ae,aJ⟩:=h;exact⟨.value v,aL,v,ct,aZ,by simp[ad],.inl rfl,ae,aJ⟩
theorem UH {aG:Nat->Value} (h:cd w0 F0 X F S s aG w) {fc:Bool} {x y:I} {kf lF:Value} {m:Sem Go.Next} (ad:aS w F s aG x kf (λ_=>False)) (ae:aS w F s aG y lF (λ_=>False))
  (he:(ki fc x y).map (λd=>(d,s))=some (av,s1)) (hm:m=(do pure (.value (<-if fc then Builtin.max2 kf lF else Builtin.min2 kf lF)))):Next C w0 F0 X aG w m av s1:=by
 simp only[Option.map_eq_some_iff,Prod.mk.injEq]at he;obtain⟨d,ao,rfl,rfl⟩:=he;unfold ki at ao;split at ao
 .rename_i a b;simp only[Option.some.injEq]at ao;subst ao;have aO:=o5 ad;have aU:=o5 ae;subst aO aU;subst hm;refine⟨.value (.string ⟨⟨hO fc a b⟩⟩),w,_,F,S,?_,.inl rfl,h,.inl ⟨rfl,sq _⟩⟩;cases fc
  .simp only[Builtin.min2,Op.stringOp,Ei,hO,Bool.false_eq_true,if_false];cases ab:(Op.bytesLess a b||a==b)<;>simp[asBool]
  .simp only[Builtin.max2,Op.stringOp,Ei,hO,if_true];cases ab:Op.bytesLess a b<;>simp[asBool]
 .rename_i k a da b;split at ao
  .rename_i ax;subst ax;simp only[Option.some.injEq]at ao;subst ao;have aO:=qg ad;have aU:=qg ae;subst aO aU;subst hm;refine⟨.value (.int k (jr fc a b)),w,_,F,S,?_,.inl rfl,h,.inl ⟨rfl,of_int _ _⟩⟩;cases fc<;>simp[Builtin.min2,Builtin.max2,jr]
  .cases ao
 .cases ao
theorem UI (bO:C.fH) {aG:Nat->Value} (h:cd w0 F0 X F S s aG w) (e_:∀t,aG t=a.tmps.getD t undef) {o:Oper} {bU:eS} (aa:dG o.op=some bU) (he:b_ C s bU=some (av,s1)):
  Next C w0 F0 X aG w (execOp a.eval o) av s1:=by
 obtain⟨dst,op,ty,pos,after,guard⟩:=o;simp only at aa;cases op with
 |move x=>
  simp only[dG,Option.map_eq_some_iff]at aa;obtain⟨e2,an,rfl⟩:=aa;obtain⟨g1,g2⟩:=gF h e_ an;simp only[b_,Option.some.injEq,Prod.mk.injEq]at he;obtain⟨rfl,rfl⟩:=he;exact⟨_,w,_,F,S,rfl,.inl rfl,h,.inl ⟨g1,g2⟩⟩
 |assign x=>
  simp only[dG,Option.map_eq_some_iff]at aa;obtain⟨e2,an,rfl⟩:=aa;obtain⟨g1,g2⟩:=gF h e_ an;simp only[b_]at he;split at he
  .rename_i y q hy;rw[hy]at g1 g2;obtain⟨cD,k0,b1,cK,Sn,dM,dX,eF,dz,kG,_⟩:=sk h g1 g2 he;exact⟨_,w,_,F,cD,rfl,.inl rfl,k0,.inr ⟨b1,cK,Sn,dM,dX,eF,dz,kG⟩⟩
  .simp only[Option.some.injEq,Prod.mk.injEq]at he;obtain⟨rfl,rfl⟩:=he;exact⟨_,w,_,F,S,rfl,.inl rfl,h,.inl ⟨g1,g2⟩⟩
 |pick c x y=>
  simp only[dG]at aa;split at aa
  .rename_i Ih e2 oB ar an hy;simp only[Option.some.injEq]at aa;subst aa;simp only[b_]at he;split at he
   .rename_i b ab;simp only[Option.some.injEq,Prod.mk.injEq]at he;obtain⟨rfl,rfl⟩:=he;have Et:=(gF h e_ ar).2;rw[ab]at Et;have Et:=xp Et;obtain⟨U,ah⟩:=gF h e_ an;obtain⟨fq,gn⟩:=gF h e_ hy;refine⟨.value (if b then a.eval x else a.eval y),w,_,F,S,?_,.inl rfl,h,.inl ?_⟩
    .simp[execOp,Et,asBool]
    .cases b
     .exact⟨fq,gn⟩
     .exact⟨U,ah⟩
   .cases he
  .cases aa
 |alloc T=>
  simp only[dG,Option.some.injEq]at aa;subst aa;simp only[b_,Option.map_eq_some_iff,Prod.mk.injEq]at he;obtain⟨d,ao,rfl,rfl⟩:=he;exact(ac0 bO h ao).next
 |box T x=>
  simp only[dG,Option.map_eq_some_iff]at aa;obtain⟨e2,an,rfl⟩:=aa;obtain⟨g1,g2⟩:=gF h e_ an;exact(ac1 h g1 g2 he).next
 |build T ps=>
  simp only[dG,Option.map_eq_some_iff]at aa;obtain⟨ad0,ay,rfl⟩:=aa;obtain⟨ps⟩:=ps;have:=(adU bO h (MY h e_ ay) he).next;simpa [execOp]using this
 |buildSlice T n ps=>
  simp only[dG,Option.map_eq_some_iff]at aa;obtain⟨ad0,ay,rfl⟩:=aa;obtain⟨ps⟩:=ps;have:=(adX bO h (MY h e_ ay) he).next;simpa [execOp]using this
 |load T x=>
  simp only[dG,Option.map_eq_some_iff]at aa;obtain⟨e2,an,rfl⟩:=aa;obtain⟨g1,g2⟩:=gF h e_ an;simp only[b_,Option.map_eq_some_iff,Prod.mk.injEq]at he;obtain⟨d,ao,rfl,rfl⟩:=he;exact(acU bO h g2 ao).next
 |store T x y=>
  simp only[dG]at aa;split at aa
  .rename_i e2 oB an hy;simp only[Option.some.injEq]at aa;subst aa;simp only[b_,Option.map_eq_some_iff,Prod.mk.injEq]at he;obtain⟨s2,ao,rfl,rfl⟩:=he;obtain⟨aL,aZ,ad,ae⟩:=acY bO h (gF h e_ an).2 (gF h e_ hy).1 (gF h e_ hy).2 ao;exact⟨.skip,aL,undef,F,aZ,by simp[execOp,ad],.inr ⟨rfl,rfl⟩,ae,.inl ⟨rfl,by rw[aS];trivial⟩⟩
  .cases aa
 |nilCheck x=>
  simp only[dG,Option.map_eq_some_iff]at aa;obtain⟨e2,an,rfl⟩:=aa;obtain⟨g1,g2⟩:=gF h e_ an;simp only[b_,Option.map_eq_some_iff,Prod.mk.injEq]at he;obtain⟨d,ao,rfl,rfl⟩:=he;obtain⟨rfl,ay,aF⟩:=ade h g2 ao;refine⟨.value (a.eval x),w,_,F,S,?_,.inl rfl,h,.inl ⟨ay,g2⟩⟩;rcases aF with⟨b,ab⟩|⟨f,c,ab⟩<;>simp[execOp,ab]
 |binOp op T x y aw3=>
  simp only[dG]at aa;split at aa
  .rename_i e2 oB an hy;simp only[Option.some.injEq]at aa;subst aa;simp only[b_,Option.map_eq_some_iff,Prod.mk.injEq]at he;obtain⟨d,ao,rfl,rfl⟩:=he;exact(ac_ bO h x y (gF h e_ an).2 (gF h e_ hy).2 ao).next
  .cases aa
 |unOp op T x=>
  simp only[dG,Option.map_eq_some_iff]at aa;obtain⟨e2,an,rfl⟩:=aa;simp only[b_,Option.map_eq_some_iff,Prod.mk.injEq]at he;obtain⟨d,ao,rfl,rfl⟩:=he;exact(ada h (gF h e_ an).2 ao).next
 |convert A B x=>
  simp only[dG,Option.map_eq_some_iff]at aa;obtain⟨e2,an,rfl⟩:=aa;simp only[b_,Option.map_eq_some_iff,Prod.mk.injEq]at he;obtain⟨d,ao,rfl,rfl⟩:=he;exact(adn bO h (gF h e_ an).2 ao).next
 |makeFunc fn first cs=>
  cases fn with
  |func f=>
   simp only[dG]at aa;split at aa
   .rename_i MZ;simp only[Option.map_eq_some_iff]at aa;obtain⟨q2,iF,rfl⟩:=aa;simp only[b_,Option.some.injEq,Prod.mk.injEq]at he;obtain⟨rfl,rfl⟩:=he;have M0:first= #[]:=by simpa using MZ
    subst M0;refine⟨_,w,_,F,S,rfl,.inl rfl,h,.inl ⟨rfl,?_⟩⟩;rw[aS];refine⟨cs.map a.eval,by simp,?_⟩;simpa using Ig h e_ _ _ (y9 iF)
   .cases aa
  |_=>simp[dG]at aa
 |makeSlice T l c=>
  simp only[dG]at aa;split at aa
  .rename_i e2 oB an hy;simp only[Option.some.injEq]at aa;subst aa;simp only[b_,Option.map_eq_some_iff,Prod.mk.injEq]at he;obtain⟨d,ao,rfl,rfl⟩:=he;exact(adN bO h (gF h e_ an).2 (gF h e_ hy).2 ao).next
  .cases aa
 |slice T x fM ai fc=>
  cases fc with
  |some m=>simp[dG]at aa
  |none=>
   simp only[dG]at aa;split at aa
   .rename_i e2 aw4 Ex an qV qW;simp only[Option.some.injEq]at aa;subst aa;obtain⟨g1,g2⟩:=gF h e_ an;have opt:∀{o:Option Operand} {qk:Option bE},Ew o=some qk->vB w F s aG (qk.map (bt s)) (o.map a.eval):=by
     intro o qk bL;cases o with
     |none=>simp[Ew]at bL;subst bL;trivial
     |some o=>
      simp only[Ew,Option.map_eq_some_iff]at bL;obtain⟨x,an,rfl⟩:=bL;exact(gF h e_ an).2
    exact(adq bO h g1 g2 (opt qV) (opt qW) he).next
   .cases aa
 |fieldAddr T x k=>
  simp only[dG,Option.map_eq_some_iff]at aa;obtain⟨e2,an,rfl⟩:=aa;obtain⟨g1,g2⟩:=gF h e_ an;simp only[b_,Option.map_eq_some_iff,Prod.mk.injEq]at he;obtain⟨d,ao,rfl,rfl⟩:=he;exact(acO bO h g1 g2 ao).next
 |indexAddr T x i=>
  simp only[dG]at aa;split at aa
  .rename_i e2 oB an hy;simp only[Option.some.injEq]at aa;subst aa;simp only[b_,Option.map_eq_some_iff,Prod.mk.injEq]at he;obtain⟨d,ao,rfl,rfl⟩:=he;exact(acP bO h (gF h e_ an).2 (gF h e_ hy).2 ao).next
  .cases aa
 |index T x i=>
  simp only[dG]at aa;split at aa
  .rename_i e2 oB an hy;simp only[Option.some.injEq]at aa;subst aa;simp only[b_,Option.map_eq_some_iff,Prod.mk.injEq]at he;obtain⟨d,ao,rfl,rfl⟩:=he;exact(adk bO h (gF h e_ an).2 (gF h e_ hy).2 ao).next
  .cases aa
 |makeMap t r=>
  cases r with
  |none=>
   simp only[dG,Option.some.injEq]at aa;subst aa;simp only[b_,Option.some.injEq,Prod.mk.injEq]at he;obtain⟨rfl,rfl⟩:=he;exact(adM h t).next
  |some r=>simp[dG]at aa
 |lookup T x i c=>
  cases c with
  |true=>simp[dG]at aa
  |false=>
   simp only[dG]at aa;split at aa
   .rename_i e2 tM an ai;simp only[Option.some.injEq]at aa;subst aa;simp only[b_,Option.map_eq_some_iff,Prod.mk.injEq]at he;obtain⟨d,ao,rfl,rfl⟩:=he;exact(adJ bO h (gF h e_ an).2 (gF h e_ ai).2 ao).next
   .cases aa
 |mapUpdate T x i v=>
  simp only[dG]at aa;split at aa
  .rename_i e2 tM hl an ai aF;simp only[Option.some.injEq]at aa;subst aa;simp only[b_,Option.map_eq_some_iff,Prod.mk.injEq]at he;obtain⟨s2,ao,rfl,rfl⟩:=he;obtain⟨aL,aZ,ad,ae⟩:=adK bO h (gF h e_ an).2 (gF h e_ ai).2 (gF h e_ aF).2 ao;exact⟨.skip,aL,undef,F,aZ,by simp[execOp,ad],.inr ⟨rfl,rfl⟩,ae,.inl ⟨rfl,by rw[aS];trivial⟩⟩
  .cases aa
 |extract x k=>
  simp only[dG,Option.map_eq_some_iff]at aa;obtain⟨e2,an,rfl⟩:=aa;simp only[b_,Option.map_eq_some_iff,Prod.mk.injEq]at he;obtain⟨d,ao,rfl,rfl⟩:=he;exact(adh h (gF h e_ an).2 ao).next
 |field T x k=>
  simp only[dG,Option.map_eq_some_iff]at aa;obtain⟨e2,an,rfl⟩:=aa;simp only[b_,Option.bind_eq_some_iff]at he;obtain⟨d,ao,he⟩:=he;obtain⟨v,aL,ct,aZ,aT,mI,si⟩:=adi bO h (gF h e_ an).2 ao;unfold tU at he;split at he
  .rename_i y q;have ad1:aS aL ct s aG (.h y q) v (λ_=>False):=by
    rcases si with⟨_,g2⟩|⟨g1,_⟩
    .exact g2
    .cases g1
   obtain⟨cD,k0,b1,cK,Sn,dM,dX,eF,dz,kG,_⟩:=sk mI rfl ad1 he;exact⟨.value v,aL,v,ct,cD,by simp[execOp,aT],.inl rfl,k0,.inr ⟨b1,cK,Sn,dM,dX,eF,dz,kG⟩⟩
  .simp only[Option.some.injEq,Prod.mk.injEq]at he;obtain⟨rfl,rfl⟩:=he;exact⟨.value v,aL,v,ct,aZ,by simp[execOp,aT],.inl rfl,mI,si⟩
 |call c=>
  obtain⟨callee,args,argTypes⟩:=c;simp only[dG]at aa;split at aa
  .split at aa
   .simp only[Option.some.injEq]at aa;subst aa;simp[b_]at he
   .cases aa
  .split at aa
   .rename_i x T q3 Ey;simp only[Option.map_eq_some_iff]at aa;obtain⟨e2,an,rfl⟩:=aa;simp only[b_,Option.map_eq_some_iff,Prod.mk.injEq]at he;obtain⟨d,ao,rfl,rfl⟩:=he;have:=(adl (ty:=ty) bO h (gF h e_ an).2 ao).next;have aO:args= #[x]:=by apply Array.ext';exact q3
    have aU:argTypes= #[T]:=by apply Array.ext';exact Ey
    subst aO aU;simpa [execOp,resolve,invoke,builtin]using this
   .cases aa
  .split at aa
   .rename_i x T q3 Ey;simp only[Option.map_eq_some_iff]at aa;obtain⟨e2,an,rfl⟩:=aa;simp only[b_]at he;split at he
    .rename_i e ax ad2;simp only[Option.some.injEq,Prod.mk.injEq]at he;obtain⟨rfl,rfl⟩:=he;have aF:=(gF h e_ an).2;rw[ad2]at aF;have:=xq aF;obtain⟨i,d,z,aO,aU,aM,bT,cv,ck,bY⟩:=bO.info (hv ax (by simp));rw[ax]at bY;have ao:=oC bY;subst ao;have ad3:args= #[x]:=by apply Array.ext';exact q3
     have ad4:argTypes= #[T]:=by apply Array.ext';exact Ey
     subst ad3 ad4;have aT:(Builtin.cap_ #[T] ty #[a.eval x]).run C.P w= .ok (.int .i64 0) w:=by
      rw[this];simp[Builtin.cap_,run_underlying ck,goInt]
     have:=(Good.same (av:=.int .i64 0) h aT rfl (of_int _ _)).next;simpa [execOp,resolve,invoke,builtin]using this
    .cases he
   .cases aa
  .split at aa
   .rename_i x y q3;split at aa
    .rename_i e2 oB an hy;simp only[Option.some.injEq]at aa;subst aa;have aO:args= #[x,y]:=by apply Array.ext';exact q3
     subst aO;exact UH h (gF h e_ an).2 (gF h e_ hy).2 he (by simp[execOp,resolve,invoke,builtin,Builtin.min_])
    .cases aa
   .cases aa
  .split at aa
   .rename_i x y q3;split at aa
    .rename_i e2 oB an hy;simp only[Option.some.injEq]at aa;subst aa;have aO:args= #[x,y]:=by apply Array.ext';exact q3
     subst aO;exact UH h (gF h e_ an).2 (gF h e_ hy).2 he (by simp[execOp,resolve,invoke,builtin,Builtin.max_])
    .cases aa
   .cases aa
  .split at aa
   .rename_i x y T dN q3 Ey;split at aa
    .rename_i e2 oB an hy;simp only[Option.some.injEq]at aa;subst aa;have:=(adB (ty:=ty) bO h (gF h e_ an).2 (gF h e_ hy).2 he).next;have aO:args= #[x,y]:=by apply Array.ext';exact q3
     have aU:argTypes= #[T,dN]:=by apply Array.ext';exact Ey
     subst aO aU;simpa [execOp,resolve,invoke,builtin]using this
    .cases aa
   .cases aa
  .cases aa
 |_=>simp[dG]at aa
end
mutual
def I.aa:I->azf
 | .h x _=>[x]
 | .ay x _=>[x]
 | .ab x _=>[x]
 | .fn _ cap=>I.fs cap
 |_=>[]
def I.fs:azk->azf
 |[]=>[]
 |d::ds=>d.aa++I.fs ds
end
inductive tV where
 |no
 |cG
 |dw
structure hW where
 k:tV
 x:Nat
 d:I
def tV.app (k:tV) (x:Nat) (a:I):I:=match k with
 | .no=>a
 | .cG=>eg.cG x a
 | .dw=>eg.dw x a
def hW.at (m:hW) (u:Nat) (a:I):I:=if u=m.x then m.d else m.k.app m.x a
def mm:List hW->Nat->I->I
 |[],_,a=>a
 |m::ms,u,a=>mm ms u (m.at u a)
def eL (ms:List hW) (s:al):al:=λu=>mm ms u (s u)
theorem UJ:∀(ms l6:List hW) (u:Nat) (a:I),mm (ms++l6) u a=mm l6 u (mm ms u a)
 |[],_,_,_=>rfl
 |m::ms,l6,u,a=>by simp only[cons_append,mm];exact UJ ms l6 u _
theorem ql (ms l6:List hW) (s:al):eL (ms++l6) s=eL l6 (eL ms s):=by
 funext u;simp[eL,UJ]
theorem ad5 {ms:List hW} {s aH:al} {u:Nat} (h:aH u=s u):eL ms aH u=eL ms s u:=by simp[eL,h]
theorem y_ (s:al) (x:Nat) (d:I):et (jc x s) x d=eL [⟨.cG,x,d⟩] s:=by
 funext u;simp only[eL,mm,hW.at,et,jc,tV.app]
theorem UK (s:al) (x:Nat) (d:I):et (oA x s) x d=eL [⟨.dw,x,d⟩] s:=by
 funext u;simp only[eL,mm,hW.at,et,oA,tV.app]
theorem ad6 (s:al) (x:Nat) (d:I):et s x d=eL [⟨.no,x,d⟩] s:=by
 funext u;simp only[eL,mm,hW.at,et,tV.app]
mutual
theorem Ez {x:Nat}:∀a:I,x∉a.aa->cG x a=a
 | .h y q,h=>by
   simp only[I.aa,mem_singleton]at h;simp only[cG];rw[if_neg (λe=>h e.symm)]
 | .ay y q,h=>by
   simp only[I.aa,mem_singleton]at h;simp only[cG];rw[if_neg (λe=>h e.symm)]
 | .ab y q,h=>rfl
 | .fn f cap,h=>by simp only[cG];rw[UL cap (by simpa [I.aa]using h)]
 | .hole,_=>rfl
 | .bool _,_=>rfl
 | .gA,_=>rfl
 | .int _ _,_=>rfl
 | .str _,_=>rfl
 | .eh,_=>rfl
 | .a8,_=>rfl
 | .slice _,_=>rfl
 | .ak _ _,_=>rfl
 | .ref _,_=>rfl
 | .aQ _,_=>rfl
 | .agg _,_=>rfl
 | .tuple _,_=>rfl
 | .b9 _,_=>rfl
theorem UL {x:Nat}:∀ds:azk,x∉I.fs ds->kD x ds=ds
 |[],_=>rfl
 |d::ds,h=>by
  simp only[I.fs,mem_append,not_or]at h;simp only[kD];rw[Ez d h.1,UL ds h.2]
end
mutual
theorem M1 {x:Nat}:∀a:I,x∉a.aa->dw x a=a
 | .h y q,h=>by
   simp only[I.aa,mem_singleton]at h;simp only[dw];rw[if_neg (λe=>h e.symm)]
 | .ay y q,h=>by
   simp only[I.aa,mem_singleton]at h;simp only[dw];rw[if_neg (λe=>h e.symm)]
 | .ab y q,h=>by
   simp only[I.aa,mem_singleton]at h;simp only[dw];rw[if_neg (λe=>h e.symm)]
 | .fn f cap,h=>by simp only[dw];rw[UM cap (by simpa [I.aa]using h)]
 | .hole,_=>rfl
 | .bool _,_=>rfl
 | .gA,_=>rfl
 | .int _ _,_=>rfl
 | .str _,_=>rfl
 | .eh,_=>rfl
 | .a8,_=>rfl
 | .slice _,_=>rfl
 | .ak _ _,_=>rfl
 | .ref _,_=>rfl
 | .aQ _,_=>rfl
 | .agg _,_=>rfl
 | .tuple _,_=>rfl
 | .b9 _,_=>rfl
theorem UM {x:Nat}:∀ds:azk,x∉I.fs ds->la x ds=ds
 |[],_=>rfl
 |d::ds,h=>by
  simp only[I.fs,mem_append,not_or]at h;simp only[la];rw[M1 d h.1,UM ds h.2]
end
theorem EA {k:tV} {x:Nat} {a:I} (h:k= .no\/x∉a.aa):k.app x a=a:=by
 cases k with
 |no=>rfl
 |cG=>exact Ez a (by simpa using h)
 |dw=>exact M1 a (by simpa using h)
mutual
theorem UN (x y:Nat):∀a:I,cG x (cG y a)=cG y (cG x a)
 | .h z q=>by simp only[cG];by_cases ad:z=x<;>by_cases ae:z=y<;>by_cases aJ:q=[]<;>simp[ad,ae,aJ,cG]<;>(subst_vars;simp_all [cG])
 | .ay z q=>by simp only[cG];by_cases ad:z=x<;>by_cases ae:z=y<;>simp[ad,ae,cG]<;>(subst_vars;simp_all [cG])
 | .ab z q=>rfl
 | .fn f cap=>by simp only[cG];rw[UO x y cap]
 | .hole=>rfl
 | .bool _=>rfl
 | .gA=>rfl
 | .int _ _=>rfl
 | .str _=>rfl
 | .eh=>rfl
 | .a8=>rfl
 | .slice _=>rfl
 | .ak _ _=>rfl
 | .ref _=>rfl
 | .aQ _=>rfl
 | .agg _=>rfl
 | .tuple _=>rfl
 | .b9 _=>rfl
theorem UO (x y:Nat):∀ds:azk,kD x (kD y ds)=kD y (kD x ds)
 |[]=>rfl
 |d::ds=>by simp only[kD];rw[UN x y d,UO x y ds]
end
mutual
theorem UP (x y:Nat):∀a:I,dw x (dw y a)=dw y (dw x a)
 | .h z q=>by simp only[dw];by_cases ad:z=x<;>by_cases ae:z=y<;>simp[ad,ae,dw]<;>(subst_vars;simp_all [dw])
 | .ay z q=>by simp only[dw];by_cases ad:z=x<;>by_cases ae:z=y<;>simp[ad,ae,dw]<;>(subst_vars;simp_all [dw])
 | .ab z q=>by simp only[dw];by_cases ad:z=x<;>by_cases ae:z=y<;>simp[ad,ae,dw]<;>(subst_vars;simp_all [dw])
 | .fn f cap=>by simp only[dw];rw[UQ x y cap]
 | .hole=>rfl
 | .bool _=>rfl
 | .gA=>rfl
 | .int _ _=>rfl
 | .str _=>rfl
 | .eh=>rfl
 | .a8=>rfl
 | .slice _=>rfl
 | .ak _ _=>rfl
 | .ref _=>rfl
 | .aQ _=>rfl
 | .agg _=>rfl
 | .tuple _=>rfl
 | .b9 _=>rfl
theorem UQ (x y:Nat):∀ds:azk,la x (la y ds)=la y (la x ds)
 |[]=>rfl
 |d::ds=>by simp only[la];rw[UP x y d,UQ x y ds]
end
mutual
theorem M3 (x y:Nat):∀a:I,cG x (dw y a)=dw y (cG x a)
 | .h z q=>by simp only[dw,cG];by_cases ad:z=x<;>by_cases ae:z=y<;>by_cases aJ:q=[]<;>simp[ad,ae,aJ,dw,cG]<;>(subst_vars;simp_all [dw,cG])
 | .ay z q=>by simp only[dw,cG];by_cases ad:z=x<;>by_cases ae:z=y<;>simp[ad,ae,dw,cG]<;>(subst_vars;simp_all [dw,cG])
 | .ab z q=>by simp only[dw,cG];by_cases ae:z=y<;>simp[ae,cG]
 | .fn f cap=>by simp only[dw,cG];rw[UR x y cap]
 | .hole=>rfl
 | .bool _=>rfl
 | .gA=>rfl
 | .int _ _=>rfl
 | .str _=>rfl
 | .eh=>rfl
 | .a8=>rfl
 | .slice _=>rfl
 | .ak _ _=>rfl
 | .ref _=>rfl
 | .aQ _=>rfl
 | .agg _=>rfl
 | .tuple _=>rfl
 | .b9 _=>rfl
theorem UR (x y:Nat):∀ds:azk,kD x (la y ds)=la y (kD x ds)
 |[]=>rfl
 |d::ds=>by simp only[la,kD];rw[M3 x y d,UR x y ds]
end
theorem ad7 (k l:tV) (x y:Nat) (a:I):k.app x (l.app y a)=l.app y (k.app x a):=by
 cases k<;>cases l<;>simp only[tV.app]<;>first|rfl|exact UN .. |exact UP .. |exact M3 .. |exact(M3 ..).symm
def bE.use (s:al):bE->azf
 | .t n=>n::(s n).aa
 | .c av=>av.aa
 | .f _=>[]
def bE.tW (s:al):List bE->azf
 |[]=>[]
 |x::xs=>x.use s++bE.tW s xs
def M4 (s:al):Option bE->azf
 |none=>[]
 |some x=>x.use s
def use (s:al):eS->azf
 | .hV x=>x.use s
 | .h4 x=>x.use s
 | .pick c a b=>c.use s++(a.use s++b.use s)
 | .mL _=>[]
 | .iG _ x=>x.use s
 | .gm _ ps=>bE.tW s (ps.map (·.2))
 | .dS _ _ ps=>bE.tW s (ps.map (·.2))
 | .fL _ x=>x.use s
 | .kV _ x y=>x.use s++y.use s
 | .ml x=>x.use s
 | .eG _ _ x y=>x.use s++y.use s
 | .un _ x=>x.use s
 | .kW _ _ x=>x.use s
 | .o9 _ cs=>bE.tW s cs
 | .fB _ l c=>l.use s++c.use s
 | .iJ _ x fM ai=>x.use s++(M4 s fM++M4 s ai)
 | .hP _ x _=>x.use s
 | .kF _ x i=>x.use s++i.use s
 | .idx _ x i=>x.use s++i.use s
 | .ex x _=>x.use s
 | .jd _ x _=>x.use s
 | .call f args=>f.use s++bE.tW s args
 | .len _ x=>x.use s
 | .app _ _ x y=>x.use s++y.use s
 | .shr bU=>use s bU
 | .pL x=>x.use s
 | .pa x=>x.use s
 | .sv=>[]
 | .jI _ x i=>x.use s++i.use s
 | .kX _ x i v=>x.use s++(i.use s++v.use s)
 | .cap _ x=>x.use s
 | .ki _ x y=>x.use s++y.use s
 | .bad=>[]
def lg (s:al):eS->azf
 | .h4 x=>(bt s x).aa
 | .iG _ x=>(bt s x).aa
 | .gm _ ps=>I.fs (ps.map λp=>bt s p.2)
 | .dS _ _ ps=>I.fs (ps.map λp=>bt s p.2)
 | .kV _ x y=>(bt s x).aa++(bt s y).aa
 | .jd _ x _=>(bt s x).aa
 | .pa x=>(bt s x).aa
 | .kX _ x _ _=>(bt s x).aa
 | .iJ _ x _ _=>(bt s x).aa
 | .app _ _ x y=>(bt s x).aa++(bt s y).aa
 | .shr bU=>lg s bU
 |_=>[]
def eN (dN:azf) (aH s:al):Prop:=∀u∈dN,aH u=s u
theorem eN.left {dN V:azf} {aH s:al} (h:eN (dN++V) aH s):eN dN aH s:=λu hu=>h u (mem_append_left _ hu)
theorem eN.right {dN V:azf} {aH s:al} (h:eN (dN++V) aH s):eN V aH s:=λu hu=>h u (mem_append_right _ hu)
theorem eN.eL {dN:azf} {aH s:al} (h:eN dN aH s) (ms:List hW):eN dN (eL ms aH) (eL ms s):=λu hu=>ad5 (h u hu)
theorem eN.sub {dN V:azf} {aH s:al} (h:eN dN aH s) (aa:∀u∈V,u∈dN):eN V aH s:=λu hu=>h u (aa u hu)
theorem bE.za {s:al} {x:bE}:∀u∈(bt s x).aa,u∈x.use s:=by
 intro u hu;cases x with
 |t n=>
  simp only[bt,vw]at hu;split at hu
  .simp[bE.use,hu]
  .simp only[I.aa,mem_singleton]at hu;simp[bE.use,hu]
 |c av=>exact hu
 |f g=>simp[bt,I.aa,I.fs]at hu
theorem bE.gQ {s aH:al} {x:bE} (h:eN (x.use s) aH s):bt aH x=bt s x:=by
 cases x with
 |t n=>simp only[bt];rw[h n (by simp[bE.use])]
 |c av=>rfl
 |f g=>rfl
theorem eN.bt {s aH:al} {x:bE} (h:eN (x.use s) aH s):eN (bt s x).aa aH s:=h.sub bE.za
theorem US {s aH:al} {x:Option bE} (h:eN (M4 s x) aH s):x.map (bt aH)=x.map (bt s):=by
 cases x with
 |none=>rfl
 |some x=>simp only[Option.map_some];rw[bE.gQ h]
theorem bE.M5 {s aH:al}:∀{xs:List bE},eN (bE.tW s xs) aH s->xs.map (bt aH)=xs.map (bt s)
 |[],_=>rfl
 |x::xs,h=>by
  simp only[map_cons];rw[bE.gQ (h.left),bE.M5 (h.right)]
theorem bE.M6 {s aH:al}:∀{ps:List (Nat×bE)},eN (bE.tW s (ps.map (·.2))) aH s->(ps.map λp=>(p.1,bt aH p.2))=ps.map λp=>(p.1,bt s p.2)
 |[],_=>rfl
 |x::xs,h=>by
  simp only[map_cons]at h⊢;rw[bE.gQ (h.left),bE.M6 (h.right)]
theorem bE.Ii {s:al}:∀{xs:List bE},∀u∈I.fs (xs.map (bt s)),u∈bE.tW s xs
 |[],u,h=>by simp[I.fs]at h
 |x::xs,u,h=>by
  simp only[map_cons,I.fs,mem_append]at h;simp only[bE.tW,mem_append];exact h.imp (bE.za u) (bE.Ii u)
section
variable {C:cl} {s aH:al} {x y i:I} {T A B:TypeId}
theorem M7 (h:eN x.aa aH s):loc aH x=loc s x:=by
 cases x<;>first
  |rfl
  |(simp only[loc];rw[h _ (by simp[I.aa])])
theorem M8 {z:Nat} {q:azf} (h:loc s x=some (z,q)):z∈x.aa:=by
 cases x with
 |h y p=>
  simp only[loc]at h;split at h
  .simp only[Option.some.injEq,Prod.mk.injEq]at h;simp[I.aa,h.1]
  .cases h
 |ay y p=>
  simp only[loc]at h;split at h
  .simp only[Option.some.injEq,Prod.mk.injEq]at h;simp[I.aa,h.1]
  .cases h
 |_=>simp[loc]at h
theorem ad8 (h:eN x.aa aH s):fL C aH T x=fL C s T x:=by
 have aC:=M7 h;unfold fL;split
 .rfl
 .rw[h _ (by simp[I.aa])]
 .rw[aC];split
  .rename_i e;rw[h _ (M8 e)]
  .rfl
theorem ad9 {k:Nat} (h:eN x.aa aH s):hP C aH T x k=hP C s T x k:=by
 have aC:=M7 h;unfold hP;split
 .split
  .split
   .split
    .rfl
    .rw[h _ (by simp[I.aa])]
    .rw[aC];split
     .rename_i e;rw[h _ (M8 e)]
     .rfl
   .rfl
  .rfl
 .rfl
theorem ad_ (h:eN x.aa aH s):kF C aH T x i=kF C s T x i:=by
 cases x<;>first
  |rfl
  |(simp only[kF];rw[h _ (by simp[I.aa])])
theorem aea (h:eN x.aa aH s):vA C aH T x=vA C s T x:=by
 unfold vA;cases(C.T T).k<;>cases x<;>first
  |rfl
  |(simp only;rw[h _ (by simp[I.aa])])
theorem aeb (h:eN x.aa aH s):kW C aH A B x=kW C s A B x:=by
 unfold kW;cases(C.T B).k<;>cases x<;>first
  |rfl
  |(simp only;rw[h _ (by simp[I.aa])])
theorem aec (h:eN x.aa aH s):l5 aH x=l5 s x:=by
 cases x<;>first
  |rfl
  |(simp only[l5];rw[h _ (by simp[I.aa])])
theorem aed (h:eN x.aa aH s):nY aH x=nY s x:=by
 cases x<;>first
  |rfl
  |(simp only[nY];rw[h _ (by simp[I.aa])])
theorem aee {op:BinOp} (h:eN x.aa aH s):eG C aH op T x y=eG C s op T x y:=by
 have ad:=aec h;have ae:=aed h;unfold eG;split<;>first|rfl|simp only[ad,ae]
theorem aef (h:eN x.aa aH s):ml aH x=ml s x:=by
 cases x<;>first
  |rfl
  |(simp only[ml];rw[h _ (by simp[I.aa])])
theorem aeg {k y:Nat} {q:azf} (h:jd C s T x k=some (.h y q)):x.aa=[y]:=by
 unfold jd at h;split at h<;>try (cases h;done)
 split at h<;>try (cases h;done)
 split at h
 .split at h<;>try (cases h;done)
  split at h
  .rename_i ar;simp only[Option.some.injEq]at h;rw[h]at ar;exact absurd ar.2.2.2 (by simp[I.tree])
  .cases h
 .split at h<;>try (cases h;done)
  split at h<;>try (cases h;done)
  split at h<;>try (cases h;done)
  rename_i d ao ar;by_cases ay:d.plain=true
  .simp only[ay,if_true,Option.some.injEq]at h;rw[h]at ar;exact absurd ar.2.2.2 (by simp[I.tree])
  .simp only[ay,Option.some.injEq]at h;injection h with ad ae;subst ad;rfl
 .cases h
theorem UT {k:Nat} (h:eN x.aa aH s):jd C aH T x k=jd C s T x k:=by
 unfold jd;split<;>try rfl
 split<;>try rfl
 cases x<;>first
  |rfl
  |(simp only[];rw[h _ (by simp[I.aa])])
theorem aeh {k:Nat} (h:eN x.aa aH s):ex aH x k=ex s x k:=by
 cases x<;>first
  |rfl
  |(simp only[ex];rw[h _ (by simp[I.aa])])
theorem Bi:∀(q:azf) (a d e:I),I.sub q a=some d->(d.plain=false\/q≠[])->(q=[]->e.aa=[])->(I.put q e a).aa=[]:=by
 intro q a d e h ay he;cases q with
 |nil=>rw[I.put];exact he rfl
 |cons k q=>
  cases a<;>first
   |(simp[I.sub]at h;done)
   |skip
  all_goals
   unfold I.put
   repeat' split
   all_goals first|rfl|(simp_all;done)
end
def Loc {α:Type} (dN Bj:azf) (f:al->Option (α×al)) (s:al) (av:α) (s1:al):Prop:=
 ∃ms,s1=eL ms s/\(∀m∈ms,m.x∈Bj/\m.d.aa=[])/\∀aH,eN dN aH s->f aH=some (av,eL ms aH)
theorem Loc.pure {α:Type} {dN Bj:azf} {f:al->Option (α×al)} {s:al} {av:α} (h:∀aH,eN dN aH s->f aH=some (av,aH)):Loc dN Bj f s av s:=
 ⟨[],rfl,by simp,λaH aa=>h aH aa⟩
theorem Loc.mono {α:Type} {dN Bj UU UW:azf} {f:al->Option (α×al)} {s s1:al} {av:α} (h:Loc dN Bj f s av s1) (tS:∀u∈dN,u∈UU) (lb:∀u∈Bj,u∈UW):Loc UU UW f s av s1:=by
 obtain⟨ms,ad,ae,aJ⟩:=h;exact⟨ms,ad,λm hm=>⟨lb _ (ae m hm).1,(ae m hm).2⟩,λaH aa=>aJ aH (aa.sub tS)⟩
section
variable {C:cl} {s s1:al} {x y d:I} {T A B:TypeId}
theorem vF (h:dD s x=some (d,s1)):Loc x.aa x.aa (λs=>dD s x) s d s1:=by
 cases x with
 |h y q=>
  simp only[dD]at h;split at h
  .rename_i e he;split at h
   .cases h
   .rename_i ay;simp only[Option.some.injEq,Prod.mk.injEq]at h;obtain⟨rfl,rfl⟩:=h;have ay:e.plain=false:=by simpa using ay
    refine⟨[⟨.cG,y,I.put q e.dR (s y)⟩],y_ _ _ _,?_,?_⟩
    .intro m hm;simp only[mem_singleton]at hm;subst hm;refine⟨by simp[I.aa],Bi q _ _ _ he (.inl ay) λcz=>?_⟩;subst cz;cases e<;>first|(simp[I.plain]at ay;done)|rfl
    .intro aH aa;have aO:aH y=s y:=aa y (by simp[I.aa]);simp only[dD,aO,he,ay];rw[<-y_];rfl
  .cases h
 |ay y q=>simp[dD]at h
 |ab y q=>simp[dD]at h
 |fn f c=>simp[dD]at h
 |hole=>simp[dD]at h
 |_=>
  simp only[dD,Option.some.injEq,Prod.mk.injEq]at h;obtain⟨rfl,rfl⟩:=h;exact .pure λaH _=>rfl
mutual
theorem UX (x:Nat):∀a:I,∀u∈(cG x a).aa,u∈a.aa
 | .h y q,u,h=>by
   simp only[cG]at h;split at h
   .split at h
    .exact h
    .simp[I.aa]at h
   .exact h
 | .ay y q,u,h=>by
   simp only[cG]at h;split at h
   .simp[I.aa]at h
   .exact h
 | .ab y q,u,h=>h
 | .fn f cap,u,h=>by simp only[cG,I.aa]at h⊢;exact UY x cap u h
 | .hole,u,h=>h
 | .bool _,u,h=>h
 | .gA,u,h=>h
 | .int _ _,u,h=>h
 | .str _,u,h=>h
 | .eh,u,h=>h
 | .a8,u,h=>h
 | .slice _,u,h=>h
 | .ak _ _,u,h=>h
 | .ref _,u,h=>h
 | .aQ _,u,h=>h
 | .agg _,u,h=>h
 | .tuple _,u,h=>h
theorem UY (x:Nat):∀ds:azk,∀u∈I.fs (kD x ds),u∈I.fs ds
 |[],u,h=>h
 |d::ds,u,h=>by
  simp only[kD,I.fs,mem_append]at h⊢;exact h.imp (UX x d u) (UY x ds u)
end
theorem M9 (o:Option Nat) (a:I):∀u∈(nd o a).aa,u∈a.aa:=by
 intro u h;cases o with
 |none=>exact h
 |some x=>exact UX x a u h
theorem UZ:∀(os:List (Option Nat)) (a:I),∀u∈(nA os a).aa,u∈a.aa:=by
 intro os;induction os with
 |nil=>intro a u h;exact h
 |cons o os ih=>intro a u h;exact M9 o a u (ih (nd o a) u h)
theorem U0 {place:Nat->Option (Nat×Nat)}:∀{ps:azj} {s s1:al} {fe ds:azk} {os:List (Option Nat)},ez place s fe os ps=some (ds,s1)->
  Loc (I.fs (ps.map (·.2))) (I.fs (ps.map (·.2))) (λs=>ez place s fe os ps) s ds s1:=by
 intro ps;induction ps with
 |nil=>
  intro s s1 fe ds os h;simp only[ez,Option.some.injEq,Prod.mk.injEq]at h;obtain⟨rfl,rfl⟩:=h;exact .pure λaH _=>rfl
 |cons p ps ih=>
  intro s s1 fe ds os h;obtain⟨k,a⟩:=p;simp only[ez]at h;split at h
  .rename_i d s2 off n z aY fI cf;split at h
   .cases h
   .rename_i bM nC;split at h
    .rename_i ar;obtain⟨sx,rfl,ae,aJ⟩:=vF aY;obtain⟨xy,rfl,b2,dA⟩:=ih h;refine⟨sx++xy,(ql _ _ _).symm,?_,?_⟩
     .intro m hm;simp only[map_cons,I.fs,mem_append]at hm⊢;rcases hm with hm|hm
      .exact⟨.inl (UZ _ _ _ (ae m hm).1),(ae m hm).2⟩
      .exact⟨.inr (b2 m hm).1,(b2 m hm).2⟩
     .intro aH aa;simp only[map_cons,I.fs]at aa;have aO:=aJ aH (aa.left.sub (UZ _ _));have aU:=dA (eL sx aH) (aa.right.eL sx);simp only at aO aU;simp only[ez,aO,fI,cf,ql];rw[if_pos ar];exact aU
    .cases h
  .cases h
theorem aei {ps:azj} {av:I} (h:gm C s T ps=some (av,s1)):Loc (I.fs (ps.map (·.2))) (I.fs (ps.map (·.2))) (λs=>gm C s T ps) s av s1:=by
 unfold gm at h;split at h
 .rename_i aE fe ax cf;split at h
  .rename_i ar;split at h
   .rename_i ds s2 bH;simp only[Option.some.injEq,Prod.mk.injEq]at h;obtain⟨rfl,rfl⟩:=h;obtain⟨ms,ad,ae,aJ⟩:=U0 bH;refine⟨ms,ad,ae,λaH aa=>?_⟩;have:=aJ aH aa;simp only at this;simp only[gm,ax,cf,if_pos ar,this]
   .cases h
  .cases h
 .cases h
theorem aej {n:Nat} {ps:azj} {av:I} (h:dS C s T n ps=some (av,s1)):Loc (I.fs (ps.map (·.2))) (I.fs (ps.map (·.2))) (λs=>dS C s T n ps) s av s1:=by
 unfold dS at h;split at h
 .rename_i e ax;split at h
  .rename_i ar;split at h
   .rename_i ds s2 bH;simp only[Option.some.injEq,Prod.mk.injEq]at h;obtain⟨rfl,rfl⟩:=h;obtain⟨ms,ad,ae,aJ⟩:=U0 bH;refine⟨ms,ad,ae,λaH aa=>?_⟩;have:=aJ aH aa;simp only at this;simp only[dS,ax,if_pos ar,this]
   .cases h
  .cases h
 .cases h
theorem aek {av:I} (h:iG s x=some (av,s1)):Loc x.aa x.aa (λs=>iG s x) s av s1:=by
 unfold iG at h;split at h
 .cases h
 .rename_i d s2 nC aY;simp only[Option.some.injEq,Prod.mk.injEq]at h;obtain⟨rfl,rfl⟩:=h;obtain⟨ms,ad,ae,aJ⟩:=vF aY;refine⟨ms,ad,ae,λaH aa=>?_⟩;have:=aJ aH aa;simp only at this;simp only[iG,this]
 .cases h
theorem ael {s2:al} (h:kV C s T x y=some s2):Loc (x.aa++y.aa) (x.aa++y.aa) (λs=>(kV C s T x y).map λs1=>(I.hole,s1)) s .hole s2:=by
 unfold kV at h;split at h
 .rename_i d s1 z q aY aC;obtain⟨ms,ad,ae,aJ⟩:=vF aY;have cf:=M8 aC;have cz:q≠[]:=by
   cases x with
   |h y p=>
    simp only[loc]at aC;split at aC
    .simp only[Option.some.injEq,Prod.mk.injEq]at aC;simp[<-aC.2]
    .cases aC
   |ay y p=>
    simp only[loc]at aC;split at aC
    .rename_i so;simp only[Option.some.injEq,Prod.mk.injEq]at aC;obtain⟨rfl,rfl⟩:=aC;intro e;subst e;simp[I.gC]at so
    .cases aC
   |_=>simp[loc]at aC
  split at h
  .cases h
  .rename_i bM nC;split at h
   .rename_i d0 ny;split at h
    .rename_i ar;simp only[Option.some.injEq]at h;subst h;refine⟨ms++[⟨.cG,z,I.put q d (s z)⟩],?_,?_,?_⟩
     .rw[ql,<-ad,y_]
     .intro m hm;simp only[mem_append,mem_singleton]at hm⊢;rcases hm with hm|rfl
      .exact⟨.inr (ae m hm).1,(ae m hm).2⟩
      .exact⟨.inl cf,Bi q _ _ _ ny (.inr cz) λe=>(cz e).elim⟩
     .intro aH aa;have aO:=aJ aH aa.right;simp only at aO;simp only[kV,aO,M7 aa.left,aC,aa.left z cf,ny];cases d<;>first|(simp only[if_pos ar,Option.map_some,ql,y_];done)|exact(nC _ rfl).elim
    .cases h
   .cases h
 .cases h
theorem aem {fM ai:Option I} {av:I} (h:iJ C s T x fM ai=some (av,s1)):Loc x.aa x.aa (λs=>iJ C s T x fM ai) s av s1:=by
 cases x with
 |h y q=>
  unfold iJ at h;split at h<;>first|(cases h;done)|skip
  all_goals (rename_i an;try cases an)
  rename_i e ax;split at h
  .rename_i sz xs fX;split at h
   .rename_i b qV qW;split at h
    .rename_i ar;split at h
     .rename_i d s2 aY;simp only[Option.some.injEq,Prod.mk.injEq]at h;obtain⟨rfl,rfl⟩:=h;obtain⟨ms,ad,ae,aJ⟩:=vF aY;refine⟨ms,ad,ae,λaH aa=>?_⟩;have:=aJ aH aa;simp only at this;have aO:aH y=s y:=aa y (by simp[I.aa]);simp only[iJ,ax,aO,fX,qV,qW,if_pos ar,this]
     .cases h
    .cases h
   .cases h
  .cases h
 |_=>
  have vG:s1=s:=by
   unfold iJ at h
   repeat' split at h
   all_goals first|(cases h;done)|(simp only[Option.some.injEq,Prod.mk.injEq]at h;exact h.2.symm)|simp_all
  subst vG;refine .pure λaH _=>?_;unfold iJ at h⊢
  repeat' split at h
  all_goals first
   |(cases h;done)
   |(simp only[Option.some.injEq,Prod.mk.injEq]at h
     obtain⟨rfl,_⟩:=h;simp_all)
def tX (C:cl) (e:TypeId) (s:al):I->Option (I×al)
 | .a8=>some (I.ak (C.T e).sz [],s)
 | .h a q=>dD s (.h a q)
 |_=>none
def n0 (s1:al):I->Option (azk×al)
 | .a8=>some ([],s1)
 | .slice cH=>some (cH,s1)
 | .str l=>some (l.map iR,s1)
 | .h a q=>match dD s1 (.h a q)with
   |some (.ak _ cH,s2)=>some (cH,s2)
   |_=>none
 |_=>none
theorem M_ (C:cl) (s:al) (T dN:TypeId) (x y:I):vE C s T dN x y=(match(C.T T).k with
 | .slice e=>if(C.T e).ok=true/\(C.T e).zero.wd=(C.T e).sz/\(flat (C.T e).zero).isSome=true/\H_ C e dN=true then
   match tX C e s x with
   |some (.ak sz xs,s1)=>if sz=(C.T e).sz then
     match n0 s1 (nd x.owner y)with
     |some (cH,s2)=>if(∀d∈cH,d.wd=(C.T e).sz)/\(xs.length+cH.length)*(C.T e).bytes<=140737488355328/\xs.length+cH.length<=9223372036854775807 then some (.ak sz (xs++cH),s2)else none
     |none=>none
    else none
   |_=>none
   else none
 |_=>none):=by
 unfold vE;generalize nd x.owner y=oB;cases(C.T T).k<;>first
  |rfl
  |(cases x<;>cases oB<;>rfl)
theorem aen {e:TypeId} {d:I} (ad:tX C e s x=some (d,s1)):Loc x.aa x.aa (λs=>tX C e s x) s d s1:=by
 cases x with
 |a8=>
  simp only[tX,Option.some.injEq,Prod.mk.injEq]at ad;obtain⟨ad,rfl⟩:=ad;exact .pure λaH _=>by simp only[tX,ad]
 |h a q=>exact vF ad
 |_=>simp[tX]at ad
theorem aeo {cH:azk} (ae:n0 s y=some (cH,s1)):Loc y.aa y.aa (λs=>n0 s y) s cH s1:=by
 cases y with
 |a8=>
  simp only[n0,Option.some.injEq,Prod.mk.injEq]at ae;obtain⟨rfl,rfl⟩:=ae;exact .pure λaH _=>rfl
 |slice cH=>
  simp only[n0,Option.some.injEq,Prod.mk.injEq]at ae;obtain⟨rfl,rfl⟩:=ae;exact .pure λaH _=>rfl
 |str l=>
  simp only[n0,Option.some.injEq,Prod.mk.injEq]at ae;obtain⟨rfl,rfl⟩:=ae;exact .pure λaH _=>rfl
 |h a q=>
  simp only[n0]at ae;split at ae
  .rename_i adD aw5 mM aY;simp only[Option.some.injEq,Prod.mk.injEq]at ae;obtain⟨rfl,rfl⟩:=ae;obtain⟨ms,g1,g2,g3⟩:=vF aY;refine⟨ms,g1,g2,λaH aa=>?_⟩;have:=g3 aH aa;simp only at this;simp only[n0,this]
  .cases ae
 |_=>simp[n0]at ae
theorem aep {av:I} (h:vE C s T A x y=some (av,s1)):Loc (x.aa++y.aa) (x.aa++y.aa) (λs=>vE C s T A x y) s av s1:=by
 rw[M_]at h;split at h
 .rename_i e ax;split at h
  .rename_i ar;split at h
   .rename_i sz xs s2 ad;split at h
    .rename_i fg;split at h
     .rename_i cH sy ae;split at h
      .rename_i ld;simp only[Option.some.injEq,Prod.mk.injEq]at h;obtain⟨rfl,rfl⟩:=h;obtain⟨sx,rfl,a2,a3⟩:=aen ad;obtain⟨xy,rfl,gd,fY⟩:=(aeo ae).mono (M9 _ _) (M9 _ _);refine⟨sx++xy,(ql _ _ _).symm,?_,?_⟩
       .intro m hm;simp only[mem_append]at hm⊢;rcases hm with hm|hm
        .exact⟨.inl (a2 m hm).1,(a2 m hm).2⟩
        .exact⟨.inr (gd m hm).1,(gd m hm).2⟩
       .intro aH aa;have aO:=a3 aH aa.left;have aU:=fY (eL sx aH) (aa.right.eL sx);simp only at aO aU;simp only[M_,ax,if_pos ar,aO,if_pos fg,aU,if_pos ld,ql]
      .cases h
     .cases h
    .cases h
   .cases h
  .cases h
 .cases h
theorem aeq {aH:al} {i:I} (h:eN x.aa aH s):jI C aH T x i=jI C s T x i:=by
 cases x with
 |h y q=>cases i<;>simp only[jI,h y (by simp[I.aa])]
 |_=>rfl
theorem aer {i v:I} {s2:al} (h:kX C s T x i v=some s2):Loc x.aa x.aa (λs=>(kX C s T x i v).map λs1=>(I.hole,s1)) s .hole s2:=by
 unfold kX at h;split at h
 .rename_i y q k b;split at h
  .rename_i m ao;split at h
   .rename_i lb;simp only[Option.some.injEq]at h;subst h;refine⟨[⟨.cG,y,I.put q (.b9 (.mp (kb k b m))) (s y)⟩],y_ _ _ _,?_,λaH aa=>?_⟩
    .intro n aR;simp only[mem_singleton]at aR;subst aR;exact⟨by simp[I.aa],Bi q _ _ _ ao (.inl rfl) λ_=>rfl⟩
    .have aO:aH y=s y:=aa y (by simp[I.aa]);simp only[kX,aO,ao,lb,if_true,Option.map_some];rw[<-y_]
   .cases h
  .cases h
 .cases h
theorem U1 {bU:eS} {av:I} (h:b_ C s bU=some (av,s1)):Loc (use s bU) (lg s bU) (λs=>b_ C s bU) s av s1:=by
 cases bU with
 |shr bU=>simp[b_]at h
 |pa x=>
  simp only[b_]at h;unfold tU at h;split at h
  .rename_i y q an;obtain⟨ms,ad,ae,aJ⟩:=vF h;refine⟨ms,ad,by simpa only[lg,an]using ae,λaH aa=>?_⟩;have e:=bE.gQ (x:=x) aa;have aU:=aJ aH (by rw[<-an];exact eN.bt aa);simp only[b_,e,an,tU];exact aU
  .rename_i U2;simp only[Option.some.injEq,Prod.mk.injEq]at h;obtain⟨rfl,rfl⟩:=h;refine .pure λaH aa=>?_;have e:=bE.gQ (x:=x) aa;simp only[b_,e,tU]
 |pL x=>
  simp only[b_,Option.some.injEq,Prod.mk.injEq]at h;obtain⟨rfl,rfl⟩:=h;exact .pure λaH aa=>by simp only[b_,bE.gQ (x:=x) aa]
 |bad=>simp[b_]at h
 |ki fc x y=>
  simp only[b_,Option.map_eq_some_iff,Prod.mk.injEq]at h;obtain⟨d,ao,rfl,rfl⟩:=h;exact .pure λaH aa=>by
   simp only[use]at aa;simp only[b_,bE.gQ (x:=x) aa.left,bE.gQ (x:=y) aa.right,ao,Option.map_some]
 |cap T x=>
  simp only[b_]at h;split at h
  .rename_i e ax an;simp only[Option.some.injEq,Prod.mk.injEq]at h;obtain⟨rfl,rfl⟩:=h;exact .pure λaH aa=>by simp only[b_,bE.gQ (x:=x) aa,ax,an]
  .cases h
 |hV x=>
  simp only[b_,Option.some.injEq,Prod.mk.injEq]at h;obtain⟨rfl,rfl⟩:=h;exact .pure λaH aa=>by simp only[b_,bE.gQ (x:=x) aa]
 |h4 x=>
  simp only[b_]at h;split at h
  .rename_i y q an;obtain⟨ms,ad,ae,aJ⟩:=vF h;refine⟨ms,ad,by simpa only[lg,an]using ae,λaH aa=>?_⟩;have e:=bE.gQ (x:=x) aa;have aU:=aJ aH (by rw[<-an];exact eN.bt aa);simp only[b_,e,an];exact aU
  .rename_i U2;simp only[Option.some.injEq,Prod.mk.injEq]at h;obtain⟨rfl,rfl⟩:=h;refine .pure λaH aa=>?_;have e:=bE.gQ (x:=x) aa;simp only[b_,e]
 |pick c a b=>
  simp only[b_]at h;split at h
  .rename_i gO ab;simp only[Option.some.injEq,Prod.mk.injEq]at h;obtain⟨rfl,rfl⟩:=h;refine .pure λaH aa=>?_;simp only[use]at aa;simp only[b_,bE.gQ (x:=c) aa.left,bE.gQ (x:=a) aa.right.left,bE.gQ (x:=b) aa.right.right,ab]
  .cases h
 |mL T=>
  simp only[b_,Option.map_eq_some_iff,Prod.mk.injEq]at h;obtain⟨d,ao,rfl,rfl⟩:=h;exact .pure λaH aa=>by simp only[b_,ao,Option.map_some]
 |iG T x=>
  obtain⟨ms,ad,ae,aJ⟩:=aek h;refine⟨ms,ad,ae,λaH aa=>?_⟩;simp only[b_,bE.gQ (x:=x) aa];exact aJ aH (eN.bt aa)
 |gm T ps=>
  obtain⟨ms,ad,ae,aJ⟩:=aei h;simp only[List.map_map,Function.comp_def]at ae aJ;refine⟨ms,ad,ae,λaH aa=>?_⟩;simp only[b_,bE.M6 (ps:=ps) aa];refine aJ aH (aa.sub λu hu=>?_);simp only[use];exact bE.Ii u (by simpa [List.map_map,Function.comp_def]using hu)
 |dS T n ps=>
  obtain⟨ms,ad,ae,aJ⟩:=aej h;simp only[List.map_map,Function.comp_def]at ae aJ;refine⟨ms,ad,ae,λaH aa=>?_⟩;simp only[b_,bE.M6 (ps:=ps) aa];refine aJ aH (aa.sub λu hu=>?_);simp only[use];exact bE.Ii u (by simpa [List.map_map,Function.comp_def]using hu)
 |fL T x=>
  simp only[b_,Option.map_eq_some_iff,Prod.mk.injEq]at h;obtain⟨d,ao,rfl,rfl⟩:=h;exact .pure λaH aa=>by simp only[b_,bE.gQ (x:=x) aa,ad8 (eN.bt aa),ao,Option.map_some]
 |kV T x y=>
  simp only[b_,Option.map_eq_some_iff,Prod.mk.injEq]at h;obtain⟨s2,ao,rfl,rfl⟩:=h;obtain⟨ms,ad,ae,aJ⟩:=ael ao;refine⟨ms,ad,ae,λaH aa=>?_⟩;simp only[use]at aa;simp only[b_,bE.gQ (x:=x) aa.left,bE.gQ (x:=y) aa.right];exact aJ aH (aa.sub λu hu=>by simp only[mem_append]at hu⊢;exact hu.imp (bE.za u) (bE.za u))
 |ml x=>
  simp only[b_,Option.map_eq_some_iff,Prod.mk.injEq]at h;obtain⟨d,ao,rfl,rfl⟩:=h;exact .pure λaH aa=>by simp only[b_,bE.gQ (x:=x) aa,aef (eN.bt aa),ao,Option.map_some]
 |eG op T x y=>
  simp only[b_,Option.map_eq_some_iff,Prod.mk.injEq]at h;obtain⟨d,ao,rfl,rfl⟩:=h;refine .pure λaH aa=>?_;simp only[use]at aa;simp only[b_,bE.gQ (x:=x) aa.left,bE.gQ (x:=y) aa.right,aee (eN.bt aa.left),ao,Option.map_some]
 |un op x=>
  simp only[b_,Option.map_eq_some_iff,Prod.mk.injEq]at h;obtain⟨d,ao,rfl,rfl⟩:=h;exact .pure λaH aa=>by simp only[b_,bE.gQ (x:=x) aa,ao,Option.map_some]
 |kW A B x=>
  simp only[b_,Option.map_eq_some_iff,Prod.mk.injEq]at h;obtain⟨d,ao,rfl,rfl⟩:=h;exact .pure λaH aa=>by simp only[b_,bE.gQ (x:=x) aa,aeb (eN.bt aa),ao,Option.map_some]
 |o9 f cs=>
  simp only[b_,Option.some.injEq,Prod.mk.injEq]at h;obtain⟨rfl,rfl⟩:=h;exact .pure λaH aa=>by simp only[b_,bE.M5 (xs:=cs) aa]
 |fB T l c=>
  simp only[b_,Option.map_eq_some_iff,Prod.mk.injEq]at h;obtain⟨d,ao,rfl,rfl⟩:=h;refine .pure λaH aa=>?_;simp only[use]at aa;simp only[b_,bE.gQ (x:=l) aa.left,bE.gQ (x:=c) aa.right,ao,Option.map_some]
 |iJ T x fM ai=>
  simp only[b_]at h;obtain⟨ms,ad,ae,aJ⟩:=aem h;refine⟨ms,ad,ae,λaH aa=>?_⟩;simp only[use]at aa;simp only[b_,bE.gQ (x:=x) aa.left,US aa.right.left,US aa.right.right];exact aJ aH (eN.bt aa.left)
 |hP T x k=>
  simp only[b_,Option.map_eq_some_iff,Prod.mk.injEq]at h;obtain⟨d,ao,rfl,rfl⟩:=h;exact .pure λaH aa=>by simp only[b_,bE.gQ (x:=x) aa,ad9 (eN.bt aa),ao,Option.map_some]
 |kF T x i=>
  simp only[b_,Option.map_eq_some_iff,Prod.mk.injEq]at h;obtain⟨d,ao,rfl,rfl⟩:=h;refine .pure λaH aa=>?_;simp only[use]at aa;simp only[b_,bE.gQ (x:=x) aa.left,bE.gQ (x:=i) aa.right,ad_ (eN.bt aa.left),ao,Option.map_some]
 |idx T x i=>
  simp only[b_,Option.map_eq_some_iff,Prod.mk.injEq]at h;obtain⟨d,ao,rfl,rfl⟩:=h;refine .pure λaH aa=>?_;simp only[use]at aa;simp only[b_,bE.gQ (x:=x) aa.left,bE.gQ (x:=i) aa.right,ao,Option.map_some]
 |ex x k=>
  simp only[b_,Option.map_eq_some_iff,Prod.mk.injEq]at h;obtain⟨d,ao,rfl,rfl⟩:=h;exact .pure λaH aa=>by simp only[b_,bE.gQ (x:=x) aa,aeh (eN.bt aa),ao,Option.map_some]
 |sv=>
  simp only[b_,Option.some.injEq,Prod.mk.injEq]at h;obtain⟨rfl,rfl⟩:=h;exact .pure λaH aa=>rfl
 |jI T x i=>
  simp only[b_,Option.map_eq_some_iff,Prod.mk.injEq]at h;obtain⟨d,ao,rfl,rfl⟩:=h;refine .pure λaH aa=>?_;simp only[use]at aa;simp only[b_,bE.gQ (x:=x) aa.left,bE.gQ (x:=i) aa.right,aeq (eN.bt aa.left),ao,Option.map_some]
 |kX T x i v=>
  simp only[b_,Option.map_eq_some_iff,Prod.mk.injEq]at h;obtain⟨s2,ao,rfl,rfl⟩:=h;obtain⟨ms,ad,ae,aJ⟩:=aer ao;refine⟨ms,ad,ae,λaH aa=>?_⟩;simp only[use]at aa;simp only[b_,bE.gQ (x:=x) aa.left,bE.gQ (x:=i) aa.right.left,bE.gQ (x:=v) aa.right.right];exact aJ aH (eN.bt aa.left)
 |jd T x k=>
  simp only[b_,Option.bind_eq_some_iff]at h;obtain⟨d,ao,h⟩:=h;unfold tU at h;split at h
  .rename_i y q;have an:=aeg ao;obtain⟨ms,ad,ae,aJ⟩:=vF h;refine⟨ms,ad,by simpa only[lg,an,I.aa]using ae,λaH aa=>?_⟩;have aU:=aJ aH (by rw[show(I.h y q).aa=(bt s x).aa from an.symm];exact eN.bt aa);simp only[b_,bE.gQ (x:=x) aa,UT (eN.bt aa),ao,Option.bind_some,tU];exact aU
  .rename_i U2;simp only[Option.some.injEq,Prod.mk.injEq]at h;obtain⟨rfl,rfl⟩:=h;refine .pure λaH aa=>?_;simp only[b_,bE.gQ (x:=x) aa,UT (eN.bt aa),ao,Option.bind_some,tU]
 |call f args=>simp[b_]at h
 |len T x=>
  simp only[b_,Option.map_eq_some_iff,Prod.mk.injEq]at h;obtain⟨d,ao,rfl,rfl⟩:=h;exact .pure λaH aa=>by simp only[b_,bE.gQ (x:=x) aa,aea (eN.bt aa),ao,Option.map_some]
 |app T dN x y=>
  obtain⟨ms,ad,ae,aJ⟩:=aep h;refine⟨ms,ad,ae,λaH aa=>?_⟩;simp only[use]at aa;simp only[b_,bE.gQ (x:=x) aa.left,bE.gQ (x:=y) aa.right];exact aJ aH (aa.sub λu hu=>by simp only[mem_append]at hu⊢;exact hu.imp (bE.za u) (bE.za u))
end
def I.one:I->Bool
 | .agg _=>false
 | .tuple _=>false
 |_=>true
mutual
def view (s:al):I->Option I
 | .h x q=>match I.sub q (s x)with
   |some d=>(match d with| .tuple _=>none| .b9 _=>none|d=>if d.plain then none else some d.share)
   |none=>none
 | .ay x q=>if I.gC q (s x)then(match I.sub q (s x)with
   |some d=>(match d with| .tuple _=>none|d=>some (.ref d.share))
   |none=>none)else none
 | .ab _ _=>none
 | .fn f cap=>(views s cap).map (.fn f)
 | .hole=>none
 |d=>some d
def views (s:al):azk->Option azk
 |[]=>some []
 |d::ds=>match view s d,views s ds with
  |some a,some b=>some (a::b)
  |_,_=>none
end
mutual
theorem Na:∀d:I,d.share.plain=true
 | .hole=>rfl
 | .bool _=>rfl
 | .gA=>rfl
 | .int _ _=>rfl
 | .str _=>rfl
 | .eh=>rfl
 | .a8=>rfl
 | .slice _=>rfl
 | .ak _ _=>rfl
 | .ref _=>rfl
 | .aQ _=>rfl
 | .agg aE=>by simp only[I.share,I.plain];exact Nb aE
 | .tuple aE=>by simp only[I.share,I.plain];exact Nb aE
 | .fn _ _=>rfl
 | .h _ _=>rfl
 | .ay _ _=>rfl
 | .ab _ _=>rfl
 | .b9 _=>rfl
theorem Nb:∀ds:azk,I.hA (I.shares ds)=true
 |[]=>rfl
 |d::ds=>by simp only[I.shares,I.hA];rw[Na d,Nb ds];rfl
end
theorem aes {s:al} {a d:I} (h:a.plain=true) (he:view s a=some d):d.plain=true:=by
 cases a with
 |h x q=>
  simp only[view]at he;split at he
  .rename_i e fX;cases e<;>simp only at he<;>first
    |(cases he;done)
    |(split at he
      .cases he
      .simp only[Option.some.injEq]at he;subst he;exact Na _)
  .cases he
 |ay x q=>
  simp only[view]at he;split at he
  .split at he
   .rename_i e fX;cases e<;>simp only at he<;>first
     |(cases he;done)
     |(simp only[Option.some.injEq]at he;subst he;rfl)
   .cases he
  .cases he
 |fn f cap=>
  simp only[view,Option.map_eq_some_iff]at he;obtain⟨ds,_,rfl⟩:=he;rfl
 |hole=>simp[view]at he
 |ab y q=>simp[view]at he
 |_=>simp only[view,Option.some.injEq]at he;subst he;exact h
theorem Nc {d:I} {v:Value} (ad:∀vs,d≠.tuple vs) (h:eK d v):eK d.share v:=by
 cases d<;>first|exact h|exact(ad _ rfl).elim
theorem aet (w:World):∀(q:azf) (av d bM:I) (cs dv:azi) (a dH:Option (Nat×Nat)),I.sub q av=some d->bM.wd=d.wd->ep w q av cs a=some (d,dv,dH)->
  ep w q (I.put q bM av) cs a=some (bM,dv,dH):=by
 intro q;induction q with
 |nil=>
  intro av d bM cs dv a dH ao hw h;simp only[ep,Option.some.injEq,Prod.mk.injEq]at h;obtain⟨rfl,rfl,rfl⟩:=h;simp only[I.put,ep]
 |cons k q ih=>
  intro av d bM cs dv a dH ao hw h;cases av with
  |agg aE=>
   simp only[I.sub]at ao;split at ao
   .rename_i x an;have ax:k<aE.length:=(List.getElem?_eq_some_iff.1 an).1;simp only[ep,an]at h;simp only[I.put,an,ep];rw[getElem?_set_self ax];simp only[take_set_of_le (Nat.le_refl k),I.A4 q x d bM ao hw];exact ih _ _ _ _ _ _ _ ao hw h
   .cases ao
  |tuple aE=>
   simp only[I.sub]at ao;split at ao
   .rename_i x an;have ax:k<aE.length:=(List.getElem?_eq_some_iff.1 an).1;simp only[ep,an]at h;simp only[I.put,an,ep];rw[getElem?_set_self ax];simp only[take_set_of_le (Nat.le_refl k),I.A4 q x d bM ao hw];exact ih _ _ _ _ _ _ _ ao hw h
   .cases ao
  |ak sz aE=>
   simp only[I.sub]at ao;split at ao
   .rename_i x an;have ax:k<aE.length:=(List.getElem?_eq_some_iff.1 an).1;have nh:(aE.set k (I.put q bM x))[k]? =some (I.put q bM x):=getElem?_set_self ax;simp only[I.put,an];rw[ep.eq_def]at h⊢;simp only[an]at h;simp only;rw[nh];split at h
    .rename_i aO;simp only[Option.some.injEq]at aO;subst aO;exact ih _ _ _ _ _ _ _ ao hw h
    .cases h
   .cases ao
  |aQ x=>
   cases k with
   |zero=>
    simp only[I.sub]at ao;rw[ep.eq_def]at h⊢;simp only at h;simp only[I.put];split at h
    .rw[I.A4 q x d bM ao hw];exact ih _ _ _ _ _ _ _ ao hw h
    .cases h
   |succ k=>simp[I.sub]at ao
  |_=>simp[I.sub]at ao
section
variable {w0 w aL:World} {F0 X F Fc:Nat->Prop} {S:Nat->Nat->Prop} {s aH:al} {aG mH:Nat->Value}
theorem aeu (h:cd w0 F0 X F S s aG w) (bK:∀b,F b->Fc b):∀n,
  (∀(a:I) (v:Value) (d:I),SizeOf.sizeOf a<=n->(∀t∈a.aa,∀b,S t b->Fc b)->view s a=some d->aS w F s aG a v (λ_=>False)->aS w Fc aH mH d v (λ_=>False))/\
  (∀(as:azk) (vs:azi) (ds:azk),SizeOf.sizeOf as<=n->(∀t∈I.fs as,∀b,S t b->Fc b)->views s as=some ds->fo w F s aG as vs->fo w Fc aH mH ds vs):=by
 intro n;induction n with
 |zero=>exact⟨λa _ _ cf=>by cases a<;>simp at cf<;>omega,λas _ _ cf=>by cases as<;>simp at cf<;>omega⟩
 |succ n ih=>
  refine⟨λa v d cf cj he aF=>?_,λas vs ds cf cj he aF=>?_⟩
  .cases a with
   |h x q=>
    simp only[view]at he;split at he
    .rename_i e fX;have key:(∀aE,e≠.tuple aE)/\e.plain=false/\d=e.share/\∀o,e≠.b9 o:=by
      cases e<;>simp only at he<;>first
       |(cases he;done)
       |(split at he
         .cases he
         .rename_i fI;simp only[Option.some.injEq]at he;exact⟨(λ_ h=>by cases h),by simpa using fI,he.symm,λ_ h=>by cases h⟩)
     obtain⟨nC,fI,rfl,nx⟩:=key;rw[aS]at aF;obtain⟨dv,dH,g1,g2,g3⟩:=aF e fX fI;have aY:=ju fX (.inl fI);have an:=(aS.dr aY).1 (h.ey x);obtain⟨hd,a2,e3,gl,k0,b1,cK,dM,dX,eF⟩:=ctx q (s x) (dd (aG x)) (S x) none e an.2 fX;rw[g1]at k0;simp only[Option.some.injEq,Prod.mk.injEq,true_and]at k0;obtain⟨rfl,rfl⟩:=k0;have Eb:e.share.tree=true:=by cases e<;>first|rfl|(simp[I.plain]at fI;done)|exact(nx _ rfl).elim
     have aT:=aA.shared bK e dv gl (λb ab=>cj x (by simp[I.aa]) b (cK b ab)) dX;exact(aS.dr Eb).2 ⟨Nc nC g3,by rw[g2];exact aT⟩
    .cases he
   |ay x q=>
    simp only[view]at he;split at he
    .rename_i so;split at he
     .rename_i e fX;have key:(∀aE,e≠.tuple aE)/\d= .ref e.share:=by
       cases e<;>simp only at he<;>first
        |(cases he;done)
        |(simp only[Option.some.injEq]at he;exact⟨(λ_ h=>by cases h),he.symm⟩)
      obtain⟨nC,rfl⟩:=key;rw[aS]at aF;obtain⟨dv,b,o,g1,rfl⟩:=aF e fX so;have aY:=ju fX (.inr so);have an:=(aS.dr aY).1 (h.ey x);obtain⟨hd,a2,e3,gl,k0,b1,cK,dM,dX,eF⟩:=ctx q (s x) (dd (aG x)) (S x) none e an.2 fX;rw[g1]at k0;simp only[Option.some.injEq,Prod.mk.injEq,true_and]at k0;obtain⟨rfl,rfl⟩:=k0;have aT:=aA.shared bK e dv gl (λb ab=>cj x (by simp[I.aa]) b (cK b ab)) dX;rcases eF with⟨l,r,_,aU,_⟩|⟨gO,cur,ty,fr,l,r,aO,aU,aM,bT,cv,_⟩
      .simp at aU
      .simp only[Option.some.injEq,Prod.mk.injEq]at aO;obtain⟨rfl,rfl⟩:=aO;refine(aS.dr rfl).2 ⟨rfl,?_⟩;rw[aA];refine⟨b,l.length,dv,rfl,cj x (by simp[I.aa]) b (b1 b aU),?_,aT⟩;intro j c bJ;simp only[World.cell?,aM];have ar:cur[l.length+j]? =some c:=by
        rw[<-Array.getElem?_toList,cv,getElem?_append_right (by omega),getElem?_append_left (by
         have:=(List.getElem?_eq_some_iff.1 bJ).1;omega)]
        rw[<-bJ];congr 1;omega
       simpa using ar
     .cases he
    .cases he
   |fn f cap=>
    simp only[view,Option.map_eq_some_iff]at he;obtain⟨ds,lG,rfl⟩:=he;rw[aS]at aF;obtain⟨arr,rfl,ar⟩:=aF;rw[aS];exact⟨arr,rfl,ih.2 cap _ _ (by simp at cf;omega) (by simpa [I.aa]using cj) lG ar⟩
   |hole=>simp[view]at he
   |ab y q=>simp[view]at he
   |_=>
    simp only[view,Option.some.injEq]at he;subst he;have nW:=(aS.dr rfl).1 aF;exact(aS.dr rfl).2 ⟨nW.1,aA.mono bK _ _ _ _ (λ_ h=>h) nW.2⟩
  .cases as with
   |nil=>
    simp only[views,Option.some.injEq]at he;subst he;rw[fo]at aF⊢;exact aF
   |cons a as=>
    simp only[views]at he;split at he
    .rename_i d ds ad ae;simp only[Option.some.injEq]at he;subst he;rw[fo]at aF⊢;obtain⟨v,nT,rfl,g1,g2⟩:=aF;simp at cf;simp only[I.fs,mem_append]at cj;exact⟨v,nT,rfl,ih.1 a v d (by omega) (λt aY=>cj t (.inl aY)) ad g1,ih.2 as nT ds (by omega) (λt aY=>cj t (.inr aY)) ae g2⟩
    .cases he
theorem cd.kH (h:cd w0 F0 X F S s aG w) {x:Nat} {q:azf} {d0 bM:I} {dv:azi} {a:Option (Nat×Nat)} {Sn:Nat->Prop}
  (ao:I.sub q (s x)=some d0) (bH:ep w q (s x) (dd (aG x)) none=some (d0,dv,a)) (ae:∀vs,bM≠.tuple vs) (aY:q=[]->bM.tree=true/\eK bM (aG x))
  (aJ:∀k p,q=k::p->(s x).tree=true/\(∀v,j2 d0 v->j2 bM v)) (hw:bM.wd=d0.wd)
  (aF:aA w F bM dv Sn) (er:∀b,Sn b->b<w.heap.size) (bK:∀b,Sn b->¬F b) (cj:∀u b,Sn b->¬S u b) (a7:∀b,Sn b->X b\/w0.heap.size<=b):
  cd w0 F0 X F (hk S x (λb=>S x b\/Sn b)) (et (oA x s) x (I.put q bM (s x))) aG w:=by
 have e_:et aG x (aG x)=aG:=by funext u;simp only[et];split<;>simp_all
 have main:(I.put q bM (s x)).tree=true/\eK (I.put q bM (s x)) (aG x)/\aA w F (I.put q bM (s x)) (dd (aG x)) (λb=>S x b\/Sn b):=by
  cases q with
  |nil=>
   simp only[ep,Option.some.injEq,Prod.mk.injEq]at bH;obtain⟨aO,aU,aM⟩:=bH;obtain⟨g1,g2⟩:=aY rfl;simp only[I.put];refine⟨g1,?_,?_⟩
   .exact g2
   .rw[aU];exact aA.mono (λ_ h=>h) _ _ _ _ (λb ab=>.inr ab) aF
  |cons k p=>
   obtain⟨g1,g2⟩:=aJ k p rfl;have an:=(aS.dr g1).1 (h.ey x);obtain⟨hd,a2,e3,gl,k0,b1,cK,dM,dX,eF⟩:=ctx (k::p) (s x) (dd (aG x)) (S x) none d0 an.2 ao;rw[bH]at k0;simp only[Option.some.injEq,Prod.mk.injEq,true_and]at k0;obtain⟨rfl,rfl⟩:=k0;refine⟨?_,?_,?_⟩
   .rcases xm k p bM (s x)with⟨aE,gs,aO,e⟩|⟨aE,gs,aO,e⟩|⟨sz,xs,cH,aO,e⟩|⟨y,z,aO,e⟩|e<;>rw[e]<;>first|rfl|exact g1
   .refine D8 an.1 ao g2 (λ_ vs e=>(ae vs e).elim) hw
   .have mono:∀b,(e3 b\/Sn b)->(S x b\/Sn b):=λb ab=>ab.imp (b1 b) id;rcases eF with⟨l,r,aO,aU,aM⟩|⟨b,cur,ty,fr,l,r,aO,aU,aM,bT,cv,ck⟩
    .rw[aO];exact aA.mono (λ_ h=>h) _ _ _ _ mono (aM w bM dv Sn (λ_ _=>rfl) (λ_ _=>rfl) hw aF (λb ab ar=>cj x b ab (b1 b ar)))
    .refine aA.mono (λ_ h=>h) _ _ _ _ mono (ck w bM dv Sn (λ_ _=>rfl) (λ_ _ _=>rfl) ?_ hw aF (λb ab ar=>cj x b ab (b1 b ar)));rw[aM,<-cv]
 have:=h.TM (t:=x) main.1 main.2.1 main.2.2 (by rintro b (ab|ab);exact h.fS x b ab;exact er b ab) (by rintro b (ab|ab);exact h.hj x b ab;exact bK b ab)
  (by rintro u b dV (ab|ab);exact λhu=>h.gD u x b dV hu ab;exact cj u b ab) (by rintro b (ab|ab);exact h.eR x b ab;exact a7 b ab)
 rwa [e_]at this
end
mutual
def I.c1:I->Bool
 | .slice _=>false
 | .ref _=>false
 | .fn _ _=>false
 | .h _ _=>false
 | .ay _ _=>false
 | .ab _ _=>false
 | .ak _ xs=>I.gV xs
 | .aQ d=>d.c1
 | .agg aE=>I.gV aE
 | .tuple aE=>I.gV aE
 |_=>true
def I.gV:azk->Bool
 |[]=>true
 |d::ds=>d.c1&&I.gV ds
end
mutual
theorem aA.c1 {w:World} {F ct:Nat->Prop}:∀(d:I) (cs:azi) (S:Nat->Prop),d.c1=true->aA w F d cs S->aA w ct d cs S
 | .hole,_,_,_,h=>h
 | .bool _,_,_,_,h=>h
 | .gA,_,_,_,h=>h
 | .int _ _,_,_,_,h=>h
 | .str _,_,_,_,h=>h
 | .eh,_,_,_,h=>h
 | .a8,_,_,_,h=>h
 | .slice xs,cs,S,aR,h=>by simp[I.c1]at aR
 | .ref d,cs,S,aR,h=>by simp[I.c1]at aR
 | .ak sz xs,cs,S,aR,h=>by
   rw[aA]at h⊢;rcases h with h|⟨b,cap,cur,e,fr,aZ,ad,ae,aJ,bh,b2,dA,dC,hI,jF,kB,oz⟩
   .exact .inl h
   .exact .inr ⟨b,cap,cur,e,fr,aZ,ad,ae,aJ,bh,b2,dA,dC,hI,bA.c1 xs _ _ aR jF,kB,oz⟩
 | .aQ d,cs,S,aR,h=>by
   rw[aA]at h⊢;obtain⟨b,cur,e,fr,aZ,ad,ae,aJ,bh,b2,dA,dC⟩:=h;exact⟨b,cur,e,fr,aZ,ad,ae,aJ,bh,aA.c1 d _ _ aR b2,dA,dC⟩
 | .agg aE,cs,S,aR,h=>by rw[aA]at h⊢;exact bA.c1 aE _ _ aR h
 | .tuple aE,cs,S,aR,h=>by rw[aA]at h⊢;exact bA.c1 aE _ _ aR h
 | .fn _ _,_,_,aR,h=>by simp[I.c1]at aR
 | .h _ _,_,_,_,h=>h
 | .ay _ _,_,_,_,h=>h
 | .ab _ _,_,_,_,h=>h
 | .b9 _,_,_,_,h=>h
theorem bA.c1 {w:World} {F ct:Nat->Prop}:∀(ds:azk) (cs:azi) (S:Nat->Prop),I.gV ds=true->bA w F ds cs S->bA w ct ds cs S
 |[],_,_,_,h=>h
 |d::ds,cs,S,aR,h=>by
  simp only[I.gV,Bool.and_eq_true]at aR;rw[bA]at h⊢;obtain⟨cA,c2,cD,eH,ad,ae,aJ,bh,b2,dA⟩:=h;exact⟨cA,c2,cD,eH,ad,aA.c1 d _ _ aR.1 ae,bA.c1 ds _ _ aR.2 aJ,bh,b2,dA⟩
end
theorem U3:∀(q:azf) (av d e:I),I.sub q av=some d->I.sub q (I.put q e av)=some e:=by
 intro q;induction q with
 |nil=>intro av d e _;simp[I.put,I.sub]
 |cons k q ih=>
  intro av d e h;cases av with
  |agg aE=>
   simp only[I.sub]at h;split at h
   .rename_i x an;have ax:k<aE.length:=(List.getElem?_eq_some_iff.1 an).1;simp only[I.put,an,I.sub,getElem?_set_self ax];exact ih _ _ _ h
   .cases h
  |tuple aE=>
   simp only[I.sub]at h;split at h
   .rename_i x an;have ax:k<aE.length:=(List.getElem?_eq_some_iff.1 an).1;simp only[I.put,an,I.sub,getElem?_set_self ax];exact ih _ _ _ h
   .cases h
  |ak sz aE=>
   simp only[I.sub]at h;split at h
   .rename_i x an;have ax:k<aE.length:=(List.getElem?_eq_some_iff.1 an).1;simp only[I.put,an,I.sub,getElem?_set_self ax];exact ih _ _ _ h
   .cases h
  |aQ x=>
   cases k with
   |zero=>simp only[I.sub]at h;simp only[I.put,I.sub];exact ih _ _ _ h
   |succ k=>simp[I.sub]at h
  |_=>simp[I.sub]at h
structure dt where
 a:I
 g:Bool
 d:I
 o:I
def I.own:I->Bool
 | .ak _ _=>true
 | .aQ _=>true
 |_=>false
def I.hD:I->Bool
 | .ak _ _=>true
 | .aQ _=>true
 | .b9 _=>true
 | .agg aE=> !I.hA aE
 |_=>false
def xz (d o:I):Bool:=match d,o with
 | .agg a,.agg b=>I.eZ a==I.eZ b
 | .agg _,_=>false
 |_,.agg _=>false
 |_,_=>true
theorem xA {d:I} (h:d.hD=true):d.plain=false/\d.tree=true/\∀vs,d≠.tuple vs:=by
 cases d<;>simp[I.hD]at h<;>first|exact⟨rfl,rfl,λvs e=>by cases e⟩|exact⟨by simp only[I.plain];exact h,rfl,λvs e=>by cases e⟩
theorem aev {d o:I} (h:d.hD=true) (bL:o.hD=true) (aC:xz d o=true):o.wd=d.wd/\(∀v,eK d v->eK o v)/\∀v,j2 d.dR v->j2 o v:=by
 cases d<;>simp[I.hD]at h<;>cases o<;>simp[I.hD]at bL<;>simp[xz]at aC<;>first
  |exact⟨rfl,λ_ h=>h,λ_ h=>h⟩
  |exact⟨by simp only[I.wd];exact aC.symm,λ_ h=>h,λ_ h=>h⟩
def dt.ok (s:al) (p:dt):Prop:=
 if p.g then(match p.a with| .h x q=>I.sub q (s x)=some p.d/\p.d.hD=true/\(p.o= .hole\/(p.o.hD=true/\xz p.d p.o=true))|_=>False)
 else view s p.a=some p.d
def kj:List dt->Bool
 |[]=>true
 |p::r=>(r.all λdi=> !(p.g||di.g)||(p.a.aa.all λu=> !di.a.aa.contains u))&&kj r
def dt.take (s:al) (p:dt):al:=
 if p.g then(match p.a with| .h x q=>et (jc x s) x (I.put q p.d.dR (s x))|_=>s)else s
def dt.kH (s:al) (p:dt):al:=
 if p.g then(match p.a,p.o with|_,.hole=>s| .h x q,o=>et (oA x s) x (I.put q o (s x))|_,_=>s)else s
def gp (s:al) (ps:List dt):al:=ps.foldl dt.take s
def j4 (s:al) (ps:List dt):al:=ps.foldl dt.kH s
section
variable {w0 w aL:World} {F0 X F Fc:Nat->Prop} {S:Nat->Nat->Prop} {s aH:al} {aG mH:Nat->Value}
def aew (w:World) (F:Nat->Prop) (s1:al) (aG:Nat->Value) (p:dt) (v:Value) (Sn:Nat->Prop):Prop:=
 ∃x q a0,p.a= .h x q/\I.sub q (s1 x)=some p.d.dR/\ep w q (s1 x) (dd (aG x)) none=some (p.d.dR,dd v,a0)/\(s1 x).aa=[]/\(q=[]->eK p.d (aG x))/\(q≠[]->(s1 x).tree=true)/\
  eK p.d v/\aA w F p.d (dd v) Sn
theorem aex {p:dt} {x:Nat} (h:(s x).aa=[]) (ay:p.g=true->x∉p.a.aa):dt.take s p x=s x:=by
 unfold dt.take;split
 .rename_i hg;cases bl:p.a with
  |h y q=>
   have:x≠y:=by
    have:=ay hg;rw[bl]at this;simpa [I.aa]using this
   simp only;rw[lE _ _ this];exact Ez _ (by rw[h];simp)
  |_=>rfl
 .rfl
theorem Nd:∀{ps:List dt} {s:al} {x:Nat},(s x).aa=[]->(∀p∈ps,p.g=true->x∉p.a.aa)->gp s ps x=s x:=by
 intro ps;induction ps with
 |nil=>intros;rfl
 |cons p ps ih=>
  intro s x h ay;have e:=aex (s:=s) (p:=p) h (ay p (by simp));show gp (dt.take s p) ps x=s x;rw[ih (by rw[e];exact h) (λdi fj=>ay di (by simp[fj])),e]
theorem Ij {d:I} (h:d.own=true):d.plain=false/\d.tree=true/\d.dR= .hole/\d.one=true/\d.wd=1/\(∀v,eK d v↔Value.hH v=true):=by
 cases d<;>simp[I.own]at h<;>exact⟨rfl,rfl,rfl,rfl,rfl,λv=>Iff.rfl⟩
theorem aey:∀(ps:List dt) (vs:azi) (s:al) (S:Nat->Nat->Prop),cd w0 F0 X F S s aG w->ps.length=vs.length->
  (∀(i:Nat) (p:dt) (v:Value),ps[i]? =some p->vs[i]? =some v->p.a.plain=true/\aS w F s aG p.a v (λ_=>False)/\(p.g=true->p.ok s))->kj ps=true->
  ∃(Sn cD:Nat->Nat->Prop),cd w0 F0 X F cD (gp s ps) aG w/\(∀u b,cD u b->S u b)/\
   (∀(i:Nat) (p:dt) (v:Value),ps[i]? =some p->vs[i]? =some v->p.g=true->aew w F (gp s ps) aG p v (Sn i))/\
   (∀i b,Sn i b->∃p,ps[i]? =some p/\p.g=true)/\
   (∀i b,Sn i b->∃u,S u b)/\(∀i u b,Sn i b->¬cD u b)/\(∀i j b,i≠j->Sn i b->¬Sn j b)/\
   (∀(bM:I) (hl:Value) (aZ:Nat->Prop),(∀p∈ps,p.g=true->∀u∈p.a.aa,u∉bM.aa)->aS w F s aG bM hl aZ->aS w F (gp s ps) aG bM hl aZ):=by
 intro ps;induction ps with
 |nil=>
  intro vs s S h aC _ _;exact⟨λ_ _=>False,S,h,λ_ _ h=>h,λi p v ay=>by simp at ay,λ_ _ h=>h.elim,λ_ _ h=>h.elim,λ_ _ _ h=>h.elim,λ_ _ _ _ h=>h.elim,λ_ _ _ _ h=>h⟩
 |cons p ps ih=>
  intro vs s S h aC Eu nB;cases vs with
  |nil=>simp at aC
  |cons v vs=>
   simp only[length_cons,Nat.add_right_cancel_iff]at aC;simp only[kj,Bool.and_eq_true,List.all_eq_true,Bool.or_eq_true,Bool.not_eq_true']at nB;obtain⟨sA,q4⟩:=nB;have Bk:∀di∈ps,(p.g=true\/di.g=true)->∀u∈p.a.aa,u∉di.a.aa:=by
    intro di fj hg u hu;rcases sA di fj with e|e
    .rcases hg with hg|hg<;>simp[hg]at e
    .simpa using e u hu
   obtain⟨f1,f2,f3⟩:=Eu 0 p v rfl rfl;cases hg:p.g with
   |false=>
    have fT:dt.take s p=s:=by simp[dt.take,hg]
    obtain⟨Sn,cD,g1,g2,g3,g4,g5,g6,g7,g8⟩:=ih vs s S h aC (λi di hl ay aF=>Eu (i+1) di hl (by simpa using ay) (by simpa using aF)) q4;have aO:gp s (p::ps)=gp s ps:=by show gp (dt.take s p) ps=_;rw[fT]
    rw[aO];refine⟨λi=>match i with|0=>λ_=>False|i+1=>Sn i,cD,g1,g2,?_,?_,?_,?_,?_,λbM hl aZ ao=>g8 bM hl aZ λdi fj=>ao di (by simp[fj])⟩
    .intro i di hl ay aF iK;cases i with
     |zero=>simp at ay;subst ay;rw[hg]at iK;cases iK
     |succ i=>exact g3 i di hl (by simpa using ay) (by simpa using aF) iK
    .intro i b ab;cases i with
     |zero=>exact ab.elim
     |succ i=>simpa using g4 i b ab
    .intro i b ab;cases i with
     |zero=>exact ab.elim
     |succ i=>exact g5 i b ab
    .intro i u b ab;cases i with
     |zero=>exact ab.elim
     |succ i=>exact g6 i u b ab
    .intro i j b dV ai bJ;cases i with
     |zero=>exact ai.elim
     |succ i=>
      cases j with
      |zero=>exact bJ.elim
      |succ j=>exact g7 i j b (by omega) ai bJ
   |true=>
    have gH:=f3 hg;simp only[dt.ok,hg,if_true]at gH;split at gH
    .rename_i x q bl;obtain⟨fX,Nf,yO⟩:=gH;obtain⟨qm,nD,sB⟩:=xA Nf;have vH:dD s p.a=some (p.d,et (jc x s) x (I.put q p.d.dR (s x))):=by
      rw[bl];simp only[dD,fX,qm];rfl
     obtain⟨cD,t1,t2,t3,aez,t4,t5,t6,t7,t8,t9,t10,t11⟩:=sk h f1 f2 vH;have fT:dt.take s p=et (jc x s) x (I.put q p.d.dR (s x)):=by simp[dt.take,hg,bl]
     have tY:∀di∈ps,x∉di.a.aa:=λdi fj=>Bk di fj (.inl hg) x (by rw[bl];simp[I.aa]);have Ng:dt.take s p x=I.put q p.d.dR (s x):=by rw[fT,o3]
     have U4:(dt.take s p x).aa=[]:=by
      rw[Ng];exact Bi q _ _ _ fX (.inl qm) (λ_=>by cases ao:p.d<;>first|rfl|(rw[ao]at Nf;simp[I.hD]at Nf))
     obtain⟨Sn,eH,g1,g2,g3,g4,g5,g6,g7,g8⟩:=ih vs (dt.take s p) cD (by rw[fT];exact t1) aC (by
      intro i di hl ay aF;obtain⟨b1,cK,dM⟩:=Eu (i+1) di hl (by simpa using ay) (by simpa using aF);have hm:di∈ps:=mem_of_getElem? ay;refine⟨b1,?_,?_⟩
      .have:=t11 _ _ _ cK;rw[bl]at this;rw[fT];simp only[I.owner,nd]at this
       rwa [Ez _ (tY di hm)]at this
      .intro iK;have:=dM iK;simp only[dt.ok,iK,if_true]at this⊢;split at this
       .rename_i y kE vI;have dV:y≠x:=λe=>tY di hm (by rw[vI,e];simp[I.aa]);rw[fT,lE _ _ dV];have aY:=ju this.1 (.inl (xA this.2.1).1);simp only[jc,Ml aY];exact this
       .exact this.elim) q4
     have aO:gp s (p::ps)=gp (dt.take s p) ps:=rfl;have xB:gp (dt.take s p) ps x=I.put q p.d.dR (s x):=by
      rw[Nd U4 (λdi fj _=>tY di fj),Ng]
     rw[aO];refine⟨λi=>match i with|0=>aez|i+1=>Sn i,eH,g1,λu b ab=>t9 u b (g2 u b ab),?_,?_,?_,?_,?_,?_⟩
     rotate_left 5
     .intro bM hl aZ ao lh;refine g8 bM hl aZ (λdi fj=>ao di (by simp[fj])) ?_;have:=t11 _ _ _ lh;rw[bl]at this;rw[fT];simp only[I.owner,nd]at this
      rwa [Ez _ (ao p (by simp) hg x (by rw[bl];simp[I.aa]))]at this
     .intro i di hl ay aF iK;cases i with
      |zero=>
       simp at ay aF;subst ay aF;have Ik:=f2;rw[bl,aS]at Ik;obtain⟨dv,a0,cA,c2,c3⟩:=Ik _ fX qm;refine⟨x,q,a0,bl,?_,?_,?_,?_,?_,t3,t4⟩
       .rw[xB];exact U3 q _ _ _ fX
       .rw[xB,c2];exact aet w q _ _ _ _ _ _ _ fX (I.xl _) cA
       .rw[xB,<-Ng];exact U4
       .intro cz;subst cz;simp only[I.sub,Option.some.injEq]at fX;have:=(aS.dr (by rw[fX];exact nD)).1 (h.ey x);rw[fX]at this;exact this.1
       .intro cz;have aY:=ju fX (.inl qm);rw[xB];cases q with
        |nil=>exact(cz rfl).elim
        |cons k q=>rcases xm k q p.d.dR (s x)with⟨aE,gs,aO,e⟩|⟨aE,gs,aO,e⟩|⟨sz,xs,cH,aO,e⟩|⟨y,z,aO,e⟩|e<;>rw[e]<;>first|rfl|exact aY
      |succ i=>exact g3 i di hl (by simpa using ay) (by simpa using aF) iK
     .intro i b ab;cases i with
      |zero=>exact⟨p,rfl,hg⟩
      |succ i=>simpa using g4 i b ab
     .intro i b ab;cases i with
      |zero=>exact t10 b ab
      |succ i=>obtain⟨u,hu⟩:=g5 i b ab;exact⟨u,t9 u b hu⟩
     .intro i u b ab;cases i with
      |zero=>exact λhu=>t7 u b ab (g2 u b hu)
      |succ i=>exact g6 i u b ab
     .intro i j b dV ai bJ;cases i with
      |zero=>
       cases j with
       |zero=>exact dV rfl
       |succ j=>obtain⟨u,hu⟩:=g5 j b bJ;exact t7 u b ai hu
      |succ i=>
       cases j with
       |zero=>obtain⟨u,hu⟩:=g5 i b ai;exact t7 u b bJ hu
       |succ j=>exact g7 i j b (by omega) ai bJ
    .exact gH.elim
end
def gq (l:azk):al:=λi=>l.getD i .hole
def h5 (l:azi):Nat->Value:=λi=>l.getD i undef
def sC (P:Program) (f:FuncId) (args:Array Value) (w:World) (j5:Value->World->Prop):Prop:=
 ((callFunc f args).run P w= .ok (.enter f args) w/\Calls P f args w (λe aL=>∃v,e= .returned v/\j5 v aL))\/
 ∃v aL,(callFunc f args).run P w= .ok (.value v) aL/\j5 v aL
theorem sC.mono {P:Program} {f:FuncId} {args:Array Value} {w:World} {j5 U5:Value->World->Prop} (h:sC P f args w j5) (aT:∀v aL,j5 v aL->U5 v aL):sC P f args w U5:=by
 rcases h with⟨ad,ae⟩|⟨v,aL,ad,ae⟩
 .exact .inl ⟨ad,Calls.mono ae λe aL ⟨v,e,h⟩=>⟨v,e,aT v aL h⟩⟩
 .exact .inr ⟨v,aL,ad,aT v aL ae⟩
def aV (C:cl) (f:FuncId) (as:azk) (r:I) (outs:azk):Prop:=
 ∀(w:World) (F X:Nat->Prop) (S:Nat->Nat->Prop) (vs:azi),vs.length=as.length->cd w F X F S (gq as) (h5 vs) w->
  sC C.P f vs.toArray w λv aL=>∃ct aZ,cd w F X ct aZ (gq (r::outs)) (h5 (v::vs)) aL
def I.res:I->Bool
 | .h _ _=>false
 | .ay _ _=>false
 | .ab _ _=>false
 | .fn _ _=>false
 |_=>true
theorem U6 {d:I} (h:d.tree=true):d.aa=[]:=by cases d<;>first|rfl|(simp[I.tree]at h)
mutual
theorem Nh {s aH:al}:∀(a:I) (d:I),(∀u∈a.aa,(s u).tree=true->aH u=s u)->view s a=some d->view aH a=some d
 | .h x q,d,hu,h=>by
   have aY:(s x).tree=true:=by
    simp only[view]at h;split at h
    .rename_i e fX;cases e<;>simp only at h<;>first
      |(cases h;done)
      |(split at h
        .cases h
        .rename_i ay;exact ju fX (.inl (by simpa using ay)))
    .cases h
   simp only[view]at h⊢;rw[hu x (by simp[I.aa]) aY];exact h
 | .ay x q,d,hu,h=>by
   have aY:(s x).tree=true:=by
    simp only[view]at h;split at h
    .rename_i ar;split at h
     .rename_i e fX;exact ju fX (.inr ar)
     .cases h
    .cases h
   simp only[view]at h⊢;rw[hu x (by simp[I.aa]) aY];exact h
 | .ab x q,d,hu,h=>by simp[view]at h
 | .fn f cap,d,hu,h=>by
   simp only[view,Option.map_eq_some_iff]at h⊢;obtain⟨ds,ad,ae⟩:=h;exact⟨ds,U7 cap ds (by simpa [I.aa]using hu) ad,ae⟩
 | .hole,d,hu,h=>h
 | .bool _,d,hu,h=>h
 | .gA,d,hu,h=>h
 | .int _ _,d,hu,h=>h
 | .str _,d,hu,h=>h
 | .eh,d,hu,h=>h
 | .a8,d,hu,h=>h
 | .slice _,d,hu,h=>h
 | .ak _ _,d,hu,h=>h
 | .ref _,d,hu,h=>h
 | .aQ _,d,hu,h=>h
 | .agg _,d,hu,h=>h
 | .tuple _,d,hu,h=>h
 | .b9 _,d,hu,h=>h
theorem U7 {s aH:al}:∀(as:azk) (ds:azk),(∀u∈I.fs as,(s u).tree=true->aH u=s u)->views s as=some ds->views aH as=some ds
 |[],ds,hu,h=>h
 |a::as,ds,hu,h=>by
  simp only[I.fs,mem_append]at hu;simp only[views]at h⊢;split at h
  .rename_i x y ad ae;rw[Nh a x (λu hm=>hu u (.inl hm)) ad,U7 as y (λu hm=>hu u (.inr hm)) ae];exact h
  .cases h
end
section
variable {C:cl} {w0 w aL:World} {F0 X F Fc:Nat->Prop} {S:Nat->Nat->Prop} {s aH:al} {aG mH:Nat->Value}
def aeA (w:World) (F:Nat->Prop) (s:al) (aG:Nat->Value) (p:dt) (v:Value) (q5:Nat->Prop):Prop:=
 p.g=true->p.o= .hole\/∃x q a0 d0,p.a= .h x q/\I.sub q (s x)=some d0/\ep w q (s x) (dd (aG x)) none=some (d0,dd v,a0)/\(s x).aa=[]/\
  (q=[]->eK p.o (aG x))/\(q≠[]->(s x).tree=true)/\p.o.hD=true/\aA w F p.o (dd v) q5/\p.o.wd=d0.wd/\∀v,j2 d0 v->j2 p.o v
theorem aeB:∀(ps:List dt) (vs:azi) (s:al) (S q5:Nat->Nat->Prop),cd w0 F0 X F S s aG w->ps.length=vs.length->
  (∀(i:Nat) (p:dt) (v:Value),ps[i]? =some p->vs[i]? =some v->aeA w F s aG p v (q5 i))->
  (∀i b,q5 i b->b<w.heap.size/\¬F b/\(X b\/w0.heap.size<=b)/\∀u,¬S u b)->(∀i j b,i≠j->q5 i b->¬q5 j b)->kj ps=true->
  ∃eH,cd w0 F0 X F eH (j4 s ps) aG w/\∀u b,eH u b->S u b\/∃i,q5 i b:=by
 intro ps;induction ps with
 |nil=>intro vs s S q5 h _ _ _ _ _;exact⟨S,h,λu b ab=>.inl ab⟩
 |cons p ps ih=>
  intro vs s S q5 h aC Ni ab ao nB;cases vs with
  |nil=>simp at aC
  |cons v vs=>
   simp only[length_cons,Nat.add_right_cancel_iff]at aC;simp only[kj,Bool.and_eq_true,List.all_eq_true,Bool.or_eq_true,Bool.not_eq_true']at nB;obtain⟨sA,q4⟩:=nB;have Bk:∀di∈ps,(p.g=true\/di.g=true)->∀u∈p.a.aa,u∉di.a.aa:=by
    intro di fj hg u hu;rcases sA di fj with e|e
    .rcases hg with hg|hg<;>simp[hg]at e
    .simpa using e u hu
   have skip:dt.kH s p=s->∃eH,cd w0 F0 X F eH (j4 s (p::ps)) aG w/\∀u b,eH u b->S u b\/∃i,q5 i b:=by
    intro fT;obtain⟨eH,g1,g2⟩:=ih vs s S (λi=>q5 (i+1)) h aC (λi di hl ay aF=>Ni (i+1) di hl (by simpa using ay) (by simpa using aF)) (λi b h=>ab (i+1) b h)
     (λi j b dV=>ao (i+1) (j+1) b (by omega)) q4
    refine⟨eH,?_,λu b hu=>(g2 u b hu).imp id λ⟨i,ai⟩=>⟨i+1,ai⟩⟩;show cd _ _ _ _ _ (j4 (dt.kH s p) ps) _ _;rw[fT];exact g1
   cases hg:p.g with
   |false=>exact skip (by simp[dt.kH,hg])
   |true=>
    rcases Ni 0 p v rfl rfl hg with bL|⟨x,q,a0,d0,bl,cA,c2,c3,c4,c5,ft,Nj,hQ,c9⟩
    .exact skip (by simp only[dt.kH,hg,bL,if_true])
    .obtain⟨qm,nD,xC⟩:=xA ft;have fT:dt.kH s p=et (oA x s) x (I.put q p.o (s x)):=by
      simp only[dt.kH,hg,if_true,bl];cases aeC:p.o<;>first|rfl|(rw[aeC]at ft;simp[I.hD]at ft)
     have step:=h.kH (x:=x) (q:=q) (bM:=p.o) cA c2 xC (λcz=>⟨nD,c4 cz⟩) (λk r cz=>⟨c5 (by rw[cz];simp),c9⟩) hQ Nj
      (λb h=>(ab 0 b h).1) (λb h=>(ab 0 b h).2.1) (λu b h=>(ab 0 b h).2.2.2 u) (λb h=>(ab 0 b h).2.2.1)
     rw[<-fT]at step;obtain⟨eH,g1,g2⟩:=ih vs (dt.kH s p) _ (λi=>q5 (i+1)) step aC (by
      intro i di hl ay aF iK;have hm:di∈ps:=mem_of_getElem? ay;rcases Ni (i+1) di hl (by simpa using ay) (by simpa using aF) iK with bL|⟨y,kE,J,d1,b1,cK,dM,dX,eF,dz,kG,fA,o8⟩
      .exact .inl bL
      .have dV:y≠x:=λe=>Bk di hm (.inl hg) x (by rw[bl];simp[I.aa]) (by rw[b1,e];simp[I.aa]);have xn:dt.kH s p y=s y:=by
        rw[fT,lE _ _ dV];exact M1 _ (by rw[dX];simp)
       exact .inr ⟨y,kE,J,d1,b1,by rw[xn];exact cK,by rw[xn];exact dM,by rw[xn];exact dX,eF,by rw[xn];exact dz,kG,fA,o8⟩)
      (by
       intro i b ai;obtain⟨hC,gd,fY,bw⟩:=ab (i+1) b ai;refine⟨hC,gd,fY,λu hu=>?_⟩;simp only[hk]at hu;split at hu
       .rcases hu with hu|hu
        .exact bw _ hu
        .exact ao 0 (i+1) b (by omega) hu ai
       .exact bw _ hu)
      (λi j b dV=>ao (i+1) (j+1) b (by omega)) q4
     refine⟨eH,g1,λu b hu=>?_⟩;rcases g2 u b hu with hu|⟨i,ai⟩
     .simp only[hk]at hu;split at hu
      .rename_i e;subst e;exact hu.imp id λh=>⟨0,h⟩
      .exact .inl hu
     .exact .inr ⟨i+1,ai⟩
def mN (ps:List dt):Bool:=ps.any λp=> !p.g&& !p.a.aa.isEmpty
theorem U8 (h:cd w0 F0 X F S s aG w) {ps:List dt} {vs:azi} {f:FuncId} {r:I} (aC:ps.length=vs.length)
  (lh:∀(i:Nat) (p:dt) (v:Value),ps[i]? =some p->vs[i]? =some v->p.a.plain=true/\aS w F s aG p.a v (λ_=>False))
  (gH:∀p∈ps,p.ok s) (nB:kj ps=true) (bH:∀(Fc pb:Nat->Prop) (e3:Nat->Nat->Prop),(∀b,F b->Fc b)->(∀b,pb b->∃u,S u b)->cd w Fc pb Fc e3 (gq (ps.map (·.d))) (h5 vs) w->
   sC C.P f vs.toArray w λv aL=>∃ct aZ,cd w Fc pb ct aZ (gq (r::ps.map (·.o))) (h5 (v::vs)) aL) (aT:r.res=true)
  (aR:mN ps=true->r.c1=true/\∀p∈ps,p.o.c1=true):
  sC C.P f vs.toArray w λv aL=>∃ct aZ,cd w0 F0 X ct aZ (j4 (gp s ps) ps) aG aL/\nV w0 X ct aZ (j4 (gp s ps) ps) aG aL r v/\∀b,F b->ct b/\aL.heap[b]? =w.heap[b]? :=by
 obtain⟨Sn,cD,g1,g2,g3,g4,g5,g6,g7,g8⟩:=aey ps vs s S h aC (λi p v ay aF=>⟨(lh i p v ay aF).1,(lh i p v ay aF).2,λ_=>gH p (mem_of_getElem? ay)⟩) nB;have apart:∀(i j:Nat) (p di:dt),ps[i]? =some p->ps[j]? =some di->i≠j->(p.g=true\/di.g=true)->∀u∈p.a.aa,u∉di.a.aa:=by
  clear lh gH bH aR g1 g3 g4 g8 aC;induction ps with
  |nil=>intro i j p di ay;simp at ay
  |cons ja ps ih=>
   simp only[kj,Bool.and_eq_true,List.all_eq_true,Bool.or_eq_true,Bool.not_eq_true']at nB;obtain⟨sA,q4⟩:=nB;have Bk:∀di∈ps,(ja.g=true\/di.g=true)->∀u∈ja.a.aa,u∉di.a.aa:=by
    intro di fj hg u hu;rcases sA di fj with e|e
    .rcases hg with hg|hg<;>simp[hg]at e
    .simpa using e u hu
   intro i j p di ay fj dV hg u hu;cases i with
   |zero=>
    simp at ay;subst ay;cases j with
    |zero=>exact(dV rfl).elim
    |succ j=>exact Bk di (mem_of_getElem? (by simpa using fj)) hg u hu
   |succ i=>
    cases j with
    |zero=>
     simp at fj;subst fj;exact λEB=>Bk p (mem_of_getElem? (by simpa using ay)) hg.symm u EB hu
    |succ j=>exact ih q4 i j p di (by simpa using ay) (by simpa using fj) (by omega) hg u hu
 let Fc:Nat->Prop:=λb=>F b\/(mN ps=true/\∃u,cD u b)
 let pb:Nat->Prop:=λb=>∃i,Sn i b
 have Nk:∀b,F b->¬pb b:=λb bK ⟨i,ai⟩=>by obtain⟨u,hu⟩:=g5 i b ai;exact h.hj u b hu bK
 have EC:∀u b,cD u b->¬pb b:=λu b hu ⟨i,ai⟩=>g6 i u b ai hu;have aN:∀b,pb b->(X b\/w0.heap.size<=b)/\b<w.heap.size:=λb ⟨i,ai⟩=>by obtain⟨u,hu⟩:=g5 i b ai;exact⟨h.eR u b hu,h.fS u b hu⟩
 have pre:cd w Fc pb Fc Sn (gq (ps.map (·.d))) (h5 vs) w:=by
  refine⟨λ_ h=>h,λ_ h=>.inl h,?_,λi b ai=>(aN b ⟨i,ai⟩).2,?_,λi j b dV=>g7 i j b dV,λi b ai=>.inl ⟨i,ai⟩,?_,λ_ _ _=>rfl,Nat.le_refl _,rfl,rfl,Out.refl _,h.gU.next h.size h.old λb ab=>(aN b ab).1⟩
  .rintro b (ab|⟨_,u,hu⟩)
   .exact h.gP b ab
   .exact g1.fS u b hu
  .rintro i b ai (ab|⟨_,u,hu⟩)
   .exact Nk b ab ⟨i,ai⟩
   .exact g6 i u b ai hu
  .intro t;cases ay:ps[t]? with
   |none=>
    have:gq (ps.map (·.d)) t= .hole:=by simp[gq,List.getD,ay]
    rw[this,aS];trivial
   |some p=>
    have er:t<vs.length:=by rw[<-aC];exact(List.getElem?_eq_some_iff.1 ay).1
    have aF:vs[t]? =some vs[t]:=getElem?_eq_getElem er;have aO:gq (ps.map (·.d)) t=p.d:=by simp[gq,List.getD,ay]
    have aU:h5 vs t=vs[t]:=by simp[h5,List.getD,aF]
    rw[aO,aU];have hm:p∈ps:=mem_of_getElem? ay;have ax:=gH p hm;cases hg:p.g with
    |true=>
     obtain⟨x,q,a0,b1,cK,dM,dX,eF,dz,kG,fA⟩:=g3 t p _ ay aF hg;simp only[dt.ok,hg,if_true,b1]at ax;exact(aS.dr (xA ax.2.1).2.1).2 ⟨kG,aA.mono (λb ab=>.inl ab) _ _ _ _ (λ_ h=>h) fA⟩
    |false=>
     simp only[dt.ok,hg]at ax;obtain⟨f1,f2⟩:=lh t p _ ay aF;have U9:∀di∈ps,di.g=true->∀u∈di.a.aa,u∉p.a.aa:=by
      intro di fj iK u hu;obtain⟨j,bJ⟩:=getElem?_of_mem fj;refine apart j t di p bJ ay (λe=>?_) (.inl iK) u hu;subst e;rw[ay]at bJ;simp only[Option.some.injEq]at bJ;rw[bJ,iK]at hg;cases hg
     have Ik:=g8 _ _ _ U9 f2;have nh:view (gp s ps) p.a=some p.d:=Nh _ _ (λu hu aY=>Nd (U6 aY) (λdi fj iK EB=>U9 di fj iK u EB hu)) (by simpa using ax);refine aS.nothing (aes f1 nh) ((aeu g1 (Fc:=Fc) (λb ab=>.inl ab) (SizeOf.sizeOf p.a)).1 p.a _ p.d (Nat.le_refl _) ?_ nh Ik);intro u hu b ab;refine .inr ⟨?_,u,ab⟩;simp only[mN,List.any_eq_true];refine⟨p,hm,?_⟩;cases kU:p.a.aa with
     |nil=>rw[kU]at hu;cases hu
     |cons _ _=>simp[hg]
 refine sC.mono (bH Fc pb Sn (λb ab=>.inl ab) (λb ⟨i,ai⟩=>g5 i b ai) pre) ?_;rintro v aL ⟨ct,aZ,ar⟩;have keep:∀b,b<w.heap.size->¬pb b->aL.heap[b]? =w.heap[b]? :=ar.old;let sD:Nat->Prop:=λb=>if mN ps=true then F b else ct b
 have U_:∀b,F b->ct b:=λb ab=>ar.iQ b (.inl ab);have Bl:∀b,F b->sD b:=λb ab=>by
  simp only[sD];split
  .exact ab
  .exact U_ b ab
 have zb:∀b,sD b->ct b:=λb ab=>by
  simp only[sD]at ab;split at ab
  .exact U_ b ab
  .exact ab
 have Va:∀b,sD b->F b\/pb b\/w.heap.size<=b:=λb ab=>by
  simp only[sD]at ab;split at ab
  .exact .inl ab
  .rename_i xw;rcases ar.jv b ab with(ab|⟨ad,_⟩)|ab|ab
   .exact .inl ab
   .exact(xw ad).elim
   .exact .inr (.inl ab)
   .exact .inr (.inr ab)
 have mid:cd w0 F0 X sD cD (gp s ps) aG aL:=by
  refine⟨λb ab=>Bl b (g1.iQ b ab),?_,λb ab=>ar.gP b (zb b ab),λt b ab=>Nat.lt_of_lt_of_le (g1.fS t b ab) ar.size,?_,g1.gD,g1.eR,?_,?_,Nat.le_trans g1.size ar.size,ar.os.trans g1.os,ar.tape.trans g1.tape,ar.output.trans g1.output,g1.gU⟩
  .intro b ab;rcases Va b ab with ab|ab|ab
   .exact g1.jv b ab
   .rcases(aN b ab).1 with h|h
    .exact .inr (.inl h)
    .exact .inr (.inr h)
   .exact .inr (.inr (Nat.le_trans g1.size ab))
  .intro t b aY ab;rcases Va b ab with ab|ab|ab
   .exact g1.hj t b aY ab
   .exact EC t b aY ab
   .exact absurd (g1.fS t b aY) (by omega)
  .intro t;exact aS.frame (Sx:=cD) (λb ab=>keep b (h.gP b ab) (Nk b ab)) Bl (λx b ab=>keep b (g1.fS x b ab) (EC x b ab)) g1.ey _ _ _ (λb ab=>keep b (g1.fS t b ab) (EC t b ab)) (g1.ey t)
  .intro b ab mJ;refine(keep b (Nat.lt_of_lt_of_le ab g1.size) λan=>?_).trans (g1.old b ab mJ);rcases(aN b an).1 with h|h
   .exact mJ h
   .omega
 have Vb:∀(d:I) (cs:azi) (eR:Nat->Prop),(mN ps=true->d.c1=true)->aA aL ct d cs eR->aA aL sD d cs eR:=by
  intro d cs eR aeD hT;by_cases hle:mN ps=true
  .exact aA.c1 d cs eR (aeD hle) hT
  .exact aA.mono (λb ab=>by simp only[sD];rw[if_neg hle];exact ab) _ _ _ _ (λ_ h=>h) hT
 have bound:∀i b,aZ i b->b<aL.heap.size/\¬sD b/\(X b\/w0.heap.size<=b)/\∀u,¬cD u b:=by
  intro i b ab;refine⟨ar.fS i b ab,λbK=>ar.hj i b ab (zb b bK),?_,λu hu=>?_⟩
  .rcases ar.eR i b ab with an|an
   .exact(aN b an).1
   .exact .inr (Nat.le_trans g1.size an)
  .rcases ar.eR i b ab with an|an
   .exact EC u b hu an
   .exact absurd (g1.fS u b hu) (by omega)
 obtain⟨eH,b1,cK⟩:=aeB ps vs (gp s ps) cD (λi=>aZ (i+1)) mid aC (by
  intro i p hl ay aF hg;have hm:p∈ps:=mem_of_getElem? ay;have ax:=gH p hm;obtain⟨x,q,a0,aO,aU,aM,bT,cv,ck,bY,fh⟩:=g3 i p hl ay aF hg;simp only[dt.ok,hg,if_true,aO]at ax;rcases ax.2.2 with bL|bL
  .exact .inl bL
  .obtain⟨hJ,l2,ED⟩:=aev ax.2.1 bL.1 bL.2;refine .inr ⟨x,q,a0,p.d.dR,aO,aU,?_,bT,λcz=>l2 _ (cv cz),ck,bL.1,?_,hJ.trans (I.xl _).symm,ED⟩
   .cases q with
    |nil=>simpa only[ep]using aM
    |cons k q=>
     have aY:=ck (by simp);rw[HR (k::q) _ _ (cD x) none _ ((aS.dr aY).1 (g1.ey x)).2 aU (λb ab=>keep b (g1.fS x b ab) (EC x b ab))];exact aM
   .have:=ar.ey (i+1);have iH:gq (r::ps.map (·.o)) (i+1)=p.o:=by simp[gq,List.getD,ay]
    have gG:h5 (v::vs) (i+1)=hl:=by simp[h5,List.getD,aF]
    rw[iH,gG]at this;exact Vb _ _ _ (λhle=>(aR hle).2 p hm) ((aS.dr (xA bL.1).2.1).1 this).2)
  (λi b ab=>bound (i+1) b ab) (λi j b dV=>ar.gD (i+1) (j+1) b (by omega)) nB
 refine⟨sD,eH,b1,?_,λb ab=>⟨Bl b ab,keep b (h.gP b ab) (Nk b ab)⟩⟩;have a7:=ar.ey 0;have iH:gq (r::ps.map (·.o)) 0=r:=rfl;have gG:h5 (v::vs) 0=v:=rfl;rw[iH,gG]at a7;cases aY:r.tree with
 |false=>
  cases r<;>first
   |(simp[I.tree]at aY;done)
   |(simp[I.res]at aT;done)
   |exact .inl ⟨rfl,by rw[aS];trivial⟩
 |true=>
  obtain⟨s1,s2⟩:=(aS.dr aY).1 a7;have sy:=Vb _ _ _ (λhle=>(aR hle).1) s2;refine .inr ⟨aY,s1,aZ 0,sy,λb ab=>(bound 0 b ab).1,λb ab=>(bound 0 b ab).2.1,λu b ab hu=>?_,λb ab=>(bound 0 b ab).2.2.1⟩;rcases cK u b hu with hu|⟨i,ai⟩
  .exact(bound 0 b ab).2.2.2 u hu
  .exact ar.gD 0 (i+1) b (by omega) ab ai
theorem aeE (h:cd w0 F0 X F S s aG w) {ps:List dt} {vs:azi} {f:FuncId} {r:I} (aC:ps.length=vs.length)
  (lh:∀(i:Nat) (p:dt) (v:Value),ps[i]? =some p->vs[i]? =some v->p.a.plain=true/\aS w F s aG p.a v (λ_=>False))
  (gH:∀p∈ps,p.ok s) (nB:kj ps=true) (bH:aV C f (ps.map (·.d)) r (ps.map (·.o))) (aT:r.res=true)
  (aR:mN ps=true->r.c1=true/\∀p∈ps,p.o.c1=true):
  sC C.P f vs.toArray w λv aL=>∃ct aZ,cd w0 F0 X ct aZ (j4 (gp s ps) ps) aG aL/\nV w0 X ct aZ (j4 (gp s ps) ps) aG aL r v/\∀b,F b->ct b/\aL.heap[b]? =w.heap[b]? :=
 U8 h aC lh gH nB (λFc pb e3 _ _ ay=>bH w Fc pb e3 vs (by simp[aC]) ay) aT aR
end
structure cq where
 dst:Option Nat
 bU:eS
 guard:Option (Nat×Bool)
def EE (ops:Array Oper):Option (Nat×Bool)->Option (Option (Nat×Bool))
 |none=>some none
 |some (j,b)=>match(ops[j]?).bind (·.dst)with
  |some t=>some (some (t,b))
  |none=>none
structure Fr where
 n:Nat
 fx:azf
def n1 (n:Fr):Option Nat->Bool
 |none=>true
 |some t=>decide (t<n.n)&& !n.fx.contains t
def sE (op:Op):eS:=match dG op with
 |some bU=>bU
 |none=>.bad
def tZ (n:Fr) (ops:Array Oper) (o:Oper):Option cq:=
 if n1 n o.dst=true then match EE ops o.guard with
  |some g=>some ⟨o.dst,sE o.op,g⟩
  |none=>none
 else none
def t_ (n:Fr) (ops:Array Oper):List Oper->Option (List cq)
 |[]=>some []
 |o::os=>match tZ n ops o,t_ n ops os with
  |some r,some rs=>some (r::rs)
  |_,_=>none
def Vc (C:cl) (s:al) (f:bE) (args:List bE) (K:I->al->Prop):Prop:=
 ∃(g:FuncId) (caps:azk) (ps:List dt) (r:I),bt s f= .fn g caps/\I.hA caps=true/\ps.map (·.a)=args.map (bt s)++caps/\(∀p∈ps,p.ok s)/\kj ps=true/\
   aV C g (ps.map (·.d)) r (ps.map (·.o))/\r.res=true/\(mN ps=true->r.c1=true/\∀p∈ps,p.o.c1=true)/\K r (j4 (gp s ps) ps)
def q6 (C:cl) (s:al) (bU:eS) (K:I->al->Prop):Prop:=
 match bU with
 | .call f args=>∃(g:FuncId) (caps:azk) (ps:List dt) (r:I),bt s f= .fn g caps/\I.hA caps=true/\ps.map (·.a)=args.map (bt s)++caps/\(∀p∈ps,p.ok s)/\kj ps=true/\
   aV C g (ps.map (·.d)) r (ps.map (·.o))/\r.res=true/\(mN ps=true->r.c1=true/\∀p∈ps,p.o.c1=true)/\K r (j4 (gp s ps) ps)
 | .shr bU=>∃av s1,b_ C s bU=some (av,s1)/\av.tree=true/\(∀vs,av≠.tuple vs)/\K av.share s1
 |bU=>∃av s1,b_ C s bU=some (av,s1)/\K av s1
theorem Il {C:cl} {s:al} {bU:eS} {K ew:I->al->Prop} (h:q6 C s bU K) (ax:∀av s,K av s->ew av s):q6 C s bU ew:=by
 cases bU with
 |call f args=>
  obtain⟨g,caps,ps,r,ad,kk,ae,aJ,bh,b2,dA,dC,hI⟩:=h;exact⟨g,caps,ps,r,ad,kk,ae,aJ,bh,b2,dA,dC,ax _ _ hI⟩
 |shr bU=>
  obtain⟨av,s1,ad,ae,aJ,bh⟩:=h;exact⟨av,s1,ad,ae,aJ,ax _ _ bh⟩
 |_=>
  obtain⟨av,s1,ad,ae⟩:=h;exact⟨av,s1,ad,ax _ _ ae⟩
def oH (C:cl) (s:al) (o:cq) (K:al->Prop):Prop:=
 match o.guard with
 |none=>q6 C s o.bU λav s1=>K (fin s1 o.dst av)
 |some (t,b)=>match s t with
  | .bool gO=>if gO=b then q6 C s o.bU (λav s1=>K (fin s1 o.dst av))else K (fin s o.dst (.tuple []))
  | .tuple []=>K (fin s o.dst (.tuple []))
  |_=>False
def n2 (C:cl) (s:al):List cq->(al->Prop)->Prop
 |[],K=>K s
 |o::os,K=>oH C s o λs1=>n2 C s1 os K
def kI (C:cl) (ros:List cq) (s:al):azf->(al->Prop)->Prop
 |[],K=>K s
 |i::l,K=>match ros[i]? with
  |none=>kI C ros s l K
  |some o=>oH C s o λs1=>kI C ros s1 l K
theorem aeF (C:cl) (K:al->Prop):∀(rs pre:List cq) (s:al),n2 C s rs K->kI C (pre++rs) s ((range rs.length).map (·+pre.length)) K:=by
 intro rs;induction rs with
 |nil=>intro pre s h;exact h
 |cons r rs ih=>
  intro pre s h;rw[length_cons,range_succ_eq_map,map_cons,List.map_map];simp only[kI,Nat.zero_add];rw[getElem?_append_right (Nat.le_refl _)];simp only[Nat.sub_self,getElem?_cons_zero];have key:∀s1,n2 C s1 rs K->kI C (pre++r::rs) s1 ((range rs.length).map ((λx=>x+pre.length)∘succ)) K:=by
   intro s1 ad;have:=ih (pre++[r]) s1 ad;simp only[append_assoc,singleton_append,length_append,length_singleton]at this;have e:((λx=>x+pre.length)∘succ)=λx=>x+(pre.length+1):=by funext x;simp;omega
   rw[e];exact this
  simp only[n2]at h;unfold oH at h⊢;split
  .rename_i hg;rw[hg]at h;exact Il h λav s1=>key _
  .rename_i t b hg;rw[hg]at h;simp only at h;split
   .rename_i gO aa;rw[aa]at h;simp only at h;split
    .rename_i ab;rw[if_pos ab]at h;exact Il h λav s1=>key _
    .rename_i ab;rw[if_neg ab]at h;exact key _ h
   .rename_i aa;rw[aa]at h;exact key _ h
   .rename_i ad ae;split at h
    .exact ad _ (by assumption)
    .exact ae (by assumption)
    .exact h
structure Rel (w0:World) (F0 X:Nat->Prop) (n:Fr) (ρ:Nat->Value) (s:al) (a:Act) (w:World):Prop where
 defers:a.defers=[]
 size:a.tmps.size=n.n
 fixed:∀i∈n.fx,a.tmps.getD i undef=ρ i
 rel:∃F S,cd w0 F0 X F S s (λt=>a.tmps.getD t undef) w
section
variable {C:cl} {w0 w:World} {F0 X:Nat->Prop} {n:Fr} {ρ:Nat->Value} {s s1:al} {a:Act} {av:I} {Q:Exit->Act->World->Prop}
theorem EF {dst:Option Nat} (v:Value) (aa:a.tmps.size=n.n) (ao:n1 n dst=true):
  (λt=>(a.put dst v).tmps.getD t undef)=qf (λt=>a.tmps.getD t undef) dst v/\(a.put dst v).tmps.size=n.n/\(a.put dst v).defers=a.defers:=by
 cases dst with
 |none=>exact⟨rfl,aa,rfl⟩
 |some d=>
  simp only[n1,Bool.and_eq_true,decide_eq_true_eq]at ao;refine⟨?_,by simp[Act.put,aa],rfl⟩;funext t;simp only[Act.put,qf,et,Array.getD_eq_getD_getElem?];by_cases h:t=d
  .subst h;rw[if_pos rfl,Array.getElem?_setIfInBounds_self_of_lt (by omega)];rfl
  .rw[if_neg h,Array.getElem?_setIfInBounds_ne (λe=>h e.symm)]
theorem Rel.put {F S} (ao:a.defers=[]) (aa:a.tmps.size=n.n) (bH:∀i∈n.fx,a.tmps.getD i undef=ρ i) {aL:World} (aT:cd w0 F0 X F S s (λt=>a.tmps.getD t undef) aL) {v:Value} (aF:nV w0 X F S s (λt=>a.tmps.getD t undef) aL av v)
  {dst:Option Nat} (gH:n1 n dst=true):Rel w0 F0 X n ρ (fin s dst av) (a.put dst v) aL:=by
 obtain⟨aO,aU,aM⟩:=EF (n:=n) (dst:=dst) v aa gH;obtain⟨aZ,bD⟩:=aT.fin aF dst;refine⟨aM.trans ao,aU,λi ai=>?_,F,aZ,by rw[aO];exact bD⟩;rw[congrFun aO i];cases dst with
 |none=>exact bH i ai
 |some d=>
  simp only[n1,Bool.and_eq_true,Bool.not_eq_true',contains_eq_mem,decide_eq_false_iff_not]at gH;have dV:i≠d:=λe=>gH.2 (by rw[<-e];exact ai);simp only[qf];rw[lE _ _ dV];exact bH i ai
theorem Rel.skip (h:Rel w0 F0 X n ρ s a w) {dst:Option Nat} (gH:n1 n dst=true):Rel w0 F0 X n ρ (fin s dst (.tuple [])) (a.put dst undef) w:=by
 obtain⟨ao,aa,bH,F,S,aT⟩:=h;refine Rel.put (av:=.tuple []) ao aa bH aT (.inl ⟨rfl,(aS.dr (d:=.tuple []) rfl).2 ⟨?_,?_⟩⟩) gH
 .exact⟨#[],rfl,rfl,λk d x ax=>by simp at ax⟩
 .rw[aA,bA];rfl
theorem Vd {F:Nat->Prop} {aG:Nat->Value} {w:World}:∀{ds es:azk} {vs us:azi},fo w F s aG ds vs->fo w F s aG es us->fo w F s aG (ds++es) (vs++us):=by
 intro ds;induction ds with
 |nil=>intro es vs us ad ae;rw[fo]at ad;subst ad;exact ae
 |cons d ds ih=>
  intro es vs us ad ae;rw[fo]at ad;obtain⟨v,nT,rfl,g1,g2⟩:=ad;rw[cons_append,cons_append,fo];exact⟨v,_,rfl,g1,ih g2 ae⟩
theorem Ve {F:Nat->Prop} {aG:Nat->Value} {w:World}:∀{ds:azk} {vs:azi},fo w F s aG ds vs->ds.length=vs.length/\∀(i:Nat) (d:I) (v:Value),ds[i]? =some d->vs[i]? =some v->aS w F s aG d v (λ_=>False):=by
 intro ds;induction ds with
 |nil=>intro vs h;rw[fo]at h;subst h;exact⟨rfl,λi d v h=>by simp at h⟩
 |cons d ds ih=>
  intro vs h;rw[fo]at h;obtain⟨v,nT,rfl,g1,g2⟩:=h;obtain⟨b1,cK⟩:=ih g2;refine⟨by simp[b1],λi bM hl ao aF=>?_⟩;cases i with
  |zero=>simp at ao aF;subst ao aF;exact g1
  |succ i=>exact cK i bM hl (by simpa using ao) (by simpa using aF)
theorem vJ {op:Op} {bU:eS} (h:sE op=bU):bU= .bad\/dG op=some bU:=by
 unfold sE at h;split at h
 .subst h;right;assumption
 .exact .inl h.symm
theorem aeG {op:Op} {bU:eS}:dG op≠some (.shr bU):=by
 intro h;unfold dG at h;split at h<;>(try split at h)<;>(try split at h)<;>(try split at h)<;>(try simp[Option.map_eq_some_iff]at h)
theorem aeH {op:Op} {x:bE}:dG op≠some (.pL x):=by
 intro h;unfold dG at h;split at h<;>(try split at h)<;>(try split at h)<;>(try split at h)<;>(try simp[Option.map_eq_some_iff]at h)
theorem aeI {op:Op} {x:bE}:dG op≠some (.pa x):=by
 intro h;unfold dG at h;split at h<;>(try split at h)<;>(try split at h)<;>(try split at h)<;>(try simp[Option.map_eq_some_iff]at h)
theorem aeJ {op:Op} {x:bE} (h:dG op=some (.hV x)):∃e2,op= .move e2/\eC e2=some x:=by
 unfold dG at h;split at h<;>(try split at h)<;>(try split at h)<;>(try split at h)<;>(try simp[Option.map_eq_some_iff]at h)
 exact⟨_,rfl,h⟩
theorem aeK {op:Op} {x:bE} (h:dG op=some (.h4 x)):∃e2,op= .assign e2/\eC e2=some x:=by
 unfold dG at h;split at h<;>(try split at h)<;>(try split at h)<;>(try split at h)<;>(try simp[Option.map_eq_some_iff]at h)
 exact⟨_,rfl,h⟩
theorem cd.alias {F:Nat->Prop} {S:Nat->Nat->Prop} {aG:Nat->Value} {u x:Nat} (h:cd w0 F0 X F S s aG w) (hu:s u= .hole) (an:(s x).own=true) (aF:dd (aG u)=dd (aG x)) (ad:Value.hH (aG u)=true):
  cd w0 F0 X F (hk S u (λ_=>False)) (et s u (.h x [])) aG w:=by
 have e_:et aG u (aG u)=aG:=by funext y;simp only[et];split<;>simp_all
 have:=h.D7 (t:=u) (d:=.h x []) (v:=aG u) rfl (by
  rw[aS];intro d ao ay;simp only[I.sub,Option.some.injEq]at ao;subst ao;exact⟨dd (aG x),none,rfl,aF,((Ij an).2.2.2.2.2 _).2 ad⟩)
 rwa [e_]at this
theorem nV.less {F:Nat->Prop} {S aZ:Nat->Nat->Prop} {aG:Nat->Value} {s1:al} {v:Value} (cj:∀u b,aZ u b->S u b) (aT:av.res=true) (h:nV w0 X F S s aG w av v):nV w0 X F aZ s1 aG w av v:=by
 rcases h with⟨ad,ae⟩|⟨ad,ae,Sn,aJ,bh,b2,dA,dC⟩
 .refine .inl ⟨ad,?_⟩;cases av<;>first
   |(simp[I.res]at aT;done)
   |(rw[aS];trivial)
   |(rw[aS]at ae⊢;exact ae)
 .exact .inr ⟨ad,ae,Sn,aJ,bh,b2,λu b ab hu=>dA u b ab (cj u b hu),dC⟩
theorem aeL (bO:C.fH) (h:Rel w0 F0 X n ρ s a w) {o:Oper} {f:bE} {args:List bE} (de:dG o.op=some (.call f args)) (ao:n1 n o.dst=true) {K:I->al->Prop} {L:al->Prop} {next:Act->World->Prop}
  (hw:Vc C s f args K) (n3:∀F S ct aZ w aL av s1 v,cd w0 F0 X F S s (λt=>a.tmps.getD t undef) w->K av s1->av.res=true->cd w0 F0 X ct aZ s1 (λt=>a.tmps.getD t undef) aL->nV w0 X ct aZ s1 (λt=>a.tmps.getD t undef) aL av v->(∀b,F b->ct b/\aL.heap[b]? =w.heap[b]?)->
   ∃s2 eH,L (fin s2 o.dst av)/\cd w0 F0 X ct eH s2 (λt=>a.tmps.getD t undef) aL/\nV w0 X ct eH s2 (λt=>a.tmps.getD t undef) aL av v)
  (aR:∀aH dH aL,L aH->Rel w0 F0 X n ρ aH dH aL->next dH aL):o.wp C.P a w next Q:=by
 have sF:=h;obtain⟨l7,fg,j6,F,S,aT⟩:=h;obtain⟨g,caps,ps,r,ad,kk,ae,aJ,bh,b2,dA,dC,hI⟩:=hw;obtain⟨dst,op,ty,pos,after,guard⟩:=o;simp only at de ao n3;cases op with
 |call c=>
  obtain⟨callee,pM,argTypes⟩:=c;simp only[dG]at de;split at de
  .split at de
   .rename_i EG _ _ aeM xs bH tY;simp only[Option.some.injEq,eS.call.injEq]at de;obtain⟨rfl,rfl⟩:=de;obtain⟨f1,f2⟩:=gF aT (λ_=>rfl) bH;rw[ad,aS]at f2;obtain⟨arr,f3,f4⟩:=f2;have EH:execOp a.eval {dst,op:=.call {callee:=.value EG,args:=pM,argTypes},type:=ty,pos,after,guard}=callFunc g ((pM.toList.map a.eval++arr.toList).toArray):=by
     have:a.eval EG= .func (.func g) #[] arr:=f3;simp only[execOp,resolve,this,Deferred.ofValue,pure_bind,invoke];congr 1;apply Array.ext';simp
    unfold Oper.wp;rw[EH];have EI:fo w F s (λt=>a.tmps.getD t undef) (xs.map (bt s)++caps) (pM.toList.map a.eval++arr.toList):=Vd (Ig aT (λ_=>rfl) _ _ (y9 tY)) f4;rw[<-ae]at EI;obtain⟨hJ,l2⟩:=Ve EI;have fI:∀d∈xs.map (bt s)++caps,d.plain=true:=by
     intro d ao;rcases mem_append.1 ao with ao|ao
     .obtain⟨x,an,rfl⟩:=mem_map.1 ao;exact TS s x λav e=>by
       subst e;have hm:=y9 tY;have:some (bE.c av)∈xs.map some:=mem_map.2 ⟨_,an,rfl⟩;rw[<-hm]at this;obtain⟨o,_,bL⟩:=mem_map.1 this;cases o with
       |const v=>simp only[eC,Option.map_eq_some_iff]at bL;obtain⟨c,ar,e⟩:=bL;cases e;exact Mu ar
       |tmp n=>simp[eC]at bL
       |func g=>simp[eC]at bL
       |global g=>simp[eC]at bL
     .obtain⟨k,ax⟩:=getElem?_of_mem ao;exact HQ kk ax
    have Nl:=aeE (C:=C) aT (ps:=ps) (vs:=pM.toList.map a.eval++arr.toList) (f:=g) (r:=r) (by simpa using hJ)
     (λi p v ay aF=>⟨fI p.a (by rw[<-ae];exact mem_map.2 ⟨p,mem_of_getElem? ay,rfl⟩),l2 i p.a v (by simp[ay]) aF⟩) aJ bh b2 dA dC
    rcases Nl with⟨dU,a_⟩|⟨v,aL,dU,ct,aZ,a_,cN,bN⟩
    .rw[dU,Oper.upon_enter];refine Calls.mono a_ ?_;rintro e aL ⟨v,rfl,ct,aZ,b1,cK,dM⟩;obtain⟨s2,eH,m1,m2,m3⟩:=n3 _ _ _ _ _ _ _ _ _ aT hI dA b1 cK dM;exact aR _ _ _ m1 (Rel.put l7 fg j6 m2 m3 ao)
    .rw[dU,Oper.upon_value];obtain⟨s2,eH,m1,m2,m3⟩:=n3 _ _ _ _ _ _ _ _ _ aT hI dA a_ cN bN;exact aR _ _ _ m1 (Rel.put l7 fg j6 m2 m3 ao)
   .cases de
  .split at de
   .simp only[Option.map_eq_some_iff]at de;obtain⟨_,_,de⟩:=de;cases de
   .cases de
  .split at de
   .simp only[Option.map_eq_some_iff]at de;obtain⟨_,_,de⟩:=de;cases de
   .cases de
  iterate 3
   .split at de
    .split at de<;>cases de
    .cases de
  .cases de
 |makeFunc fn first cs=>
  cases fn<;>simp only[dG]at de<;>first|(cases de;done)|(split at de<;>simp at de)
 |slice T x fM ai fc=>
  cases fc<;>simp only[dG]at de<;>first|(cases de;done)|(split at de<;>simp at de)
 |makeMap T r=>cases r<;>simp only[dG]at de<;>simp at de
 |lookup T x i c=>cases c<;>simp only[dG]at de<;>first|(cases de;done)|(split at de<;>simp at de)
 |_=>simp only[dG]at de<;>first|(cases de;done)|(simp at de;done)|(split at de<;>simp at de)
theorem aeN (bO:C.fH) (h:Rel w0 F0 X n ρ s a w) {o:Oper} {bU:eS} (de:dG o.op=some bU) (ao:n1 n o.dst=true) {K:al->Prop} {next:Act->World->Prop}
  (hw:q6 C s bU λav s1=>K (fin s1 o.dst av)) (aR:∀aH dH aL,K aH->Rel w0 F0 X n ρ aH dH aL->next dH aL):o.wp C.P a w next Q:=by
 have sF:=h;obtain⟨l7,fg,j6,F,S,aT⟩:=h;have plain:∀av s1,b_ C s bU=some (av,s1)->K (fin s1 o.dst av)->o.wp C.P a w next Q:=by
  intro av s1 he ax;obtain⟨r,aL,v,ct,aZ,ad,ae,aJ,bh⟩:=UI (a:=a) bO aT (λ_=>rfl) de he;unfold Oper.wp;rw[ad];rcases ae with rfl|⟨rfl,rfl⟩
  .exact aR _ _ _ ax (Rel.put l7 fg j6 aJ bh ao)
  .exact aR _ _ _ ax (Rel.put l7 fg j6 aJ bh ao)
 cases bU with
 |shr bU=>exact(aeG de).elim
 |call f args=>exact aeL bO ⟨l7,fg,j6,F,S,aT⟩ de ao (K:=λav s1=>K (fin s1 o.dst av)) hw (λ_ _ _ aZ _ _ _ s1 _ _ ae _ aJ bh _=>⟨s1,aZ,ae,aJ,bh⟩) aR
 |pL x=>exact(aeH de).elim
 |pa x=>exact(aeI de).elim
 |_=>
  obtain⟨av,s1,he,ax⟩:=hw;exact plain av s1 he ax
theorem nV.share {F:Nat->Prop} {S:Nat->Nat->Prop} {aG:Nat->Value} {v:Value} (h:cd w0 F0 X F S s aG w) (aF:nV w0 X F S s aG w av v) (aY:av.tree=true) (aR:∀vs,av≠.tuple vs):
  ∃ct,cd w0 F0 X ct S s aG w/\nV w0 X ct S s aG w av.share v:=by
 obtain⟨Sn,hn,gE,iI,jH,tP,Nn⟩:∃Sn:Nat->Prop,eK av v/\aA w F av (dd v) Sn/\(∀b,Sn b->b<w.heap.size)/\(∀b,Sn b->¬F b)/\(∀u b,Sn b->¬S u b)/\(∀b,Sn b->X b\/w0.heap.size<=b):=by
  rcases aF with⟨ad,ae⟩|⟨_,ae,Sn,aJ,bh,b2,dA,dC⟩
  .rw[aS.dr aY]at ae;exact⟨λ_=>False,ae.1,ae.2,λ_ h=>h.elim,λ_ h=>h.elim,λ_ _ h=>h.elim,λ_ h=>h.elim⟩
  .exact⟨Sn,ae,aJ,bh,b2,dA,dC⟩
 refine⟨λb=>F b\/Sn b,?_,.inl ⟨Na av,?_⟩⟩
 .exact {
   iQ:=λb ab=>.inl (h.iQ b ab)
   jv:=λb ab=>by
    rcases ab with ab|ab
    .exact h.jv b ab
    .exact .inr (Nn b ab)
   gP:=λb ab=>ab.elim (h.gP b) (iI b)
   fS:=h.fS
   hj:=λt b ab bH=>bH.elim (h.hj t b ab) (λaa=>tP t b aa ab)
   gD:=h.gD
   eR:=h.eR
   ey:=λt=>aS.frame (λ_ _=>rfl) (λb ab=>.inl ab) (λ_ _ _=>rfl) h.ey _ _ _ (λ_ _=>rfl) (h.ey t)
   old:=h.old
   size:=h.size
   os:=h.os
   tape:=h.tape
   output:=h.output
   gU:=h.gU}
 .by_cases bL:∃o,av= .b9 o
  .obtain⟨o,rfl⟩:=bL;rw[I.share,aS];trivial
  have Bm:av.share.tree=true:=by cases av<;>first|exact aY|rfl|exact(bL ⟨_,rfl⟩).elim
  rw[aS.dr Bm];exact⟨Nc aR hn,aA.shared (λb ab=>.inl ab) av _ Sn (λb ab=>.inr ab) gE⟩
theorem aeO (bO:C.fH) (h:Rel w0 F0 X n ρ s a w) {o:Oper} {bU:eS} (de:sE o.op=bU.base) (ao:n1 n o.dst=true) {K:al->Prop} {next:Act->World->Prop}
  (hw:q6 C s bU λav s1=>K (fin s1 o.dst av)) (aR:∀aH dH aL,K aH->Rel w0 F0 X n ρ aH dH aL->next dH aL):o.wp C.P a w next Q:=by
 cases bU with
 |shr bU=>
  obtain⟨av,s1,he,aY,nC,ax⟩:=hw;rcases vJ de with de|de
  .change bU= .bad at de;subst de;cases he
  obtain⟨l7,fg,j6,F,S,aT⟩:=h;obtain⟨r,aL,v,ct,aZ,ad,ae,aJ,bh⟩:=UI (a:=a) bO aT (λ_=>rfl) de he;obtain⟨zb,g3,g4⟩:=nV.share aJ bh aY nC;unfold Oper.wp;rw[ad];rcases ae with rfl|⟨rfl,rfl⟩
  .exact aR _ _ _ ax (Rel.put l7 fg j6 g3 g4 ao)
  .exact aR _ _ _ ax (Rel.put l7 fg j6 g3 g4 ao)
 |bad=>obtain⟨av,s1,he,_⟩:=hw;cases he
 |pa x=>
  obtain⟨av,s1,he,ax⟩:=hw;rcases vJ de with ab|ab
  .cases ab
  .obtain⟨e2,EJ,an⟩:=aeJ ab;obtain⟨l7,fg,j6,F,S,aT⟩:=h;obtain⟨dst,op,ty,pos,after,guard⟩:=o;simp only at EJ ao ax;subst EJ;simp only[b_]at he;obtain⟨g1,g2⟩:=gF aT (λ_=>rfl) an;obtain⟨r,aL,v,ct,aZ,ad,ae,aJ,bh⟩:Next C w0 F0 X (λt=>a.tmps.getD t undef) w (execOp a.eval ⟨dst,.move e2,ty,pos,after,guard⟩) av s1:=by
    unfold tU at he;split at he
    .rename_i y q hy;rw[hy]at g1 g2;obtain⟨cD,k0,b1,cK,Sn,dM,dX,eF,dz,kG,_⟩:=sk aT g1 g2 he;exact⟨_,w,_,F,cD,rfl,.inl rfl,k0,.inr ⟨b1,cK,Sn,dM,dX,eF,dz,kG⟩⟩
    .simp only[Option.some.injEq,Prod.mk.injEq]at he;obtain⟨rfl,rfl⟩:=he;exact⟨_,w,_,F,S,rfl,.inl rfl,aT,.inl ⟨g1,g2⟩⟩
   unfold Oper.wp;rw[ad];rcases ae with rfl|⟨rfl,rfl⟩
   .exact aR _ _ _ ax (Rel.put l7 fg j6 aJ bh ao)
   .exact aR _ _ _ ax (Rel.put l7 fg j6 aJ bh ao)
 |pL x=>
  obtain⟨av,s1,he,ax⟩:=hw;rcases vJ de with ab|ab
  .cases ab
  .obtain⟨e2,EJ,an⟩:=aeK ab;obtain⟨l7,fg,j6,F,S,aT⟩:=h;obtain⟨dst,op,ty,pos,after,guard⟩:=o;simp only at EJ ao ax;subst EJ;simp only[b_,Option.some.injEq,Prod.mk.injEq]at he;obtain⟨rfl,rfl⟩:=he;obtain⟨g1,g2⟩:=gF aT (λ_=>rfl) an;obtain⟨r,aL,v,ct,aZ,ad,ae,aJ,bh⟩:Next C w0 F0 X (λt=>a.tmps.getD t undef) w (execOp a.eval ⟨dst,.assign e2,ty,pos,after,guard⟩) (bt s x) s:=⟨_,w,_,F,S,rfl,.inl rfl,aT,.inl ⟨g1,g2⟩⟩
   unfold Oper.wp;rw[ad];rcases ae with rfl|⟨rfl,rfl⟩
   .exact aR _ _ _ ax (Rel.put l7 fg j6 aJ bh ao)
   .exact aR _ _ _ ax (Rel.put l7 fg j6 aJ bh ao)
 |_=>
  rcases vJ de with ab|ab
  .cases ab
  .exact aeN bO h ab ao hw aR
end
end Go.eg
