/- Part of a proof that a law returns true for every input. No condition. -/
import Derived.Test.YtmaepbgkcmjcjajGreatDoorFwD
import Derived.Laws.Tables
namespace Go.ep
open List Go.IntKind Nat Or
section
variable {C:cx} {w0 w:World} {F0 X F:Nat->Prop} {S:Nat->Nat->Prop} {s s1:al} {aI:Nat->Value} {av:I}
theorem Nl (z:azw):∀n,(range (n*z.length)).map (λi=>z[i%z.length]!)=(replicate n z).flatten
 |0=>by simp
 |n+1=>by
  rw[Nat.add_mul,Nat.one_mul,range_add,map_append,Nl z n,replicate_succ',flatten_append];congr 1;simp only[List.map_map,flatten_cons,flatten_nil,append_nil];apply ext_getElem
  .simp
  .intro i ad af;have ai:i<z.length:=af;simp[mod_eq_of_lt ai,ai]
theorem bz.replicate {d:I} {cs:azw} (h:∀a7,aB w F d cs a7):∀n a7,bz w F (replicate n d) (replicate n cs).flatten a7
 |0,a7=>by simp only[replicate_zero,flatten_nil];rw[bz]
 |n+1,a7=>by
  rw[replicate_succ,replicate_succ,flatten_cons,bz];exact⟨cs,_,λ_=>False,λ_=>False,rfl,h _,bz.replicate h n _,λ_ h=>h.elim,λ_ h=>h.elim,λ_ h=>h.elim⟩
def fq (C:cx) (T:TypeId) (l c:I):Option I:=
 match(C.T T).k,l,c with
 | .slice e,.int .i64 n,.int .i64 m=>if n=m/\0<=n/\(C.T e).ok=true/\(C.T e).zero.wd=(C.T e).sz/\(flat (C.T e).zero).isSome=true/\(C.T e).sz≠0/\(C.T e).bytes*n<=140737488355328/\n<=9223372036854775807 then
   some (.ag (C.T e).sz (replicate n.toNat (C.T e).zero))else none
 |_,_,_=>none
theorem ad7 (bW:C.fN) (h:ch w0 F0 X F S s aI w) {T:TypeId} {l c:I} {U0 U1:Value} (hl:aQ w F s aI l U0 (λ_=>False)) (au:aQ w F s aI c U1 (λ_=>False)) (he:fq C T l c=some av):
  Good C w0 F0 X aI w (Instr.makeSlice T U0 U1) av s:=by
 unfold fq at he;split at he
 .rename_i e n m aw;have:=qy hl;subst this;have:=qy au;subst this;obtain⟨UO,d,UP,aP,aW,aS,cf,cF,cw,cg⟩:=bW.info (hQ aw (by simp));rw[aw]at cg;have:=oU cg;subst this;split at he
  .rename_i EC;obtain⟨rfl,aX,vM,zi,zj,fo,axs,zl⟩:=EC;simp only[Option.some.injEq]at he;subst he;obtain⟨i,UQ,z,f1,f2,f3,f4,f5,f6,f7⟩:=bW.info vM;obtain⟨iv,qA⟩:=Option.isSome_iff_exists.1 zj;have zk:=f5 iv qA;have iu:∀a7,aB w F (C.T e).zero iv a7:=λa7=>(aB.flat _).1 _ iv a7 (Nat.le_refl _) qA;have xH:iv.length=(C.T e).sz:=by rw[aB.length _ _ _ (iu (λ_=>False)),zi]
   obtain⟨n,rfl⟩:=Int.eq_ofNat_of_zero_le aX;simp only[Int.toNat_natCast];have U2:i64.wrap (n:Int)=n:=by
    rw[wrap_i64];omega
   have ID:∀k (w:World),(askRoom k).run C.P w= .ok () w:=by
    intro k w;unfold askRoom;split<;>rfl
   have sI:((Array.range (n*(C.T e).sz)).map (iv.toArray[·%iv.toArray.size]!)).toList=(replicate n iv).flatten:=by
    have:=Nl iv n;rw[xH]at this;simpa [xH]using this
   have eQ:¬(281474976710656<(i.bytes:Int)*n):=by
    rw[f3];omega
   have U3:¬((n:Int)<0):=by omega
   have run:(Instr.makeSlice T (.int .i64 n) (.int .i64 n)).run C.P w= .ok (.slice (some ⟨w.heap.size,0,none⟩) n n)
     (w.alloc (.cells (if n*(C.T e).sz=0 then(Array.range (n*(C.T e).sz)).map (λ_=>default)else(Array.range (n*(C.T e).sz)).map (iv.toArray[·%iv.toArray.size]!)) e)):=by
    by_cases a_:n*(C.T e).sz=0
    .simp[Instr.makeSlice,run_underlying cw,asInt,asIntOf,Ey f1,U2,eQ,U3,ID,nz f1,f2,a_,newRow]
    .simp only[a_,if_false];simp[Instr.makeSlice,run_underlying cw,asInt,asIntOf,Ey f1,U2,eQ,U3,ID,nz f1,f2,a_,newRow,y8 f1 f4,zk]
   have pX:(if n*(C.T e).sz=0 then(Array.range (n*(C.T e).sz)).map (λ_=>(default:Value))else(Array.range (n*(C.T e).sz)).map (iv.toArray[·%iv.toArray.size]!)).toList=(replicate n iv).flatten:=by
    split
    .rename_i a_;have:n=0:=by
      rcases mul_eq_zero.1 a_ with h|h
      .exact h
      .exact(fo h).elim
     subst this;simp
    .exact sI
   generalize EO:(if n*(C.T e).sz=0 then(Array.range (n*(C.T e).sz)).map (λ_=>(default:Value))else(Array.range (n*(C.T e).sz)).map (iv.toArray[·%iv.toArray.size]!))=cur at run pX;have jl:(replicate n iv).flatten.length=n*(C.T e).sz:=by simp[xH]
   have iT:cur.size=n*(C.T e).sz:=by
    have:cur.size=cur.toList.length:=by simp
    rw[this,pX,jl]
   have oV:=h.IA (aO:=w.alloc (.cells cur e)) (sz:=(C.T e).sz) (cap:=n) (xs:=replicate n (C.T e).zero) (cur:=cur) (e:=e) (fr:=(0,0)) (Sn:=λ_=>False) rfl rfl rfl ⟨rfl,λ_=>Nat.le_refl _⟩
    (λo _ ⟨_,af⟩=>absurd af (not_lt_zero _)) (by simp) (by unfold maxLen;omega) iT (by intro d aq;rw[eq_of_mem_replicate aq];exact zi)
    (by rw[pX,length_replicate,take_of_length_le (by rw[jl];exact Nat.le_refl _)];exact bz.replicate iu n _) (λ_ h=>h.elim) (λ_ h=>h.elim) (λ_ _ h=>h.elim) (λ_ h=>h.elim)
   rw[length_replicate]at oV;exact⟨_,_,F,S,run,oV.1,oV.2⟩
  .cases he
 .cases he
def pZ (s:al) (f:FuncId) (cs:List bC):Option I:=some (.fn f (cs.map (bA s)))
theorem IJ {a:Act} (h:ch w0 F0 X F S s aI w) (fg:∀t,aI t=a.tmps.getD t undef):∀(os:List Operand) (xs:List bC),os.map eR=xs.map some->fe w F s aI (xs.map (bA s)) (os.map a.eval)
 |[],[],_=>by simp only[map_nil];rw[fe]
 |[],x::xs,h=>by simp at h
 |o::os,[],h=>by simp at h
 |o::os,x::xs,bI=>by
  simp only[map_cons,cons.injEq]at bI⊢;rw[fe];exact⟨_,_,rfl,(gI h fg bI.1).2,IJ h fg os xs bI.2⟩
theorem U4:∀(vs:azw) (k off:Nat) (A:Array Value) (l m r:azw),A.toList=l++(m++r)->l.length=off+k->m.length=vs.length->
  ((vs.zipIdx k).foldl (λcs (x:Value×Nat)=>cs.setIfInBounds (off+x.2) x.1) A).toList=l++(vs++r)
 |[],k,off,A,l,m,r,jo,hl,hm=>by
  have:m=[]:=by simpa using hm
  subst this;simpa using jo
 |v::vs,k,off,A,l,m,r,jo,hl,hm=>by
  obtain⟨x,m,rfl⟩:∃x jY,m=x::jY:=by
   cases m with
   |nil=>simp at hm
   |cons x m=>exact⟨x,m,rfl⟩
  rw[zipIdx_cons,foldl_cons];have:=U4 vs (k+1) off (A.setIfInBounds (off+k) v) (l++[v]) m r (by
   rw[Array.toList_setIfInBounds,jo,<-hl,set_append_right _ _ (Nat.le_refl _)];simp) (by simp;omega) (by simpa using hm)
  simpa using this
def nU (os:List (Option Nat)) (a:I):I:=os.foldl (λa o=>ny o a) a
def ew (place:Nat->Option (Nat×Nat)):al->azy->List (Option Nat)->azx->Option (azy×al)
 |s,fB,_,[]=>some (fB,s)
 |s,fB,os,(k,a)::r=>match dL s (nU os a),place k,fB[k]? with
  |some (d,s1),some (off,n),some z=>match d with
   | .tuple _=>none
   |d=>if d.wd=n/\z.wd=n/\I.fc (fB.take k)=off then ew place s1 (fB.set k d) (os++[(nU os a).owner]) r else none
  |_,_,_=>none
def rj (w:World) (F:Nat->Prop) (s:al) (aI:Nat->Value):azx->List (Nat×Value)->Prop
 |[],[]=>True
 |(k,a)::r,(dv,v)::h4=>k=dv/\a.plain=true/\aQ w F s aI a v (λ_=>False)/\rj w F s aI r h4
 |_,_=>False
theorem ad8 (x:Nat):∀d:I,d.plain=true->(c1 x d).plain=true
 | .h y q,_=>by simp only[c1];split<;>(try split)<;>rfl
 | .ay y q,_=>by simp only[c1];split<;>rfl
 | .ab y q,_=>rfl
 | .fn f c,_=>by simp only[c1];rfl
 | .hole,h=>h
 | .bool _,h=>h
 | .gx,h=>h
 | .int _ _,h=>h
 | .str _,h=>h
 | .eA,h=>h
 | .bf,h=>h
 | .slice _,h=>h
 | .ag _ _,h=>h
 | .ref _,h=>h
 | .aM _,h=>h
 | .agg _,h=>h
 | .tuple _,h=>h
theorem ad9 (o:Option Nat) (d:I) (h:d.plain=true):(ny o d).plain=true:=by
 cases o with
 |none=>exact h
 |some x=>exact ad8 x d h
theorem rj.c1 {w:World} {F:Nat->Prop} {s s1:al} {aI:Nat->Value} {o:Option Nat} (ay:∀(bT:I) (hF:Value) (a7:Nat->Prop),aQ w F s aI bT hF a7->aQ w F s1 aI (ny o bT) hF a7):
  ∀(r:azx) (h4:List (Nat×Value)),rj w F s aI r h4->rj w F s1 aI (r.map λp=>(p.1,ny o p.2)) h4
 |[],[],_=>trivial
 |(k,a)::r,(dv,v)::h4,h=>by
  obtain⟨ad,af,aG,bh⟩:=h;exact⟨ad,ad9 _ _ af,ay _ _ _ aG,rj.c1 ay r h4 bh⟩
 |[],_::_,h=>h.elim
 |_::_,[],h=>h.elim
theorem Nn {place:Nat->Option (Nat×Nat)}:∀(ps:azx) (vs:List (Nat×Value)) (os:List (Option Nat)) (s:al) (S:Nat->Nat->Prop) (fB:azy) (A:Array Value) (jz:Nat->Prop),
  ch w0 F0 X F S s aI w->rj w F s aI (ps.map λp=>(p.1,nU os p.2)) vs->bz w F fB A.toList jz->(∀b,jz b->b<w.heap.size)->(∀b,jz b->¬F b)->(∀u b,jz b->¬S u b)->(∀b,jz b->X b\/w0.heap.size<=b)->
  ∀ds s1,ew place s fB os ps=some (ds,s1)->∃pt cT im,Instr.fill place A vs=some pt/\ch w0 F0 X F cT s1 aI w/\bz w F ds pt.toList im/\(∀b,im b->b<w.heap.size)/\(∀b,im b->¬F b)/\(∀u b,im b->¬cT u b)/\
   (∀b,im b->X b\/w0.heap.size<=b)/\ds.length=fB.length/\I.fc ds=I.fc fB/\(∀n,(∀d∈fB,d.wd=n)->∀d∈ds,d.wd=n)
 |[],[],os,s,S,fB,A,jz,h,_,ad,af,aG,bh,b6,ds,s1,he=>by
  simp only[ew,Option.some.injEq,Prod.mk.injEq]at he;obtain⟨rfl,rfl⟩:=he;exact⟨A,S,jz,rfl,h,ad,af,aG,bh,b6,rfl,rfl,λ_ h=>h⟩
 |(k,a)::ps,(dv,v)::vs,os,s,S,fB,A,jz,h,ay,ad,af,aG,bh,b6,ds,s1,he=>by
  obtain⟨rfl,nV,sE,EP⟩:=ay;simp only[ew]at he;split at he
  .rename_i d BC off n z a8 fO cd;have key:∀d:I,(∀aF,d≠.tuple aF)->dL s (nU os a)=some (d,BC)->(if d.wd=n/\z.wd=n/\I.fc (fB.take k)=off then ew place BC (fB.set k d) (os++[(nU os a).owner]) ps else none)=some (ds,s1)->
     ∃pt cT im,Instr.fill place A ((k,v)::vs)=some pt/\ch w0 F0 X F cT s1 aI w/\bz w F ds pt.toList im/\(∀b,im b->b<w.heap.size)/\(∀b,im b->¬F b)/\(∀u b,im b->¬cT u b)/\
     (∀b,im b->X b\/w0.heap.size<=b)/\ds.length=fB.length/\I.fc ds=I.fc fB/\(∀n,(∀d∈fB,d.wd=n)->∀d∈ds,d.wd=n):=by
    intro d vI a8 he;split at he
    .rename_i au;obtain⟨nC,ly,U5⟩:=au;obtain⟨cT,g0,g1,g2,Sn,g3,g4,g5,g6,g7,g8,g9,g10⟩:=sF h nV sE a8;obtain⟨ct,hp,c2,Sx,jN,jo,jA,hc,i7,ki,hD,pf⟩:=bz.pick fB _ _ k z ad cd;have sI:=EB g2 vI;have nc:=aB.length _ _ _ g3;have U6:=aB.length _ _ _ hD;have xC:=pf w d (dd v) Sn (λ_ _=>rfl) (λ_ _=>rfl) g3 (λb ad_ aea=>by obtain⟨u,hu⟩:=g9 b ad_;exact bh u b (hc b aea) hu);have U7:=U4 (dd v) 0 off A ct hp c2 jo (by rw[jA,U5];rfl) (by rw[U6,nc,nC,ly]);generalize ER:((dd v).zipIdx 0).foldl (λcs (x:Value×Nat)=>cs.setIfInBounds (off+x.2) x.1) A=pn at U7;obtain⟨pt,eM,im,m1,m2,m3,m4,m5,m6,m7,m8,m9,m10⟩:=Nn (place:=place) ps vs (os++[(nU os a).owner]) BC cT (fB.set k d) pn (λb=>Sx b\/Sn b) g0 (by have:=rj.c1 g10 _ _ EP;simpa [nU,foldl_append,Function.comp_def]using this) (by rw[U7];exact xC)
      (by rintro b (ab|ab);exact af b (hc b ab);exact g4 b ab) (by rintro b (ab|ab);exact aG b (hc b ab);exact g5 b ab)
      (by rintro u b (ab|ab);exact λhu=>bh u b (hc b ab) (g8 u b hu);exact g6 u b ab) (by rintro b (ab|ab);exact b6 b (hc b ab);exact g7 b ab) ds s1 he
     refine⟨pt,eM,im,?_,m2,m3,m4,m5,m6,m7,by rw[m8];simp,by rw[m9];exact MD _ _ _ _ cd (by rw[nC,ly]),?_⟩
     .have Np:off+n<=A.size:=by
       have:A.size=A.toList.length:=by simp
       rw[this,jo];simp[jA,U5,U6,ly]
      simp only[Instr.fill,fO,sI,List.size_toArray,nc,nC];have nQ:¬(n≠n\/A.size<off+n):=by omega
      have aeb:(dd v).toArray.zipIdx.foldl (λcs (x:Value×Nat)=>cs.setIfInBounds (off+x.2) x.1) A=pn:=by
       rw[<-ER,<-Array.foldl_toList];simp
      simp only[ne_eq,not_true_eq_false,decide_false,Bool.false_or,decide_eq_true_eq,gt_iff_lt];rw[if_neg (by simp;omega)];rw[show(dd v).toArray.zipIdx.foldl (λcs x=>match x with|(c,j)=>cs.setIfInBounds (off+j) c) A=pn from aeb];exact m1
     .intro Nq uo;refine m10 Nq (ME uo ?_);rw[nC,<-ly];exact uo z (mem_of_getElem? cd)
    .cases he
   split at he
   .cases he
   .rename_i vI;exact key _ (λaF e=>vI aF e) a8 he
  .cases he
 |[],_::_,_,_,_,_,_,_,_,ay,_,_,_,_,_,_,_,_=>ay.elim
 |_::_,[],_,_,_,_,_,_,_,ay,_,_,_,_,_,_,_,_=>ay.elim
def gH (C:cx) (s:al) (T:TypeId) (ps:azx):Option (I×al):=
 match(C.T T).k,(C.T T).zero with
 | .struct aF,.agg fB=>if(flat (.agg fB)).isSome=true/\(∀f∈aF,(C.T f.1).ok=true)then
   (match ew (λk=>(aF[k]?).map λf=>(f.2,(C.T f.1).sz)) s fB [] ps with
   |some (ds,s1)=>some (.agg ds,s1)
   |none=>none)else none
 |_,_=>none
def eh (C:cx) (s:al) (T:TypeId) (n:Nat) (ps:azx):Option (I×al):=
 match(C.T T).k with
 | .slice e=>if(C.T e).ok=true/\(C.T e).zero.wd=(C.T e).sz/\(flat (C.T e).zero).isSome=true/\(C.T e).sz≠0/\n*(C.T e).sz<=16777216 then
   (match ew (λk=>some (k*(C.T e).sz,(C.T e).sz)) s (replicate n (C.T e).zero) [] ps with
   |some (ds,s1)=>some (.ag (C.T e).sz ds,s1)
   |none=>none)else none
 |_=>none
theorem aec (bW:C.fN):∀(gs:List Field),(∀g∈gs,(C.T g.type).ok=true)->
  gs.mapM (λf=>(C.P.info? f.type).map λi=>(f.offset,i.size))=some (gs.map λg=>(g.offset,(C.T g.type).sz)):=by
 intro gs;induction gs with
 |nil=>intro _;simp
 |cons g gs ih=>
  intro hg;obtain⟨i,d,z,f1,f2,f3,f4,f5,f6,f7⟩:=bW.info (hg g (by simp));have:=ih (λg ja=>hg g (by simp[ja]));simp[mapM_cons,f1,f2,this]
theorem aed (bW:C.fN) (h:ch w0 F0 X F S s aI w) {T:TypeId} {ps:azx} {vs:List (Nat×Value)} (ay:rj w F s aI ps vs) (he:gH C s T ps=some (av,s1)):
  Good C w0 F0 X aI w (Instr.build T vs.toArray) av s1:=by
 unfold gH at he;split at he
 .rename_i aF fB aw cd;split at he
  .rename_i au;obtain⟨zj,aee⟩:=au;split at he
   .rename_i ds s2 jl;simp only[Option.some.injEq,Prod.mk.injEq]at he;obtain⟨rfl,rfl⟩:=he;obtain⟨i,d,z,aP,aW,aS,cf,cF,cw,cg⟩:=bW.info (hQ aw (by simp));rw[aw]at cg;obtain⟨gs,rfl,U8⟩:=Ex cg;obtain⟨iv,qA⟩:=Option.isSome_iff_exists.1 zj;have zk:=cF iv (by rw[cd];exact qA);have iu:bz w F fB iv.toArray.toList (λ_=>False):=by
     have:=(aB.flat (w:=w) (F:=F) _).1 (.agg fB) iv (λ_=>False) (Nat.le_refl _) qA;rw[aB]at this;simpa using this
    have fw:rj w F s aI (ps.map λp=>(p.1,nU [] p.2)) vs:=by simpa [nU]using ay
    obtain⟨pt,cT,im,m1,m2,m3,m4,m5,m6,m7,m8,m9,m10⟩:=Nn ps vs [] s S fB iv.toArray (λ_=>False) h fw iu (λ_ h=>h.elim) (λ_ h=>h.elim) (λ_ _ h=>h.elim) (λ_ h=>h.elim) ds s2 jl;have fO:=aec bW gs.toList (λg hg=>aee (g.type,g.offset) (by rw[<-U8];exact List.mem_map_of_mem hg));have aef:(λ(k:Nat)=>(aF[k]?).map λ(f:TypeId×Nat)=>(f.2,(C.T f.1).sz))=λ(k:Nat)=>((gs.toList.map λg=>(g.offset,(C.T g.type).sz)).toArray)[k]? :=by
     funext k;rw[<-U8];simp only[getElem?_map,getElem?_toArray,Option.map_map];rfl
    rw[aef]at m1;refine⟨.agg pt,w,F,cT,run_build w T vs.toArray pt ?_,m2,.inr ⟨rfl,⟨_,rfl⟩,im,by simp only[dd,jO];rw[aB];exact m3,m4,m5,m6,m7⟩⟩;unfold Program.built;simp only[aP,cw,cf,fO,zk];exact m1
   .cases he
  .cases he
 .cases he
theorem aeg (bW:C.fN) (h:ch w0 F0 X F S s aI w) {T:TypeId} {n:Nat} {ps:azx} {vs:List (Nat×Value)} (ay:rj w F s aI ps vs) (he:eh C s T n ps=some (av,s1)):
  Good C w0 F0 X aI w (Instr.buildSlice T n vs.toArray) av s1:=by
 unfold eh at he;split at he
 .rename_i e aw;split at he
  .rename_i au;obtain⟨vM,zi,zj,fo,axt⟩:=au;split at he
   .rename_i ds s2 jl;simp only[Option.some.injEq,Prod.mk.injEq]at he;obtain⟨rfl,rfl⟩:=he;obtain⟨UO,d,UP,aP,aW,aS,cf,cF,cw,cg⟩:=bW.info (hQ aw (by simp));rw[aw]at cg;have:=oU cg;subst this;obtain⟨i,UQ,z,f1,f2,f3,f4,f5,f6,f7⟩:=bW.info vM;obtain⟨iv,qA⟩:=Option.isSome_iff_exists.1 zj;have zk:=f5 iv qA;have iu:∀a7,aB w F (C.T e).zero iv a7:=λa7=>(aB.flat _).1 _ iv a7 (Nat.le_refl _) qA;have xH:iv.length=(C.T e).sz:=by rw[aB.length _ _ _ (iu (λ_=>False)),zi]
    generalize jo:((Array.range (n*(C.T e).sz)).map ((if n*(C.T e).sz=0 then #[]else iv.toArray)[·%(if n*(C.T e).sz=0 then(#[]:Array Value)else iv.toArray).size]!))=A;have Np:A.toList=(replicate n iv).flatten:=by
     rw[<-jo];by_cases a_:n*(C.T e).sz=0
     .have:n=0:=by
       rcases mul_eq_zero.1 a_ with h|h
       .exact h
       .exact(fo h).elim
      subst this;simp
     .simp only[a_,if_false];have:=Nl iv n;rw[xH]at this;simpa [xH]using this
    have fw:rj w F s aI (ps.map λp=>(p.1,nU [] p.2)) vs:=by simpa [nU]using ay
    obtain⟨pt,cT,im,m1,m2,m3,m4,m5,m6,m7,m8,m9,m10⟩:=Nn ps vs [] s S (replicate n (C.T e).zero) A (λ_=>False) h fw (by rw[Np];exact bz.replicate iu n _) (λ_ h=>h.elim) (λ_ h=>h.elim) (λ_ _ h=>h.elim) (λ_ h=>h.elim) ds s2 jl;have hlen:ds.length=n:=by rw[m8];simp
    have U9:=m10 (C.T e).sz (by intro d aq;rw[eq_of_mem_replicate aq];exact zi);have aeh:pt.toList.length=n*(C.T e).sz:=by rw[bz.zh m3 U9,hlen]
    have aei:pt.size=n*(C.T e).sz:=by rw[<-aeh];simp
    have axu:n<=16777216:=by
     have:n*1<=n*(C.T e).sz:=mul_le_mul_left _ (by omega);omega
    have oV:=m2.IA (aO:=w.alloc (.cells pt e)) (sz:=(C.T e).sz) (cap:=n) (xs:=ds) (cur:=pt) (e:=e) (fr:=(0,0)) (Sn:=im) rfl rfl rfl ⟨rfl,λ_=>Nat.le_refl _⟩
     (λo _ ⟨_,af⟩=>absurd af (not_lt_zero _)) (by omega) (by unfold maxLen;omega) aei U9 (by rw[hlen,take_of_length_le (by omega)];exact m3) m4 m5 m6 m7
    rw[hlen]at oV;refine⟨_,_,F,cT,?_,oV.1,oV.2⟩;by_cases a_:n*(C.T e).sz=0
    .simp only[a_,if_true]at jo;have BD:(Array.map (λ_=>(default:Value)) (Array.range 0))=A:=by
      have:n=0:=by
       rcases mul_eq_zero.1 a_ with h|h
       .exact h
       .exact(fo h).elim
      apply Array.ext';rw[Np,this];simp
     simp[Instr.buildSlice,run_underlying cw,nz f1,f2,a_,newRow];rw[BD,m1];simp
    .simp only[a_,if_false]at jo;have nQ:¬(16777216<n*(C.T e).sz):=by omega
     simp[Instr.buildSlice,run_underlying cw,nz f1,f2,a_,nQ,y8 f1 f4,zk,newRow];have BD:(Array.map (λx=>iv[x%iv.length]?.getD default) (Array.range (n*(C.T e).sz)))=A:=by
      rw[<-jo];simp
     rw[BD,m1];simp
   .cases he
  .cases he
 .cases he
end
inductive e6 where
 |gY (x:bC)
 |h5 (x:bC)
 |pick (c a b:bC)
 |nb (T:TypeId)
 |iF (T:TypeId) (x:bC)
 |gH (T:TypeId) (ps:List (Nat×bC))
 |eh (T:TypeId) (n:Nat) (ps:List (Nat×bC))
 |fX (T:TypeId) (x:bC)
 |k5 (T:TypeId) (x y:bC)
 |mD (x:bC)
 |eS (op:BinOp) (T:TypeId) (x y:bC)
 |un (op:UnOp) (x:bC)
 |k7 (A B:TypeId) (x:bC)
 |pZ (f:FuncId) (cs:List bC)
 |fq (T:TypeId) (l c:bC)
 |i_ (T:TypeId) (x:bC) (fS ai:Option bC)
 |h9 (T:TypeId) (x:bC) (k:Nat)
 |kS (T:TypeId) (x i:bC)
 |idx (T:TypeId) (x i:bC)
 |ex (x:bC) (k:Nat)
 |po (T:TypeId) (x:bC) (k:Nat)
 |call (f:bC) (args:List bC)
 |len (T:TypeId) (x:bC)
 |app (T ee:TypeId) (x y:bC)
 |shr (b8:e6)
 |cap (T:TypeId) (x:bC)
 |kU (fz:Bool) (x y:bC)
 |bad
 |nd (f:bC) (args:List bC) (us:azt)
 |mf (T:TypeId) (x:bC)
 |p0 (x:bC)
 |pv (x:bC)
 |sN
 |jZ (T:TypeId) (x i:bC)
 |k8 (T:TypeId) (x i v:bC)
def e6.base:e6->e6
 | .shr b8=>b8
 | .nd f args _=>.call f args
 | .mf T x=>.iF T x
 | .p0 x=>.h5 x
 | .pv x=>.gY x
 |b8=>b8
def sO:List Operand->Option (List bC)
 |[]=>some []
 |o::os=>match eR o,sO os with
  |some x,some xs=>some (x::xs)
  |_,_=>none
def BE:List (Nat×Operand)->Option (List (Nat×bC))
 |[]=>some []
 |(k,o)::os=>match eR o,BE os with
  |some x,some xs=>some ((k,x)::xs)
  |_,_=>none
def ES:Option Operand->Option (Option bC)
 |none=>some none
 |some o=>(eR o).map some
def dJ:Op->Option e6
 | .move x=>(eR x).map .gY
 | .assign x=>(eR x).map .h5
 | .pick c a b=>match eR c,eR a,eR b with
   |some c,some a,some b=>some (.pick c a b)
   |_,_,_=>none
 | .alloc T=>some (.nb T)
 | .box T x=>(eR x).map (.iF T)
 | .build T ps=>(BE ps.toList).map (.gH T)
 | .buildSlice T n ps=>(BE ps.toList).map (.eh T n)
 | .load T x=>(eR x).map (.fX T)
 | .store T x y=>match eR x,eR y with
   |some x,some y=>some (.k5 T x y)
   |_,_=>none
 | .nilCheck x=>(eR x).map .mD
 | .binOp op T x y _=>match eR x,eR y with
   |some x,some y=>some (.eS op T x y)
   |_,_=>none
 | .unOp op _ x=>(eR x).map (.un op)
 | .convert A B x=>(eR x).map (.k7 A B)
 | .makeFunc (.func f) first cs=>if first.isEmpty then(sO cs.toList).map (.pZ f)else none
 | .makeSlice T l c=>match eR l,eR c with
   |some l,some c=>some (.fq T l c)
   |_,_=>none
 | .slice T x fS ai none=>match eR x,ES fS,ES ai with
   |some x,some fS,some ai=>some (.i_ T x fS ai)
   |_,_,_=>none
 | .fieldAddr T x k=>(eR x).map λx=>.h9 T x k
 | .indexAddr T x i=>match eR x,eR i with
   |some x,some i=>some (.kS T x i)
   |_,_=>none
 | .index T x i=>match eR x,eR i with
   |some x,some i=>some (.idx T x i)
   |_,_=>none
 | .extract x k=>(eR x).map λx=>.ex x k
 | .field T x k=>(eR x).map λx=>.po T x k
 | .makeMap _ none=>some .sN
 | .lookup T x i false=>match eR x,eR i with
   |some x,some i=>some (.jZ T x i)
   |_,_=>none
 | .mapUpdate T x i v=>match eR x,eR i,eR v with
   |some x,some i,some v=>some (.k8 T x i v)
   |_,_,_=>none
 | .call c=>match c.callee with
   | .value f=>match eR f,sO c.args.toList with
     |some f,some xs=>some (.call f xs)
     |_,_=>none
   | .builtin .len=>match c.args.toList,c.argTypes.toList with
     |[x],[T]=>(eR x).map (.len T)
     |_,_=>none
   | .builtin .cap=>match c.args.toList,c.argTypes.toList with
     |[x],[T]=>(eR x).map (.cap T)
     |_,_=>none
   | .builtin .min=>match c.args.toList with
     |[x,y]=>match eR x,eR y with
      |some x,some y=>some (.kU false x y)
      |_,_=>none
     |_=>none
   | .builtin .max=>match c.args.toList with
     |[x,y]=>match eR x,eR y with
      |some x,some y=>some (.kU true x y)
      |_,_=>none
     |_=>none
   | .builtin .append=>match c.args.toList,c.argTypes.toList with
     |[x,y],[T,ee]=>match eR x,eR y with
      |some x,some y=>some (.app T ee x y)
      |_,_=>none
     |_,_=>none
   |_=>none
 |_=>none
def kU (fz:Bool):I->I->Option I
 | .str a,.str b=>some (.str (h8 fz a b))
 | .int k a,.int dv b=>if k=dv then some (.int k (k4 fz a b))else none
 |_,_=>none
def uq (s:al):I->Option (I×al)
 | .h y q=>dL s (.h y q)
 |d=>some (d,s)
def cl (C:cx) (s:al):e6->Option (I×al)
 | .gY x=>some (bA s x,s)
 | .h5 x=>match bA s x with
   | .h y q=>dL s (.h y q)
   |d=>some (d,s)
 | .pick c a b=>match bA s c with
   | .bool gW=>some (if gW then bA s a else bA s b,s)
   |_=>none
 | .nb T=>(nb C T).map λd=>(d,s)
 | .iF _ x=>iF s (bA s x)
 | .gH T ps=>gH C s T (ps.map λp=>(p.1,bA s p.2))
 | .eh T n ps=>eh C s T n (ps.map λp=>(p.1,bA s p.2))
 | .fX T x=>(fX C s T (bA s x)).map λd=>(d,s)
 | .k5 T x y=>(k5 C s T (bA s x) (bA s y)).map λs1=>(.hole,s1)
 | .mD x=>(mD s (bA s x)).map λd=>(d,s)
 | .eS op T x y=>(eS C s op T (bA s x) (bA s y)).map λd=>(d,s)
 | .un op x=>(un op (bA s x)).map λd=>(d,s)
 | .k7 A B x=>(k7 C s A B (bA s x)).map λd=>(d,s)
 | .pZ f cs=>some (.fn f (cs.map (bA s)),s)
 | .fq T l c=>(fq C T (bA s l) (bA s c)).map λd=>(d,s)
 | .i_ T x fS ai=>i_ C s T (bA s x) (fS.map (bA s)) (ai.map (bA s))
 | .h9 T x k=>(h9 C s T (bA s x) k).map λd=>(d,s)
 | .kS T x i=>(kS C s T (bA s x) (bA s i)).map λd=>(d,s)
 | .idx T x i=>(idx C T (bA s x) (bA s i)).map λd=>(d,s)
 | .ex x k=>(ex s (bA s x) k).map λd=>(d,s)
 | .po T x k=>(po C s T (bA s x) k).bind (uq s)
 | .call _ _=>none
 | .len T x=>(vK C s T (bA s x)).map λd=>(d,s)
 | .app T ee x y=>vO C s T ee (bA s x) (bA s y)
 | .shr _=>none
 | .nd _ _ _=>none
 | .mf _ x=>mf s (bA s x)
 | .p0 x=>some (bA s x,s)
 | .pv x=>uq s (bA s x)
 | .sN=>some (.cj (.mp []),s)
 | .jZ T x i=>(jZ C s T (bA s x) (bA s i)).map λd=>(d,s)
 | .k8 T x i v=>(k8 C s T (bA s x) (bA s i) (bA s v)).map λs1=>(.hole,s1)
 | .cap T x=>match(C.T T).k,bA s x with
   | .slice _,.bf=>some (.int .i64 0,s)
   |_,_=>none
 | .kU fz x y=>(kU fz (bA s x) (bA s y)).map λd=>(d,s)
 | .bad=>none
section
variable {C:cx} {w0 w:World} {F0 X F:Nat->Prop} {S:Nat->Nat->Prop} {s s1:al} {a:Act} {av:I}
theorem zo:∀{os:List Operand} {xs:List bC},sO os=some xs->os.map eR=xs.map some
 |[],xs,h=>by simp[sO]at h;subst h;rfl
 |o::os,xs,h=>by
  simp only[sO]at h;split at h
  .rename_i x U_ ad af;simp at h;subst h;simp[ad,zo af]
  .cases h
theorem Nr {aI:Nat->Value} (h:ch w0 F0 X F S s aI w) (fg:∀t,aI t=a.tmps.getD t undef):∀{ps:List (Nat×Operand)} {xs:List (Nat×bC)},BE ps=some xs->
  rj w F s aI (xs.map λp=>(p.1,bA s p.2)) (ps.map λp=>(p.1,a.eval p.2))
 |[],xs,h=>by simp[BE]at h;subst h;trivial
 |(k,o)::ps,xs,bI=>by
  simp only[BE]at bI;split at bI
  .rename_i x U_ ad af;simp at bI;subst bI;obtain⟨g1,g2⟩:=gI h fg ad;exact⟨rfl,g1,g2,Nr h fg af⟩
  .cases bI
def Next (C:cx) (w0:World) (F0 X:Nat->Prop) (aI:Nat->Value) (w:World) (m:Sem Go.Next) (av:I) (s1:al):Prop:=
 ∃r aO v cq a7,m.run C.P w= .ok r aO/\(r= .value v\/r= .skip/\v=undef)/\ch w0 F0 X cq a7 s1 aI aO/\og w0 X cq a7 s1 aI aO av v
theorem Good.next {aI:Nat->Value} {m:Sem Value} (h:Good C w0 F0 X aI w m av s1):Next C w0 F0 X aI w (do pure (.value (<-m))) av s1:=by
 obtain⟨v,aO,cq,a7,ad,af,aG⟩:=h;exact⟨.value v,aO,v,cq,a7,by simp[ad],.inl rfl,af,aG⟩
theorem Va {aI:Nat->Value} (h:ch w0 F0 X F S s aI w) {fz:Bool} {x y:I} {kz lT:Value} {m:Sem Go.Next} (ad:aQ w F s aI x kz (λ_=>False)) (af:aQ w F s aI y lT (λ_=>False))
  (he:(kU fz x y).map (λd=>(d,s))=some (av,s1)) (hm:m=(do pure (.value (<-if fz then Builtin.max2 kz lT else Builtin.min2 kz lT)))):Next C w0 F0 X aI w m av s1:=by
 simp only[Option.map_eq_some_iff,Prod.mk.injEq]at he;obtain⟨d,aq,rfl,rfl⟩:=he;unfold kU at aq;split at aq
 .rename_i a b;simp only[Option.some.injEq]at aq;subst aq;have aP:=pk ad;have aW:=pk af;subst aP aW;subst hm;refine⟨.value (.string ⟨⟨h8 fz a b⟩⟩),w,_,F,S,?_,.inl rfl,h,.inl ⟨rfl,sJ _⟩⟩;cases fz
  .simp only[Builtin.min2,Op.stringOp,ED,h8,Bool.false_eq_true,if_false];cases ab:(Op.bytesLess a b||a==b)<;>simp[asBool]
  .simp only[Builtin.max2,Op.stringOp,ED,h8,if_true];cases ab:Op.bytesLess a b<;>simp[asBool]
 .rename_i k a dv b;split at aq
  .rename_i aw;subst aw;simp only[Option.some.injEq]at aq;subst aq;have aP:=qy ad;have aW:=qy af;subst aP aW;subst hm;refine⟨.value (.int k (k4 fz a b)),w,_,F,S,?_,.inl rfl,h,.inl ⟨rfl,of_int _ _⟩⟩;cases fz<;>simp[Builtin.min2,Builtin.max2,k4]
  .cases aq
 .cases aq
theorem Vb (bW:C.fN) {aI:Nat->Value} (h:ch w0 F0 X F S s aI w) (fg:∀t,aI t=a.tmps.getD t undef) {o:Oper} {b8:e6} (aa:dJ o.op=some b8) (he:cl C s b8=some (av,s1)):
  Next C w0 F0 X aI w (execOp a.eval o) av s1:=by
 obtain⟨dst,op,ty,pos,after,guard⟩:=o;simp only at aa;cases op with
 |move x=>
  simp only[dJ,Option.map_eq_some_iff]at aa;obtain⟨da,ao,rfl⟩:=aa;obtain⟨g1,g2⟩:=gI h fg ao;simp only[cl,Option.some.injEq,Prod.mk.injEq]at he;obtain⟨rfl,rfl⟩:=he;exact⟨_,w,_,F,S,rfl,.inl rfl,h,.inl ⟨g1,g2⟩⟩
 |assign x=>
  simp only[dJ,Option.map_eq_some_iff]at aa;obtain⟨da,ao,rfl⟩:=aa;obtain⟨g1,g2⟩:=gI h fg ao;simp only[cl]at he;split at he
  .rename_i y q hy;rw[hy]at g1 g2;obtain⟨cT,k0,bZ,cu,Sn,dY,eb,eJ,dx,kT,_⟩:=sF h g1 g2 he;exact⟨_,w,_,F,cT,rfl,.inl rfl,k0,.inr ⟨bZ,cu,Sn,dY,eb,eJ,dx,kT⟩⟩
  .simp only[Option.some.injEq,Prod.mk.injEq]at he;obtain⟨rfl,rfl⟩:=he;exact⟨_,w,_,F,S,rfl,.inl rfl,h,.inl ⟨g1,g2⟩⟩
 |pick c x y=>
  simp only[dJ]at aa;split at aa
  .rename_i xM da oT au ao hy;simp only[Option.some.injEq]at aa;subst aa;simp only[cl]at he;split at he
   .rename_i b ab;simp only[Option.some.injEq,Prod.mk.injEq]at he;obtain⟨rfl,rfl⟩:=he;have EO:=(gI h fg au).2;rw[ab]at EO;have EO:=xD EO;obtain⟨R,ae⟩:=gI h fg ao;obtain⟨fC,hG⟩:=gI h fg hy;refine⟨.value (if b then a.eval x else a.eval y),w,_,F,S,?_,.inl rfl,h,.inl ?_⟩
    .simp[execOp,EO,asBool]
    .cases b
     .exact⟨fC,hG⟩
     .exact⟨R,ae⟩
   .cases he
  .cases aa
 |alloc T=>
  simp only[dJ,Option.some.injEq]at aa;subst aa;simp only[cl,Option.map_eq_some_iff,Prod.mk.injEq]at he;obtain⟨d,aq,rfl,rfl⟩:=he;exact(adj bW h aq).next
 |box T x=>
  simp only[dJ,Option.map_eq_some_iff]at aa;obtain⟨da,ao,rfl⟩:=aa;obtain⟨g1,g2⟩:=gI h fg ao;exact(adm h g1 g2 he).next
 |build T ps=>
  simp only[dJ,Option.map_eq_some_iff]at aa;obtain⟨aej,ay,rfl⟩:=aa;obtain⟨ps⟩:=ps;have:=(aed bW h (Nr h fg ay) he).next;simpa [execOp]using this
 |buildSlice T n ps=>
  simp only[dJ,Option.map_eq_some_iff]at aa;obtain⟨aej,ay,rfl⟩:=aa;obtain⟨ps⟩:=ps;have:=(aeg bW h (Nr h fg ay) he).next;simpa [execOp]using this
 |load T x=>
  simp only[dJ,Option.map_eq_some_iff]at aa;obtain⟨da,ao,rfl⟩:=aa;obtain⟨g1,g2⟩:=gI h fg ao;simp only[cl,Option.map_eq_some_iff,Prod.mk.injEq]at he;obtain⟨d,aq,rfl,rfl⟩:=he;exact(ade bW h g2 aq).next
 |store T x y=>
  simp only[dJ]at aa;split at aa
  .rename_i da oT ao hy;simp only[Option.some.injEq]at aa;subst aa;simp only[cl,Option.map_eq_some_iff,Prod.mk.injEq]at he;obtain⟨s2,aq,rfl,rfl⟩:=he;obtain⟨aO,a7,ad,af⟩:=adh bW h (gI h fg ao).2 (gI h fg hy).1 (gI h fg hy).2 aq;exact⟨.skip,aO,undef,F,a7,by simp[execOp,ad],.inr ⟨rfl,rfl⟩,af,.inl ⟨rfl,by rw[aQ];trivial⟩⟩
  .cases aa
 |nilCheck x=>
  simp only[dJ,Option.map_eq_some_iff]at aa;obtain⟨da,ao,rfl⟩:=aa;obtain⟨g1,g2⟩:=gI h fg ao;simp only[cl,Option.map_eq_some_iff,Prod.mk.injEq]at he;obtain⟨d,aq,rfl,rfl⟩:=he;obtain⟨rfl,ay,aJ⟩:=ady h g2 aq;refine⟨.value (a.eval x),w,_,F,S,?_,.inl rfl,h,.inl ⟨ay,g2⟩⟩;rcases aJ with⟨b,ab⟩|⟨f,c,ab⟩<;>simp[execOp,ab]
 |binOp op T x y axv=>
  simp only[dJ]at aa;split at aa
  .rename_i da oT ao hy;simp only[Option.some.injEq]at aa;subst aa;simp only[cl,Option.map_eq_some_iff,Prod.mk.injEq]at he;obtain⟨d,aq,rfl,rfl⟩:=he;exact(adv bW h x y (gI h fg ao).2 (gI h fg hy).2 aq).next
  .cases aa
 |unOp op T x=>
  simp only[dJ,Option.map_eq_some_iff]at aa;obtain⟨da,ao,rfl⟩:=aa;simp only[cl,Option.map_eq_some_iff,Prod.mk.injEq]at he;obtain⟨d,aq,rfl,rfl⟩:=he;exact(adw h (gI h fg ao).2 aq).next
 |convert A B x=>
  simp only[dJ,Option.map_eq_some_iff]at aa;obtain⟨da,ao,rfl⟩:=aa;simp only[cl,Option.map_eq_some_iff,Prod.mk.injEq]at he;obtain⟨d,aq,rfl,rfl⟩:=he;exact(adH bW h (gI h fg ao).2 aq).next
 |makeFunc fn first cs=>
  cases fn with
  |func f=>
   simp only[dJ]at aa;split at aa
   .rename_i Ns;simp only[Option.map_eq_some_iff]at aa;obtain⟨rk,iT,rfl⟩:=aa;simp only[cl,Option.some.injEq,Prod.mk.injEq]at he;obtain⟨rfl,rfl⟩:=he;have Nt:first= #[]:=by simpa using Ns
    subst Nt;refine⟨_,w,_,F,S,rfl,.inl rfl,h,.inl ⟨rfl,?_⟩⟩;rw[aQ];refine⟨cs.map a.eval,by simp,?_⟩;simpa using IJ h fg _ _ (zo iT)
   .cases aa
  |_=>simp[dJ]at aa
 |makeSlice T l c=>
  simp only[dJ]at aa;split at aa
  .rename_i da oT ao hy;simp only[Option.some.injEq]at aa;subst aa;simp only[cl,Option.map_eq_some_iff,Prod.mk.injEq]at he;obtain⟨d,aq,rfl,rfl⟩:=he;exact(ad7 bW h (gI h fg ao).2 (gI h fg hy).2 aq).next
  .cases aa
 |slice T x fS ai fz=>
  cases fz with
  |some m=>simp[dJ]at aa
  |none=>
   simp only[dJ]at aa;split at aa
   .rename_i da axw ET ao ra rb;simp only[Option.some.injEq]at aa;subst aa;obtain⟨g1,g2⟩:=gI h fg ao;have opt:∀{o:Option Operand} {qD:Option bC},ES o=some qD->vL w F s aI (qD.map (bA s)) (o.map a.eval):=by
     intro o qD bS;cases o with
     |none=>simp[ES]at bS;subst bS;trivial
     |some o=>
      simp only[ES,Option.map_eq_some_iff]at bS;obtain⟨x,ao,rfl⟩:=bS;exact(gI h fg ao).2
    exact(adK bW h g1 g2 (opt ra) (opt rb) he).next
   .cases aa
 |fieldAddr T x k=>
  simp only[dJ,Option.map_eq_some_iff]at aa;obtain⟨da,ao,rfl⟩:=aa;obtain⟨g1,g2⟩:=gI h fg ao;simp only[cl,Option.map_eq_some_iff,Prod.mk.injEq]at he;obtain⟨d,aq,rfl,rfl⟩:=he;exact(ac7 bW h g1 g2 aq).next
 |indexAddr T x i=>
  simp only[dJ]at aa;split at aa
  .rename_i da oT ao hy;simp only[Option.some.injEq]at aa;subst aa;simp only[cl,Option.map_eq_some_iff,Prod.mk.injEq]at he;obtain⟨d,aq,rfl,rfl⟩:=he;exact(ac8 bW h (gI h fg ao).2 (gI h fg hy).2 aq).next
  .cases aa
 |index T x i=>
  simp only[dJ]at aa;split at aa
  .rename_i da oT ao hy;simp only[Option.some.injEq]at aa;subst aa;simp only[cl,Option.map_eq_some_iff,Prod.mk.injEq]at he;obtain⟨d,aq,rfl,rfl⟩:=he;exact(adE bW h (gI h fg ao).2 (gI h fg hy).2 aq).next
  .cases aa
 |makeMap t r=>
  cases r with
  |none=>
   simp only[dJ,Option.some.injEq]at aa;subst aa;simp only[cl,Option.some.injEq,Prod.mk.injEq]at he;obtain⟨rfl,rfl⟩:=he;exact(ad6 h t).next
  |some r=>simp[dJ]at aa
 |lookup T x i c=>
  cases c with
  |true=>simp[dJ]at aa
  |false=>
   simp only[dJ]at aa;split at aa
   .rename_i da ue ao ai;simp only[Option.some.injEq]at aa;subst aa;simp only[cl,Option.map_eq_some_iff,Prod.mk.injEq]at he;obtain⟨d,aq,rfl,rfl⟩:=he;exact(ad3 bW h (gI h fg ao).2 (gI h fg ai).2 aq).next
   .cases aa
 |mapUpdate T x i v=>
  simp only[dJ]at aa;split at aa
  .rename_i da ue hF ao ai aJ;simp only[Option.some.injEq]at aa;subst aa;simp only[cl,Option.map_eq_some_iff,Prod.mk.injEq]at he;obtain⟨s2,aq,rfl,rfl⟩:=he;obtain⟨aO,a7,ad,af⟩:=ad4 bW h (gI h fg ao).2 (gI h fg ai).2 (gI h fg aJ).2 aq;exact⟨.skip,aO,undef,F,a7,by simp[execOp,ad],.inr ⟨rfl,rfl⟩,af,.inl ⟨rfl,by rw[aQ];trivial⟩⟩
  .cases aa
 |extract x k=>
  simp only[dJ,Option.map_eq_some_iff]at aa;obtain⟨da,ao,rfl⟩:=aa;simp only[cl,Option.map_eq_some_iff,Prod.mk.injEq]at he;obtain⟨d,aq,rfl,rfl⟩:=he;exact(adB h (gI h fg ao).2 aq).next
 |field T x k=>
  simp only[dJ,Option.map_eq_some_iff]at aa;obtain⟨da,ao,rfl⟩:=aa;simp only[cl,Option.bind_eq_some_iff]at he;obtain⟨d,aq,he⟩:=he;obtain⟨v,aO,cq,a7,aR,ph,sD⟩:=adC bW h (gI h fg ao).2 aq;unfold uq at he;split at he
  .rename_i y q;have aek:aQ aO cq s aI (.h y q) v (λ_=>False):=by
    rcases sD with⟨_,g2⟩|⟨g1,_⟩
    .exact g2
    .cases g1
   obtain⟨cT,k0,bZ,cu,Sn,dY,eb,eJ,dx,kT,_⟩:=sF ph rfl aek he;exact⟨.value v,aO,v,cq,cT,by simp[execOp,aR],.inl rfl,k0,.inr ⟨bZ,cu,Sn,dY,eb,eJ,dx,kT⟩⟩
  .simp only[Option.some.injEq,Prod.mk.injEq]at he;obtain⟨rfl,rfl⟩:=he;exact⟨.value v,aO,v,cq,a7,by simp[execOp,aR],.inl rfl,ph,sD⟩
 |call c=>
  obtain⟨callee,args,argTypes⟩:=c;simp only[dJ]at aa;split at aa
  .split at aa
   .simp only[Option.some.injEq]at aa;subst aa;simp[cl]at he
   .cases aa
  .split at aa
   .rename_i x T rl EU;simp only[Option.map_eq_some_iff]at aa;obtain⟨da,ao,rfl⟩:=aa;simp only[cl,Option.map_eq_some_iff,Prod.mk.injEq]at he;obtain⟨d,aq,rfl,rfl⟩:=he;have:=(adF (ty:=ty) bW h (gI h fg ao).2 aq).next;have aP:args= #[x]:=by apply Array.ext';exact rl
    have aW:argTypes= #[T]:=by apply Array.ext';exact EU
    subst aP aW;simpa [execOp,resolve,invoke,builtin]using this
   .cases aa
  .split at aa
   .rename_i x T rl EU;simp only[Option.map_eq_some_iff]at aa;obtain⟨da,ao,rfl⟩:=aa;simp only[cl]at he;split at he
    .rename_i e aw ael;simp only[Option.some.injEq,Prod.mk.injEq]at he;obtain⟨rfl,rfl⟩:=he;have aJ:=(gI h fg ao).2;rw[ael]at aJ;have:=xE aJ;obtain⟨i,d,z,aP,aW,aS,cf,cF,cw,cg⟩:=bW.info (hQ aw (by simp));rw[aw]at cg;have aq:=oU cg;subst aq;have aem:args= #[x]:=by apply Array.ext';exact rl
     have aen:argTypes= #[T]:=by apply Array.ext';exact EU
     subst aem aen;have aR:(Builtin.cap_ #[T] ty #[a.eval x]).run C.P w= .ok (.int .i64 0) w:=by
      rw[this];simp[Builtin.cap_,run_underlying cw,goInt]
     have:=(Good.same (av:=.int .i64 0) h aR rfl (of_int _ _)).next;simpa [execOp,resolve,invoke,builtin]using this
    .cases he
   .cases aa
  .split at aa
   .rename_i x y rl;split at aa
    .rename_i da oT ao hy;simp only[Option.some.injEq]at aa;subst aa;have aP:args= #[x,y]:=by apply Array.ext';exact rl
     subst aP;exact Va h (gI h fg ao).2 (gI h fg hy).2 he (by simp[execOp,resolve,invoke,builtin,Builtin.min_])
    .cases aa
   .cases aa
  .split at aa
   .rename_i x y rl;split at aa
    .rename_i da oT ao hy;simp only[Option.some.injEq]at aa;subst aa;have aP:args= #[x,y]:=by apply Array.ext';exact rl
     subst aP;exact Va h (gI h fg ao).2 (gI h fg hy).2 he (by simp[execOp,resolve,invoke,builtin,Builtin.max_])
    .cases aa
   .cases aa
  .split at aa
   .rename_i x y T ee rl EU;split at aa
    .rename_i da oT ao hy;simp only[Option.some.injEq]at aa;subst aa;have:=(adV (ty:=ty) bW h (gI h fg ao).2 (gI h fg hy).2 he).next;have aP:args= #[x,y]:=by apply Array.ext';exact rl
     have aW:argTypes= #[T,ee]:=by apply Array.ext';exact EU
     subst aP aW;simpa [execOp,resolve,invoke,builtin]using this
    .cases aa
   .cases aa
  .cases aa
 |_=>simp[dJ]at aa
end
mutual
def I.aa:I->azt
 | .h x _=>[x]
 | .ay x _=>[x]
 | .ab x _=>[x]
 | .fn _ cap=>I.e7 cap
 |_=>[]
def I.e7:azy->azt
 |[]=>[]
 |d::ds=>d.aa++I.e7 ds
end
inductive ur where
 |no
 |c1
 |dI
structure iw where
 k:ur
 x:Nat
 d:I
def ur.app (k:ur) (x:Nat) (a:I):I:=match k with
 | .no=>a
 | .c1=>ep.c1 x a
 | .dI=>ep.dI x a
def iw.at (m:iw) (u:Nat) (a:I):I:=if u=m.x then m.d else m.k.app m.x a
def mE:List iw->Nat->I->I
 |[],_,a=>a
 |m::ms,u,a=>mE ms u (m.at u a)
def eX (ms:List iw) (s:al):al:=λu=>mE ms u (s u)
theorem Vc:∀(ms mh:List iw) (u:Nat) (a:I),mE (ms++mh) u a=mE mh u (mE ms u a)
 |[],_,_,_=>rfl
 |m::ms,mh,u,a=>by simp only[cons_append,mE];exact Vc ms mh u _
theorem pw (ms mh:List iw) (s:al):eX (ms++mh) s=eX mh (eX ms s):=by
 funext u;simp[eX,Vc]
theorem aeo {ms:List iw} {s aH:al} {u:Nat} (h:aH u=s u):eX ms aH u=eX ms s u:=by simp[eX,h]
theorem zp (s:al) (x:Nat) (d:I):eu (jB x s) x d=eX [⟨.c1,x,d⟩] s:=by
 funext u;simp only[eX,mE,iw.at,eu,jB,ur.app]
theorem Vd (s:al) (x:Nat) (d:I):eu (oR x s) x d=eX [⟨.dI,x,d⟩] s:=by
 funext u;simp only[eX,mE,iw.at,eu,oR,ur.app]
theorem Ve (s:al) (x:Nat) (d:I):eu s x d=eX [⟨.no,x,d⟩] s:=by
 funext u;simp only[eX,mE,iw.at,eu,ur.app]
mutual
theorem EV {x:Nat}:∀a:I,x∉a.aa->c1 x a=a
 | .h y q,h=>by
   simp only[I.aa,mem_singleton]at h;simp only[c1];rw[if_neg (λe=>h e.symm)]
 | .ay y q,h=>by
   simp only[I.aa,mem_singleton]at h;simp only[c1];rw[if_neg (λe=>h e.symm)]
 | .ab y q,h=>rfl
 | .fn f cap,h=>by simp only[c1];rw[Vf cap (by simpa [I.aa]using h)]
 | .hole,_=>rfl
 | .bool _,_=>rfl
 | .gx,_=>rfl
 | .int _ _,_=>rfl
 | .str _,_=>rfl
 | .eA,_=>rfl
 | .bf,_=>rfl
 | .slice _,_=>rfl
 | .ag _ _,_=>rfl
 | .ref _,_=>rfl
 | .aM _,_=>rfl
 | .agg _,_=>rfl
 | .tuple _,_=>rfl
 | .cj _,_=>rfl
theorem Vf {x:Nat}:∀ds:azy,x∉I.e7 ds->kQ x ds=ds
 |[],_=>rfl
 |d::ds,h=>by
  simp only[I.e7,mem_append,not_or]at h;simp only[kQ];rw[EV d h.1,Vf ds h.2]
end
mutual
theorem Nu {x:Nat}:∀a:I,x∉a.aa->dI x a=a
 | .h y q,h=>by
   simp only[I.aa,mem_singleton]at h;simp only[dI];rw[if_neg (λe=>h e.symm)]
 | .ay y q,h=>by
   simp only[I.aa,mem_singleton]at h;simp only[dI];rw[if_neg (λe=>h e.symm)]
 | .ab y q,h=>by
   simp only[I.aa,mem_singleton]at h;simp only[dI];rw[if_neg (λe=>h e.symm)]
 | .fn f cap,h=>by simp only[dI];rw[Vg cap (by simpa [I.aa]using h)]
 | .hole,_=>rfl
 | .bool _,_=>rfl
 | .gx,_=>rfl
 | .int _ _,_=>rfl
 | .str _,_=>rfl
 | .eA,_=>rfl
 | .bf,_=>rfl
 | .slice _,_=>rfl
 | .ag _ _,_=>rfl
 | .ref _,_=>rfl
 | .aM _,_=>rfl
 | .agg _,_=>rfl
 | .tuple _,_=>rfl
 | .cj _,_=>rfl
theorem Vg {x:Nat}:∀ds:azy,x∉I.e7 ds->lu x ds=ds
 |[],_=>rfl
 |d::ds,h=>by
  simp only[I.e7,mem_append,not_or]at h;simp only[lu];rw[Nu d h.1,Vg ds h.2]
end
theorem EW {k:ur} {x:Nat} {a:I} (h:k= .no\/x∉a.aa):k.app x a=a:=by
 cases k with
 |no=>rfl
 |c1=>exact EV a (by simpa using h)
 |dI=>exact Nu a (by simpa using h)
mutual
theorem Vh (x y:Nat):∀a:I,c1 x (c1 y a)=c1 y (c1 x a)
 | .h z q=>by simp only[c1];by_cases ad:z=x<;>by_cases af:z=y<;>by_cases aG:q=[]<;>simp[ad,af,aG,c1]<;>(subst_vars;simp_all [c1])
 | .ay z q=>by simp only[c1];by_cases ad:z=x<;>by_cases af:z=y<;>simp[ad,af,c1]<;>(subst_vars;simp_all [c1])
 | .ab z q=>rfl
 | .fn f cap=>by simp only[c1];rw[Vi x y cap]
 | .hole=>rfl
 | .bool _=>rfl
 | .gx=>rfl
 | .int _ _=>rfl
 | .str _=>rfl
 | .eA=>rfl
 | .bf=>rfl
 | .slice _=>rfl
 | .ag _ _=>rfl
 | .ref _=>rfl
 | .aM _=>rfl
 | .agg _=>rfl
 | .tuple _=>rfl
 | .cj _=>rfl
theorem Vi (x y:Nat):∀ds:azy,kQ x (kQ y ds)=kQ y (kQ x ds)
 |[]=>rfl
 |d::ds=>by simp only[kQ];rw[Vh x y d,Vi x y ds]
end
mutual
theorem Vj (x y:Nat):∀a:I,dI x (dI y a)=dI y (dI x a)
 | .h z q=>by simp only[dI];by_cases ad:z=x<;>by_cases af:z=y<;>simp[ad,af,dI]<;>(subst_vars;simp_all [dI])
 | .ay z q=>by simp only[dI];by_cases ad:z=x<;>by_cases af:z=y<;>simp[ad,af,dI]<;>(subst_vars;simp_all [dI])
 | .ab z q=>by simp only[dI];by_cases ad:z=x<;>by_cases af:z=y<;>simp[ad,af,dI]<;>(subst_vars;simp_all [dI])
 | .fn f cap=>by simp only[dI];rw[Vk x y cap]
 | .hole=>rfl
 | .bool _=>rfl
 | .gx=>rfl
 | .int _ _=>rfl
 | .str _=>rfl
 | .eA=>rfl
 | .bf=>rfl
 | .slice _=>rfl
 | .ag _ _=>rfl
 | .ref _=>rfl
 | .aM _=>rfl
 | .agg _=>rfl
 | .tuple _=>rfl
 | .cj _=>rfl
theorem Vk (x y:Nat):∀ds:azy,lu x (lu y ds)=lu y (lu x ds)
 |[]=>rfl
 |d::ds=>by simp only[lu];rw[Vj x y d,Vk x y ds]
end
mutual
theorem Nv (x y:Nat):∀a:I,c1 x (dI y a)=dI y (c1 x a)
 | .h z q=>by simp only[dI,c1];by_cases ad:z=x<;>by_cases af:z=y<;>by_cases aG:q=[]<;>simp[ad,af,aG,dI,c1]<;>(subst_vars;simp_all [dI,c1])
 | .ay z q=>by simp only[dI,c1];by_cases ad:z=x<;>by_cases af:z=y<;>simp[ad,af,dI,c1]<;>(subst_vars;simp_all [dI,c1])
 | .ab z q=>by simp only[dI,c1];by_cases af:z=y<;>simp[af,c1]
 | .fn f cap=>by simp only[dI,c1];rw[Vl x y cap]
 | .hole=>rfl
 | .bool _=>rfl
 | .gx=>rfl
 | .int _ _=>rfl
 | .str _=>rfl
 | .eA=>rfl
 | .bf=>rfl
 | .slice _=>rfl
 | .ag _ _=>rfl
 | .ref _=>rfl
 | .aM _=>rfl
 | .agg _=>rfl
 | .tuple _=>rfl
 | .cj _=>rfl
theorem Vl (x y:Nat):∀ds:azy,kQ x (lu y ds)=lu y (kQ x ds)
 |[]=>rfl
 |d::ds=>by simp only[lu,kQ];rw[Nv x y d,Vl x y ds]
end
theorem aep (k l:ur) (x y:Nat) (a:I):k.app x (l.app y a)=l.app y (k.app x a):=by
 cases k<;>cases l<;>simp only[ur.app]<;>first|rfl|exact Vh .. |exact Vj .. |exact Nv .. |exact(Nv ..).symm
def bC.use (s:al):bC->azt
 | .t n=>n::(s n).aa
 | .c av=>av.aa
 | .f _=>[]
def bC.sP (s:al):List bC->azt
 |[]=>[]
 |x::xs=>x.use s++bC.sP s xs
def Nw (s:al):Option bC->azt
 |none=>[]
 |some x=>x.use s
def use (s:al):e6->azt
 | .gY x=>x.use s
 | .h5 x=>x.use s
 | .pick c a b=>c.use s++(a.use s++b.use s)
 | .nb _=>[]
 | .iF _ x=>x.use s
 | .gH _ ps=>bC.sP s (ps.map (·.2))
 | .eh _ _ ps=>bC.sP s (ps.map (·.2))
 | .fX _ x=>x.use s
 | .k5 _ x y=>x.use s++y.use s
 | .mD x=>x.use s
 | .eS _ _ x y=>x.use s++y.use s
 | .un _ x=>x.use s
 | .k7 _ _ x=>x.use s
 | .pZ _ cs=>bC.sP s cs
 | .fq _ l c=>l.use s++c.use s
 | .i_ _ x fS ai=>x.use s++(Nw s fS++Nw s ai)
 | .h9 _ x _=>x.use s
 | .kS _ x i=>x.use s++i.use s
 | .idx _ x i=>x.use s++i.use s
 | .ex x _=>x.use s
 | .po _ x _=>x.use s
 | .call f args=>f.use s++bC.sP s args
 | .len _ x=>x.use s
 | .app _ _ x y=>x.use s++y.use s
 | .shr b8=>use s b8
 | .nd f args us=>us.flatMap (λu=>u::(s u).aa)++(f.use s++bC.sP s args)
 | .mf _ x=>x.use s
 | .p0 x=>x.use s
 | .pv x=>x.use s
 | .sN=>[]
 | .jZ _ x i=>x.use s++i.use s
 | .k8 _ x i v=>x.use s++(i.use s++v.use s)
 | .cap _ x=>x.use s
 | .kU _ x y=>x.use s++y.use s
 | .bad=>[]
def mi (s:al):e6->azt
 | .h5 x=>(bA s x).aa
 | .iF _ x=>(bA s x).aa
 | .gH _ ps=>I.e7 (ps.map λp=>bA s p.2)
 | .eh _ _ ps=>I.e7 (ps.map λp=>bA s p.2)
 | .k5 _ x y=>(bA s x).aa++(bA s y).aa
 | .po _ x _=>(bA s x).aa
 | .pv x=>(bA s x).aa
 | .k8 _ x _ _=>(bA s x).aa
 | .i_ _ x _ _=>(bA s x).aa
 | .app _ _ x y=>(bA s x).aa++(bA s y).aa
 | .shr b8=>mi s b8
 |_=>[]
def eT (ee:azt) (aH s:al):Prop:=∀u∈ee,aH u=s u
theorem eT.left {ee V:azt} {aH s:al} (h:eT (ee++V) aH s):eT ee aH s:=λu hu=>h u (mem_append_left _ hu)
theorem eT.right {ee V:azt} {aH s:al} (h:eT (ee++V) aH s):eT V aH s:=λu hu=>h u (mem_append_right _ hu)
theorem eT.eX {ee:azt} {aH s:al} (h:eT ee aH s) (ms:List iw):eT ee (eX ms aH) (eX ms s):=λu hu=>aeo (h u hu)
theorem eT.sub {ee V:azt} {aH s:al} (h:eT ee aH s) (aa:∀u∈V,u∈ee):eT V aH s:=λu hu=>h u (aa u hu)
theorem bC.zq {s:al} {x:bC}:∀u∈(bA s x).aa,u∈x.use s:=by
 intro u hu;cases x with
 |t n=>
  simp only[bA,uc]at hu;split at hu
  .simp[bC.use,hu]
  .simp only[I.aa,mem_singleton]at hu;simp[bC.use,hu]
 |c av=>exact hu
 |f g=>simp[bA,I.aa,I.e7]at hu
theorem bC.gM {s aH:al} {x:bC} (h:eT (x.use s) aH s):bA aH x=bA s x:=by
 cases x with
 |t n=>simp only[bA];rw[h n (by simp[bC.use])]
 |c av=>rfl
 |f g=>rfl
theorem eT.bA {s aH:al} {x:bC} (h:eT (x.use s) aH s):eT (bA s x).aa aH s:=h.sub bC.zq
theorem Vm {s aH:al} {x:Option bC} (h:eT (Nw s x) aH s):x.map (bA aH)=x.map (bA s):=by
 cases x with
 |none=>rfl
 |some x=>simp only[Option.map_some];rw[bC.gM h]
theorem bC.Nx {s aH:al}:∀{xs:List bC},eT (bC.sP s xs) aH s->xs.map (bA aH)=xs.map (bA s)
 |[],_=>rfl
 |x::xs,h=>by
  simp only[map_cons];rw[bC.gM (h.left),bC.Nx (h.right)]
theorem bC.Ny {s aH:al}:∀{ps:List (Nat×bC)},eT (bC.sP s (ps.map (·.2))) aH s->(ps.map λp=>(p.1,bA aH p.2))=ps.map λp=>(p.1,bA s p.2)
 |[],_=>rfl
 |x::xs,h=>by
  simp only[map_cons]at h⊢;rw[bC.gM (h.left),bC.Ny (h.right)]
theorem bC.IK {s:al}:∀{xs:List bC},∀u∈I.e7 (xs.map (bA s)),u∈bC.sP s xs
 |[],u,h=>by simp[I.e7]at h
 |x::xs,u,h=>by
  simp only[map_cons,I.e7,mem_append]at h;simp only[bC.sP,mem_append];exact h.imp (bC.zq u) (bC.IK u)
section
variable {C:cx} {s aH:al} {x y i:I} {T A B:TypeId}
theorem Nz (h:eT x.aa aH s):loc aH x=loc s x:=by
 cases x<;>first
  |rfl
  |(simp only[loc];rw[h _ (by simp[I.aa])])
theorem NA {z:Nat} {q:azt} (h:loc s x=some (z,q)):z∈x.aa:=by
 cases x with
 |h y p=>
  simp only[loc]at h;split at h
  .simp only[Option.some.injEq,Prod.mk.injEq]at h;simp[I.aa,h.1]
  .cases h
 |ay y p=>
  simp only[loc]at h;split at h
  .simp only[Option.some.injEq,Prod.mk.injEq]at h;simp[I.aa,h.1]
  .cases h
 |_=>simp[loc]at h
theorem aeq (h:eT x.aa aH s):fX C aH T x=fX C s T x:=by
 have hl:=Nz h;unfold fX;split
 .rfl
 .rw[h _ (by simp[I.aa])]
 .rw[hl];split
  .rename_i e;rw[h _ (NA e)]
  .rfl
theorem aer {k:Nat} (h:eT x.aa aH s):h9 C aH T x k=h9 C s T x k:=by
 have hl:=Nz h;unfold h9;split
 .split
  .split
   .split
    .rfl
    .rw[h _ (by simp[I.aa])]
    .rw[hl];split
     .rename_i e;rw[h _ (NA e)]
     .rfl
   .rfl
  .rfl
 .rfl
theorem aes (h:eT x.aa aH s):kS C aH T x i=kS C s T x i:=by
 cases x<;>first
  |rfl
  |(simp only[kS];rw[h _ (by simp[I.aa])])
theorem aet (h:eT x.aa aH s):vK C aH T x=vK C s T x:=by
 unfold vK;cases(C.T T).k<;>cases x<;>first
  |rfl
  |(simp only;rw[h _ (by simp[I.aa])])
theorem aeu (h:eT x.aa aH s):k7 C aH A B x=k7 C s A B x:=by
 unfold k7;cases(C.T B).k<;>cases x<;>first
  |rfl
  |(simp only;rw[h _ (by simp[I.aa])])
theorem aev (h:eT x.aa aH s):mg aH x=mg s x:=by
 cases x<;>first
  |rfl
  |(simp only[mg];rw[h _ (by simp[I.aa])])
theorem aew (h:eT x.aa aH s):oi aH x=oi s x:=by
 cases x<;>first
  |rfl
  |(simp only[oi];rw[h _ (by simp[I.aa])])
theorem aex {op:BinOp} (h:eT x.aa aH s):eS C aH op T x y=eS C s op T x y:=by
 have ad:=aev h;have af:=aew h;unfold eS;split<;>first|rfl|simp only[ad,af]
theorem aey (h:eT x.aa aH s):mD aH x=mD s x:=by
 cases x<;>first
  |rfl
  |(simp only[mD];rw[h _ (by simp[I.aa])])
theorem aez {k y:Nat} {q:azt} (h:po C s T x k=some (.h y q)):x.aa=[y]:=by
 unfold po at h;split at h<;>try (cases h;done)
 split at h<;>try (cases h;done)
 split at h
 .split at h<;>try (cases h;done)
  split at h
  .rename_i au;simp only[Option.some.injEq]at h;rw[h]at au;exact absurd au.2.2.2 (by simp[I.tree])
  .cases h
 .split at h<;>try (cases h;done)
  split at h<;>try (cases h;done)
  split at h<;>try (cases h;done)
  rename_i d aq au;by_cases ay:d.plain=true
  .simp only[ay,if_true,Option.some.injEq]at h;rw[h]at au;exact absurd au.2.2.2 (by simp[I.tree])
  .simp only[ay,Option.some.injEq]at h;injection h with ad af;subst ad;rfl
 .cases h
theorem Vn {k:Nat} (h:eT x.aa aH s):po C aH T x k=po C s T x k:=by
 unfold po;split<;>try rfl
 split<;>try rfl
 cases x<;>first
  |rfl
  |(simp only[];rw[h _ (by simp[I.aa])])
theorem aeA {k:Nat} (h:eT x.aa aH s):ex aH x k=ex s x k:=by
 cases x<;>first
  |rfl
  |(simp only[ex];rw[h _ (by simp[I.aa])])
theorem BF:∀(q:azt) (a d e:I),I.sub q a=some d->(d.plain=false\/q≠[])->(q=[]->e.aa=[])->(I.put q e a).aa=[]:=by
 intro q a d e h ay he;cases q with
 |nil=>rw[I.put];exact he rfl
 |cons k q=>
  cases a<;>first
   |(simp[I.sub]at h;done)
   |skip
  all_goals
   unfold I.put
   repeat' split
   all_goals first|rfl|(simp_all;done)
end
def Loc {α:Type} (ee BG:azt) (f:al->Option (α×al)) (s:al) (av:α) (s1:al):Prop:=
 ∃ms,s1=eX ms s/\(∀m∈ms,m.x∈BG/\m.d.aa=[])/\∀aH,eT ee aH s->f aH=some (av,eX ms aH)
theorem Loc.pure {α:Type} {ee BG:azt} {f:al->Option (α×al)} {s:al} {av:α} (h:∀aH,eT ee aH s->f aH=some (av,aH)):Loc ee BG f s av s:=
 ⟨[],rfl,by simp,λaH aa=>h aH aa⟩
theorem Loc.mono {α:Type} {ee BG Vo Vp:azt} {f:al->Option (α×al)} {s s1:al} {av:α} (h:Loc ee BG f s av s1) (uk:∀u∈ee,u∈Vo) (lx:∀u∈BG,u∈Vp):Loc Vo Vp f s av s1:=by
 obtain⟨ms,ad,af,aG⟩:=h;exact⟨ms,ad,λm hm=>⟨lx _ (af m hm).1,(af m hm).2⟩,λaH aa=>aG aH (aa.sub uk)⟩
section
variable {C:cx} {s s1:al} {x y d:I} {T A B:TypeId}
theorem vP (h:dL s x=some (d,s1)):Loc x.aa x.aa (λs=>dL s x) s d s1:=by
 cases x with
 |h y q=>
  simp only[dL]at h;split at h
  .rename_i e he;split at h
   .cases h
   .rename_i ay;simp only[Option.some.injEq,Prod.mk.injEq]at h;obtain⟨rfl,rfl⟩:=h;have ay:e.plain=false:=by simpa using ay
    refine⟨[⟨.c1,y,I.put q e.ej (s y)⟩],zp _ _ _,?_,?_⟩
    .intro m hm;simp only[mem_singleton]at hm;subst hm;refine⟨by simp[I.aa],BF q _ _ _ he (.inl ay) λc6=>?_⟩;subst c6;cases e<;>first|(simp[I.plain]at ay;done)|rfl
    .intro aH aa;have aP:aH y=s y:=aa y (by simp[I.aa]);simp only[dL,aP,he,ay];rw[<-zp];rfl
  .cases h
 |ay y q=>simp[dL]at h
 |ab y q=>simp[dL]at h
 |fn f c=>simp[dL]at h
 |hole=>simp[dL]at h
 |_=>
  simp only[dL,Option.some.injEq,Prod.mk.injEq]at h;obtain⟨rfl,rfl⟩:=h;exact .pure λaH _=>rfl
mutual
theorem Vq (x:Nat):∀a:I,∀u∈(c1 x a).aa,u∈a.aa
 | .h y q,u,h=>by
   simp only[c1]at h;split at h
   .split at h
    .exact h
    .simp[I.aa]at h
   .exact h
 | .ay y q,u,h=>by
   simp only[c1]at h;split at h
   .simp[I.aa]at h
   .exact h
 | .ab y q,u,h=>h
 | .fn f cap,u,h=>by simp only[c1,I.aa]at h⊢;exact Vr x cap u h
 | .hole,u,h=>h
 | .bool _,u,h=>h
 | .gx,u,h=>h
 | .int _ _,u,h=>h
 | .str _,u,h=>h
 | .eA,u,h=>h
 | .bf,u,h=>h
 | .slice _,u,h=>h
 | .ag _ _,u,h=>h
 | .ref _,u,h=>h
 | .aM _,u,h=>h
 | .agg _,u,h=>h
 | .tuple _,u,h=>h
theorem Vr (x:Nat):∀ds:azy,∀u∈I.e7 (kQ x ds),u∈I.e7 ds
 |[],u,h=>h
 |d::ds,u,h=>by
  simp only[kQ,I.e7,mem_append]at h⊢;exact h.imp (Vq x d u) (Vr x ds u)
end
theorem NB (o:Option Nat) (a:I):∀u∈(ny o a).aa,u∈a.aa:=by
 intro u h;cases o with
 |none=>exact h
 |some x=>exact Vq x a u h
theorem Vs:∀(os:List (Option Nat)) (a:I),∀u∈(nU os a).aa,u∈a.aa:=by
 intro os;induction os with
 |nil=>intro a u h;exact h
 |cons o os ih=>intro a u h;exact NB o a u (ih (ny o a) u h)
theorem Vt {place:Nat->Option (Nat×Nat)}:∀{ps:azx} {s s1:al} {fB ds:azy} {os:List (Option Nat)},ew place s fB os ps=some (ds,s1)->
  Loc (I.e7 (ps.map (·.2))) (I.e7 (ps.map (·.2))) (λs=>ew place s fB os ps) s ds s1:=by
 intro ps;induction ps with
 |nil=>
  intro s s1 fB ds os h;simp only[ew,Option.some.injEq,Prod.mk.injEq]at h;obtain⟨rfl,rfl⟩:=h;exact .pure λaH _=>rfl
 |cons p ps ih=>
  intro s s1 fB ds os h;obtain⟨k,a⟩:=p;simp only[ew]at h;split at h
  .rename_i d s2 off n z a8 fO cd;split at h
   .cases h
   .rename_i bT nW;split at h
    .rename_i au;obtain⟨sQ,rfl,af,aG⟩:=vP a8;obtain⟨xL,rfl,b6,dt⟩:=ih h;refine⟨sQ++xL,(pw _ _ _).symm,?_,?_⟩
     .intro m hm;simp only[map_cons,I.e7,mem_append]at hm⊢;rcases hm with hm|hm
      .exact⟨.inl (Vs _ _ _ (af m hm).1),(af m hm).2⟩
      .exact⟨.inr (b6 m hm).1,(b6 m hm).2⟩
     .intro aH aa;simp only[map_cons,I.e7]at aa;have aP:=aG aH (aa.left.sub (Vs _ _));have aW:=dt (eX sQ aH) (aa.right.eX sQ);simp only at aP aW;simp only[ew,aP,fO,cd,pw];rw[if_pos au];exact aW
    .cases h
  .cases h
theorem aeB {ps:azx} {av:I} (h:gH C s T ps=some (av,s1)):Loc (I.e7 (ps.map (·.2))) (I.e7 (ps.map (·.2))) (λs=>gH C s T ps) s av s1:=by
 unfold gH at h;split at h
 .rename_i aF fB aw cd;split at h
  .rename_i au;split at h
   .rename_i ds s2 bK;simp only[Option.some.injEq,Prod.mk.injEq]at h;obtain⟨rfl,rfl⟩:=h;obtain⟨ms,ad,af,aG⟩:=Vt bK;refine⟨ms,ad,af,λaH aa=>?_⟩;have:=aG aH aa;simp only at this;simp only[gH,aw,cd,if_pos au,this]
   .cases h
  .cases h
 .cases h
theorem aeC {n:Nat} {ps:azx} {av:I} (h:eh C s T n ps=some (av,s1)):Loc (I.e7 (ps.map (·.2))) (I.e7 (ps.map (·.2))) (λs=>eh C s T n ps) s av s1:=by
 unfold eh at h;split at h
 .rename_i e aw;split at h
  .rename_i au;split at h
   .rename_i ds s2 bK;simp only[Option.some.injEq,Prod.mk.injEq]at h;obtain⟨rfl,rfl⟩:=h;obtain⟨ms,ad,af,aG⟩:=Vt bK;refine⟨ms,ad,af,λaH aa=>?_⟩;have:=aG aH aa;simp only at this;simp only[eh,aw,if_pos au,this]
   .cases h
  .cases h
 .cases h
theorem aeD {av:I} (h:iF s x=some (av,s1)):Loc x.aa x.aa (λs=>iF s x) s av s1:=by
 unfold iF at h;split at h
 .cases h
 .rename_i d s2 nW a8;simp only[Option.some.injEq,Prod.mk.injEq]at h;obtain⟨rfl,rfl⟩:=h;obtain⟨ms,ad,af,aG⟩:=vP a8;refine⟨ms,ad,af,λaH aa=>?_⟩;have:=aG aH aa;simp only at this;simp only[iF,this]
 .cases h
theorem aeE {av:I} (h:mf s x=some (av,s1)):Loc x.aa [] (λs=>mf s x) s av s1:=by
 unfold mf at h;split at h
 .rename_i y q;split at h
  .rename_i ds qx;split at h
   .cases h
   .rename_i EA;simp only[Option.some.injEq,Prod.mk.injEq]at h;obtain⟨rfl,rfl⟩:=h;refine .pure λaH aa=>?_;have e:aH y=s y:=aa y (by simp[I.aa]);simp only[mf,e,qx,if_neg EA]
  .cases h
 .split at h
  .rename_i au;simp only[Option.some.injEq,Prod.mk.injEq]at h;obtain⟨rfl,rfl⟩:=h;exact .pure λaH aa=>by simp only[mf,au,if_true]
  .cases h
 .cases h
theorem aeF {s2:al} (h:k5 C s T x y=some s2):Loc (x.aa++y.aa) (x.aa++y.aa) (λs=>(k5 C s T x y).map λs1=>(I.hole,s1)) s .hole s2:=by
 unfold k5 at h;split at h
 .rename_i d s1 z q a8 hl;obtain⟨ms,ad,af,aG⟩:=vP a8;have cd:=NA hl;have c6:q≠[]:=by
   cases x with
   |h y p=>
    simp only[loc]at hl;split at hl
    .simp only[Option.some.injEq,Prod.mk.injEq]at hl;simp[<-hl.2]
    .cases hl
   |ay y p=>
    simp only[loc]at hl;split at hl
    .rename_i sH;simp only[Option.some.injEq,Prod.mk.injEq]at hl;obtain⟨rfl,rfl⟩:=hl;intro e;subst e;simp[I.gK]at sH
    .cases hl
   |_=>simp[loc]at hl
  split at h
  .cases h
  .rename_i bT nW;split at h
   .rename_i d0 nR;split at h
    .rename_i au;simp only[Option.some.injEq]at h;subst h;refine⟨ms++[⟨.c1,z,I.put q d (s z)⟩],?_,?_,?_⟩
     .rw[pw,<-ad,zp]
     .intro m hm;simp only[mem_append,mem_singleton]at hm⊢;rcases hm with hm|rfl
      .exact⟨.inr (af m hm).1,(af m hm).2⟩
      .exact⟨.inl cd,BF q _ _ _ nR (.inr c6) λe=>(c6 e).elim⟩
     .intro aH aa;have aP:=aG aH aa.right;simp only at aP;simp only[k5,aP,Nz aa.left,hl,aa.left z cd,nR];cases d<;>first|(simp only[if_pos au,Option.map_some,pw,zp];done)|exact(nW _ rfl).elim
    .cases h
   .cases h
 .cases h
theorem aeG {fS ai:Option I} {av:I} (h:i_ C s T x fS ai=some (av,s1)):Loc x.aa x.aa (λs=>i_ C s T x fS ai) s av s1:=by
 cases x with
 |h y q=>
  unfold i_ at h;split at h<;>first|(cases h;done)|skip
  all_goals (rename_i ao;try cases ao)
  rename_i e aw;split at h
  .rename_i sz xs gf;split at h
   .rename_i b ra rb;split at h
    .rename_i au;split at h
     .rename_i d s2 a8;simp only[Option.some.injEq,Prod.mk.injEq]at h;obtain⟨rfl,rfl⟩:=h;obtain⟨ms,ad,af,aG⟩:=vP a8;refine⟨ms,ad,af,λaH aa=>?_⟩;have:=aG aH aa;simp only at this;have aP:aH y=s y:=aa y (by simp[I.aa]);simp only[i_,aw,aP,gf,ra,rb,if_pos au,this]
     .cases h
    .cases h
   .cases h
  .cases h
 |_=>
  have p1:s1=s:=by
   unfold i_ at h
   repeat' split at h
   all_goals first|(cases h;done)|(simp only[Option.some.injEq,Prod.mk.injEq]at h;exact h.2.symm)|simp_all
  subst p1;refine .pure λaH _=>?_;unfold i_ at h⊢
  repeat' split at h
  all_goals first
   |(cases h;done)
   |(simp only[Option.some.injEq,Prod.mk.injEq]at h
     obtain⟨rfl,_⟩:=h;simp_all)
def uu (C:cx) (e:TypeId) (s:al):I->Option (I×al)
 | .bf=>some (I.ag (C.T e).sz [],s)
 | .h a q=>dL s (.h a q)
 |_=>none
def oj (s1:al):I->Option (azy×al)
 | .bf=>some ([],s1)
 | .slice c8=>some (c8,s1)
 | .str l=>some (l.map jn,s1)
 | .h a q=>match dL s1 (.h a q)with
   |some (.ag _ c8,s2)=>some (c8,s2)
   |_=>none
 |_=>none
theorem NC (C:cx) (s:al) (T ee:TypeId) (x y:I):vO C s T ee x y=(match(C.T T).k with
 | .slice e=>if(C.T e).ok=true/\(C.T e).zero.wd=(C.T e).sz/\(flat (C.T e).zero).isSome=true/\IE C e ee=true then
   match uu C e s x with
   |some (.ag sz xs,s1)=>if sz=(C.T e).sz then
     match oj s1 (ny x.owner y)with
     |some (c8,s2)=>if(∀d∈c8,d.wd=(C.T e).sz)/\(xs.length+c8.length)*(C.T e).bytes<=140737488355328/\xs.length+c8.length<=9223372036854775807 then some (.ag sz (xs++c8),s2)else none
     |none=>none
    else none
   |_=>none
   else none
 |_=>none):=by
 unfold vO;generalize ny x.owner y=oT;cases(C.T T).k<;>first
  |rfl
  |(cases x<;>cases oT<;>rfl)
theorem aeH {e:TypeId} {d:I} (ad:uu C e s x=some (d,s1)):Loc x.aa x.aa (λs=>uu C e s x) s d s1:=by
 cases x with
 |bf=>
  simp only[uu,Option.some.injEq,Prod.mk.injEq]at ad;obtain⟨ad,rfl⟩:=ad;exact .pure λaH _=>by simp only[uu,ad]
 |h a q=>exact vP ad
 |_=>simp[uu]at ad
theorem aeI {c8:azy} (af:oj s y=some (c8,s1)):Loc y.aa y.aa (λs=>oj s y) s c8 s1:=by
 cases y with
 |bf=>
  simp only[oj,Option.some.injEq,Prod.mk.injEq]at af;obtain⟨rfl,rfl⟩:=af;exact .pure λaH _=>rfl
 |slice c8=>
  simp only[oj,Option.some.injEq,Prod.mk.injEq]at af;obtain⟨rfl,rfl⟩:=af;exact .pure λaH _=>rfl
 |str l=>
  simp only[oj,Option.some.injEq,Prod.mk.injEq]at af;obtain⟨rfl,rfl⟩:=af;exact .pure λaH _=>rfl
 |h a q=>
  simp only[oj]at af;split at af
  .rename_i adX axx mj a8;simp only[Option.some.injEq,Prod.mk.injEq]at af;obtain⟨rfl,rfl⟩:=af;obtain⟨ms,g1,g2,g3⟩:=vP a8;refine⟨ms,g1,g2,λaH aa=>?_⟩;have:=g3 aH aa;simp only at this;simp only[oj,this]
  .cases af
 |_=>simp[oj]at af
theorem aeJ {av:I} (h:vO C s T A x y=some (av,s1)):Loc (x.aa++y.aa) (x.aa++y.aa) (λs=>vO C s T A x y) s av s1:=by
 rw[NC]at h;split at h
 .rename_i e aw;split at h
  .rename_i au;split at h
   .rename_i sz xs s2 ad;split at h
    .rename_i fo;split at h
     .rename_i c8 px af;split at h
      .rename_i ly;simp only[Option.some.injEq,Prod.mk.injEq]at h;obtain⟨rfl,rfl⟩:=h;obtain⟨sQ,rfl,a2,a3⟩:=aeH ad;obtain⟨xL,rfl,fZ,f_⟩:=(aeI af).mono (NB _ _) (NB _ _);refine⟨sQ++xL,(pw _ _ _).symm,?_,?_⟩
       .intro m hm;simp only[mem_append]at hm⊢;rcases hm with hm|hm
        .exact⟨.inl (a2 m hm).1,(a2 m hm).2⟩
        .exact⟨.inr (fZ m hm).1,(fZ m hm).2⟩
       .intro aH aa;have aP:=a3 aH aa.left;have aW:=f_ (eX sQ aH) (aa.right.eX sQ);simp only at aP aW;simp only[NC,aw,if_pos au,aP,if_pos fo,aW,if_pos ly,pw]
      .cases h
     .cases h
    .cases h
   .cases h
  .cases h
 .cases h
theorem aeK {aH:al} {i:I} (h:eT x.aa aH s):jZ C aH T x i=jZ C s T x i:=by
 cases x with
 |h y q=>cases i<;>simp only[jZ,h y (by simp[I.aa])]
 |_=>rfl
theorem aeL {i v:I} {s2:al} (h:k8 C s T x i v=some s2):Loc x.aa x.aa (λs=>(k8 C s T x i v).map λs1=>(I.hole,s1)) s .hole s2:=by
 unfold k8 at h;split at h
 .rename_i y q k b;split at h
  .rename_i m aq;split at h
   .rename_i lx;simp only[Option.some.injEq]at h;subst h;refine⟨[⟨.c1,y,I.put q (.cj (.mp (ku k b m))) (s y)⟩],zp _ _ _,?_,λaH aa=>?_⟩
    .intro n aX;simp only[mem_singleton]at aX;subst aX;exact⟨by simp[I.aa],BF q _ _ _ aq (.inl rfl) λ_=>rfl⟩
    .have aP:aH y=s y:=aa y (by simp[I.aa]);simp only[k8,aP,aq,lx,if_true,Option.map_some];rw[<-zp]
   .cases h
  .cases h
 .cases h
theorem Vu {b8:e6} {av:I} (h:cl C s b8=some (av,s1)):Loc (use s b8) (mi s b8) (λs=>cl C s b8) s av s1:=by
 cases b8 with
 |shr b8=>simp[cl]at h
 |nd f args L=>simp[cl]at h
 |pv x=>
  simp only[cl]at h;unfold uq at h;split at h
  .rename_i y q ao;obtain⟨ms,ad,af,aG⟩:=vP h;refine⟨ms,ad,by simpa only[mi,ao]using af,λaH aa=>?_⟩;have e:=bC.gM (x:=x) aa;have aW:=aG aH (by rw[<-ao];exact eT.bA aa);simp only[cl,e,ao,uq];exact aW
  .rename_i Vv;simp only[Option.some.injEq,Prod.mk.injEq]at h;obtain⟨rfl,rfl⟩:=h;refine .pure λaH aa=>?_;have e:=bC.gM (x:=x) aa;simp only[cl,e,uq]
 |p0 x=>
  simp only[cl,Option.some.injEq,Prod.mk.injEq]at h;obtain⟨rfl,rfl⟩:=h;exact .pure λaH aa=>by simp only[cl,bC.gM (x:=x) aa]
 |mf T x=>
  obtain⟨ms,ad,af,aG⟩:=aeE h;refine⟨ms,ad,af,λaH aa=>?_⟩;simp only[cl,bC.gM (x:=x) aa];exact aG aH (eT.bA aa)
 |bad=>simp[cl]at h
 |kU fz x y=>
  simp only[cl,Option.map_eq_some_iff,Prod.mk.injEq]at h;obtain⟨d,aq,rfl,rfl⟩:=h;exact .pure λaH aa=>by
   simp only[use]at aa;simp only[cl,bC.gM (x:=x) aa.left,bC.gM (x:=y) aa.right,aq,Option.map_some]
 |cap T x=>
  simp only[cl]at h;split at h
  .rename_i e aw ao;simp only[Option.some.injEq,Prod.mk.injEq]at h;obtain⟨rfl,rfl⟩:=h;exact .pure λaH aa=>by simp only[cl,bC.gM (x:=x) aa,aw,ao]
  .cases h
 |gY x=>
  simp only[cl,Option.some.injEq,Prod.mk.injEq]at h;obtain⟨rfl,rfl⟩:=h;exact .pure λaH aa=>by simp only[cl,bC.gM (x:=x) aa]
 |h5 x=>
  simp only[cl]at h;split at h
  .rename_i y q ao;obtain⟨ms,ad,af,aG⟩:=vP h;refine⟨ms,ad,by simpa only[mi,ao]using af,λaH aa=>?_⟩;have e:=bC.gM (x:=x) aa;have aW:=aG aH (by rw[<-ao];exact eT.bA aa);simp only[cl,e,ao];exact aW
  .rename_i Vv;simp only[Option.some.injEq,Prod.mk.injEq]at h;obtain⟨rfl,rfl⟩:=h;refine .pure λaH aa=>?_;have e:=bC.gM (x:=x) aa;simp only[cl,e]
 |pick c a b=>
  simp only[cl]at h;split at h
  .rename_i gW ab;simp only[Option.some.injEq,Prod.mk.injEq]at h;obtain⟨rfl,rfl⟩:=h;refine .pure λaH aa=>?_;simp only[use]at aa;simp only[cl,bC.gM (x:=c) aa.left,bC.gM (x:=a) aa.right.left,bC.gM (x:=b) aa.right.right,ab]
  .cases h
 |nb T=>
  simp only[cl,Option.map_eq_some_iff,Prod.mk.injEq]at h;obtain⟨d,aq,rfl,rfl⟩:=h;exact .pure λaH aa=>by simp only[cl,aq,Option.map_some]
 |iF T x=>
  obtain⟨ms,ad,af,aG⟩:=aeD h;refine⟨ms,ad,af,λaH aa=>?_⟩;simp only[cl,bC.gM (x:=x) aa];exact aG aH (eT.bA aa)
 |gH T ps=>
  obtain⟨ms,ad,af,aG⟩:=aeB h;simp only[List.map_map,Function.comp_def]at af aG;refine⟨ms,ad,af,λaH aa=>?_⟩;simp only[cl,bC.Ny (ps:=ps) aa];refine aG aH (aa.sub λu hu=>?_);simp only[use];exact bC.IK u (by simpa [List.map_map,Function.comp_def]using hu)
 |eh T n ps=>
  obtain⟨ms,ad,af,aG⟩:=aeC h;simp only[List.map_map,Function.comp_def]at af aG;refine⟨ms,ad,af,λaH aa=>?_⟩;simp only[cl,bC.Ny (ps:=ps) aa];refine aG aH (aa.sub λu hu=>?_);simp only[use];exact bC.IK u (by simpa [List.map_map,Function.comp_def]using hu)
 |fX T x=>
  simp only[cl,Option.map_eq_some_iff,Prod.mk.injEq]at h;obtain⟨d,aq,rfl,rfl⟩:=h;exact .pure λaH aa=>by simp only[cl,bC.gM (x:=x) aa,aeq (eT.bA aa),aq,Option.map_some]
 |k5 T x y=>
  simp only[cl,Option.map_eq_some_iff,Prod.mk.injEq]at h;obtain⟨s2,aq,rfl,rfl⟩:=h;obtain⟨ms,ad,af,aG⟩:=aeF aq;refine⟨ms,ad,af,λaH aa=>?_⟩;simp only[use]at aa;simp only[cl,bC.gM (x:=x) aa.left,bC.gM (x:=y) aa.right];exact aG aH (aa.sub λu hu=>by simp only[mem_append]at hu⊢;exact hu.imp (bC.zq u) (bC.zq u))
 |mD x=>
  simp only[cl,Option.map_eq_some_iff,Prod.mk.injEq]at h;obtain⟨d,aq,rfl,rfl⟩:=h;exact .pure λaH aa=>by simp only[cl,bC.gM (x:=x) aa,aey (eT.bA aa),aq,Option.map_some]
 |eS op T x y=>
  simp only[cl,Option.map_eq_some_iff,Prod.mk.injEq]at h;obtain⟨d,aq,rfl,rfl⟩:=h;refine .pure λaH aa=>?_;simp only[use]at aa;simp only[cl,bC.gM (x:=x) aa.left,bC.gM (x:=y) aa.right,aex (eT.bA aa.left),aq,Option.map_some]
 |un op x=>
  simp only[cl,Option.map_eq_some_iff,Prod.mk.injEq]at h;obtain⟨d,aq,rfl,rfl⟩:=h;exact .pure λaH aa=>by simp only[cl,bC.gM (x:=x) aa,aq,Option.map_some]
 |k7 A B x=>
  simp only[cl,Option.map_eq_some_iff,Prod.mk.injEq]at h;obtain⟨d,aq,rfl,rfl⟩:=h;exact .pure λaH aa=>by simp only[cl,bC.gM (x:=x) aa,aeu (eT.bA aa),aq,Option.map_some]
 |pZ f cs=>
  simp only[cl,Option.some.injEq,Prod.mk.injEq]at h;obtain⟨rfl,rfl⟩:=h;exact .pure λaH aa=>by simp only[cl,bC.Nx (xs:=cs) aa]
 |fq T l c=>
  simp only[cl,Option.map_eq_some_iff,Prod.mk.injEq]at h;obtain⟨d,aq,rfl,rfl⟩:=h;refine .pure λaH aa=>?_;simp only[use]at aa;simp only[cl,bC.gM (x:=l) aa.left,bC.gM (x:=c) aa.right,aq,Option.map_some]
 |i_ T x fS ai=>
  simp only[cl]at h;obtain⟨ms,ad,af,aG⟩:=aeG h;refine⟨ms,ad,af,λaH aa=>?_⟩;simp only[use]at aa;simp only[cl,bC.gM (x:=x) aa.left,Vm aa.right.left,Vm aa.right.right];exact aG aH (eT.bA aa.left)
 |h9 T x k=>
  simp only[cl,Option.map_eq_some_iff,Prod.mk.injEq]at h;obtain⟨d,aq,rfl,rfl⟩:=h;exact .pure λaH aa=>by simp only[cl,bC.gM (x:=x) aa,aer (eT.bA aa),aq,Option.map_some]
 |kS T x i=>
  simp only[cl,Option.map_eq_some_iff,Prod.mk.injEq]at h;obtain⟨d,aq,rfl,rfl⟩:=h;refine .pure λaH aa=>?_;simp only[use]at aa;simp only[cl,bC.gM (x:=x) aa.left,bC.gM (x:=i) aa.right,aes (eT.bA aa.left),aq,Option.map_some]
 |idx T x i=>
  simp only[cl,Option.map_eq_some_iff,Prod.mk.injEq]at h;obtain⟨d,aq,rfl,rfl⟩:=h;refine .pure λaH aa=>?_;simp only[use]at aa;simp only[cl,bC.gM (x:=x) aa.left,bC.gM (x:=i) aa.right,aq,Option.map_some]
 |ex x k=>
  simp only[cl,Option.map_eq_some_iff,Prod.mk.injEq]at h;obtain⟨d,aq,rfl,rfl⟩:=h;exact .pure λaH aa=>by simp only[cl,bC.gM (x:=x) aa,aeA (eT.bA aa),aq,Option.map_some]
 |sN=>
  simp only[cl,Option.some.injEq,Prod.mk.injEq]at h;obtain⟨rfl,rfl⟩:=h;exact .pure λaH aa=>rfl
 |jZ T x i=>
  simp only[cl,Option.map_eq_some_iff,Prod.mk.injEq]at h;obtain⟨d,aq,rfl,rfl⟩:=h;refine .pure λaH aa=>?_;simp only[use]at aa;simp only[cl,bC.gM (x:=x) aa.left,bC.gM (x:=i) aa.right,aeK (eT.bA aa.left),aq,Option.map_some]
 |k8 T x i v=>
  simp only[cl,Option.map_eq_some_iff,Prod.mk.injEq]at h;obtain⟨s2,aq,rfl,rfl⟩:=h;obtain⟨ms,ad,af,aG⟩:=aeL aq;refine⟨ms,ad,af,λaH aa=>?_⟩;simp only[use]at aa;simp only[cl,bC.gM (x:=x) aa.left,bC.gM (x:=i) aa.right.left,bC.gM (x:=v) aa.right.right];exact aG aH (eT.bA aa.left)
 |po T x k=>
  simp only[cl,Option.bind_eq_some_iff]at h;obtain⟨d,aq,h⟩:=h;unfold uq at h;split at h
  .rename_i y q;have ao:=aez aq;obtain⟨ms,ad,af,aG⟩:=vP h;refine⟨ms,ad,by simpa only[mi,ao,I.aa]using af,λaH aa=>?_⟩;have aW:=aG aH (by rw[show(I.h y q).aa=(bA s x).aa from ao.symm];exact eT.bA aa);simp only[cl,bC.gM (x:=x) aa,Vn (eT.bA aa),aq,Option.bind_some,uq];exact aW
  .rename_i Vv;simp only[Option.some.injEq,Prod.mk.injEq]at h;obtain⟨rfl,rfl⟩:=h;refine .pure λaH aa=>?_;simp only[cl,bC.gM (x:=x) aa,Vn (eT.bA aa),aq,Option.bind_some,uq]
 |call f args=>simp[cl]at h
 |len T x=>
  simp only[cl,Option.map_eq_some_iff,Prod.mk.injEq]at h;obtain⟨d,aq,rfl,rfl⟩:=h;exact .pure λaH aa=>by simp only[cl,bC.gM (x:=x) aa,aet (eT.bA aa),aq,Option.map_some]
 |app T ee x y=>
  obtain⟨ms,ad,af,aG⟩:=aeJ h;refine⟨ms,ad,af,λaH aa=>?_⟩;simp only[use]at aa;simp only[cl,bC.gM (x:=x) aa.left,bC.gM (x:=y) aa.right];exact aG aH (aa.sub λu hu=>by simp only[mem_append]at hu⊢;exact hu.imp (bC.zq u) (bC.zq u))
end
def I.one:I->Bool
 | .agg _=>false
 | .tuple _=>false
 |_=>true
mutual
def view (s:al):I->Option I
 | .h x q=>match I.sub q (s x)with
   |some d=>(match d with| .tuple _=>none| .cj _=>none|d=>if d.plain then none else some d.share)
   |none=>none
 | .ay x q=>if I.gK q (s x)then(match I.sub q (s x)with
   |some d=>(match d with| .tuple _=>none|d=>some (.ref d.share))
   |none=>none)else none
 | .ab _ _=>none
 | .fn f cap=>(views s cap).map (.fn f)
 | .hole=>none
 |d=>some d
def views (s:al):azy->Option azy
 |[]=>some []
 |d::ds=>match view s d,views s ds with
  |some a,some b=>some (a::b)
  |_,_=>none
end
mutual
theorem ND:∀d:I,d.share.plain=true
 | .hole=>rfl
 | .bool _=>rfl
 | .gx=>rfl
 | .int _ _=>rfl
 | .str _=>rfl
 | .eA=>rfl
 | .bf=>rfl
 | .slice _=>rfl
 | .ag _ _=>rfl
 | .ref _=>rfl
 | .aM _=>rfl
 | .agg aF=>by simp only[I.share,I.plain];exact NF aF
 | .tuple aF=>by simp only[I.share,I.plain];exact NF aF
 | .fn _ _=>rfl
 | .h _ _=>rfl
 | .ay _ _=>rfl
 | .ab _ _=>rfl
 | .cj _=>rfl
theorem NF:∀ds:azy,I.e_ (I.shares ds)=true
 |[]=>rfl
 |d::ds=>by simp only[I.shares,I.e_];rw[ND d,NF ds];rfl
end
theorem aeM {s:al} {a d:I} (h:a.plain=true) (he:view s a=some d):d.plain=true:=by
 cases a with
 |h x q=>
  simp only[view]at he;split at he
  .rename_i e gf;cases e<;>simp only at he<;>first
    |(cases he;done)
    |(split at he
      .cases he
      .simp only[Option.some.injEq]at he;subst he;exact ND _)
  .cases he
 |ay x q=>
  simp only[view]at he;split at he
  .split at he
   .rename_i e gf;cases e<;>simp only at he<;>first
     |(cases he;done)
     |(simp only[Option.some.injEq]at he;subst he;rfl)
   .cases he
  .cases he
 |fn f cap=>
  simp only[view,Option.map_eq_some_iff]at he;obtain⟨ds,_,rfl⟩:=he;rfl
 |hole=>simp[view]at he
 |ab y q=>simp[view]at he
 |_=>simp only[view,Option.some.injEq]at he;subst he;exact h
theorem NG {d:I} {v:Value} (ad:∀vs,d≠.tuple vs) (h:e2 d v):e2 d.share v:=by
 cases d<;>first|exact h|exact(ad _ rfl).elim
theorem aeN (w:World):∀(q:azt) (av d bT:I) (cs dH:azw) (a dF:Option (Nat×Nat)),I.sub q av=some d->bT.wd=d.wd->eF w q av cs a=some (d,dH,dF)->
  eF w q (I.put q bT av) cs a=some (bT,dH,dF):=by
 intro q;induction q with
 |nil=>
  intro av d bT cs dH a dF aq hw h;simp only[eF,Option.some.injEq,Prod.mk.injEq]at h;obtain⟨rfl,rfl,rfl⟩:=h;simp only[I.put,eF]
 |cons k q ih=>
  intro av d bT cs dH a dF aq hw h;cases av with
  |agg aF=>
   simp only[I.sub]at aq;split at aq
   .rename_i x ao;have aw:k<aF.length:=(List.getElem?_eq_some_iff.1 ao).1;simp only[eF,ao]at h;simp only[I.put,ao,eF];rw[getElem?_set_self aw];simp only[take_set_of_le (Nat.le_refl k),I.Bn q x d bT aq hw];exact ih _ _ _ _ _ _ _ aq hw h
   .cases aq
  |tuple aF=>
   simp only[I.sub]at aq;split at aq
   .rename_i x ao;have aw:k<aF.length:=(List.getElem?_eq_some_iff.1 ao).1;simp only[eF,ao]at h;simp only[I.put,ao,eF];rw[getElem?_set_self aw];simp only[take_set_of_le (Nat.le_refl k),I.Bn q x d bT aq hw];exact ih _ _ _ _ _ _ _ aq hw h
   .cases aq
  |ag sz aF=>
   simp only[I.sub]at aq;split at aq
   .rename_i x ao;have aw:k<aF.length:=(List.getElem?_eq_some_iff.1 ao).1;have nT:(aF.set k (I.put q bT x))[k]? =some (I.put q bT x):=getElem?_set_self aw;simp only[I.put,ao];rw[eF.eq_def]at h⊢;simp only[ao]at h;simp only;rw[nT];split at h
    .rename_i aP;simp only[Option.some.injEq]at aP;subst aP;exact ih _ _ _ _ _ _ _ aq hw h
    .cases h
   .cases aq
  |aM x=>
   cases k with
   |zero=>
    simp only[I.sub]at aq;rw[eF.eq_def]at h⊢;simp only at h;simp only[I.put];split at h
    .rw[I.Bn q x d bT aq hw];exact ih _ _ _ _ _ _ _ aq hw h
    .cases h
   |succ k=>simp[I.sub]at aq
  |_=>simp[I.sub]at aq
section
variable {w0 w aO:World} {F0 X F Fc:Nat->Prop} {S:Nat->Nat->Prop} {s aH:al} {aI mY:Nat->Value}
theorem aeO (h:ch w0 F0 X F S s aI w) (bM:∀b,F b->Fc b):∀n,
  (∀(a:I) (v:Value) (d:I),SizeOf.sizeOf a<=n->(∀t∈a.aa,∀b,S t b->Fc b)->view s a=some d->aQ w F s aI a v (λ_=>False)->aQ w Fc aH mY d v (λ_=>False))/\
  (∀(as:azy) (vs:azw) (ds:azy),SizeOf.sizeOf as<=n->(∀t∈I.e7 as,∀b,S t b->Fc b)->views s as=some ds->fe w F s aI as vs->fe w Fc aH mY ds vs):=by
 intro n;induction n with
 |zero=>exact⟨λa _ _ cd=>by cases a<;>simp at cd<;>omega,λas _ _ cd=>by cases as<;>simp at cd<;>omega⟩
 |succ n ih=>
  refine⟨λa v d cd cn he aJ=>?_,λas vs ds cd cn he aJ=>?_⟩
  .cases a with
   |h x q=>
    simp only[view]at he;split at he
    .rename_i e gf;have key:(∀aF,e≠.tuple aF)/\e.plain=false/\d=e.share/\∀o,e≠.cj o:=by
      cases e<;>simp only at he<;>first
       |(cases he;done)
       |(split at he
         .cases he
         .rename_i fO;simp only[Option.some.injEq]at he;exact⟨(λ_ h=>by cases h),by simpa using fO,he.symm,λ_ h=>by cases h⟩)
     obtain⟨nW,fO,rfl,nQ⟩:=key;rw[aQ]at aJ;obtain⟨dH,dF,g1,g2,g3⟩:=aJ e gf fO;have a8:=jP gf (.inl fO);have ao:=(aQ.du a8).1 (h.eB x);obtain⟨hq,a2,fm,gy,k0,bZ,cu,dY,eb,eJ⟩:=ctx q (s x) (dd (aI x)) (S x) none e ao.2 gf;rw[g1]at k0;simp only[Option.some.injEq,Prod.mk.injEq,true_and]at k0;obtain⟨rfl,rfl⟩:=k0;have Eu:e.share.tree=true:=by cases e<;>first|rfl|(simp[I.plain]at fO;done)|exact(nQ _ rfl).elim
     have aR:=aB.shared bM e dH gy (λb ab=>cn x (by simp[I.aa]) b (cu b ab)) eb;exact(aQ.du Eu).2 ⟨NG nW g3,by rw[g2];exact aR⟩
    .cases he
   |ay x q=>
    simp only[view]at he;split at he
    .rename_i sH;split at he
     .rename_i e gf;have key:(∀aF,e≠.tuple aF)/\d= .ref e.share:=by
       cases e<;>simp only at he<;>first
        |(cases he;done)
        |(simp only[Option.some.injEq]at he;exact⟨(λ_ h=>by cases h),he.symm⟩)
      obtain⟨nW,rfl⟩:=key;rw[aQ]at aJ;obtain⟨dH,b,o,g1,rfl⟩:=aJ e gf sH;have a8:=jP gf (.inr sH);have ao:=(aQ.du a8).1 (h.eB x);obtain⟨hq,a2,fm,gy,k0,bZ,cu,dY,eb,eJ⟩:=ctx q (s x) (dd (aI x)) (S x) none e ao.2 gf;rw[g1]at k0;simp only[Option.some.injEq,Prod.mk.injEq,true_and]at k0;obtain⟨rfl,rfl⟩:=k0;have aR:=aB.shared bM e dH gy (λb ab=>cn x (by simp[I.aa]) b (cu b ab)) eb;rcases eJ with⟨l,r,_,aW,_⟩|⟨gW,cur,ty,fr,l,r,aP,aW,aS,cf,cF,_⟩
      .simp at aW
      .simp only[Option.some.injEq,Prod.mk.injEq]at aP;obtain⟨rfl,rfl⟩:=aP;refine(aQ.du rfl).2 ⟨rfl,?_⟩;rw[aB];refine⟨b,l.length,dH,rfl,cn x (by simp[I.aa]) b (bZ b aW),?_,aR⟩;intro j c bQ;simp only[World.cell?,aS];have au:cur[l.length+j]? =some c:=by
        rw[<-Array.getElem?_toList,cF,getElem?_append_right (by omega),getElem?_append_left (by
         have:=(List.getElem?_eq_some_iff.1 bQ).1;omega)]
        rw[<-bQ];congr 1;omega
       simpa using au
     .cases he
    .cases he
   |fn f cap=>
    simp only[view,Option.map_eq_some_iff]at he;obtain⟨ds,lV,rfl⟩:=he;rw[aQ]at aJ;obtain⟨arr,rfl,au⟩:=aJ;rw[aQ];exact⟨arr,rfl,ih.2 cap _ _ (by simp at cd;omega) (by simpa [I.aa]using cn) lV au⟩
   |hole=>simp[view]at he
   |ab y q=>simp[view]at he
   |_=>
    simp only[view,Option.some.injEq]at he;subst he;have oh:=(aQ.du rfl).1 aJ;exact(aQ.du rfl).2 ⟨oh.1,aB.mono bM _ _ _ _ (λ_ h=>h) oh.2⟩
  .cases as with
   |nil=>
    simp only[views,Option.some.injEq]at he;subst he;rw[fe]at aJ⊢;exact aJ
   |cons a as=>
    simp only[views]at he;split at he
    .rename_i d ds ad af;simp only[Option.some.injEq]at he;subst he;rw[fe]at aJ⊢;obtain⟨v,mc,rfl,g1,g2⟩:=aJ;simp at cd;simp only[I.e7,mem_append]at cn;exact⟨v,mc,rfl,ih.1 a v d (by omega) (λt a8=>cn t (.inl a8)) ad g1,ih.2 as mc ds (by omega) (λt a8=>cn t (.inr a8)) af g2⟩
    .cases he
theorem ch.kV (h:ch w0 F0 X F S s aI w) {x:Nat} {q:azt} {d0 bT:I} {dH:azw} {a:Option (Nat×Nat)} {Sn:Nat->Prop}
  (aq:I.sub q (s x)=some d0) (bK:eF w q (s x) (dd (aI x)) none=some (d0,dH,a)) (af:∀vs,bT≠.tuple vs) (a8:q=[]->bT.tree=true/\e2 bT (aI x))
  (aG:∀k p,q=k::p->(s x).tree=true/\(∀v,kj d0 v->kj bT v)) (hw:bT.wd=d0.wd)
  (aJ:aB w F bT dH Sn) (eQ:∀b,Sn b->b<w.heap.size) (bM:∀b,Sn b->¬F b) (cn:∀u b,Sn b->¬S u b) (a_:∀b,Sn b->X b\/w0.heap.size<=b):
  ch w0 F0 X F (hr S x (λb=>S x b\/Sn b)) (eu (oR x s) x (I.put q bT (s x))) aI w:=by
 have fg:eu aI x (aI x)=aI:=by funext u;simp only[eu];split<;>simp_all
 have main:(I.put q bT (s x)).tree=true/\e2 (I.put q bT (s x)) (aI x)/\aB w F (I.put q bT (s x)) (dd (aI x)) (λb=>S x b\/Sn b):=by
  cases q with
  |nil=>
   simp only[eF,Option.some.injEq,Prod.mk.injEq]at bK;obtain⟨aP,aW,aS⟩:=bK;obtain⟨g1,g2⟩:=a8 rfl;simp only[I.put];refine⟨g1,?_,?_⟩
   .exact g2
   .rw[aW];exact aB.mono (λ_ h=>h) _ _ _ _ (λb ab=>.inr ab) aJ
  |cons k p=>
   obtain⟨g1,g2⟩:=aG k p rfl;have ao:=(aQ.du g1).1 (h.eB x);obtain⟨hq,a2,fm,gy,k0,bZ,cu,dY,eb,eJ⟩:=ctx (k::p) (s x) (dd (aI x)) (S x) none d0 ao.2 aq;rw[bK]at k0;simp only[Option.some.injEq,Prod.mk.injEq,true_and]at k0;obtain⟨rfl,rfl⟩:=k0;refine⟨?_,?_,?_⟩
   .rcases xB k p bT (s x)with⟨aF,gs,aP,e⟩|⟨aF,gs,aP,e⟩|⟨sz,xs,c8,aP,e⟩|⟨y,z,aP,e⟩|e<;>rw[e]<;>first|rfl|exact g1
   .refine Ep ao.1 aq g2 (λ_ vs e=>(af vs e).elim) hw
   .have mono:∀b,(fm b\/Sn b)->(S x b\/Sn b):=λb ab=>ab.imp (bZ b) id;rcases eJ with⟨l,r,aP,aW,aS⟩|⟨b,cur,ty,fr,l,r,aP,aW,aS,cf,cF,cw⟩
    .rw[aP];exact aB.mono (λ_ h=>h) _ _ _ _ mono (aS w bT dH Sn (λ_ _=>rfl) (λ_ _=>rfl) hw aJ (λb ab au=>cn x b ab (bZ b au)))
    .refine aB.mono (λ_ h=>h) _ _ _ _ mono (cw w bT dH Sn (λ_ _=>rfl) (λ_ _ _=>rfl) ?_ hw aJ (λb ab au=>cn x b ab (bZ b au)));rw[aS,<-cF]
 have:=h.Ud (t:=x) main.1 main.2.1 main.2.2 (by rintro b (ab|ab);exact h.fG x b ab;exact eQ b ab) (by rintro b (ab|ab);exact h.gL x b ab;exact bM b ab)
  (by rintro u b eo (ab|ab);exact λhu=>h.gj u x b eo hu ab;exact cn u b ab) (by rintro b (ab|ab);exact h.e1 x b ab;exact a_ b ab)
 rwa [fg]at this
end
mutual
def I.dc:I->Bool
 | .slice _=>false
 | .ref _=>false
 | .fn _ _=>false
 | .h _ _=>false
 | .ay _ _=>false
 | .ab _ _=>false
 | .ag _ xs=>I.gN xs
 | .aM d=>d.dc
 | .agg aF=>I.gN aF
 | .tuple aF=>I.gN aF
 |_=>true
def I.gN:azy->Bool
 |[]=>true
 |d::ds=>d.dc&&I.gN ds
end
mutual
theorem aB.dc {w:World} {F cq:Nat->Prop}:∀(d:I) (cs:azw) (S:Nat->Prop),d.dc=true->aB w F d cs S->aB w cq d cs S
 | .hole,_,_,_,h=>h
 | .bool _,_,_,_,h=>h
 | .gx,_,_,_,h=>h
 | .int _ _,_,_,_,h=>h
 | .str _,_,_,_,h=>h
 | .eA,_,_,_,h=>h
 | .bf,_,_,_,h=>h
 | .slice xs,cs,S,aX,h=>by simp[I.dc]at aX
 | .ref d,cs,S,aX,h=>by simp[I.dc]at aX
 | .ag sz xs,cs,S,aX,h=>by
   rw[aB]at h⊢;rcases h with h|⟨b,cap,cur,e,fr,a7,ad,af,aG,bh,b6,dt,dj,ho,i6,lq,oQ⟩
   .exact .inl h
   .exact .inr ⟨b,cap,cur,e,fr,a7,ad,af,aG,bh,b6,dt,dj,ho,bz.dc xs _ _ aX i6,lq,oQ⟩
 | .aM d,cs,S,aX,h=>by
   rw[aB]at h⊢;obtain⟨b,cur,e,fr,a7,ad,af,aG,bh,b6,dt,dj⟩:=h;exact⟨b,cur,e,fr,a7,ad,af,aG,bh,aB.dc d _ _ aX b6,dt,dj⟩
 | .agg aF,cs,S,aX,h=>by rw[aB]at h⊢;exact bz.dc aF _ _ aX h
 | .tuple aF,cs,S,aX,h=>by rw[aB]at h⊢;exact bz.dc aF _ _ aX h
 | .fn _ _,_,_,aX,h=>by simp[I.dc]at aX
 | .h _ _,_,_,_,h=>h
 | .ay _ _,_,_,_,h=>h
 | .ab _ _,_,_,_,h=>h
 | .cj _,_,_,_,h=>h
theorem bz.dc {w:World} {F cq:Nat->Prop}:∀(ds:azy) (cs:azw) (S:Nat->Prop),I.gN ds=true->bz w F ds cs S->bz w cq ds cs S
 |[],_,_,_,h=>h
 |d::ds,cs,S,aX,h=>by
  simp only[I.gN,Bool.and_eq_true]at aX;rw[bz]at h⊢;obtain⟨ct,c2,cT,eM,ad,af,aG,bh,b6,dt⟩:=h;exact⟨ct,c2,cT,eM,ad,aB.dc d _ _ aX.1 af,bz.dc ds _ _ aX.2 aG,bh,b6,dt⟩
end
theorem Vw:∀(q:azt) (av d e:I),I.sub q av=some d->I.sub q (I.put q e av)=some e:=by
 intro q;induction q with
 |nil=>intro av d e _;simp[I.put,I.sub]
 |cons k q ih=>
  intro av d e h;cases av with
  |agg aF=>
   simp only[I.sub]at h;split at h
   .rename_i x ao;have aw:k<aF.length:=(List.getElem?_eq_some_iff.1 ao).1;simp only[I.put,ao,I.sub,getElem?_set_self aw];exact ih _ _ _ h
   .cases h
  |tuple aF=>
   simp only[I.sub]at h;split at h
   .rename_i x ao;have aw:k<aF.length:=(List.getElem?_eq_some_iff.1 ao).1;simp only[I.put,ao,I.sub,getElem?_set_self aw];exact ih _ _ _ h
   .cases h
  |ag sz aF=>
   simp only[I.sub]at h;split at h
   .rename_i x ao;have aw:k<aF.length:=(List.getElem?_eq_some_iff.1 ao).1;simp only[I.put,ao,I.sub,getElem?_set_self aw];exact ih _ _ _ h
   .cases h
  |aM x=>
   cases k with
   |zero=>simp only[I.sub]at h;simp only[I.put,I.sub];exact ih _ _ _ h
   |succ k=>simp[I.sub]at h
  |_=>simp[I.sub]at h
structure dz where
 a:I
 g:Bool
 d:I
 o:I
def I.own:I->Bool
 | .ag _ _=>true
 | .aM _=>true
 |_=>false
def I.hX:I->Bool
 | .ag _ _=>true
 | .aM _=>true
 | .cj _=>true
 | .agg aF=> !I.e_ aF
 |_=>false
def xN (d o:I):Bool:=match d,o with
 | .agg a,.agg b=>I.fc a==I.fc b
 | .agg _,_=>false
 |_,.agg _=>false
 |_,_=>true
theorem xO {d:I} (h:d.hX=true):d.plain=false/\d.tree=true/\∀vs,d≠.tuple vs:=by
 cases d<;>simp[I.hX]at h<;>first|exact⟨rfl,rfl,λvs e=>by cases e⟩|exact⟨by simp only[I.plain];exact h,rfl,λvs e=>by cases e⟩
theorem aeP {d o:I} (h:d.hX=true) (bS:o.hX=true) (hl:xN d o=true):o.wd=d.wd/\(∀v,e2 d v->e2 o v)/\∀v,kj d.ej v->kj o v:=by
 cases d<;>simp[I.hX]at h<;>cases o<;>simp[I.hX]at bS<;>simp[xN]at hl<;>first
  |exact⟨rfl,λ_ h=>h,λ_ h=>h⟩
  |exact⟨by simp only[I.wd];exact hl.symm,λ_ h=>h,λ_ h=>h⟩
def dz.ok (s:al) (p:dz):Prop:=
 if p.g then(match p.a with| .h x q=>I.sub q (s x)=some p.d/\p.d.hX=true/\(p.o= .hole\/(p.o.hX=true/\xN p.d p.o=true))|_=>False)
 else view s p.a=some p.d
def j0:List dz->Bool
 |[]=>true
 |p::r=>(r.all λdp=> !(p.g||dp.g)||(p.a.aa.all λu=> !dp.a.aa.contains u))&&j0 r
def dz.take (s:al) (p:dz):al:=
 if p.g then(match p.a with| .h x q=>eu (jB x s) x (I.put q p.d.ej (s x))|_=>s)else s
def dz.kV (s:al) (p:dz):al:=
 if p.g then(match p.a,p.o with|_,.hole=>s| .h x q,o=>eu (oR x s) x (I.put q o (s x))|_,_=>s)else s
def ga (s:al) (ps:List dz):al:=ps.foldl dz.take s
def jq (s:al) (ps:List dz):al:=ps.foldl dz.kV s
section
variable {w0 w aO:World} {F0 X F Fc:Nat->Prop} {S:Nat->Nat->Prop} {s aH:al} {aI mY:Nat->Value}
def aeQ (w:World) (F:Nat->Prop) (s1:al) (aI:Nat->Value) (p:dz) (v:Value) (Sn:Nat->Prop):Prop:=
 ∃x q a0,p.a= .h x q/\I.sub q (s1 x)=some p.d.ej/\eF w q (s1 x) (dd (aI x)) none=some (p.d.ej,dd v,a0)/\(s1 x).aa=[]/\(q=[]->e2 p.d (aI x))/\(q≠[]->(s1 x).tree=true)/\
  e2 p.d v/\aB w F p.d (dd v) Sn
theorem aeR {p:dz} {x:Nat} (h:(s x).aa=[]) (ay:p.g=true->x∉p.a.aa):dz.take s p x=s x:=by
 unfold dz.take;split
 .rename_i hg;cases bq:p.a with
  |h y q=>
   have:x≠y:=by
    have:=ay hg;rw[bq]at this;simpa [I.aa]using this
   simp only;rw[lv _ _ this];exact EV _ (by rw[h];simp)
  |_=>rfl
 .rfl
theorem NH:∀{ps:List dz} {s:al} {x:Nat},(s x).aa=[]->(∀p∈ps,p.g=true->x∉p.a.aa)->ga s ps x=s x:=by
 intro ps;induction ps with
 |nil=>intros;rfl
 |cons p ps ih=>
  intro s x h ay;have e:=aeR (s:=s) (p:=p) h (ay p (by simp));show ga (dz.take s p) ps x=s x;rw[ih (by rw[e];exact h) (λdp fw=>ay dp (by simp[fw])),e]
theorem zr {d:I} (h:d.own=true):d.plain=false/\d.tree=true/\d.ej= .hole/\d.one=true/\d.wd=1/\(∀v,e2 d v↔Value.hV v=true):=by
 cases d<;>simp[I.own]at h<;>exact⟨rfl,rfl,rfl,rfl,rfl,λv=>Iff.rfl⟩
theorem aeS:∀(ps:List dz) (vs:azw) (s:al) (S:Nat->Nat->Prop),ch w0 F0 X F S s aI w->ps.length=vs.length->
  (∀(i:Nat) (p:dz) (v:Value),ps[i]? =some p->vs[i]? =some v->p.a.plain=true/\aQ w F s aI p.a v (λ_=>False)/\(p.g=true->p.ok s))->j0 ps=true->
  ∃(Sn cT:Nat->Nat->Prop),ch w0 F0 X F cT (ga s ps) aI w/\(∀u b,cT u b->S u b)/\
   (∀(i:Nat) (p:dz) (v:Value),ps[i]? =some p->vs[i]? =some v->p.g=true->aeQ w F (ga s ps) aI p v (Sn i))/\
   (∀i b,Sn i b->∃p,ps[i]? =some p/\p.g=true)/\
   (∀i b,Sn i b->∃u,S u b)/\(∀i u b,Sn i b->¬cT u b)/\(∀i j b,i≠j->Sn i b->¬Sn j b)/\
   (∀(bT:I) (hF:Value) (a7:Nat->Prop),(∀p∈ps,p.g=true->∀u∈p.a.aa,u∉bT.aa)->aQ w F s aI bT hF a7->aQ w F (ga s ps) aI bT hF a7):=by
 intro ps;induction ps with
 |nil=>
  intro vs s S h hl _ _;exact⟨λ_ _=>False,S,h,λ_ _ h=>h,λi p v ay=>by simp at ay,λ_ _ h=>h.elim,λ_ _ h=>h.elim,λ_ _ _ h=>h.elim,λ_ _ _ _ h=>h.elim,λ_ _ _ _ h=>h⟩
 |cons p ps ih=>
  intro vs s S h hl EP nV;cases vs with
  |nil=>simp at hl
  |cons v vs=>
   simp only[length_cons,Nat.add_right_cancel_iff]at hl;simp only[j0,Bool.and_eq_true,List.all_eq_true,Bool.or_eq_true,Bool.not_eq_true']at nV;obtain⟨sR,rm⟩:=nV;have BH:∀dp∈ps,(p.g=true\/dp.g=true)->∀u∈p.a.aa,u∉dp.a.aa:=by
    intro dp fw hg u hu;rcases sR dp fw with e|e
    .rcases hg with hg|hg<;>simp[hg]at e
    .simpa using e u hu
   obtain⟨f1,f2,f3⟩:=EP 0 p v rfl rfl;cases hg:p.g with
   |false=>
    have fY:dz.take s p=s:=by simp[dz.take,hg]
    obtain⟨Sn,cT,g1,g2,g3,g4,g5,g6,g7,g8⟩:=ih vs s S h hl (λi dp hF ay aJ=>EP (i+1) dp hF (by simpa using ay) (by simpa using aJ)) rm;have aP:ga s (p::ps)=ga s ps:=by show ga (dz.take s p) ps=_;rw[fY]
    rw[aP];refine⟨λi=>match i with|0=>λ_=>False|i+1=>Sn i,cT,g1,g2,?_,?_,?_,?_,?_,λbT hF a7 aq=>g8 bT hF a7 λdp fw=>aq dp (by simp[fw])⟩
    .intro i dp hF ay aJ ja;cases i with
     |zero=>simp at ay;subst ay;rw[hg]at ja;cases ja
     |succ i=>exact g3 i dp hF (by simpa using ay) (by simpa using aJ) ja
    .intro i b ab;cases i with
     |zero=>exact ab.elim
     |succ i=>simpa using g4 i b ab
    .intro i b ab;cases i with
     |zero=>exact ab.elim
     |succ i=>exact g5 i b ab
    .intro i u b ab;cases i with
     |zero=>exact ab.elim
     |succ i=>exact g6 i u b ab
    .intro i j b eo ai bQ;cases i with
     |zero=>exact ai.elim
     |succ i=>
      cases j with
      |zero=>exact bQ.elim
      |succ j=>exact g7 i j b (by omega) ai bQ
   |true=>
    have gO:=f3 hg;simp only[dz.ok,hg,if_true]at gO;split at gO
    .rename_i x q bq;obtain⟨gf,NI,y5⟩:=gO;obtain⟨qE,nX,sS⟩:=xO NI;have vQ:dL s p.a=some (p.d,eu (jB x s) x (I.put q p.d.ej (s x))):=by
      rw[bq];simp only[dL,gf,qE];rfl
     obtain⟨cT,t1,t2,t3,aeT,t4,t5,t6,t7,t8,t9,t10,t11⟩:=sF h f1 f2 vQ;have fY:dz.take s p=eu (jB x s) x (I.put q p.d.ej (s x)):=by simp[dz.take,hg,bq]
     have uv:∀dp∈ps,x∉dp.a.aa:=λdp fw=>BH dp fw (.inl hg) x (by rw[bq];simp[I.aa]);have NJ:dz.take s p x=I.put q p.d.ej (s x):=by rw[fY,oS]
     have IL:(dz.take s p x).aa=[]:=by
      rw[NJ];exact BF q _ _ _ gf (.inl qE) (λ_=>by cases aq:p.d<;>first|rfl|(rw[aq]at NI;simp[I.hX]at NI))
     obtain⟨Sn,eM,g1,g2,g3,g4,g5,g6,g7,g8⟩:=ih vs (dz.take s p) cT (by rw[fY];exact t1) hl (by
      intro i dp hF ay aJ;obtain⟨bZ,cu,dY⟩:=EP (i+1) dp hF (by simpa using ay) (by simpa using aJ);have hm:dp∈ps:=mem_of_getElem? ay;refine⟨bZ,?_,?_⟩
      .have:=t11 _ _ _ cu;rw[bq]at this;rw[fY];simp only[I.owner,ny]at this
       rwa [EV _ (uv dp hm)]at this
      .intro ja;have:=dY ja;simp only[dz.ok,ja,if_true]at this⊢;split at this
       .rename_i y kR vR;have eo:y≠x:=λe=>uv dp hm (by rw[vR,e];simp[I.aa]);rw[fY,lv _ _ eo];have a8:=jP this.1 (.inl (xO this.2.1).1);simp only[jB,MN a8];exact this
       .exact this.elim) rm
     have aP:ga s (p::ps)=ga (dz.take s p) ps:=rfl;have xP:ga (dz.take s p) ps x=I.put q p.d.ej (s x):=by
      rw[NH IL (λdp fw _=>uv dp fw),NJ]
     rw[aP];refine⟨λi=>match i with|0=>aeT|i+1=>Sn i,eM,g1,λu b ab=>t9 u b (g2 u b ab),?_,?_,?_,?_,?_,?_⟩
     rotate_left 5
     .intro bT hF a7 aq lA;refine g8 bT hF a7 (λdp fw=>aq dp (by simp[fw])) ?_;have:=t11 _ _ _ lA;rw[bq]at this;rw[fY];simp only[I.owner,ny]at this
      rwa [EV _ (aq p (by simp) hg x (by rw[bq];simp[I.aa]))]at this
     .intro i dp hF ay aJ ja;cases i with
      |zero=>
       simp at ay aJ;subst ay aJ;have IM:=f2;rw[bq,aQ]at IM;obtain⟨dH,a0,ct,c2,c3⟩:=IM _ gf qE;refine⟨x,q,a0,bq,?_,?_,?_,?_,?_,t3,t4⟩
       .rw[xP];exact Vw q _ _ _ gf
       .rw[xP,c2];exact aeN w q _ _ _ _ _ _ _ gf (I.xA _) ct
       .rw[xP,<-NJ];exact IL
       .intro c6;subst c6;simp only[I.sub,Option.some.injEq]at gf;have:=(aQ.du (by rw[gf];exact nX)).1 (h.eB x);rw[gf]at this;exact this.1
       .intro c6;have a8:=jP gf (.inl qE);rw[xP];cases q with
        |nil=>exact(c6 rfl).elim
        |cons k q=>rcases xB k q p.d.ej (s x)with⟨aF,gs,aP,e⟩|⟨aF,gs,aP,e⟩|⟨sz,xs,c8,aP,e⟩|⟨y,z,aP,e⟩|e<;>rw[e]<;>first|rfl|exact a8
      |succ i=>exact g3 i dp hF (by simpa using ay) (by simpa using aJ) ja
     .intro i b ab;cases i with
      |zero=>exact⟨p,rfl,hg⟩
      |succ i=>simpa using g4 i b ab
     .intro i b ab;cases i with
      |zero=>exact t10 b ab
      |succ i=>obtain⟨u,hu⟩:=g5 i b ab;exact⟨u,t9 u b hu⟩
     .intro i u b ab;cases i with
      |zero=>exact λhu=>t7 u b ab (g2 u b hu)
      |succ i=>exact g6 i u b ab
     .intro i j b eo ai bQ;cases i with
      |zero=>
       cases j with
       |zero=>exact eo rfl
       |succ j=>obtain⟨u,hu⟩:=g5 j b bQ;exact t7 u b ai hu
      |succ i=>
       cases j with
       |zero=>obtain⟨u,hu⟩:=g5 i b ai;exact t7 u b bQ hu
       |succ j=>exact g7 i j b (by omega) ai bQ
    .exact gO.elim
end
def gl (l:azy):al:=λi=>l.getD i .hole
def iG (l:azw):Nat->Value:=λi=>l.getD i undef
def rn (P:Program) (f:FuncId) (args:Array Value) (w:World) (kk:Value->World->Prop):Prop:=
 ((callFunc f args).run P w= .ok (.enter f args) w/\Calls P f args w (λe aO=>∃v,e= .returned v/\kk v aO))\/
 ∃v aO,(callFunc f args).run P w= .ok (.value v) aO/\kk v aO
theorem rn.mono {P:Program} {f:FuncId} {args:Array Value} {w:World} {kk Vx:Value->World->Prop} (h:rn P f args w kk) (aR:∀v aO,kk v aO->Vx v aO):rn P f args w Vx:=by
 rcases h with⟨ad,af⟩|⟨v,aO,ad,af⟩
 .exact .inl ⟨ad,Calls.mono af λe aO ⟨v,e,h⟩=>⟨v,e,aR v aO h⟩⟩
 .exact .inr ⟨v,aO,ad,aR v aO af⟩
def aZ (C:cx) (f:FuncId) (as:azy) (r:I) (outs:azy):Prop:=
 ∀(w:World) (F X:Nat->Prop) (S:Nat->Nat->Prop) (vs:azw),vs.length=as.length->ch w F X F S (gl as) (iG vs) w->
  rn C.P f vs.toArray w λv aO=>∃cq a7,ch w F X cq a7 (gl (r::outs)) (iG (v::vs)) aO
def I.res:I->Bool
 | .h _ _=>false
 | .ay _ _=>false
 | .ab _ _=>false
 | .fn _ _=>false
 |_=>true
theorem NK {d:I} (h:d.tree=true):d.aa=[]:=by cases d<;>first|rfl|(simp[I.tree]at h)
mutual
theorem NL {s aH:al}:∀(a:I) (d:I),(∀u∈a.aa,(s u).tree=true->aH u=s u)->view s a=some d->view aH a=some d
 | .h x q,d,hu,h=>by
   have a8:(s x).tree=true:=by
    simp only[view]at h;split at h
    .rename_i e gf;cases e<;>simp only at h<;>first
      |(cases h;done)
      |(split at h
        .cases h
        .rename_i ay;exact jP gf (.inl (by simpa using ay)))
    .cases h
   simp only[view]at h⊢;rw[hu x (by simp[I.aa]) a8];exact h
 | .ay x q,d,hu,h=>by
   have a8:(s x).tree=true:=by
    simp only[view]at h;split at h
    .rename_i au;split at h
     .rename_i e gf;exact jP gf (.inr au)
     .cases h
    .cases h
   simp only[view]at h⊢;rw[hu x (by simp[I.aa]) a8];exact h
 | .ab x q,d,hu,h=>by simp[view]at h
 | .fn f cap,d,hu,h=>by
   simp only[view,Option.map_eq_some_iff]at h⊢;obtain⟨ds,ad,af⟩:=h;exact⟨ds,Vy cap ds (by simpa [I.aa]using hu) ad,af⟩
 | .hole,d,hu,h=>h
 | .bool _,d,hu,h=>h
 | .gx,d,hu,h=>h
 | .int _ _,d,hu,h=>h
 | .str _,d,hu,h=>h
 | .eA,d,hu,h=>h
 | .bf,d,hu,h=>h
 | .slice _,d,hu,h=>h
 | .ag _ _,d,hu,h=>h
 | .ref _,d,hu,h=>h
 | .aM _,d,hu,h=>h
 | .agg _,d,hu,h=>h
 | .tuple _,d,hu,h=>h
 | .cj _,d,hu,h=>h
theorem Vy {s aH:al}:∀(as:azy) (ds:azy),(∀u∈I.e7 as,(s u).tree=true->aH u=s u)->views s as=some ds->views aH as=some ds
 |[],ds,hu,h=>h
 |a::as,ds,hu,h=>by
  simp only[I.e7,mem_append]at hu;simp only[views]at h⊢;split at h
  .rename_i x y ad af;rw[NL a x (λu hm=>hu u (.inl hm)) ad,Vy as y (λu hm=>hu u (.inr hm)) af];exact h
  .cases h
end
section
variable {C:cx} {w0 w aO:World} {F0 X F Fc:Nat->Prop} {S:Nat->Nat->Prop} {s aH:al} {aI mY:Nat->Value}
def aeU (w:World) (F:Nat->Prop) (s:al) (aI:Nat->Value) (p:dz) (v:Value) (rp:Nat->Prop):Prop:=
 p.g=true->p.o= .hole\/∃x q a0 d0,p.a= .h x q/\I.sub q (s x)=some d0/\eF w q (s x) (dd (aI x)) none=some (d0,dd v,a0)/\(s x).aa=[]/\
  (q=[]->e2 p.o (aI x))/\(q≠[]->(s x).tree=true)/\p.o.hX=true/\aB w F p.o (dd v) rp/\p.o.wd=d0.wd/\∀v,kj d0 v->kj p.o v
theorem aeV:∀(ps:List dz) (vs:azw) (s:al) (S rp:Nat->Nat->Prop),ch w0 F0 X F S s aI w->ps.length=vs.length->
  (∀(i:Nat) (p:dz) (v:Value),ps[i]? =some p->vs[i]? =some v->aeU w F s aI p v (rp i))->
  (∀i b,rp i b->b<w.heap.size/\¬F b/\(X b\/w0.heap.size<=b)/\∀u,¬S u b)->(∀i j b,i≠j->rp i b->¬rp j b)->j0 ps=true->
  ∃eM,ch w0 F0 X F eM (jq s ps) aI w/\∀u b,eM u b->S u b\/∃i,rp i b:=by
 intro ps;induction ps with
 |nil=>intro vs s S rp h _ _ _ _ _;exact⟨S,h,λu b ab=>.inl ab⟩
 |cons p ps ih=>
  intro vs s S rp h hl NM ab aq nV;cases vs with
  |nil=>simp at hl
  |cons v vs=>
   simp only[length_cons,Nat.add_right_cancel_iff]at hl;simp only[j0,Bool.and_eq_true,List.all_eq_true,Bool.or_eq_true,Bool.not_eq_true']at nV;obtain⟨sR,rm⟩:=nV;have BH:∀dp∈ps,(p.g=true\/dp.g=true)->∀u∈p.a.aa,u∉dp.a.aa:=by
    intro dp fw hg u hu;rcases sR dp fw with e|e
    .rcases hg with hg|hg<;>simp[hg]at e
    .simpa using e u hu
   have skip:dz.kV s p=s->∃eM,ch w0 F0 X F eM (jq s (p::ps)) aI w/\∀u b,eM u b->S u b\/∃i,rp i b:=by
    intro fY;obtain⟨eM,g1,g2⟩:=ih vs s S (λi=>rp (i+1)) h hl (λi dp hF ay aJ=>NM (i+1) dp hF (by simpa using ay) (by simpa using aJ)) (λi b h=>ab (i+1) b h)
     (λi j b eo=>aq (i+1) (j+1) b (by omega)) rm
    refine⟨eM,?_,λu b hu=>(g2 u b hu).imp id λ⟨i,ai⟩=>⟨i+1,ai⟩⟩;show ch _ _ _ _ _ (jq (dz.kV s p) ps) _ _;rw[fY];exact g1
   cases hg:p.g with
   |false=>exact skip (by simp[dz.kV,hg])
   |true=>
    rcases NM 0 p v rfl rfl hg with bS|⟨x,q,a0,d0,bq,ct,c2,c3,c4,c5,eN,NN,hd,c9⟩
    .exact skip (by simp only[dz.kV,hg,bS,if_true])
    .obtain⟨qE,nX,xQ⟩:=xO eN;have fY:dz.kV s p=eu (oR x s) x (I.put q p.o (s x)):=by
      simp only[dz.kV,hg,if_true,bq];cases aeW:p.o<;>first|rfl|(rw[aeW]at eN;simp[I.hX]at eN)
     have step:=h.kV (x:=x) (q:=q) (bT:=p.o) ct c2 xQ (λc6=>⟨nX,c4 c6⟩) (λk r c6=>⟨c5 (by rw[c6];simp),c9⟩) hd NN
      (λb h=>(ab 0 b h).1) (λb h=>(ab 0 b h).2.1) (λu b h=>(ab 0 b h).2.2.2 u) (λb h=>(ab 0 b h).2.2.1)
     rw[<-fY]at step;obtain⟨eM,g1,g2⟩:=ih vs (dz.kV s p) _ (λi=>rp (i+1)) step hl (by
      intro i dp hF ay aJ ja;have hm:dp∈ps:=mem_of_getElem? ay;rcases NM (i+1) dp hF (by simpa using ay) (by simpa using aJ) ja with bS|⟨y,kR,J,d1,bZ,cu,dY,eb,eJ,dx,kT,fp,pr⟩
      .exact .inl bS
      .have eo:y≠x:=λe=>BH dp hm (.inl hg) x (by rw[bq];simp[I.aa]) (by rw[bZ,e];simp[I.aa]);have qx:dz.kV s p y=s y:=by
        rw[fY,lv _ _ eo];exact Nu _ (by rw[eb];simp)
       exact .inr ⟨y,kR,J,d1,bZ,by rw[qx];exact cu,by rw[qx];exact dY,by rw[qx];exact eb,eJ,by rw[qx];exact dx,kT,fp,pr⟩)
      (by
       intro i b ai;obtain⟨h3,fZ,f_,bw⟩:=ab (i+1) b ai;refine⟨h3,fZ,f_,λu hu=>?_⟩;simp only[hr]at hu;split at hu
       .rcases hu with hu|hu
        .exact bw _ hu
        .exact aq 0 (i+1) b (by omega) hu ai
       .exact bw _ hu)
      (λi j b eo=>aq (i+1) (j+1) b (by omega)) rm
     refine⟨eM,g1,λu b hu=>?_⟩;rcases g2 u b hu with hu|⟨i,ai⟩
     .simp only[hr]at hu;split at hu
      .rename_i e;subst e;exact hu.imp id λh=>⟨0,h⟩
      .exact .inl hu
     .exact .inr ⟨i+1,ai⟩
def ml (ps:List dz):Bool:=ps.any λp=> !p.g&& !p.a.aa.isEmpty
theorem Vz (h:ch w0 F0 X F S s aI w) {ps:List dz} {vs:azw} {f:FuncId} {r:I} (hl:ps.length=vs.length)
  (lA:∀(i:Nat) (p:dz) (v:Value),ps[i]? =some p->vs[i]? =some v->p.a.plain=true/\aQ w F s aI p.a v (λ_=>False))
  (gO:∀p∈ps,p.ok s) (nV:j0 ps=true) (bK:∀(Fc py:Nat->Prop) (fm:Nat->Nat->Prop),(∀b,F b->Fc b)->(∀b,py b->∃u,S u b)->ch w Fc py Fc fm (gl (ps.map (·.d))) (iG vs) w->
   rn C.P f vs.toArray w λv aO=>∃cq a7,ch w Fc py cq a7 (gl (r::ps.map (·.o))) (iG (v::vs)) aO) (aR:r.res=true)
  (aX:ml ps=true->r.dc=true/\∀p∈ps,p.o.dc=true):
  rn C.P f vs.toArray w λv aO=>∃cq a7,ch w0 F0 X cq a7 (jq (ga s ps) ps) aI aO/\og w0 X cq a7 (jq (ga s ps) ps) aI aO r v/\∀b,F b->cq b/\aO.heap[b]? =w.heap[b]? :=by
 obtain⟨Sn,cT,g1,g2,g3,g4,g5,g6,g7,g8⟩:=aeS ps vs s S h hl (λi p v ay aJ=>⟨(lA i p v ay aJ).1,(lA i p v ay aJ).2,λ_=>gO p (mem_of_getElem? ay)⟩) nV;have apart:∀(i j:Nat) (p dp:dz),ps[i]? =some p->ps[j]? =some dp->i≠j->(p.g=true\/dp.g=true)->∀u∈p.a.aa,u∉dp.a.aa:=by
  clear lA gO bK aX g1 g3 g4 g8 hl;induction ps with
  |nil=>intro i j p dp ay;simp at ay
  |cons jA ps ih=>
   simp only[j0,Bool.and_eq_true,List.all_eq_true,Bool.or_eq_true,Bool.not_eq_true']at nV;obtain⟨sR,rm⟩:=nV;have BH:∀dp∈ps,(jA.g=true\/dp.g=true)->∀u∈jA.a.aa,u∉dp.a.aa:=by
    intro dp fw hg u hu;rcases sR dp fw with e|e
    .rcases hg with hg|hg<;>simp[hg]at e
    .simpa using e u hu
   intro i j p dp ay fw eo hg u hu;cases i with
   |zero=>
    simp at ay;subst ay;cases j with
    |zero=>exact(eo rfl).elim
    |succ j=>exact BH dp (mem_of_getElem? (by simpa using fw)) hg u hu
   |succ i=>
    cases j with
    |zero=>
     simp at fw;subst fw;exact λEX=>BH p (mem_of_getElem? (by simpa using ay)) hg.symm u EX hu
    |succ j=>exact ih rm i j p dp (by simpa using ay) (by simpa using fw) (by omega) hg u hu
 let Fc:Nat->Prop:=λb=>F b\/(ml ps=true/\∃u,cT u b)
 let py:Nat->Prop:=λb=>∃i,Sn i b
 have NO:∀b,F b->¬py b:=λb bM ⟨i,ai⟩=>by obtain⟨u,hu⟩:=g5 i b ai;exact h.gL u b hu bM
 have EY:∀u b,cT u b->¬py b:=λu b hu ⟨i,ai⟩=>g6 i u b ai hu;have aE:∀b,py b->(X b\/w0.heap.size<=b)/\b<w.heap.size:=λb ⟨i,ai⟩=>by obtain⟨u,hu⟩:=g5 i b ai;exact⟨h.e1 u b hu,h.fG u b hu⟩
 have pre:ch w Fc py Fc Sn (gl (ps.map (·.d))) (iG vs) w:=by
  refine⟨λ_ h=>h,λ_ h=>.inl h,?_,λi b ai=>(aE b ⟨i,ai⟩).2,?_,λi j b eo=>g7 i j b eo,λi b ai=>.inl ⟨i,ai⟩,?_,λ_ _ _=>rfl,Nat.le_refl _,rfl,rfl,Out.refl _,h.gz.next h.size h.old λb ab=>(aE b ab).1⟩
  .rintro b (ab|⟨_,u,hu⟩)
   .exact h.gi b ab
   .exact g1.fG u b hu
  .rintro i b ai (ab|⟨_,u,hu⟩)
   .exact NO b ab ⟨i,ai⟩
   .exact g6 i u b ai hu
  .intro t;cases ay:ps[t]? with
   |none=>
    have:gl (ps.map (·.d)) t= .hole:=by simp[gl,List.getD,ay]
    rw[this,aQ];trivial
   |some p=>
    have eQ:t<vs.length:=by rw[<-hl];exact(List.getElem?_eq_some_iff.1 ay).1
    have aJ:vs[t]? =some vs[t]:=getElem?_eq_getElem eQ;have aP:gl (ps.map (·.d)) t=p.d:=by simp[gl,List.getD,ay]
    have aW:iG vs t=vs[t]:=by simp[iG,List.getD,aJ]
    rw[aP,aW];have hm:p∈ps:=mem_of_getElem? ay;have aw:=gO p hm;cases hg:p.g with
    |true=>
     obtain⟨x,q,a0,bZ,cu,dY,eb,eJ,dx,kT,fp⟩:=g3 t p _ ay aJ hg;simp only[dz.ok,hg,if_true,bZ]at aw;exact(aQ.du (xO aw.2.1).2.1).2 ⟨kT,aB.mono (λb ab=>.inl ab) _ _ _ _ (λ_ h=>h) fp⟩
    |false=>
     simp only[dz.ok,hg]at aw;obtain⟨f1,f2⟩:=lA t p _ ay aJ;have VA:∀dp∈ps,dp.g=true->∀u∈dp.a.aa,u∉p.a.aa:=by
      intro dp fw ja u hu;obtain⟨j,bQ⟩:=getElem?_of_mem fw;refine apart j t dp p bQ ay (λe=>?_) (.inl ja) u hu;subst e;rw[ay]at bQ;simp only[Option.some.injEq]at bQ;rw[bQ,ja]at hg;cases hg
     have IM:=g8 _ _ _ VA f2;have nT:view (ga s ps) p.a=some p.d:=NL _ _ (λu hu a8=>NH (NK a8) (λdp fw ja EX=>VA dp fw ja u EX hu)) (by simpa using aw);refine aQ.nothing (aeM f1 nT) ((aeO g1 (Fc:=Fc) (λb ab=>.inl ab) (SizeOf.sizeOf p.a)).1 p.a _ p.d (Nat.le_refl _) ?_ nT IM);intro u hu b ab;refine .inr ⟨?_,u,ab⟩;simp only[ml,List.any_eq_true];refine⟨p,hm,?_⟩;cases jQ:p.a.aa with
     |nil=>rw[jQ]at hu;cases hu
     |cons _ _=>simp[hg]
 refine rn.mono (bK Fc py Sn (λb ab=>.inl ab) (λb ⟨i,ai⟩=>g5 i b ai) pre) ?_;rintro v aO ⟨cq,a7,au⟩;have keep:∀b,b<w.heap.size->¬py b->aO.heap[b]? =w.heap[b]? :=au.old;let sT:Nat->Prop:=λb=>if ml ps=true then F b else cq b
 have VB:∀b,F b->cq b:=λb ab=>au.iq b (.inl ab);have BI:∀b,F b->sT b:=λb ab=>by
  simp only[sT];split
  .exact ab
  .exact VB b ab
 have vS:∀b,sT b->cq b:=λb ab=>by
  simp only[sT]at ab;split at ab
  .exact VB b ab
  .exact ab
 have VC:∀b,sT b->F b\/py b\/w.heap.size<=b:=λb ab=>by
  simp only[sT]at ab;split at ab
  .exact .inl ab
  .rename_i xJ;rcases au.iS b ab with(ab|⟨ad,_⟩)|ab|ab
   .exact .inl ab
   .exact(xJ ad).elim
   .exact .inr (.inl ab)
   .exact .inr (.inr ab)
 have mid:ch w0 F0 X sT cT (ga s ps) aI aO:=by
  refine⟨λb ab=>BI b (g1.iq b ab),?_,λb ab=>au.gi b (vS b ab),λt b ab=>Nat.lt_of_lt_of_le (g1.fG t b ab) au.size,?_,g1.gj,g1.e1,?_,?_,Nat.le_trans g1.size au.size,au.os.trans g1.os,au.tape.trans g1.tape,au.output.trans g1.output,g1.gz⟩
  .intro b ab;rcases VC b ab with ab|ab|ab
   .exact g1.iS b ab
   .rcases(aE b ab).1 with h|h
    .exact .inr (.inl h)
    .exact .inr (.inr h)
   .exact .inr (.inr (Nat.le_trans g1.size ab))
  .intro t b a8 ab;rcases VC b ab with ab|ab|ab
   .exact g1.gL t b a8 ab
   .exact EY t b a8 ab
   .exact absurd (g1.fG t b a8) (by omega)
  .intro t;exact aQ.frame (Sx:=cT) (λb ab=>keep b (h.gi b ab) (NO b ab)) BI (λx b ab=>keep b (g1.fG x b ab) (EY x b ab)) g1.eB _ _ _ (λb ab=>keep b (g1.fG t b ab) (EY t b ab)) (g1.eB t)
  .intro b ab mZ;refine(keep b (Nat.lt_of_lt_of_le ab g1.size) λao=>?_).trans (g1.old b ab mZ);rcases(aE b ao).1 with h|h
   .exact mZ h
   .omega
 have VD:∀(d:I) (cs:azw) (e1:Nat->Prop),(ml ps=true->d.dc=true)->aB aO cq d cs e1->aB aO sT d cs e1:=by
  intro d cs e1 aeX iu;by_cases hle:ml ps=true
  .exact aB.dc d cs e1 (aeX hle) iu
  .exact aB.mono (λb ab=>by simp only[sT];rw[if_neg hle];exact ab) _ _ _ _ (λ_ h=>h) iu
 have bound:∀i b,a7 i b->b<aO.heap.size/\¬sT b/\(X b\/w0.heap.size<=b)/\∀u,¬cT u b:=by
  intro i b ab;refine⟨au.fG i b ab,λbM=>au.gL i b ab (vS b bM),?_,λu hu=>?_⟩
  .rcases au.e1 i b ab with ao|ao
   .exact(aE b ao).1
   .exact .inr (Nat.le_trans g1.size ao)
  .rcases au.e1 i b ab with ao|ao
   .exact EY u b hu ao
   .exact absurd (g1.fG u b hu) (by omega)
 obtain⟨eM,bZ,cu⟩:=aeV ps vs (ga s ps) cT (λi=>a7 (i+1)) mid hl (by
  intro i p hF ay aJ hg;have hm:p∈ps:=mem_of_getElem? ay;have aw:=gO p hm;obtain⟨x,q,a0,aP,aW,aS,cf,cF,cw,cg,gk⟩:=g3 i p hF ay aJ hg;simp only[dz.ok,hg,if_true,aP]at aw;rcases aw.2.2 with bS|bS
  .exact .inl bS
  .obtain⟨h2,l2,EZ⟩:=aeP aw.2.1 bS.1 bS.2;refine .inr ⟨x,q,a0,p.d.ej,aP,aW,?_,cf,λc6=>l2 _ (cF c6),cw,bS.1,?_,h2.trans (I.xA _).symm,EZ⟩
   .cases q with
    |nil=>simpa only[eF]using aS
    |cons k q=>
     have a8:=cw (by simp);rw[Im (k::q) _ _ (cT x) none _ ((aQ.du a8).1 (g1.eB x)).2 aW (λb ab=>keep b (g1.fG x b ab) (EY x b ab))];exact aS
   .have:=au.eB (i+1);have h_:gl (r::ps.map (·.o)) (i+1)=p.o:=by simp[gl,List.getD,ay]
    have iU:iG (v::vs) (i+1)=hF:=by simp[iG,List.getD,aJ]
    rw[h_,iU]at this;exact VD _ _ _ (λhle=>(aX hle).2 p hm) ((aQ.du (xO bS.1).2.1).1 this).2)
  (λi b ab=>bound (i+1) b ab) (λi j b eo=>au.gj (i+1) (j+1) b (by omega)) nV
 refine⟨sT,eM,bZ,?_,λb ab=>⟨BI b ab,keep b (h.gi b ab) (NO b ab)⟩⟩;have a_:=au.eB 0;have h_:gl (r::ps.map (·.o)) 0=r:=rfl;have iU:iG (v::vs) 0=v:=rfl;rw[h_,iU]at a_;cases a8:r.tree with
 |false=>
  cases r<;>first
   |(simp[I.tree]at a8;done)
   |(simp[I.res]at aR;done)
   |exact .inl ⟨rfl,by rw[aQ];trivial⟩
 |true=>
  obtain⟨s1,s2⟩:=(aQ.du a8).1 a_;have px:=VD _ _ _ (λhle=>(aX hle).1) s2;refine .inr ⟨a8,s1,a7 0,px,λb ab=>(bound 0 b ab).1,λb ab=>(bound 0 b ab).2.1,λu b ab hu=>?_,λb ab=>(bound 0 b ab).2.2.1⟩;rcases cu u b hu with hu|⟨i,ai⟩
  .exact(bound 0 b ab).2.2.2 u hu
  .exact au.gj 0 (i+1) b (by omega) ab ai
theorem aeY (h:ch w0 F0 X F S s aI w) {ps:List dz} {vs:azw} {f:FuncId} {r:I} (hl:ps.length=vs.length)
  (lA:∀(i:Nat) (p:dz) (v:Value),ps[i]? =some p->vs[i]? =some v->p.a.plain=true/\aQ w F s aI p.a v (λ_=>False))
  (gO:∀p∈ps,p.ok s) (nV:j0 ps=true) (bK:aZ C f (ps.map (·.d)) r (ps.map (·.o))) (aR:r.res=true)
  (aX:ml ps=true->r.dc=true/\∀p∈ps,p.o.dc=true):
  rn C.P f vs.toArray w λv aO=>∃cq a7,ch w0 F0 X cq a7 (jq (ga s ps) ps) aI aO/\og w0 X cq a7 (jq (ga s ps) ps) aI aO r v/\∀b,F b->cq b/\aO.heap[b]? =w.heap[b]? :=
 Vz h hl lA gO nV (λFc py fm _ _ ay=>bK w Fc py fm vs (by simp[hl]) ay) aR aX
end
structure cC where
 dst:Option Nat
 b8:e6
 guard:Option (Nat×Bool)
def E0 (ops:Array Oper):Option (Nat×Bool)->Option (Option (Nat×Bool))
 |none=>some none
 |some (j,b)=>match(ops[j]?).bind (·.dst)with
  |some t=>some (some (t,b))
  |none=>none
structure Fr where
 n:Nat
 fx:azt
def om (n:Fr):Option Nat->Bool
 |none=>true
 |some t=>decide (t<n.n)&& !n.fx.contains t
def sU (op:Op):e6:=match dJ op with
 |some b8=>b8
 |none=>.bad
def uw (n:Fr) (ops:Array Oper) (o:Oper):Option cC:=
 if om n o.dst=true then match E0 ops o.guard with
  |some g=>some ⟨o.dst,sU o.op,g⟩
  |none=>none
 else none
def ux (n:Fr) (ops:Array Oper):List Oper->Option (List cC)
 |[]=>some []
 |o::os=>match uw n ops o,ux n ops os with
  |some r,some rs=>some (r::rs)
  |_,_=>none
def NP (C:cx) (s:al) (f:bC) (args:List bC) (K:I->al->Prop):Prop:=
 ∃(g:FuncId) (caps:azy) (ps:List dz) (r:I),bA s f= .fn g caps/\I.e_ caps=true/\ps.map (·.a)=args.map (bA s)++caps/\(∀p∈ps,p.ok s)/\j0 ps=true/\
   aZ C g (ps.map (·.d)) r (ps.map (·.o))/\r.res=true/\(ml ps=true->r.dc=true/\∀p∈ps,p.o.dc=true)/\K r (jq (ga s ps) ps)
mutual
def I.gP (s:al):I->Bool
 | .h x q=>q.isEmpty&&(s x).own
 | .ab x _=> !(s x).plain
 | .ay _ _=>false
 | .hole=>true
 | .fn _ cap=>I.rq s cap
 |d=>d.plain
def I.rq (s:al):azy->Bool
 |[]=>true
 |d::ds=>d.gP s&&I.rq s ds
end
def p2 (s:al):azx->al
 |[]=>s
 |p::L=>p2 (eu s p.1 p.2) L
def oo (s:al):azx->Bool
 |[]=>true
 |p::L=>p.2.gP s&&oo s L
def lB (s:al) (us:azt):azx:=us.map λu=>(u,s u)
def rr (C:cx) (s:al) (b8:e6) (K:I->al->Prop):Prop:=
 match b8 with
 | .call f args=>∃(g:FuncId) (caps:azy) (ps:List dz) (r:I),bA s f= .fn g caps/\I.e_ caps=true/\ps.map (·.a)=args.map (bA s)++caps/\(∀p∈ps,p.ok s)/\j0 ps=true/\
   aZ C g (ps.map (·.d)) r (ps.map (·.o))/\r.res=true/\(ml ps=true->r.dc=true/\∀p∈ps,p.o.dc=true)/\K r (jq (ga s ps) ps)
 | .shr b8=>∃av s1,cl C s b8=some (av,s1)/\av.tree=true/\(∀vs,av≠.tuple vs)/\K av.share s1
 | .nd f args us=>oo s (lB s us)=true/\NP C s f args λav s1=>oo s1 (lB s us)=true/\K av (p2 s1 (lB s us))
 |b8=>∃av s1,cl C s b8=some (av,s1)/\K av s1
theorem IP {C:cx} {s:al} {b8:e6} {K eK:I->al->Prop} (h:rr C s b8 K) (aw:∀av s,K av s->eK av s):rr C s b8 eK:=by
 cases b8 with
 |call f args=>
  obtain⟨g,caps,ps,r,ad,ic,af,aG,bh,b6,dt,dj,ho⟩:=h;exact⟨g,caps,ps,r,ad,ic,af,aG,bh,b6,dt,dj,aw _ _ ho⟩
 |shr b8=>
  obtain⟨av,s1,ad,af,aG,bh⟩:=h;exact⟨av,s1,ad,af,aG,aw _ _ bh⟩
 |nd f args us=>
  obtain⟨cu,g,caps,ps,r,ad,ic,af,aG,bh,b6,dt,dj,ho,i6⟩:=h;exact⟨cu,g,caps,ps,r,ad,ic,af,aG,bh,b6,dt,dj,ho,aw _ _ i6⟩
 |_=>
  obtain⟨av,s1,ad,af⟩:=h;exact⟨av,s1,ad,aw _ _ af⟩
def oW (C:cx) (s:al) (o:cC) (K:al->Prop):Prop:=
 match o.guard with
 |none=>rr C s o.b8 λav s1=>K (fin s1 o.dst av)
 |some (t,b)=>match s t with
  | .bool gW=>if gW=b then rr C s o.b8 (λav s1=>K (fin s1 o.dst av))else K (fin s o.dst (.tuple []))
  | .tuple []=>K (fin s o.dst (.tuple []))
  |_=>False
def oq (C:cx) (s:al):List cC->(al->Prop)->Prop
 |[],K=>K s
 |o::os,K=>oW C s o λs1=>oq C s1 os K
def kW (C:cx) (ros:List cC) (s:al):azt->(al->Prop)->Prop
 |[],K=>K s
 |i::l,K=>match ros[i]? with
  |none=>kW C ros s l K
  |some o=>oW C s o λs1=>kW C ros s1 l K
theorem aeZ (C:cx) (K:al->Prop):∀(rs pre:List cC) (s:al),oq C s rs K->kW C (pre++rs) s ((range rs.length).map (·+pre.length)) K:=by
 intro rs;induction rs with
 |nil=>intro pre s h;exact h
 |cons r rs ih=>
  intro pre s h;rw[length_cons,range_succ_eq_map,map_cons,List.map_map];simp only[kW,Nat.zero_add];rw[getElem?_append_right (Nat.le_refl _)];simp only[Nat.sub_self,getElem?_cons_zero];have key:∀s1,oq C s1 rs K->kW C (pre++r::rs) s1 ((range rs.length).map ((λx=>x+pre.length)∘succ)) K:=by
   intro s1 ad;have:=ih (pre++[r]) s1 ad;simp only[append_assoc,singleton_append,length_append,length_singleton]at this;have e:((λx=>x+pre.length)∘succ)=λx=>x+(pre.length+1):=by funext x;simp;omega
   rw[e];exact this
  simp only[oq]at h;unfold oW at h⊢;split
  .rename_i hg;rw[hg]at h;exact IP h λav s1=>key _
  .rename_i t b hg;rw[hg]at h;simp only at h;split
   .rename_i gW aa;rw[aa]at h;simp only at h;split
    .rename_i ab;rw[if_pos ab]at h;exact IP h λav s1=>key _
    .rename_i ab;rw[if_neg ab]at h;exact key _ h
   .rename_i aa;rw[aa]at h;exact key _ h
   .rename_i ad af;split at h
    .exact ad _ (by assumption)
    .exact af (by assumption)
    .exact h
structure Rel (w0:World) (F0 X:Nat->Prop) (n:Fr) (ρ:Nat->Value) (s:al) (a:Act) (w:World):Prop where
 defers:a.defers=[]
 size:a.tmps.size=n.n
 fixed:∀i∈n.fx,a.tmps.getD i undef=ρ i
 rel:∃F S,ch w0 F0 X F S s (λt=>a.tmps.getD t undef) w
section
variable {C:cx} {w0 w:World} {F0 X:Nat->Prop} {n:Fr} {ρ:Nat->Value} {s s1:al} {a:Act} {av:I} {Q:Exit->Act->World->Prop}
theorem E1 {dst:Option Nat} (v:Value) (aa:a.tmps.size=n.n) (aq:om n dst=true):
  (λt=>(a.put dst v).tmps.getD t undef)=qw (λt=>a.tmps.getD t undef) dst v/\(a.put dst v).tmps.size=n.n/\(a.put dst v).defers=a.defers:=by
 cases dst with
 |none=>exact⟨rfl,aa,rfl⟩
 |some d=>
  simp only[om,Bool.and_eq_true,decide_eq_true_eq]at aq;refine⟨?_,by simp[Act.put,aa],rfl⟩;funext t;simp only[Act.put,qw,eu,Array.getD_eq_getD_getElem?];by_cases h:t=d
  .subst h;rw[if_pos rfl,Array.getElem?_setIfInBounds_self_of_lt (by omega)];rfl
  .rw[if_neg h,Array.getElem?_setIfInBounds_ne (λe=>h e.symm)]
theorem Rel.put {F S} (aq:a.defers=[]) (aa:a.tmps.size=n.n) (bK:∀i∈n.fx,a.tmps.getD i undef=ρ i) {aO:World} (aR:ch w0 F0 X F S s (λt=>a.tmps.getD t undef) aO) {v:Value} (aJ:og w0 X F S s (λt=>a.tmps.getD t undef) aO av v)
  {dst:Option Nat} (gO:om n dst=true):Rel w0 F0 X n ρ (fin s dst av) (a.put dst v) aO:=by
 obtain⟨aP,aW,aS⟩:=E1 (n:=n) (dst:=dst) v aa gO;obtain⟨a7,bI⟩:=aR.fin aJ dst;refine⟨aS.trans aq,aW,λi ai=>?_,F,a7,by rw[aP];exact bI⟩;rw[congrFun aP i];cases dst with
 |none=>exact bK i ai
 |some d=>
  simp only[om,Bool.and_eq_true,Bool.not_eq_true',contains_eq_mem,decide_eq_false_iff_not]at gO;have eo:i≠d:=λe=>gO.2 (by rw[<-e];exact ai);simp only[qw];rw[lv _ _ eo];exact bK i ai
theorem Rel.skip (h:Rel w0 F0 X n ρ s a w) {dst:Option Nat} (gO:om n dst=true):Rel w0 F0 X n ρ (fin s dst (.tuple [])) (a.put dst undef) w:=by
 obtain⟨aq,aa,bK,F,S,aR⟩:=h;refine Rel.put (av:=.tuple []) aq aa bK aR (.inl ⟨rfl,(aQ.du (d:=.tuple []) rfl).2 ⟨?_,?_⟩⟩) gO
 .exact⟨#[],rfl,rfl,λk d x aw=>by simp at aw⟩
 .rw[aB,bz];rfl
theorem VE {F:Nat->Prop} {aI:Nat->Value} {w:World}:∀{ds es:azy} {vs us:azw},fe w F s aI ds vs->fe w F s aI es us->fe w F s aI (ds++es) (vs++us):=by
 intro ds;induction ds with
 |nil=>intro es vs us ad af;rw[fe]at ad;subst ad;exact af
 |cons d ds ih=>
  intro es vs us ad af;rw[fe]at ad;obtain⟨v,mc,rfl,g1,g2⟩:=ad;rw[cons_append,cons_append,fe];exact⟨v,_,rfl,g1,ih g2 af⟩
theorem VF {F:Nat->Prop} {aI:Nat->Value} {w:World}:∀{ds:azy} {vs:azw},fe w F s aI ds vs->ds.length=vs.length/\∀(i:Nat) (d:I) (v:Value),ds[i]? =some d->vs[i]? =some v->aQ w F s aI d v (λ_=>False):=by
 intro ds;induction ds with
 |nil=>intro vs h;rw[fe]at h;subst h;exact⟨rfl,λi d v h=>by simp at h⟩
 |cons d ds ih=>
  intro vs h;rw[fe]at h;obtain⟨v,mc,rfl,g1,g2⟩:=h;obtain⟨bZ,cu⟩:=ih g2;refine⟨by simp[bZ],λi bT hF aq aJ=>?_⟩;cases i with
  |zero=>simp at aq aJ;subst aq aJ;exact g1
  |succ i=>exact cu i bT hF (by simpa using aq) (by simpa using aJ)
theorem sV {op:Op} {b8:e6} (h:sU op=b8):b8= .bad\/dJ op=some b8:=by
 unfold sU at h;split at h
 .subst h;right;assumption
 .exact .inl h.symm
theorem ae0 {op:Op} {b8:e6}:dJ op≠some (.shr b8):=by
 intro h;unfold dJ at h;split at h<;>(try split at h)<;>(try split at h)<;>(try split at h)<;>(try simp[Option.map_eq_some_iff]at h)
theorem ae1 {op:Op} {f:bC} {args:List bC} {us:azt}:dJ op≠some (.nd f args us):=by
 intro h;unfold dJ at h;split at h<;>(try split at h)<;>(try split at h)<;>(try split at h)<;>(try simp[Option.map_eq_some_iff]at h)
theorem ae2 {op:Op} {T:TypeId} {x:bC}:dJ op≠some (.mf T x):=by
 intro h;unfold dJ at h;split at h<;>(try split at h)<;>(try split at h)<;>(try split at h)<;>(try simp[Option.map_eq_some_iff]at h)
theorem ae3 {op:Op} {x:bC}:dJ op≠some (.p0 x):=by
 intro h;unfold dJ at h;split at h<;>(try split at h)<;>(try split at h)<;>(try split at h)<;>(try simp[Option.map_eq_some_iff]at h)
theorem ae4 {op:Op} {x:bC}:dJ op≠some (.pv x):=by
 intro h;unfold dJ at h;split at h<;>(try split at h)<;>(try split at h)<;>(try split at h)<;>(try simp[Option.map_eq_some_iff]at h)
theorem ae5 {op:Op} {x:bC} (h:dJ op=some (.gY x)):∃da,op= .move da/\eR da=some x:=by
 unfold dJ at h;split at h<;>(try split at h)<;>(try split at h)<;>(try split at h)<;>(try simp[Option.map_eq_some_iff]at h)
 exact⟨_,rfl,h⟩
theorem ae6 {op:Op} {x:bC} (h:dJ op=some (.h5 x)):∃da,op= .assign da/\eR da=some x:=by
 unfold dJ at h;split at h<;>(try split at h)<;>(try split at h)<;>(try split at h)<;>(try simp[Option.map_eq_some_iff]at h)
 exact⟨_,rfl,h⟩
theorem ch.alias {F:Nat->Prop} {S:Nat->Nat->Prop} {aI:Nat->Value} {u x:Nat} (h:ch w0 F0 X F S s aI w) (hu:s u= .hole) (ao:(s x).own=true) (aJ:dd (aI u)=dd (aI x)) (ad:Value.hV (aI u)=true):
  ch w0 F0 X F (hr S u (λ_=>False)) (eu s u (.h x [])) aI w:=by
 have fg:eu aI u (aI u)=aI:=by funext y;simp only[eu];split<;>simp_all
 have:=h.Bp (t:=u) (d:=.h x []) (v:=aI u) rfl (by
  rw[aQ];intro d aq ay;simp only[I.sub,Option.some.injEq]at aq;subst aq;exact⟨dd (aI x),none,rfl,aJ,((zr ao).2.2.2.2.2 _).2 ad⟩)
 rwa [fg]at this
theorem og.less {F:Nat->Prop} {S a7:Nat->Nat->Prop} {aI:Nat->Value} {s1:al} {v:Value} (cn:∀u b,a7 u b->S u b) (aR:av.res=true) (h:og w0 X F S s aI w av v):og w0 X F a7 s1 aI w av v:=by
 rcases h with⟨ad,af⟩|⟨ad,af,Sn,aG,bh,b6,dt,dj⟩
 .refine .inl ⟨ad,?_⟩;cases av<;>first
   |(simp[I.res]at aR;done)
   |(rw[aQ];trivial)
   |(rw[aQ]at af⊢;exact af)
 .exact .inr ⟨ad,af,Sn,aG,bh,b6,λu b ab hu=>dt u b ab (cn u b hu),dj⟩
theorem VG (bW:C.fN) (h:Rel w0 F0 X n ρ s a w) {o:Oper} {f:bC} {args:List bC} (dk:dJ o.op=some (.call f args)) (aq:om n o.dst=true) {K:I->al->Prop} {L:al->Prop} {next:Act->World->Prop}
  (hw:NP C s f args K) (nD:∀F S cq a7 w aO av s1 v,ch w0 F0 X F S s (λt=>a.tmps.getD t undef) w->K av s1->av.res=true->ch w0 F0 X cq a7 s1 (λt=>a.tmps.getD t undef) aO->og w0 X cq a7 s1 (λt=>a.tmps.getD t undef) aO av v->(∀b,F b->cq b/\aO.heap[b]? =w.heap[b]?)->
   ∃s2 eM,L (fin s2 o.dst av)/\ch w0 F0 X cq eM s2 (λt=>a.tmps.getD t undef) aO/\og w0 X cq eM s2 (λt=>a.tmps.getD t undef) aO av v)
  (aX:∀aH dF aO,L aH->Rel w0 F0 X n ρ aH dF aO->next dF aO):o.wp C.P a w next Q:=by
 have sW:=h;obtain⟨k9,fo,jC,F,S,aR⟩:=h;obtain⟨g,caps,ps,r,ad,ic,af,aG,bh,b6,dt,dj,ho⟩:=hw;obtain⟨dst,op,ty,pos,after,guard⟩:=o;simp only at dk aq nD;cases op with
 |call c=>
  obtain⟨callee,p3,argTypes⟩:=c;simp only[dJ]at dk;split at dk
  .split at dk
   .rename_i E2 _ _ ae7 xs bK uv;simp only[Option.some.injEq,e6.call.injEq]at dk;obtain⟨rfl,rfl⟩:=dk;obtain⟨f1,f2⟩:=gI aR (λ_=>rfl) bK;rw[ad,aQ]at f2;obtain⟨arr,f3,f4⟩:=f2;have E3:execOp a.eval {dst,op:=.call {callee:=.value E2,args:=p3,argTypes},type:=ty,pos,after,guard}=callFunc g ((p3.toList.map a.eval++arr.toList).toArray):=by
     have:a.eval E2= .func (.func g) #[] arr:=f3;simp only[execOp,resolve,this,Deferred.ofValue,pure_bind,invoke];congr 1;apply Array.ext';simp
    unfold Oper.wp;rw[E3];have E4:fe w F s (λt=>a.tmps.getD t undef) (xs.map (bA s)++caps) (p3.toList.map a.eval++arr.toList):=VE (IJ aR (λ_=>rfl) _ _ (zo uv)) f4;rw[<-af]at E4;obtain⟨h2,l2⟩:=VF E4;have fO:∀d∈xs.map (bA s)++caps,d.plain=true:=by
     intro d aq;rcases mem_append.1 aq with aq|aq
     .obtain⟨x,ao,rfl⟩:=mem_map.1 aq;exact Uj s x λav e=>by
       subst e;have hm:=zo uv;have:some (bC.c av)∈xs.map some:=mem_map.2 ⟨_,ao,rfl⟩;rw[<-hm]at this;obtain⟨o,_,bS⟩:=mem_map.1 this;cases o with
       |const v=>simp only[eR,Option.map_eq_some_iff]at bS;obtain⟨c,au,e⟩:=bS;cases e;exact MW au
       |tmp n=>simp[eR]at bS
       |func g=>simp[eR]at bS
       |global g=>simp[eR]at bS
     .obtain⟨k,aw⟩:=getElem?_of_mem aq;exact Il ic aw
    have NQ:=aeY (C:=C) aR (ps:=ps) (vs:=p3.toList.map a.eval++arr.toList) (f:=g) (r:=r) (by simpa using h2)
     (λi p v ay aJ=>⟨fO p.a (by rw[<-af];exact mem_map.2 ⟨p,mem_of_getElem? ay,rfl⟩),l2 i p.a v (by simp[ay]) aJ⟩) aG bh b6 dt dj
    rcases NQ with⟨en,bd⟩|⟨v,aO,en,cq,a7,bd,c_,bR⟩
    .rw[en,Oper.upon_enter];refine Calls.mono bd ?_;rintro e aO ⟨v,rfl,cq,a7,bZ,cu,dY⟩;obtain⟨s2,eM,m1,m2,m3⟩:=nD _ _ _ _ _ _ _ _ _ aR ho dt bZ cu dY;exact aX _ _ _ m1 (Rel.put k9 fo jC m2 m3 aq)
    .rw[en,Oper.upon_value];obtain⟨s2,eM,m1,m2,m3⟩:=nD _ _ _ _ _ _ _ _ _ aR ho dt bd c_ bR;exact aX _ _ _ m1 (Rel.put k9 fo jC m2 m3 aq)
   .cases dk
  .split at dk
   .simp only[Option.map_eq_some_iff]at dk;obtain⟨_,_,dk⟩:=dk;cases dk
   .cases dk
  .split at dk
   .simp only[Option.map_eq_some_iff]at dk;obtain⟨_,_,dk⟩:=dk;cases dk
   .cases dk
  iterate 3
   .split at dk
    .split at dk<;>cases dk
    .cases dk
  .cases dk
 |makeFunc fn first cs=>
  cases fn<;>simp only[dJ]at dk<;>first|(cases dk;done)|(split at dk<;>simp at dk)
 |slice T x fS ai fz=>
  cases fz<;>simp only[dJ]at dk<;>first|(cases dk;done)|(split at dk<;>simp at dk)
 |makeMap T r=>cases r<;>simp only[dJ]at dk<;>simp at dk
 |lookup T x i c=>cases c<;>simp only[dJ]at dk<;>first|(cases dk;done)|(split at dk<;>simp at dk)
 |_=>simp only[dJ]at dk<;>first|(cases dk;done)|(simp at dk;done)|(split at dk<;>simp at dk)
theorem ae8 (bW:C.fN) (h:Rel w0 F0 X n ρ s a w) {o:Oper} {b8:e6} (dk:dJ o.op=some b8) (aq:om n o.dst=true) {K:al->Prop} {next:Act->World->Prop}
  (hw:rr C s b8 λav s1=>K (fin s1 o.dst av)) (aX:∀aH dF aO,K aH->Rel w0 F0 X n ρ aH dF aO->next dF aO):o.wp C.P a w next Q:=by
 have sW:=h;obtain⟨k9,fo,jC,F,S,aR⟩:=h;have plain:∀av s1,cl C s b8=some (av,s1)->K (fin s1 o.dst av)->o.wp C.P a w next Q:=by
  intro av s1 he aw;obtain⟨r,aO,v,cq,a7,ad,af,aG,bh⟩:=Vb (a:=a) bW aR (λ_=>rfl) dk he;unfold Oper.wp;rw[ad];rcases af with rfl|⟨rfl,rfl⟩
  .exact aX _ _ _ aw (Rel.put k9 fo jC aG bh aq)
  .exact aX _ _ _ aw (Rel.put k9 fo jC aG bh aq)
 cases b8 with
 |shr b8=>exact(ae0 dk).elim
 |call f args=>exact VG bW ⟨k9,fo,jC,F,S,aR⟩ dk aq (K:=λav s1=>K (fin s1 o.dst av)) hw (λ_ _ _ a7 _ _ _ s1 _ _ af _ aG bh _=>⟨s1,a7,af,aG,bh⟩) aX
 |nd f args L=>exact(ae1 dk).elim
 |mf T x=>exact(ae2 dk).elim
 |p0 x=>exact(ae3 dk).elim
 |pv x=>exact(ae4 dk).elim
 |_=>
  obtain⟨av,s1,he,aw⟩:=hw;exact plain av s1 he aw
theorem og.share {F:Nat->Prop} {S:Nat->Nat->Prop} {aI:Nat->Value} {v:Value} (h:ch w0 F0 X F S s aI w) (aJ:og w0 X F S s aI w av v) (a8:av.tree=true) (aX:∀vs,av≠.tuple vs):
  ∃cq,ch w0 F0 X cq S s aI w/\og w0 X cq S s aI w av.share v:=by
 obtain⟨Sn,ia,gX,jm,jR,uh,E5⟩:∃Sn:Nat->Prop,e2 av v/\aB w F av (dd v) Sn/\(∀b,Sn b->b<w.heap.size)/\(∀b,Sn b->¬F b)/\(∀u b,Sn b->¬S u b)/\(∀b,Sn b->X b\/w0.heap.size<=b):=by
  rcases aJ with⟨ad,af⟩|⟨_,af,Sn,aG,bh,b6,dt,dj⟩
  .rw[aQ.du a8]at af;exact⟨λ_=>False,af.1,af.2,λ_ h=>h.elim,λ_ h=>h.elim,λ_ _ h=>h.elim,λ_ h=>h.elim⟩
  .exact⟨Sn,af,aG,bh,b6,dt,dj⟩
 refine⟨λb=>F b\/Sn b,?_,.inl ⟨ND av,?_⟩⟩
 .exact {
   iq:=λb ab=>.inl (h.iq b ab)
   iS:=λb ab=>by
    rcases ab with ab|ab
    .exact h.iS b ab
    .exact .inr (E5 b ab)
   gi:=λb ab=>ab.elim (h.gi b) (jm b)
   fG:=h.fG
   gL:=λt b ab bK=>bK.elim (h.gL t b ab) (λaa=>uh t b aa ab)
   gj:=h.gj
   e1:=h.e1
   eB:=λt=>aQ.frame (λ_ _=>rfl) (λb ab=>.inl ab) (λ_ _ _=>rfl) h.eB _ _ _ (λ_ _=>rfl) (h.eB t)
   old:=h.old
   size:=h.size
   os:=h.os
   tape:=h.tape
   output:=h.output
   gz:=h.gz}
 .by_cases bS:∃o,av= .cj o
  .obtain⟨o,rfl⟩:=bS;rw[I.share,aQ];trivial
  have xR:av.share.tree=true:=by cases av<;>first|exact a8|rfl|exact(bS ⟨_,rfl⟩).elim
  rw[aQ.du xR];exact⟨NG aX ia,aB.shared (λb ab=>.inl ab) av _ Sn (λb ab=>.inr ab) gX⟩
theorem ae9 {op:Op} {T:TypeId} {x:bC} (h:dJ op=some (.iF T x)):∃a,op= .box T a/\eR a=some x:=by
 cases op with
 |box NR a=>
  simp only[dJ,Option.map_eq_some_iff,e6.iF.injEq]at h;obtain⟨y,hy,rfl,rfl⟩:=h;exact⟨a,rfl,hy⟩
 |_=>
  exfalso;unfold dJ at h;split at h<;>(try split at h)<;>(try split at h)<;>(try split at h)<;>(try simp[Option.map_eq_some_iff]at h)<;>contradiction
theorem ae_ {aO:World} {F cq:Nat->Prop} {s s1:al} {aI:Nat->Value} (bM:∀b,F b->cq b/\aO.heap[b]? =w.heap[b]?):∀(n:Nat),
  (∀(d:I) (v:Value) (S:Nat->Prop),SizeOf.sizeOf d<=n->d.gP s=true->d.gP s1=true->aQ w F s aI d v S->aQ aO cq s1 aI d v (λ_=>False))/\
  (∀(ds:azy) (vs:azw),SizeOf.sizeOf ds<=n->I.rq s ds=true->I.rq s1 ds=true->fe w F s aI ds vs->fe aO cq s1 aI ds vs):=by
 intro n;induction n with
 |zero=>
  refine⟨λd v S cd=>?_,λds vs cd=>?_⟩
  .cases d<;>simp at cd<;>omega
  .cases ds<;>simp at cd<;>omega
 |succ n ih=>
  refine⟨λd v S cd bZ cu h=>?_,λds vs cd bZ cu h=>?_⟩
  .cases d with
   |hole=>rw[aQ];trivial
   |h x q=>
    simp only[I.gP,Bool.and_eq_true,isEmpty_iff]at bZ cu;obtain⟨rfl,bZ⟩:=bZ;rw[aQ]at h⊢;obtain⟨dH,a,hc,i7,ki⟩:=h (s x) (by simp only[I.sub]) (zr bZ).1;simp only[eF,Option.some.injEq,Prod.mk.injEq,true_and]at hc;intro d aq _;simp only[I.sub,Option.some.injEq]at aq;subst aq;exact⟨dd (aI x),none,by simp only[eF],by rw[i7,<-hc.1],((zr cu.2).2.2.2.2.2 _).2 (((zr bZ).2.2.2.2.2 _).1 ki)⟩
   |ay x q=>simp[I.gP]at bZ
   |ab x k=>
    simp only[I.gP,Bool.not_eq_true']at bZ;rw[aQ]at h⊢;obtain⟨b,cur,e,fr,ad,af,aG,bh⟩:=h bZ;exact λ_=>⟨b,cur,e,fr,ad,(bM b af).1,(bM b af).2.trans aG,bh⟩
   |fn f cap=>
    simp only[I.gP]at bZ cu;rw[aQ]at h⊢;obtain⟨arr,rfl,au⟩:=h;exact⟨arr,rfl,ih.2 _ _ (by simp at cd;omega) bZ cu au⟩
   |_=>
    simp only[I.gP]at bZ;have bI:=(aQ.du rfl).1 h;exact(aQ.du rfl).2 ⟨bI.1,aB.mono (λb ab=>(bM b ab).1) _ _ _ _ (λ_ h=>h) (aB.frame (λb ab=>(bM b ab).2) _ _ _ (λ_ h=>h.elim) (aB.plain _ _ _ _ bZ bI.2))⟩
  .cases ds with
   |nil=>rw[fe]at h⊢;exact h
   |cons d ds=>
    simp only[I.rq,Bool.and_eq_true]at bZ cu;rw[fe]at h⊢;obtain⟨v,mc,rfl,ad,af⟩:=h;simp at cd;exact⟨v,mc,rfl,ih.1 _ _ _ (by omega) bZ.1 cu.1 ad,ih.2 _ _ (by omega) bZ.2 cu.2 af⟩
theorem afa {s:al} {d:I} (h:d.gP s=true):d.plain=true:=by
 cases d<;>first|rfl|(simpa [I.gP]using h)
theorem ch.p2 {F:Nat->Prop} {aI:Nat->Value}:∀(L:azx) (s:al) (S:Nat->Nat->Prop),ch w0 F0 X F S s aI w->(∀p∈L,p.2.plain=true/\aQ w F s aI p.2 (aI p.1) (λ_=>False))->
  ∃a7,ch w0 F0 X F a7 (ep.p2 s L) aI w/\∀u b,a7 u b->S u b:=by
 intro L;induction L with
 |nil=>intro s S h _;exact⟨S,h,λ_ _ h=>h⟩
 |cons p L ih=>
  intro s S h nD;obtain⟨ad,af⟩:=nD p (by simp);have fg:eu aI p.1 (aI p.1)=aI:=by funext u;simp only[eu];split<;>simp_all
  have aG:=h.Bp (t:=p.1) ad af;rw[fg]at aG;have iR:∀x,x≠p.1->(eu s p.1 p.2 x).tree=true->eu s p.1 p.2 x=s x/\aI x=aI x:=λx ao _=>⟨lv _ _ ao,rfl⟩
  obtain⟨a7,g1,g2⟩:=ih _ _ aG (λq c6=>⟨(nD q (by simp[c6])).1,(aQ.void (t:=p.1) iR (by rw[oS];exact ad) _).1 _ _ _ (Nat.le_refl _) (nD q (by simp[c6])).2⟩);refine⟨a7,g1,λu b ab=>?_⟩;have:=g2 u b ab;simp only[hr]at this;split at this
  .exact this.elim
  .exact this
theorem NS {s:al}:∀{L:azx},oo s L=true->∀p∈L,p.2.gP s=true
 |q::L,ad,p,ay=>by
  simp only[oo,Bool.and_eq_true]at ad;rcases mem_cons.1 ay with rfl|ay
  .exact ad.1
  .exact NS ad.2 p ay
theorem afb {s:al} {us:azt} {p:Nat×I} (h:p∈lB s us):p.1∈us/\s p.1=p.2:=by
 obtain⟨u,hu,rfl⟩:=mem_map.1 h;exact⟨hu,rfl⟩
theorem afc (bW:C.fN) (h:Rel w0 F0 X n ρ s a w) {o:Oper} {b8:e6} (dk:sU o.op=b8.base) (aq:om n o.dst=true) {K:al->Prop} {next:Act->World->Prop}
  (hw:rr C s b8 λav s1=>K (fin s1 o.dst av)) (aX:∀aH dF aO,K aH->Rel w0 F0 X n ρ aH dF aO->next dF aO):o.wp C.P a w next Q:=by
 cases b8 with
 |shr b8=>
  obtain⟨av,s1,he,a8,nW,aw⟩:=hw;rcases sV dk with dk|dk
  .change b8= .bad at dk;subst dk;cases he
  obtain⟨k9,fo,jC,F,S,aR⟩:=h;obtain⟨r,aO,v,cq,a7,ad,af,aG,bh⟩:=Vb (a:=a) bW aR (λ_=>rfl) dk he;obtain⟨vS,g3,g4⟩:=og.share aG bh a8 nW;unfold Oper.wp;rw[ad];rcases af with rfl|⟨rfl,rfl⟩
  .exact aX _ _ _ aw (Rel.put k9 fo jC g3 g4 aq)
  .exact aX _ _ _ aw (Rel.put k9 fo jC g3 g4 aq)
 |bad=>obtain⟨av,s1,he,_⟩:=hw;cases he
 |nd f args L=>
  obtain⟨aW,hw⟩:=hw;rcases sV dk with ab|ab
  .cases ab
  .refine VG bW h ab aq hw ?_ aX;rintro F S cq a7 w aO av s1 v ia ⟨gX,jR⟩ uh E5 NT afd;obtain⟨eM,g1,g2⟩:=E5.p2 (lB s L) s1 a7 (λp ay=>by
    have en:=(afb ay).2;have bd:=NS aW p ay;have c_:=NS gX p ay;refine⟨afa bd,(ae_ afd _).1 _ _ (S p.1) (Nat.le_refl _) bd c_ ?_⟩;have:=ia.eB p.1;rw[en]at this;exact this)
   exact⟨_,eM,jR,g1,NT.less g2 uh⟩
 |mf T x=>
  obtain⟨av,s1,he,aw⟩:=hw;rcases sV dk with ab|ab
  .cases ab
  .obtain⟨da,xS,ao⟩:=ae9 ab;obtain⟨k9,fo,jC,F,S,aR⟩:=h;obtain⟨dst,op,ty,pos,after,guard⟩:=o;simp only at xS aq aw;subst xS;obtain⟨r,aO,v,cq,a7,ad,af,aG,bh⟩:Next C w0 F0 X (λt=>a.tmps.getD t undef) w (execOp a.eval ⟨dst,.box T da,ty,pos,after,guard⟩) av s1:=(adl (T:=T) aR (gI aR (λ_=>rfl) ao).2 he).next;unfold Oper.wp;rw[ad];rcases af with rfl|⟨rfl,rfl⟩
   .exact aX _ _ _ aw (Rel.put k9 fo jC aG bh aq)
   .exact aX _ _ _ aw (Rel.put k9 fo jC aG bh aq)
 |pv x=>
  obtain⟨av,s1,he,aw⟩:=hw;rcases sV dk with ab|ab
  .cases ab
  .obtain⟨da,xS,ao⟩:=ae5 ab;obtain⟨k9,fo,jC,F,S,aR⟩:=h;obtain⟨dst,op,ty,pos,after,guard⟩:=o;simp only at xS aq aw;subst xS;simp only[cl]at he;obtain⟨g1,g2⟩:=gI aR (λ_=>rfl) ao;obtain⟨r,aO,v,cq,a7,ad,af,aG,bh⟩:Next C w0 F0 X (λt=>a.tmps.getD t undef) w (execOp a.eval ⟨dst,.move da,ty,pos,after,guard⟩) av s1:=by
    unfold uq at he;split at he
    .rename_i y q hy;rw[hy]at g1 g2;obtain⟨cT,k0,bZ,cu,Sn,dY,eb,eJ,dx,kT,_⟩:=sF aR g1 g2 he;exact⟨_,w,_,F,cT,rfl,.inl rfl,k0,.inr ⟨bZ,cu,Sn,dY,eb,eJ,dx,kT⟩⟩
    .simp only[Option.some.injEq,Prod.mk.injEq]at he;obtain⟨rfl,rfl⟩:=he;exact⟨_,w,_,F,S,rfl,.inl rfl,aR,.inl ⟨g1,g2⟩⟩
   unfold Oper.wp;rw[ad];rcases af with rfl|⟨rfl,rfl⟩
   .exact aX _ _ _ aw (Rel.put k9 fo jC aG bh aq)
   .exact aX _ _ _ aw (Rel.put k9 fo jC aG bh aq)
 |p0 x=>
  obtain⟨av,s1,he,aw⟩:=hw;rcases sV dk with ab|ab
  .cases ab
  .obtain⟨da,xS,ao⟩:=ae6 ab;obtain⟨k9,fo,jC,F,S,aR⟩:=h;obtain⟨dst,op,ty,pos,after,guard⟩:=o;simp only at xS aq aw;subst xS;simp only[cl,Option.some.injEq,Prod.mk.injEq]at he;obtain⟨rfl,rfl⟩:=he;obtain⟨g1,g2⟩:=gI aR (λ_=>rfl) ao;obtain⟨r,aO,v,cq,a7,ad,af,aG,bh⟩:Next C w0 F0 X (λt=>a.tmps.getD t undef) w (execOp a.eval ⟨dst,.assign da,ty,pos,after,guard⟩) (bA s x) s:=⟨_,w,_,F,S,rfl,.inl rfl,aR,.inl ⟨g1,g2⟩⟩
   unfold Oper.wp;rw[ad];rcases af with rfl|⟨rfl,rfl⟩
   .exact aX _ _ _ aw (Rel.put k9 fo jC aG bh aq)
   .exact aX _ _ _ aw (Rel.put k9 fo jC aG bh aq)
 |_=>
  rcases sV dk with ab|ab
  .cases ab
  .exact ae8 bW h ab aq hw aX
end
end Go.ep
