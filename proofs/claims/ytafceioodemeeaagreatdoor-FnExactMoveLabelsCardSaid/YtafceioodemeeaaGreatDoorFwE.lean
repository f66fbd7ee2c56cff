/- Part of a proof that a law is true. No condition. -/
import Derived.Test.YtafceioodemeeaaGreatDoorFwA
import Derived.Laws.Tables
import Derived.Orders
import Derived.KernelRfl
import Derived.Below
import Derived.ChangeShapes
import Derived.ChangeMaps5
import Derived.LaidLaws
import Derived.Lib.LaidTab
import Derived.Lib.ItoaNum
import Derived.LaidSub
namespace Go.en
open List Go.IntKind Nat Or
section
variable {C:cu} {w0 w:World} {F0 X F:Nat->Prop} {S:Nat->Nat->Prop} {s s1:an} {aD:Nat->Value} {av:I}
theorem Nv (z:aAi):∀n,(range (n*z.length)).map (λi=>z[i%z.length]!)=(replicate n z).flatten
 |0=>by simp
 |n+1=>by
  rw[Nat.add_mul,Nat.one_mul,range_add,map_append,Nv z n,replicate_succ',flatten_append];congr 1;simp only[List.map_map,flatten_cons,flatten_nil,append_nil];apply ext_getElem
  .simp
  .intro i h1 af;have aj:i<z.length:=af;simp[mod_eq_of_lt aj,aj]
theorem br.replicate {d:I} {cs:aAi} (h:∀aY,az w F d cs aY):∀n aY,br w F (replicate n d) (replicate n cs).flatten aY
 |0,aY=>by simp only[replicate_zero,flatten_nil];rw[br]
 |n+1,aY=>by
  rw[replicate_succ,replicate_succ,flatten_cons,br];exact⟨cs,_,λ_=>False,λ_=>False,rfl,h _,br.replicate h n _,λ_ h=>h.elim,λ_ h=>h.elim,λ_ h=>h.elim⟩
def fi (C:cu) (T:TypeId) (l c:I):Option I:=
 match(C.T T).k,l,c with
 | .slice e,.int .i64 n,.int .i64 m=>if n=m/\0<=n/\(C.T e).ok=true/\(C.T e).zero.wd=(C.T e).sz/\(flat (C.T e).zero).isSome=true/\(C.T e).sz≠0/\(C.T e).bytes*n<=140737488355328/\n<=9223372036854775807 then
   some (.ag (C.T e).sz (replicate n.toNat (C.T e).zero))else none
 |_,_,_=>none
theorem ae2 (bU:C.Ok) (h:ca w0 F0 X F S s aD w) {T:TypeId} {l c:I} {Vs Vt:Value} (hl:aQ w F s aD l Vs (λ_=>False)) (au:aQ w F s aD c Vt (λ_=>False)) (he:fi C T l c=some av):
  Good C w0 F0 X aD w (Instr.makeSlice T Vs Vt) av s:=by
 unfold fi at he;split at he
 .rename_i e n m hk;have:=qN hl;subst this;have:=qN au;subst this;obtain⟨Vh,d,Vi,aK,aT,aU,b_,cY,cv,cd⟩:=bU.info (hs hk (by simp));rw[hk]at cd;have:=o1 cd;subst this;split at he
  .rename_i EL;obtain⟨rfl,aV,vS,zy,zz,eX,ax8,zB⟩:=EL;simp only[Option.some.injEq]at he;subst he;obtain⟨i,Vj,z,f1,f2,f3,f4,f5,f6,f7⟩:=bU.info vS;obtain⟨ia,qP⟩:=Option.isSome_iff_exists.1 zz;have zA:=f5 ia qP;have hb:∀aY,az w F (C.T e).zero ia aY:=λaY=>(az.flat _).1 _ ia aY (Nat.le_refl _) qP;have xQ:ia.length=(C.T e).sz:=by rw[az.length _ _ _ (hb (λ_=>False)),zy]
   obtain⟨n,rfl⟩:=Int.eq_ofNat_of_zero_le aV;simp only[Int.toNat_natCast];have Vu:i64.wrap (n:Int)=n:=by
    rw[wrap_i64];omega
   have IW:∀k (w:World),(askRoom k).run C.P w= .ok () w:=by
    intro k w;unfold askRoom;split<;>rfl
   have sP:((Array.range (n*(C.T e).sz)).map (ia.toArray[·%ia.toArray.size]!)).toList=(replicate n ia).flatten:=by
    have:=Nv ia n;rw[xQ]at this;simpa [xQ]using this
   have eA:¬(281474976710656<(i.bytes:Int)*n):=by
    rw[f3];omega
   have Vv:¬((n:Int)<0):=by omega
   have run:(Instr.makeSlice T (.int .i64 n) (.int .i64 n)).run C.P w= .ok (.slice (some ⟨w.heap.size,0,none⟩) n n)
     (w.alloc (.cells (if n*(C.T e).sz=0 then(Array.range (n*(C.T e).sz)).map (λ_=>default)else(Array.range (n*(C.T e).sz)).map (ia.toArray[·%ia.toArray.size]!)) e)):=by
    by_cases a7:n*(C.T e).sz=0
    .simp[Instr.makeSlice,run_underlying cv,asInt,asIntOf,EH f1,Vu,eA,Vv,IW,nx f1,f2,a7,newRow]
    .simp only[a7,if_false];simp[Instr.makeSlice,run_underlying cv,asInt,asIntOf,EH f1,Vu,eA,Vv,IW,nx f1,f2,a7,newRow,zn f1 f4,zA]
   have p6:(if n*(C.T e).sz=0 then(Array.range (n*(C.T e).sz)).map (λ_=>(default:Value))else(Array.range (n*(C.T e).sz)).map (ia.toArray[·%ia.toArray.size]!)).toList=(replicate n ia).flatten:=by
    split
    .rename_i a7;have:n=0:=by
      rcases mul_eq_zero.1 a7 with h|h
      .exact h
      .exact(eX h).elim
     subst this;simp
    .exact sP
   generalize EX:(if n*(C.T e).sz=0 then(Array.range (n*(C.T e).sz)).map (λ_=>(default:Value))else(Array.range (n*(C.T e).sz)).map (ia.toArray[·%ia.toArray.size]!))=cur at run p6;have kB:(replicate n ia).flatten.length=n*(C.T e).sz:=by simp[xQ]
   have hM:cur.size=n*(C.T e).sz:=by
    have:cur.size=cur.toList.length:=by simp
    rw[this,p6,kB]
   have o3:=h.IP (aJ:=w.alloc (.cells cur e)) (sz:=(C.T e).sz) (cap:=n) (xs:=replicate n (C.T e).zero) (cur:=cur) (e:=e) (fr:=(0,0)) (Sn:=λ_=>False) rfl rfl rfl ⟨rfl,λ_=>Nat.le_refl _⟩
    (λo _ ⟨_,af⟩=>absurd af (not_lt_zero _)) (by simp) (by unfold maxLen;omega) hM (by intro d ao;rw[eq_of_mem_replicate ao];exact zy)
    (by rw[p6,length_replicate,take_of_length_le (by rw[kB];exact Nat.le_refl _)];exact br.replicate hb n _) (λ_ h=>h.elim) (λ_ h=>h.elim) (λ_ _ h=>h.elim) (λ_ h=>h.elim)
   rw[length_replicate]at o3;exact⟨_,_,F,S,run,o3.1,o3.2⟩
  .cases he
 .cases he
def p9 (s:an) (f:FuncId) (cs:List bA):Option I:=some (.fn f (cs.map (bx s)))
theorem I2 {a:Act} (h:ca w0 F0 X F S s aD w) (fe:∀t,aD t=a.tmps.getD t undef):∀(os:List Operand) (xs:List bA),os.map eH=xs.map some->e7 w F s aD (xs.map (bx s)) (os.map a.eval)
 |[],[],_=>by simp only[map_nil];rw[e7]
 |[],x::xs,h=>by simp at h
 |o::os,[],h=>by simp at h
 |o::os,x::xs,bL=>by
  simp only[map_cons,cons.injEq]at bL⊢;rw[e7];exact⟨_,_,rfl,(gu h fe bL.1).2,I2 h fe os xs bL.2⟩
theorem Vw:∀(vs:aAi) (k off:Nat) (A:Array Value) (l m r:aAi),A.toList=l++(m++r)->l.length=off+k->m.length=vs.length->
  ((vs.zipIdx k).foldl (λcs (x:Value×Nat)=>cs.setIfInBounds (off+x.2) x.1) A).toList=l++(vs++r)
 |[],k,off,A,l,m,r,jh,hl,hm=>by
  have:m=[]:=by simpa using hm
  subst this;simpa using jh
 |v::vs,k,off,A,l,m,r,jh,hl,hm=>by
  obtain⟨x,m,rfl⟩:∃x jT,m=x::jT:=by
   cases m with
   |nil=>simp at hm
   |cons x m=>exact⟨x,m,rfl⟩
  rw[zipIdx_cons,foldl_cons];have:=Vw vs (k+1) off (A.setIfInBounds (off+k) v) (l++[v]) m r (by
   rw[Array.toList_setIfInBounds,jh,<-hl,set_append_right _ _ (Nat.le_refl _)];simp) (by simp;omega) (by simpa using hm)
  simpa using this
def nZ (os:List (Option Nat)) (a:I):I:=os.foldl (λa o=>nw o a) a
def eK (place:Nat->Option (Nat×Nat)):an->aAk->List (Option Nat)->aAj->Option (aAk×an)
 |s,zs,_,[]=>some (zs,s)
 |s,zs,os,(k,a)::r=>match dG s (nZ os a),place k,zs[k]? with
  |some (d,s1),some (off,n),some z=>match d with
   | .tuple _=>none
   |d=>if d.wd=n/\z.wd=n/\I.e_ (zs.take k)=off then eK place s1 (zs.set k d) (os++[(nZ os a).owner]) r else none
  |_,_,_=>none
def rI (w:World) (F:Nat->Prop) (s:an) (aD:Nat->Value):aAj->List (Nat×Value)->Prop
 |[],[]=>True
 |(k,a)::r,(dr,v)::jf=>k=dr/\a.plain=true/\aQ w F s aD a v (λ_=>False)/\rI w F s aD r jf
 |_,_=>False
theorem ae3 (x:Nat):∀d:I,d.plain=true->(cU x d).plain=true
 | .h y q,_=>by simp only[cU];split<;>(try split)<;>rfl
 | .aw y q,_=>by simp only[cU];split<;>rfl
 | .ab y q,_=>rfl
 | .fn f c,_=>by simp only[cU];rfl
 | .hole,h=>h
 | .bool _,h=>h
 | .gq,h=>h
 | .int _ _,h=>h
 | .str _,h=>h
 | .et,h=>h
 | .bf,h=>h
 | .slice _,h=>h
 | .ag _ _,h=>h
 | .ref _,h=>h
 | .aP _,h=>h
 | .agg _,h=>h
 | .tuple _,h=>h
theorem ae4 (o:Option Nat) (d:I) (h:d.plain=true):(nw o d).plain=true:=by
 cases o with
 |none=>exact h
 |some x=>exact ae3 x d h
theorem rI.cU {w:World} {F:Nat->Prop} {s s1:an} {aD:Nat->Value} {o:Option Nat} (aw:∀(bN:I) (hj:Value) (aY:Nat->Prop),aQ w F s aD bN hj aY->aQ w F s1 aD (nw o bN) hj aY):
  ∀(r:aAj) (jf:List (Nat×Value)),rI w F s aD r jf->rI w F s1 aD (r.map λp=>(p.1,nw o p.2)) jf
 |[],[],_=>trivial
 |(k,a)::r,(dr,v)::jf,h=>by
  obtain⟨h1,af,ay,a_⟩:=h;exact⟨h1,ae4 _ _ af,aw _ _ _ ay,rI.cU aw r jf a_⟩
 |[],_::_,h=>h.elim
 |_::_,[],h=>h.elim
theorem Nw {place:Nat->Option (Nat×Nat)}:∀(ps:aAj) (vs:List (Nat×Value)) (os:List (Option Nat)) (s:an) (S:Nat->Nat->Prop) (zs:aAk) (A:Array Value) (jq:Nat->Prop),
  ca w0 F0 X F S s aD w->rI w F s aD (ps.map λp=>(p.1,nZ os p.2)) vs->br w F zs A.toList jq->(∀b,jq b->b<w.heap.size)->(∀b,jq b->¬F b)->(∀u b,jq b->¬S u b)->(∀b,jq b->X b\/w0.heap.size<=b)->
  ∀ds s1,eK place s zs os ps=some (ds,s1)->∃pE cL h8,Instr.fill place A vs=some pE/\ca w0 F0 X F cL s1 aD w/\br w F ds pE.toList h8/\(∀b,h8 b->b<w.heap.size)/\(∀b,h8 b->¬F b)/\(∀u b,h8 b->¬cL u b)/\
   (∀b,h8 b->X b\/w0.heap.size<=b)/\ds.length=zs.length/\I.e_ ds=I.e_ zs/\(∀n,(∀d∈zs,d.wd=n)->∀d∈ds,d.wd=n)
 |[],[],os,s,S,zs,A,jq,h,_,h1,af,ay,a_,b1,ds,s1,he=>by
  simp only[eK,Option.some.injEq,Prod.mk.injEq]at he;obtain⟨rfl,rfl⟩:=he;exact⟨A,S,jq,rfl,h,h1,af,ay,a_,b1,rfl,rfl,λ_ h=>h⟩
 |(k,a)::ps,(dr,v)::vs,os,s,S,zs,A,jq,h,aw,h1,af,ay,a_,b1,ds,s1,he=>by
  obtain⟨rfl,mT,sN,EY⟩:=aw;simp only[eK]at he;split at he
  .rename_i d BL off n z a6 fL b3;have key:∀d:I,(∀aG,d≠.tuple aG)->dG s (nZ os a)=some (d,BL)->(if d.wd=n/\z.wd=n/\I.e_ (zs.take k)=off then eK place BL (zs.set k d) (os++[(nZ os a).owner]) ps else none)=some (ds,s1)->
     ∃pE cL h8,Instr.fill place A ((k,v)::vs)=some pE/\ca w0 F0 X F cL s1 aD w/\br w F ds pE.toList h8/\(∀b,h8 b->b<w.heap.size)/\(∀b,h8 b->¬F b)/\(∀u b,h8 b->¬cL u b)/\
     (∀b,h8 b->X b\/w0.heap.size<=b)/\ds.length=zs.length/\I.e_ ds=I.e_ zs/\(∀n,(∀d∈zs,d.wd=n)->∀d∈ds,d.wd=n):=by
    intro d vO a6 he;split at he
    .rename_i au;obtain⟨nA,lq,Vx⟩:=au;obtain⟨cL,g0,g1,g2,Sn,g3,g4,g5,g6,g7,g8,g9,g10⟩:=rv h mT sN a6;obtain⟨c1,gY,c2,Sx,jE,jh,jr,gO,iX,kd,hi,pv⟩:=br.pick zs _ _ k z h1 b3;have sP:=EK g2 vO;have pF:=az.length _ _ _ g3;have Vy:=az.length _ _ _ hi;have xL:=pv w d (cZ v) Sn (λ_ _=>rfl) (λ_ _=>rfl) g3 (λb ae5 ae6=>by obtain⟨u,hu⟩:=g9 b ae5;exact a_ u b (gO b ae6) hu);have Vz:=Vw (cZ v) 0 off A c1 gY c2 jh (by rw[jr,Vx];rfl) (by rw[Vy,pF,nA,lq]);generalize EZ:((cZ v).zipIdx 0).foldl (λcs (x:Value×Nat)=>cs.setIfInBounds (off+x.2) x.1) A=pA at Vz;obtain⟨pE,eG,h8,m1,m2,m3,m4,m5,m6,m7,m8,m9,m10⟩:=Nw (place:=place) ps vs (os++[(nZ os a).owner]) BL cL (zs.set k d) pA (λb=>Sx b\/Sn b) g0 (by have:=rI.cU g10 _ _ EY;simpa [nZ,foldl_append,Function.comp_def]using this) (by rw[Vz];exact xL)
      (by rintro b (ab|ab);exact af b (gO b ab);exact g4 b ab) (by rintro b (ab|ab);exact ay b (gO b ab);exact g5 b ab)
      (by rintro u b (ab|ab);exact λhu=>a_ u b (gO b ab) (g8 u b hu);exact g6 u b ab) (by rintro b (ab|ab);exact b1 b (gO b ab);exact g7 b ab) ds s1 he
     refine⟨pE,eG,h8,?_,m2,m3,m4,m5,m6,m7,by rw[m8];simp,by rw[m9];exact MI _ _ _ _ b3 (by rw[nA,lq]),?_⟩
     .have Nx:off+n<=A.size:=by
       have:A.size=A.toList.length:=by simp
       rw[this,jh];simp[jr,Vx,Vy,lq]
      simp only[Instr.fill,fL,sP,List.size_toArray,pF,nA];have nU:¬(n≠n\/A.size<off+n):=by omega
      have ae7:(cZ v).toArray.zipIdx.foldl (λcs (x:Value×Nat)=>cs.setIfInBounds (off+x.2) x.1) A=pA:=by
       rw[<-EZ,<-Array.foldl_toList];simp
      simp only[ne_eq,not_true_eq_false,decide_false,Bool.false_or,decide_eq_true_eq,gt_iff_lt];rw[if_neg (by simp;omega)];rw[show(cZ v).toArray.zipIdx.foldl (λcs x=>match x with|(c,j)=>cs.setIfInBounds (off+j) c) A=pA from ae7];exact m1
     .intro Ny xT;refine m10 Ny (MJ xT ?_);rw[nA,<-lq];exact xT z (mem_of_getElem? b3)
    .cases he
   split at he
   .cases he
   .rename_i vO;exact key _ (λaG e=>vO aG e) a6 he
  .cases he
 |[],_::_,_,_,_,_,_,_,_,aw,_,_,_,_,_,_,_,_=>aw.elim
 |_::_,[],_,_,_,_,_,_,_,aw,_,_,_,_,_,_,_,_=>aw.elim
def gB (C:cu) (s:an) (T:TypeId) (ps:aAj):Option (I×an):=
 match(C.T T).k,(C.T T).zero with
 | .struct aG,.agg zs=>if(flat (.agg zs)).isSome=true/\(∀f∈aG,(C.T f.1).ok=true)then
   (match eK (λk=>(aG[k]?).map λf=>(f.2,(C.T f.1).sz)) s zs [] ps with
   |some (ds,s1)=>some (.agg ds,s1)
   |none=>none)else none
 |_,_=>none
def dM (C:cu) (s:an) (T:TypeId) (n:Nat) (ps:aAj):Option (I×an):=
 match(C.T T).k with
 | .slice e=>if(C.T e).ok=true/\(C.T e).zero.wd=(C.T e).sz/\(flat (C.T e).zero).isSome=true/\(C.T e).sz≠0/\n*(C.T e).sz<=16777216 then
   (match eK (λk=>some (k*(C.T e).sz,(C.T e).sz)) s (replicate n (C.T e).zero) [] ps with
   |some (ds,s1)=>some (.ag (C.T e).sz ds,s1)
   |none=>none)else none
 |_=>none
theorem ae8 (bU:C.Ok):∀(gs:List Field),(∀g∈gs,(C.T g.type).ok=true)->
  gs.mapM (λf=>(C.P.info? f.type).map λi=>(f.offset,i.size))=some (gs.map λg=>(g.offset,(C.T g.type).sz)):=by
 intro gs;induction gs with
 |nil=>intro _;simp
 |cons g gs ih=>
  intro hg;obtain⟨i,d,z,f1,f2,f3,f4,f5,f6,f7⟩:=bU.info (hg g (by simp));have:=ih (λg iY=>hg g (by simp[iY]));simp[mapM_cons,f1,f2,this]
theorem ae9 (bU:C.Ok) (h:ca w0 F0 X F S s aD w) {T:TypeId} {ps:aAj} {vs:List (Nat×Value)} (aw:rI w F s aD ps vs) (he:gB C s T ps=some (av,s1)):
  Good C w0 F0 X aD w (Instr.build T vs.toArray) av s1:=by
 unfold gB at he;split at he
 .rename_i aG zs hk b3;split at he
  .rename_i au;obtain⟨zz,ae_⟩:=au;split at he
   .rename_i ds s2 kB;simp only[Option.some.injEq,Prod.mk.injEq]at he;obtain⟨rfl,rfl⟩:=he;obtain⟨i,d,z,aK,aT,aU,b_,cY,cv,cd⟩:=bU.info (hs hk (by simp));rw[hk]at cd;obtain⟨gs,rfl,VA⟩:=EG cd;obtain⟨ia,qP⟩:=Option.isSome_iff_exists.1 zz;have zA:=cY ia (by rw[b3];exact qP);have hb:br w F zs ia.toArray.toList (λ_=>False):=by
     have:=(az.flat (w:=w) (F:=F) _).1 (.agg zs) ia (λ_=>False) (Nat.le_refl _) qP;rw[az]at this;simpa using this
    have fj:rI w F s aD (ps.map λp=>(p.1,nZ [] p.2)) vs:=by simpa [nZ]using aw
    obtain⟨pE,cL,h8,m1,m2,m3,m4,m5,m6,m7,m8,m9,m10⟩:=Nw ps vs [] s S zs ia.toArray (λ_=>False) h fj hb (λ_ h=>h.elim) (λ_ h=>h.elim) (λ_ _ h=>h.elim) (λ_ h=>h.elim) ds s2 kB;have fL:=ae8 bU gs.toList (λg hg=>ae_ (g.type,g.offset) (by rw[<-VA];exact List.mem_map_of_mem hg));have afa:(λ(k:Nat)=>(aG[k]?).map λ(f:TypeId×Nat)=>(f.2,(C.T f.1).sz))=λ(k:Nat)=>((gs.toList.map λg=>(g.offset,(C.T g.type).sz)).toArray)[k]? :=by
     funext k;rw[<-VA];simp only[getElem?_map,getElem?_toArray,Option.map_map];rfl
    rw[afa]at m1;refine⟨.agg pE,w,F,cL,run_build w T vs.toArray pE ?_,m2,.inr ⟨rfl,⟨_,rfl⟩,h8,by simp only[cZ,jd];rw[az];exact m3,m4,m5,m6,m7⟩⟩;unfold Program.built;simp only[aK,cv,b_,fL,zA];exact m1
   .cases he
  .cases he
 .cases he
theorem afb (bU:C.Ok) (h:ca w0 F0 X F S s aD w) {T:TypeId} {n:Nat} {ps:aAj} {vs:List (Nat×Value)} (aw:rI w F s aD ps vs) (he:dM C s T n ps=some (av,s1)):
  Good C w0 F0 X aD w (Instr.buildSlice T n vs.toArray) av s1:=by
 unfold dM at he;split at he
 .rename_i e hk;split at he
  .rename_i au;obtain⟨vS,zy,zz,eX,ax9⟩:=au;split at he
   .rename_i ds s2 kB;simp only[Option.some.injEq,Prod.mk.injEq]at he;obtain⟨rfl,rfl⟩:=he;obtain⟨Vh,d,Vi,aK,aT,aU,b_,cY,cv,cd⟩:=bU.info (hs hk (by simp));rw[hk]at cd;have:=o1 cd;subst this;obtain⟨i,Vj,z,f1,f2,f3,f4,f5,f6,f7⟩:=bU.info vS;obtain⟨ia,qP⟩:=Option.isSome_iff_exists.1 zz;have zA:=f5 ia qP;have hb:∀aY,az w F (C.T e).zero ia aY:=λaY=>(az.flat _).1 _ ia aY (Nat.le_refl _) qP;have xQ:ia.length=(C.T e).sz:=by rw[az.length _ _ _ (hb (λ_=>False)),zy]
    generalize jh:((Array.range (n*(C.T e).sz)).map ((if n*(C.T e).sz=0 then #[]else ia.toArray)[·%(if n*(C.T e).sz=0 then(#[]:Array Value)else ia.toArray).size]!))=A;have Nx:A.toList=(replicate n ia).flatten:=by
     rw[<-jh];by_cases a7:n*(C.T e).sz=0
     .have:n=0:=by
       rcases mul_eq_zero.1 a7 with h|h
       .exact h
       .exact(eX h).elim
      subst this;simp
     .simp only[a7,if_false];have:=Nv ia n;rw[xQ]at this;simpa [xQ]using this
    have fj:rI w F s aD (ps.map λp=>(p.1,nZ [] p.2)) vs:=by simpa [nZ]using aw
    obtain⟨pE,cL,h8,m1,m2,m3,m4,m5,m6,m7,m8,m9,m10⟩:=Nw ps vs [] s S (replicate n (C.T e).zero) A (λ_=>False) h fj (by rw[Nx];exact br.replicate hb n _) (λ_ h=>h.elim) (λ_ h=>h.elim) (λ_ _ h=>h.elim) (λ_ h=>h.elim) ds s2 kB;have hlen:ds.length=n:=by rw[m8];simp
    have VB:=m10 (C.T e).sz (by intro d ao;rw[eq_of_mem_replicate ao];exact zy);have afc:pE.toList.length=n*(C.T e).sz:=by rw[br.zx m3 VB,hlen]
    have afd:pE.size=n*(C.T e).sz:=by rw[<-afc];simp
    have ax_:n<=16777216:=by
     have:n*1<=n*(C.T e).sz:=mul_le_mul_left _ (by omega);omega
    have o3:=m2.IP (aJ:=w.alloc (.cells pE e)) (sz:=(C.T e).sz) (cap:=n) (xs:=ds) (cur:=pE) (e:=e) (fr:=(0,0)) (Sn:=h8) rfl rfl rfl ⟨rfl,λ_=>Nat.le_refl _⟩
     (λo _ ⟨_,af⟩=>absurd af (not_lt_zero _)) (by omega) (by unfold maxLen;omega) afd VB (by rw[hlen,take_of_length_le (by omega)];exact m3) m4 m5 m6 m7
    rw[hlen]at o3;refine⟨_,_,F,cL,?_,o3.1,o3.2⟩;by_cases a7:n*(C.T e).sz=0
    .simp only[a7,if_true]at jh;have BM:(Array.map (λ_=>(default:Value)) (Array.range 0))=A:=by
      have:n=0:=by
       rcases mul_eq_zero.1 a7 with h|h
       .exact h
       .exact(eX h).elim
      apply Array.ext';rw[Nx,this];simp
     simp[Instr.buildSlice,run_underlying cv,nx f1,f2,a7,newRow];rw[BM,m1];simp
    .simp only[a7,if_false]at jh;have nU:¬(16777216<n*(C.T e).sz):=by omega
     simp[Instr.buildSlice,run_underlying cv,nx f1,f2,a7,nU,zn f1 f4,zA,newRow];have BM:(Array.map (λx=>ia[x%ia.length]?.getD default) (Array.range (n*(C.T e).sz)))=A:=by
      rw[<-jh];simp
     rw[BM,m1];simp
   .cases he
  .cases he
 .cases he
end
inductive e2 where
 |ht (x:bA)
 |hN (x:bA)
 |pick (c a b:bA)
 |mR (T:TypeId)
 |ir (T:TypeId) (x:bA)
 |gB (T:TypeId) (ps:List (Nat×bA))
 |dM (T:TypeId) (n:Nat) (ps:List (Nat×bA))
 |ld (T:TypeId) (x:bA)
 |k3 (T:TypeId) (x y:bA)
 |mA (x:bA)
 |eP (op:BinOp) (T:TypeId) (x y:bA)
 |un (op:UnOp) (x:bA)
 |k5 (A B:TypeId) (x:bA)
 |p9 (f:FuncId) (cs:List bA)
 |fi (T:TypeId) (l c:bA)
 |iJ (T:TypeId) (x:bA) (fP aj:Option bA)
 |hV (T:TypeId) (x:bA) (k:Nat)
 |kg (T:TypeId) (x i:bA)
 |idx (T:TypeId) (x i:bA)
 |ex (x:bA) (k:Nat)
 |pB (T:TypeId) (x:bA) (k:Nat)
 |call (f:bA) (args:List bA)
 |len (T:TypeId) (x:bA)
 |app (T dZ:TypeId) (x y:bA)
 |shr (b4:e2)
 |cap (T:TypeId) (x:bA)
 |kQ (fp:Bool) (x y:bA)
 |bad
 |mU (f:bA) (args:List bA) (us:aAf)
 |mg (T:TypeId) (x:bA)
 |p_ (x:bA)
 |pG (x:bA)
 |ext (x:bA) (k:Nat)
 |sU
 |jU (T:TypeId) (x i:bA)
 |k6 (T:TypeId) (x i v:bA)
def e2.base:e2->e2
 | .shr b4=>b4
 | .mU f args _=>.call f args
 | .mg T x=>.ir T x
 | .p_ x=>.hN x
 | .pG x=>.ht x
 | .ext x k=>.ex x k
 |b4=>b4
def sV:List Operand->Option (List bA)
 |[]=>some []
 |o::os=>match eH o,sV os with
  |some x,some xs=>some (x::xs)
  |_,_=>none
def BN:List (Nat×Operand)->Option (List (Nat×bA))
 |[]=>some []
 |(k,o)::os=>match eH o,BN os with
  |some x,some xs=>some ((k,x)::xs)
  |_,_=>none
def E0:Option Operand->Option (Option bA)
 |none=>some none
 |some o=>(eH o).map some
def dv:Op->Option e2
 | .move x=>(eH x).map .ht
 | .assign x=>(eH x).map .hN
 | .pick c a b=>match eH c,eH a,eH b with
   |some c,some a,some b=>some (.pick c a b)
   |_,_,_=>none
 | .alloc T=>some (.mR T)
 | .box T x=>(eH x).map (.ir T)
 | .build T ps=>(BN ps.toList).map (.gB T)
 | .buildSlice T n ps=>(BN ps.toList).map (.dM T n)
 | .load T x=>(eH x).map (.ld T)
 | .store T x y=>match eH x,eH y with
   |some x,some y=>some (.k3 T x y)
   |_,_=>none
 | .nilCheck x=>(eH x).map .mA
 | .binOp op T x y _=>match eH x,eH y with
   |some x,some y=>some (.eP op T x y)
   |_,_=>none
 | .unOp op _ x=>(eH x).map (.un op)
 | .convert A B x=>(eH x).map (.k5 A B)
 | .makeFunc (.func f) first cs=>if first.isEmpty then(sV cs.toList).map (.p9 f)else none
 | .makeSlice T l c=>match eH l,eH c with
   |some l,some c=>some (.fi T l c)
   |_,_=>none
 | .slice T x fP aj none=>match eH x,E0 fP,E0 aj with
   |some x,some fP,some aj=>some (.iJ T x fP aj)
   |_,_,_=>none
 | .fieldAddr T x k=>(eH x).map λx=>.hV T x k
 | .indexAddr T x i=>match eH x,eH i with
   |some x,some i=>some (.kg T x i)
   |_,_=>none
 | .index T x i=>match eH x,eH i with
   |some x,some i=>some (.idx T x i)
   |_,_=>none
 | .extract x k=>(eH x).map λx=>.ex x k
 | .field T x k=>(eH x).map λx=>.pB T x k
 | .makeMap _ none=>some .sU
 | .lookup T x i false=>match eH x,eH i with
   |some x,some i=>some (.jU T x i)
   |_,_=>none
 | .mapUpdate T x i v=>match eH x,eH i,eH v with
   |some x,some i,some v=>some (.k6 T x i v)
   |_,_,_=>none
 | .call c=>match c.callee with
   | .value f=>match eH f,sV c.args.toList with
     |some f,some xs=>some (.call f xs)
     |_,_=>none
   | .builtin .len=>match c.args.toList,c.argTypes.toList with
     |[x],[T]=>(eH x).map (.len T)
     |_,_=>none
   | .builtin .cap=>match c.args.toList,c.argTypes.toList with
     |[x],[T]=>(eH x).map (.cap T)
     |_,_=>none
   | .builtin .min=>match c.args.toList with
     |[x,y]=>match eH x,eH y with
      |some x,some y=>some (.kQ false x y)
      |_,_=>none
     |_=>none
   | .builtin .max=>match c.args.toList with
     |[x,y]=>match eH x,eH y with
      |some x,some y=>some (.kQ true x y)
      |_,_=>none
     |_=>none
   | .builtin .append=>match c.args.toList,c.argTypes.toList with
     |[x,y],[T,dZ]=>match eH x,eH y with
      |some x,some y=>some (.app T dZ x y)
      |_,_=>none
     |_,_=>none
   |_=>none
 |_=>none
def kQ (fp:Bool):I->I->Option I
 | .str a,.str b=>some (.str (hU fp a b))
 | .int k a,.int dr b=>if k=dr then some (.int k (k1 fp a b))else none
 |_,_=>none
def uo (s:an):I->Option (I×an)
 | .h y q=>dG s (.h y q)
 |d=>some (d,s)
def xU (s:an) (x:I) (k:Nat):Option (I×an):=
 match x,ex s x k with
 | .h y _,some (.h z p)=>if z=y then dG s (.h z p)else none
 |_,_=>none
theorem VC {s s1:an} {x av:I} {k:Nat} (h:xU s x k=some (av,s1)):∃y q p,x= .h y q/\ex s x k=some (.h y p)/\dG s (.h y p)=some (av,s1):=by
 unfold xU at h;split at h
 .rename_i y q z p he;split at h
  .rename_i e;subst e;exact⟨z,q,p,rfl,he,h⟩
  .cases h
 .cases h
def ch (C:cu) (s:an):e2->Option (I×an)
 | .ht x=>some (bx s x,s)
 | .hN x=>match bx s x with
   | .h y q=>dG s (.h y q)
   |d=>some (d,s)
 | .pick c a b=>match bx s c with
   | .bool gI=>some (if gI then bx s a else bx s b,s)
   |_=>none
 | .mR T=>(mR C T).map λd=>(d,s)
 | .ir _ x=>ir s (bx s x)
 | .gB T ps=>gB C s T (ps.map λp=>(p.1,bx s p.2))
 | .dM T n ps=>dM C s T n (ps.map λp=>(p.1,bx s p.2))
 | .ld T x=>(ld C s T (bx s x)).map λd=>(d,s)
 | .k3 T x y=>(k3 C s T (bx s x) (bx s y)).map λs1=>(.hole,s1)
 | .mA x=>(mA s (bx s x)).map λd=>(d,s)
 | .eP op T x y=>(eP C s op T (bx s x) (bx s y)).map λd=>(d,s)
 | .un op x=>(un op (bx s x)).map λd=>(d,s)
 | .k5 A B x=>(k5 C s A B (bx s x)).map λd=>(d,s)
 | .p9 f cs=>some (.fn f (cs.map (bx s)),s)
 | .fi T l c=>(fi C T (bx s l) (bx s c)).map λd=>(d,s)
 | .iJ T x fP aj=>iJ C s T (bx s x) (fP.map (bx s)) (aj.map (bx s))
 | .hV T x k=>(hV C s T (bx s x) k).map λd=>(d,s)
 | .kg T x i=>(kg C s T (bx s x) (bx s i)).map λd=>(d,s)
 | .idx T x i=>(idx C T (bx s x) (bx s i)).map λd=>(d,s)
 | .ex x k=>(ex s (bx s x) k).map λd=>(d,s)
 | .pB T x k=>(pB C s T (bx s x) k).bind (uo s)
 | .call _ _=>none
 | .len T x=>(vQ C s T (bx s x)).map λd=>(d,s)
 | .app T dZ x y=>vU C s T dZ (bx s x) (bx s y)
 | .shr _=>none
 | .mU _ _ _=>none
 | .mg _ x=>mg s (bx s x)
 | .p_ x=>some (bx s x,s)
 | .pG x=>uo s (bx s x)
 | .ext x k=>xU s (bx s x) k
 | .sU=>some (.ck (.mp []),s)
 | .jU T x i=>(jU C s T (bx s x) (bx s i)).map λd=>(d,s)
 | .k6 T x i v=>(k6 C s T (bx s x) (bx s i) (bx s v)).map λs1=>(.hole,s1)
 | .cap T x=>match(C.T T).k,bx s x with
   | .slice _,.bf=>some (.int .i64 0,s)
   |_,_=>none
 | .kQ fp x y=>(kQ fp (bx s x) (bx s y)).map λd=>(d,s)
 | .bad=>none
section
variable {C:cu} {w0 w:World} {F0 X F:Nat->Prop} {S:Nat->Nat->Prop} {s s1:an} {a:Act} {av:I}
theorem zE:∀{os:List Operand} {xs:List bA},sV os=some xs->os.map eH=xs.map some
 |[],xs,h=>by simp[sV]at h;subst h;rfl
 |o::os,xs,h=>by
  simp only[sV]at h;split at h
  .rename_i x VD h1 af;simp at h;subst h;simp[h1,zE af]
  .cases h
theorem Nz {aD:Nat->Value} (h:ca w0 F0 X F S s aD w) (fe:∀t,aD t=a.tmps.getD t undef):∀{ps:List (Nat×Operand)} {xs:List (Nat×bA)},BN ps=some xs->
  rI w F s aD (xs.map λp=>(p.1,bx s p.2)) (ps.map λp=>(p.1,a.eval p.2))
 |[],xs,h=>by simp[BN]at h;subst h;trivial
 |(k,o)::ps,xs,bL=>by
  simp only[BN]at bL;split at bL
  .rename_i x VD h1 af;simp at bL;subst bL;obtain⟨g1,g2⟩:=gu h fe h1;exact⟨rfl,g1,g2,Nz h fe af⟩
  .cases bL
def Next (C:cu) (w0:World) (F0 X:Nat->Prop) (aD:Nat->Value) (w:World) (m:Sem Go.Next) (av:I) (s1:an):Prop:=
 ∃r aJ v cg aY,m.run C.P w= .ok r aJ/\(r= .value v\/r= .skip/\v=undef)/\ca w0 F0 X cg aY s1 aD aJ/\nV w0 X cg aY s1 aD aJ av v
theorem Good.next {aD:Nat->Value} {m:Sem Value} (h:Good C w0 F0 X aD w m av s1):Next C w0 F0 X aD w (do pure (.value (<-m))) av s1:=by
 obtain⟨v,aJ,cg,aY,h1,af,ay⟩:=h;exact⟨.value v,aJ,v,cg,aY,by simp[h1],.inl rfl,af,ay⟩
theorem VE {aD:Nat->Value} (h:ca w0 F0 X F S s aD w) {fp:Bool} {x y:I} {kC lR:Value} {m:Sem Go.Next} (h1:aQ w F s aD x kC (λ_=>False)) (af:aQ w F s aD y lR (λ_=>False))
  (he:(kQ fp x y).map (λd=>(d,s))=some (av,s1)) (hm:m=(do pure (.value (<-if fp then Builtin.max2 kC lR else Builtin.min2 kC lR)))):Next C w0 F0 X aD w m av s1:=by
 simp only[Option.map_eq_some_iff,Prod.mk.injEq]at he;obtain⟨d,ao,rfl,rfl⟩:=he;unfold kQ at ao;split at ao
 .rename_i a b;simp only[Option.some.injEq]at ao;subst ao;have aK:=pz h1;have aT:=pz af;subst aK aT;subst hm;refine⟨.value (.string ⟨⟨hU fp a b⟩⟩),w,_,F,S,?_,.inl rfl,h,.inl ⟨rfl,sQ _⟩⟩;cases fp
  .simp only[Builtin.min2,Op.stringOp,EM,hU,Bool.false_eq_true,if_false];cases ab:(Op.bytesLess a b||a==b)<;>simp[asBool]
  .simp only[Builtin.max2,Op.stringOp,EM,hU,if_true];cases ab:Op.bytesLess a b<;>simp[asBool]
 .rename_i k a dr b;split at ao
  .rename_i hk;subst hk;simp only[Option.some.injEq]at ao;subst ao;have aK:=qN h1;have aT:=qN af;subst aK aT;subst hm;refine⟨.value (.int k (k1 fp a b)),w,_,F,S,?_,.inl rfl,h,.inl ⟨rfl,of_int _ _⟩⟩;cases fp<;>simp[Builtin.min2,Builtin.max2,k1]
  .cases ao
 .cases ao
theorem VF (bU:C.Ok) {aD:Nat->Value} (h:ca w0 F0 X F S s aD w) (fe:∀t,aD t=a.tmps.getD t undef) {o:Oper} {b4:e2} (ae:dv o.op=some b4) (he:ch C s b4=some (av,s1)):
  Next C w0 F0 X aD w (execOp a.eval o) av s1:=by
 obtain⟨dst,op,ty,pos,after,guard⟩:=o;simp only at ae;cases op with
 |move x=>
  simp only[dv,Option.map_eq_some_iff]at ae;obtain⟨cV,aq,rfl⟩:=ae;obtain⟨g1,g2⟩:=gu h fe aq;simp only[ch,Option.some.injEq,Prod.mk.injEq]at he;obtain⟨rfl,rfl⟩:=he;exact⟨_,w,_,F,S,rfl,.inl rfl,h,.inl ⟨g1,g2⟩⟩
 |assign x=>
  simp only[dv,Option.map_eq_some_iff]at ae;obtain⟨cV,aq,rfl⟩:=ae;obtain⟨g1,g2⟩:=gu h fe aq;simp only[ch]at he;split at he
  .rename_i y q hy;rw[hy]at g1 g2;obtain⟨cL,k0,bV,cn,Sn,dV,ea,eC,dB,kh,_⟩:=rv h g1 g2 he;exact⟨_,w,_,F,cL,rfl,.inl rfl,k0,.inr ⟨bV,cn,Sn,dV,ea,eC,dB,kh⟩⟩
  .simp only[Option.some.injEq,Prod.mk.injEq]at he;obtain⟨rfl,rfl⟩:=he;exact⟨_,w,_,F,S,rfl,.inl rfl,h,.inl ⟨g1,g2⟩⟩
 |pick c x y=>
  simp only[dv]at ae;split at ae
  .rename_i xV cV ox au aq hy;simp only[Option.some.injEq]at ae;subst ae;simp only[ch]at he;split at he
   .rename_i b ab;simp only[Option.some.injEq,Prod.mk.injEq]at he;obtain⟨rfl,rfl⟩:=he;have EX:=(gu h fe au).2;rw[ab]at EX;have EX:=xM EX;obtain⟨aa,ah⟩:=gu h fe aq;obtain⟨fs,hn⟩:=gu h fe hy;refine⟨.value (if b then a.eval x else a.eval y),w,_,F,S,?_,.inl rfl,h,.inl ?_⟩
    .simp[execOp,EX,asBool]
    .cases b
     .exact⟨fs,hn⟩
     .exact⟨aa,ah⟩
   .cases he
  .cases ae
 |alloc T=>
  simp only[dv,Option.some.injEq]at ae;subst ae;simp only[ch,Option.map_eq_some_iff,Prod.mk.injEq]at he;obtain⟨d,ao,rfl,rfl⟩:=he;exact(aeh bU h ao).next
 |box T x=>
  simp only[dv,Option.map_eq_some_iff]at ae;obtain⟨cV,aq,rfl⟩:=ae;obtain⟨g1,g2⟩:=gu h fe aq;exact(aek h g1 g2 he).next
 |build T ps=>
  simp only[dv,Option.map_eq_some_iff]at ae;obtain⟨afe,aw,rfl⟩:=ae;obtain⟨ps⟩:=ps;have:=(ae9 bU h (Nz h fe aw) he).next;simpa [execOp]using this
 |buildSlice T n ps=>
  simp only[dv,Option.map_eq_some_iff]at ae;obtain⟨afe,aw,rfl⟩:=ae;obtain⟨ps⟩:=ps;have:=(afb bU h (Nz h fe aw) he).next;simpa [execOp]using this
 |load T x=>
  simp only[dv,Option.map_eq_some_iff]at ae;obtain⟨cV,aq,rfl⟩:=ae;obtain⟨g1,g2⟩:=gu h fe aq;simp only[ch,Option.map_eq_some_iff,Prod.mk.injEq]at he;obtain⟨d,ao,rfl,rfl⟩:=he;exact(aec bU h g2 ao).next
 |store T x y=>
  simp only[dv]at ae;split at ae
  .rename_i cV ox aq hy;simp only[Option.some.injEq]at ae;subst ae;simp only[ch,Option.map_eq_some_iff,Prod.mk.injEq]at he;obtain⟨s2,ao,rfl,rfl⟩:=he;obtain⟨aJ,aY,h1,af⟩:=aef bU h (gu h fe aq).2 (gu h fe hy).1 (gu h fe hy).2 ao;exact⟨.skip,aJ,undef,F,aY,by simp[execOp,h1],.inr ⟨rfl,rfl⟩,af,.inl ⟨rfl,by rw[aQ];trivial⟩⟩
  .cases ae
 |nilCheck x=>
  simp only[dv,Option.map_eq_some_iff]at ae;obtain⟨cV,aq,rfl⟩:=ae;obtain⟨g1,g2⟩:=gu h fe aq;simp only[ch,Option.map_eq_some_iff,Prod.mk.injEq]at he;obtain⟨d,ao,rfl,rfl⟩:=he;obtain⟨rfl,aw,aB⟩:=aeu h g2 ao;refine⟨.value (a.eval x),w,_,F,S,?_,.inl rfl,h,.inl ⟨aw,g2⟩⟩;rcases aB with⟨b,ab⟩|⟨f,c,ab⟩<;>simp[execOp,ab]
 |binOp op T x y aya=>
  simp only[dv]at ae;split at ae
  .rename_i cV ox aq hy;simp only[Option.some.injEq]at ae;subst ae;simp only[ch,Option.map_eq_some_iff,Prod.mk.injEq]at he;obtain⟨d,ao,rfl,rfl⟩:=he;exact(aer bU h x y (gu h fe aq).2 (gu h fe hy).2 ao).next
  .cases ae
 |unOp op T x=>
  simp only[dv,Option.map_eq_some_iff]at ae;obtain⟨cV,aq,rfl⟩:=ae;simp only[ch,Option.map_eq_some_iff,Prod.mk.injEq]at he;obtain⟨d,ao,rfl,rfl⟩:=he;exact(aes h (gu h fe aq).2 ao).next
 |convert A B x=>
  simp only[dv,Option.map_eq_some_iff]at ae;obtain⟨cV,aq,rfl⟩:=ae;simp only[ch,Option.map_eq_some_iff,Prod.mk.injEq]at he;obtain⟨d,ao,rfl,rfl⟩:=he;exact(aeC bU h (gu h fe aq).2 ao).next
 |makeFunc fn first cs=>
  cases fn with
  |func f=>
   simp only[dv]at ae;split at ae
   .rename_i NA;simp only[Option.map_eq_some_iff]at ae;obtain⟨rJ,hM,rfl⟩:=ae;simp only[ch,Option.some.injEq,Prod.mk.injEq]at he;obtain⟨rfl,rfl⟩:=he;have NB:first= #[]:=by simpa using NA
    subst NB;refine⟨_,w,_,F,S,rfl,.inl rfl,h,.inl ⟨rfl,?_⟩⟩;rw[aQ];refine⟨cs.map a.eval,by simp,?_⟩;simpa using I2 h fe _ _ (zE hM)
   .cases ae
  |_=>simp[dv]at ae
 |makeSlice T l c=>
  simp only[dv]at ae;split at ae
  .rename_i cV ox aq hy;simp only[Option.some.injEq]at ae;subst ae;simp only[ch,Option.map_eq_some_iff,Prod.mk.injEq]at he;obtain⟨d,ao,rfl,rfl⟩:=he;exact(ae2 bU h (gu h fe aq).2 (gu h fe hy).2 ao).next
  .cases ae
 |slice T x fP aj fp=>
  cases fp with
  |some m=>simp[dv]at ae
  |none=>
   simp only[dv]at ae;split at ae
   .rename_i cV ayb uq aq rC rD;simp only[Option.some.injEq]at ae;subst ae;obtain⟨g1,g2⟩:=gu h fe aq;have opt:∀{o:Option Operand} {qS:Option bA},E0 o=some qS->vR w F s aD (qS.map (bx s)) (o.map a.eval):=by
     intro o qS bG;cases o with
     |none=>simp[E0]at bG;subst bG;trivial
     |some o=>
      simp only[E0,Option.map_eq_some_iff]at bG;obtain⟨x,aq,rfl⟩:=bG;exact(gu h fe aq).2
    exact(aeF bU h g1 g2 (opt rC) (opt rD) he).next
   .cases ae
 |fieldAddr T x k=>
  simp only[dv,Option.map_eq_some_iff]at ae;obtain⟨cV,aq,rfl⟩:=ae;obtain⟨g1,g2⟩:=gu h fe aq;simp only[ch,Option.map_eq_some_iff,Prod.mk.injEq]at he;obtain⟨d,ao,rfl,rfl⟩:=he;exact(ad7 bU h g1 g2 ao).next
 |indexAddr T x i=>
  simp only[dv]at ae;split at ae
  .rename_i cV ox aq hy;simp only[Option.some.injEq]at ae;subst ae;simp only[ch,Option.map_eq_some_iff,Prod.mk.injEq]at he;obtain⟨d,ao,rfl,rfl⟩:=he;exact(ad8 bU h (gu h fe aq).2 (gu h fe hy).2 ao).next
  .cases ae
 |index T x i=>
  simp only[dv]at ae;split at ae
  .rename_i cV ox aq hy;simp only[Option.some.injEq]at ae;subst ae;simp only[ch,Option.map_eq_some_iff,Prod.mk.injEq]at he;obtain⟨d,ao,rfl,rfl⟩:=he;exact(aez bU h (gu h fe aq).2 (gu h fe hy).2 ao).next
  .cases ae
 |makeMap t r=>
  cases r with
  |none=>
   simp only[dv,Option.some.injEq]at ae;subst ae;simp only[ch,Option.some.injEq,Prod.mk.injEq]at he;obtain⟨rfl,rfl⟩:=he;exact(ae1 h t).next
  |some r=>simp[dv]at ae
 |lookup T x i c=>
  cases c with
  |true=>simp[dv]at ae
  |false=>
   simp only[dv]at ae;split at ae
   .rename_i cV uf aq aj;simp only[Option.some.injEq]at ae;subst ae;simp only[ch,Option.map_eq_some_iff,Prod.mk.injEq]at he;obtain⟨d,ao,rfl,rfl⟩:=he;exact(aeY bU h (gu h fe aq).2 (gu h fe aj).2 ao).next
   .cases ae
 |mapUpdate T x i v=>
  simp only[dv]at ae;split at ae
  .rename_i cV uf hj aq aj aB;simp only[Option.some.injEq]at ae;subst ae;simp only[ch,Option.map_eq_some_iff,Prod.mk.injEq]at he;obtain⟨s2,ao,rfl,rfl⟩:=he;obtain⟨aJ,aY,h1,af⟩:=aeZ bU h (gu h fe aq).2 (gu h fe aj).2 (gu h fe aB).2 ao;exact⟨.skip,aJ,undef,F,aY,by simp[execOp,h1],.inr ⟨rfl,rfl⟩,af,.inl ⟨rfl,by rw[aQ];trivial⟩⟩
  .cases ae
 |extract x k=>
  simp only[dv,Option.map_eq_some_iff]at ae;obtain⟨cV,aq,rfl⟩:=ae;simp only[ch,Option.map_eq_some_iff,Prod.mk.injEq]at he;obtain⟨d,ao,rfl,rfl⟩:=he;exact(U7 h (gu h fe aq).2 ao).next
 |field T x k=>
  simp only[dv,Option.map_eq_some_iff]at ae;obtain⟨cV,aq,rfl⟩:=ae;simp only[ch,Option.bind_eq_some_iff]at he;obtain⟨d,ao,he⟩:=he;obtain⟨v,aJ,cg,aY,aR,fq,qJ⟩:=aex bU h (gu h fe aq).2 ao;unfold uo at he;split at he
  .rename_i y q;have NC:aQ aJ cg s aD (.h y q) v (λ_=>False):=by
    rcases qJ with⟨_,g2⟩|⟨g1,_⟩
    .exact g2
    .cases g1
   obtain⟨cL,k0,bV,cn,Sn,dV,ea,eC,dB,kh,_⟩:=rv fq rfl NC he;exact⟨.value v,aJ,v,cg,cL,by simp[execOp,aR],.inl rfl,k0,.inr ⟨bV,cn,Sn,dV,ea,eC,dB,kh⟩⟩
  .simp only[Option.some.injEq,Prod.mk.injEq]at he;obtain⟨rfl,rfl⟩:=he;exact⟨.value v,aJ,v,cg,aY,by simp[execOp,aR],.inl rfl,fq,qJ⟩
 |call c=>
  obtain⟨callee,args,argTypes⟩:=c;simp only[dv]at ae;split at ae
  .split at ae
   .simp only[Option.some.injEq]at ae;subst ae;simp[ch]at he
   .cases ae
  .split at ae
   .rename_i x T rK E1;simp only[Option.map_eq_some_iff]at ae;obtain⟨cV,aq,rfl⟩:=ae;simp only[ch,Option.map_eq_some_iff,Prod.mk.injEq]at he;obtain⟨d,ao,rfl,rfl⟩:=he;have:=(aeA (ty:=ty) bU h (gu h fe aq).2 ao).next;have aK:args= #[x]:=by apply Array.ext';exact rK
    have aT:argTypes= #[T]:=by apply Array.ext';exact E1
    subst aK aT;simpa [execOp,resolve,invoke,builtin]using this
   .cases ae
  .split at ae
   .rename_i x T rK E1;simp only[Option.map_eq_some_iff]at ae;obtain⟨cV,aq,rfl⟩:=ae;simp only[ch]at he;split at he
    .rename_i e hk aff;simp only[Option.some.injEq,Prod.mk.injEq]at he;obtain⟨rfl,rfl⟩:=he;have aB:=(gu h fe aq).2;rw[aff]at aB;have:=xN aB;obtain⟨i,d,z,aK,aT,aU,b_,cY,cv,cd⟩:=bU.info (hs hk (by simp));rw[hk]at cd;have ao:=o1 cd;subst ao;have afg:args= #[x]:=by apply Array.ext';exact rK
     have afh:argTypes= #[T]:=by apply Array.ext';exact E1
     subst afg afh;have aR:(Builtin.cap_ #[T] ty #[a.eval x]).run C.P w= .ok (.int .i64 0) w:=by
      rw[this];simp[Builtin.cap_,run_underlying cv,goInt]
     have:=(Good.same (av:=.int .i64 0) h aR rfl (of_int _ _)).next;simpa [execOp,resolve,invoke,builtin]using this
    .cases he
   .cases ae
  .split at ae
   .rename_i x y rK;split at ae
    .rename_i cV ox aq hy;simp only[Option.some.injEq]at ae;subst ae;have aK:args= #[x,y]:=by apply Array.ext';exact rK
     subst aK;exact VE h (gu h fe aq).2 (gu h fe hy).2 he (by simp[execOp,resolve,invoke,builtin,Builtin.min_])
    .cases ae
   .cases ae
  .split at ae
   .rename_i x y rK;split at ae
    .rename_i cV ox aq hy;simp only[Option.some.injEq]at ae;subst ae;have aK:args= #[x,y]:=by apply Array.ext';exact rK
     subst aK;exact VE h (gu h fe aq).2 (gu h fe hy).2 he (by simp[execOp,resolve,invoke,builtin,Builtin.max_])
    .cases ae
   .cases ae
  .split at ae
   .rename_i x y T dZ rK E1;split at ae
    .rename_i cV ox aq hy;simp only[Option.some.injEq]at ae;subst ae;have:=(aeQ (ty:=ty) bU h (gu h fe aq).2 (gu h fe hy).2 he).next;have aK:args= #[x,y]:=by apply Array.ext';exact rK
     have aT:argTypes= #[T,dZ]:=by apply Array.ext';exact E1
     subst aK aT;simpa [execOp,resolve,invoke,builtin]using this
    .cases ae
   .cases ae
  .cases ae
 |_=>simp[dv]at ae
end
mutual
def I.ae:I->aAf
 | .h x _=>[x]
 | .aw x _=>[x]
 | .ab x _=>[x]
 | .fn _ cap=>I.ff cap
 |_=>[]
def I.ff:aAk->aAf
 |[]=>[]
 |d::ds=>d.ae++I.ff ds
end
inductive ur where
 |no
 |cU
 |dJ
structure ib where
 k:ur
 x:Nat
 d:I
def ur.app (k:ur) (x:Nat) (a:I):I:=match k with
 | .no=>a
 | .cU=>en.cU x a
 | .dJ=>en.dJ x a
def ib.at (m:ib) (u:Nat) (a:I):I:=if u=m.x then m.d else m.k.app m.x a
def mB:List ib->Nat->I->I
 |[],_,a=>a
 |m::ms,u,a=>mB ms u (m.at u a)
def eQ (ms:List ib) (s:an):an:=λu=>mB ms u (s u)
theorem VG:∀(ms mi:List ib) (u:Nat) (a:I),mB (ms++mi) u a=mB mi u (mB ms u a)
 |[],_,_,_=>rfl
 |m::ms,mi,u,a=>by simp only[cons_append,mB];exact VG ms mi u _
theorem pH (ms mi:List ib) (s:an):eQ (ms++mi) s=eQ mi (eQ ms s):=by
 funext u;simp[eQ,VG]
theorem afi {ms:List ib} {s aC:an} {u:Nat} (h:aC u=s u):eQ ms aC u=eQ ms s u:=by simp[eQ,h]
theorem zF (s:an) (x:Nat) (d:I):eo (js x s) x d=eQ [⟨.cU,x,d⟩] s:=by
 funext u;simp only[eQ,mB,ib.at,eo,js,ur.app]
theorem VH (s:an) (x:Nat) (d:I):eo (oZ x s) x d=eQ [⟨.dJ,x,d⟩] s:=by
 funext u;simp only[eQ,mB,ib.at,eo,oZ,ur.app]
theorem VI (s:an) (x:Nat) (d:I):eo s x d=eQ [⟨.no,x,d⟩] s:=by
 funext u;simp only[eQ,mB,ib.at,eo,ur.app]
mutual
theorem E2 {x:Nat}:∀a:I,x∉a.ae->cU x a=a
 | .h y q,h=>by
   simp only[I.ae,mem_singleton]at h;simp only[cU];rw[if_neg (λe=>h e.symm)]
 | .aw y q,h=>by
   simp only[I.ae,mem_singleton]at h;simp only[cU];rw[if_neg (λe=>h e.symm)]
 | .ab y q,h=>rfl
 | .fn f cap,h=>by simp only[cU];rw[VJ cap (by simpa [I.ae]using h)]
 | .hole,_=>rfl
 | .bool _,_=>rfl
 | .gq,_=>rfl
 | .int _ _,_=>rfl
 | .str _,_=>rfl
 | .et,_=>rfl
 | .bf,_=>rfl
 | .slice _,_=>rfl
 | .ag _ _,_=>rfl
 | .ref _,_=>rfl
 | .aP _,_=>rfl
 | .agg _,_=>rfl
 | .tuple _,_=>rfl
 | .ck _,_=>rfl
 | .gN _ _,_=>rfl
theorem VJ {x:Nat}:∀ds:aAk,x∉I.ff ds->kO x ds=ds
 |[],_=>rfl
 |d::ds,h=>by
  simp only[I.ff,mem_append,not_or]at h;simp only[kO];rw[E2 d h.1,VJ ds h.2]
end
mutual
theorem ND {x:Nat}:∀a:I,x∉a.ae->dJ x a=a
 | .h y q,h=>by
   simp only[I.ae,mem_singleton]at h;simp only[dJ];rw[if_neg (λe=>h e.symm)]
 | .aw y q,h=>by
   simp only[I.ae,mem_singleton]at h;simp only[dJ];rw[if_neg (λe=>h e.symm)]
 | .ab y q,h=>by
   simp only[I.ae,mem_singleton]at h;simp only[dJ];rw[if_neg (λe=>h e.symm)]
 | .fn f cap,h=>by simp only[dJ];rw[VK cap (by simpa [I.ae]using h)]
 | .hole,_=>rfl
 | .bool _,_=>rfl
 | .gq,_=>rfl
 | .int _ _,_=>rfl
 | .str _,_=>rfl
 | .et,_=>rfl
 | .bf,_=>rfl
 | .slice _,_=>rfl
 | .ag _ _,_=>rfl
 | .ref _,_=>rfl
 | .aP _,_=>rfl
 | .agg _,_=>rfl
 | .tuple _,_=>rfl
 | .ck _,_=>rfl
 | .gN _ _,_=>rfl
theorem VK {x:Nat}:∀ds:aAk,x∉I.ff ds->lo x ds=ds
 |[],_=>rfl
 |d::ds,h=>by
  simp only[I.ff,mem_append,not_or]at h;simp only[lo];rw[ND d h.1,VK ds h.2]
end
theorem E3 {k:ur} {x:Nat} {a:I} (h:k= .no\/x∉a.ae):k.app x a=a:=by
 cases k with
 |no=>rfl
 |cU=>exact E2 a (by simpa using h)
 |dJ=>exact ND a (by simpa using h)
mutual
theorem VL (x y:Nat):∀a:I,cU x (cU y a)=cU y (cU x a)
 | .h z q=>by simp only[cU];by_cases h1:z=x<;>by_cases af:z=y<;>by_cases ay:q=[]<;>simp[h1,af,ay,cU]<;>(subst_vars;simp_all [cU])
 | .aw z q=>by simp only[cU];by_cases h1:z=x<;>by_cases af:z=y<;>simp[h1,af,cU]<;>(subst_vars;simp_all [cU])
 | .ab z q=>rfl
 | .fn f cap=>by simp only[cU];rw[VM x y cap]
 | .hole=>rfl
 | .bool _=>rfl
 | .gq=>rfl
 | .int _ _=>rfl
 | .str _=>rfl
 | .et=>rfl
 | .bf=>rfl
 | .slice _=>rfl
 | .ag _ _=>rfl
 | .ref _=>rfl
 | .aP _=>rfl
 | .agg _=>rfl
 | .tuple _=>rfl
 | .ck _=>rfl
 | .gN _ _=>rfl
theorem VM (x y:Nat):∀ds:aAk,kO x (kO y ds)=kO y (kO x ds)
 |[]=>rfl
 |d::ds=>by simp only[kO];rw[VL x y d,VM x y ds]
end
mutual
theorem VN (x y:Nat):∀a:I,dJ x (dJ y a)=dJ y (dJ x a)
 | .h z q=>by simp only[dJ];by_cases h1:z=x<;>by_cases af:z=y<;>simp[h1,af,dJ]<;>(subst_vars;simp_all [dJ])
 | .aw z q=>by simp only[dJ];by_cases h1:z=x<;>by_cases af:z=y<;>simp[h1,af,dJ]<;>(subst_vars;simp_all [dJ])
 | .ab z q=>by simp only[dJ];by_cases h1:z=x<;>by_cases af:z=y<;>simp[h1,af,dJ]<;>(subst_vars;simp_all [dJ])
 | .fn f cap=>by simp only[dJ];rw[VO x y cap]
 | .hole=>rfl
 | .bool _=>rfl
 | .gq=>rfl
 | .int _ _=>rfl
 | .str _=>rfl
 | .et=>rfl
 | .bf=>rfl
 | .slice _=>rfl
 | .ag _ _=>rfl
 | .ref _=>rfl
 | .aP _=>rfl
 | .agg _=>rfl
 | .tuple _=>rfl
 | .ck _=>rfl
 | .gN _ _=>rfl
theorem VO (x y:Nat):∀ds:aAk,lo x (lo y ds)=lo y (lo x ds)
 |[]=>rfl
 |d::ds=>by simp only[lo];rw[VN x y d,VO x y ds]
end
mutual
theorem NF (x y:Nat):∀a:I,cU x (dJ y a)=dJ y (cU x a)
 | .h z q=>by simp only[dJ,cU];by_cases h1:z=x<;>by_cases af:z=y<;>by_cases ay:q=[]<;>simp[h1,af,ay,dJ,cU]<;>(subst_vars;simp_all [dJ,cU])
 | .aw z q=>by simp only[dJ,cU];by_cases h1:z=x<;>by_cases af:z=y<;>simp[h1,af,dJ,cU]<;>(subst_vars;simp_all [dJ,cU])
 | .ab z q=>by simp only[dJ,cU];by_cases af:z=y<;>simp[af,cU]
 | .fn f cap=>by simp only[dJ,cU];rw[VP x y cap]
 | .hole=>rfl
 | .bool _=>rfl
 | .gq=>rfl
 | .int _ _=>rfl
 | .str _=>rfl
 | .et=>rfl
 | .bf=>rfl
 | .slice _=>rfl
 | .ag _ _=>rfl
 | .ref _=>rfl
 | .aP _=>rfl
 | .agg _=>rfl
 | .tuple _=>rfl
 | .ck _=>rfl
 | .gN _ _=>rfl
theorem VP (x y:Nat):∀ds:aAk,kO x (lo y ds)=lo y (kO x ds)
 |[]=>rfl
 |d::ds=>by simp only[lo,kO];rw[NF x y d,VP x y ds]
end
theorem afj (k l:ur) (x y:Nat) (a:I):k.app x (l.app y a)=l.app y (k.app x a):=by
 cases k<;>cases l<;>simp only[ur.app]<;>first|rfl|exact VL .. |exact VN .. |exact NF .. |exact(NF ..).symm
def bA.use (s:an):bA->aAf
 | .t n=>n::(s n).ae
 | .c av=>av.ae
 | .f _=>[]
def bA.sW (s:an):List bA->aAf
 |[]=>[]
 |x::xs=>x.use s++bA.sW s xs
def NG (s:an):Option bA->aAf
 |none=>[]
 |some x=>x.use s
def use (s:an):e2->aAf
 | .ht x=>x.use s
 | .hN x=>x.use s
 | .pick c a b=>c.use s++(a.use s++b.use s)
 | .mR _=>[]
 | .ir _ x=>x.use s
 | .gB _ ps=>bA.sW s (ps.map (·.2))
 | .dM _ _ ps=>bA.sW s (ps.map (·.2))
 | .ld _ x=>x.use s
 | .k3 _ x y=>x.use s++y.use s
 | .mA x=>x.use s
 | .eP _ _ x y=>x.use s++y.use s
 | .un _ x=>x.use s
 | .k5 _ _ x=>x.use s
 | .p9 _ cs=>bA.sW s cs
 | .fi _ l c=>l.use s++c.use s
 | .iJ _ x fP aj=>x.use s++(NG s fP++NG s aj)
 | .hV _ x _=>x.use s
 | .kg _ x i=>x.use s++i.use s
 | .idx _ x i=>x.use s++i.use s
 | .ex x _=>x.use s
 | .pB _ x _=>x.use s
 | .call f args=>f.use s++bA.sW s args
 | .len _ x=>x.use s
 | .app _ _ x y=>x.use s++y.use s
 | .shr b4=>use s b4
 | .mU f args us=>us.flatMap (λu=>u::(s u).ae)++(f.use s++bA.sW s args)
 | .mg _ x=>x.use s
 | .p_ x=>x.use s
 | .pG x=>x.use s
 | .ext x _=>x.use s
 | .sU=>[]
 | .jU _ x i=>x.use s++i.use s
 | .k6 _ x i v=>x.use s++(i.use s++v.use s)
 | .cap _ x=>x.use s
 | .kQ _ x y=>x.use s++y.use s
 | .bad=>[]
def lr (s:an):e2->aAf
 | .hN x=>(bx s x).ae
 | .ir _ x=>(bx s x).ae
 | .gB _ ps=>I.ff (ps.map λp=>bx s p.2)
 | .dM _ _ ps=>I.ff (ps.map λp=>bx s p.2)
 | .k3 _ x y=>(bx s x).ae++(bx s y).ae
 | .pB _ x _=>(bx s x).ae
 | .pG x=>(bx s x).ae
 | .ext x _=>(bx s x).ae
 | .k6 _ x _ _=>(bx s x).ae
 | .iJ _ x _ _=>(bx s x).ae
 | .app _ _ x y=>(bx s x).ae++(bx s y).ae
 | .shr b4=>lr s b4
 |_=>[]
def eD (dZ:aAf) (aC s:an):Prop:=∀u∈dZ,aC u=s u
theorem eD.left {dZ V:aAf} {aC s:an} (h:eD (dZ++V) aC s):eD dZ aC s:=λu hu=>h u (mem_append_left _ hu)
theorem eD.right {dZ V:aAf} {aC s:an} (h:eD (dZ++V) aC s):eD V aC s:=λu hu=>h u (mem_append_right _ hu)
theorem eD.eQ {dZ:aAf} {aC s:an} (h:eD dZ aC s) (ms:List ib):eD dZ (eQ ms aC) (eQ ms s):=λu hu=>afi (h u hu)
theorem eD.sub {dZ V:aAf} {aC s:an} (h:eD dZ aC s) (ae:∀u∈V,u∈dZ):eD V aC s:=λu hu=>h u (ae u hu)
theorem bA.zG {s:an} {x:bA}:∀u∈(bx s x).ae,u∈x.use s:=by
 intro u hu;cases x with
 |t n=>
  simp only[bx,ud]at hu;split at hu
  .simp[bA.use,hu]
  .simp only[I.ae,mem_singleton]at hu;simp[bA.use,hu]
 |c av=>exact hu
 |f g=>simp[bx,I.ae,I.ff]at hu
theorem bA.gC {s aC:an} {x:bA} (h:eD (x.use s) aC s):bx aC x=bx s x:=by
 cases x with
 |t n=>simp only[bx];rw[h n (by simp[bA.use])]
 |c av=>rfl
 |f g=>rfl
theorem eD.bx {s aC:an} {x:bA} (h:eD (x.use s) aC s):eD (bx s x).ae aC s:=h.sub bA.zG
theorem VQ {s aC:an} {x:Option bA} (h:eD (NG s x) aC s):x.map (bx aC)=x.map (bx s):=by
 cases x with
 |none=>rfl
 |some x=>simp only[Option.map_some];rw[bA.gC h]
theorem bA.NH {s aC:an}:∀{xs:List bA},eD (bA.sW s xs) aC s->xs.map (bx aC)=xs.map (bx s)
 |[],_=>rfl
 |x::xs,h=>by
  simp only[map_cons];rw[bA.gC (h.left),bA.NH (h.right)]
theorem bA.NI {s aC:an}:∀{ps:List (Nat×bA)},eD (bA.sW s (ps.map (·.2))) aC s->(ps.map λp=>(p.1,bx aC p.2))=ps.map λp=>(p.1,bx s p.2)
 |[],_=>rfl
 |x::xs,h=>by
  simp only[map_cons]at h⊢;rw[bA.gC (h.left),bA.NI (h.right)]
theorem bA.I3 {s:an}:∀{xs:List bA},∀u∈I.ff (xs.map (bx s)),u∈bA.sW s xs
 |[],u,h=>by simp[I.ff]at h
 |x::xs,u,h=>by
  simp only[map_cons,I.ff,mem_append]at h;simp only[bA.sW,mem_append];exact h.imp (bA.zG u) (bA.I3 u)
section
variable {C:cu} {s aC:an} {x y i:I} {T A B:TypeId}
theorem NJ (h:eD x.ae aC s):loc aC x=loc s x:=by
 cases x<;>first
  |rfl
  |(simp only[loc];rw[h _ (by simp[I.ae])])
theorem NK {z:Nat} {q:aAf} (h:loc s x=some (z,q)):z∈x.ae:=by
 cases x with
 |h y p=>
  simp only[loc]at h;split at h
  .simp only[Option.some.injEq,Prod.mk.injEq]at h;simp[I.ae,h.1]
  .cases h
 |aw y p=>
  simp only[loc]at h;split at h
  .simp only[Option.some.injEq,Prod.mk.injEq]at h;simp[I.ae,h.1]
  .cases h
 |_=>simp[loc]at h
theorem afk (h:eD x.ae aC s):ld C aC T x=ld C s T x:=by
 have hl:=NJ h;unfold ld;split
 .rfl
 .rw[h _ (by simp[I.ae])]
 .rw[hl];split
  .rename_i e;rw[h _ (NK e)]
  .rfl
theorem afl {k:Nat} (h:eD x.ae aC s):hV C aC T x k=hV C s T x k:=by
 have hl:=NJ h;unfold hV;split
 .split
  .split
   .split
    .rfl
    .rw[h _ (by simp[I.ae])]
    .rw[hl];split
     .rename_i e;rw[h _ (NK e)]
     .rfl
   .rfl
  .rfl
 .rfl
theorem afm (h:eD x.ae aC s):kg C aC T x i=kg C s T x i:=by
 cases x<;>first
  |rfl
  |(simp only[kg];rw[h _ (by simp[I.ae])])
theorem afn (h:eD x.ae aC s):vQ C aC T x=vQ C s T x:=by
 unfold vQ;cases(C.T T).k<;>cases x<;>first
  |rfl
  |(simp only;rw[h _ (by simp[I.ae])])
theorem afo (h:eD x.ae aC s):k5 C aC A B x=k5 C s A B x:=by
 unfold k5;cases(C.T B).k<;>cases x<;>first
  |rfl
  |(simp only;rw[h _ (by simp[I.ae])])
theorem afp (h:eD x.ae aC s):mh aC x=mh s x:=by
 cases x<;>first
  |rfl
  |(simp only[mh];rw[h _ (by simp[I.ae])])
theorem afq (h:eD x.ae aC s):oz aC x=oz s x:=by
 cases x<;>first
  |rfl
  |(simp only[oz];rw[h _ (by simp[I.ae])])
theorem afr {op:BinOp} (h:eD x.ae aC s):eP C aC op T x y=eP C s op T x y:=by
 have h1:=afp h;have af:=afq h;unfold eP;split<;>first|rfl|simp only[h1,af]
theorem afs (h:eD x.ae aC s):mA aC x=mA s x:=by
 cases x<;>first
  |rfl
  |(simp only[mA];rw[h _ (by simp[I.ae])])
theorem aft {k y:Nat} {q:aAf} (h:pB C s T x k=some (.h y q)):x.ae=[y]:=by
 unfold pB at h;split at h<;>try (cases h;done)
 split at h<;>try (cases h;done)
 split at h
 .split at h<;>try (cases h;done)
  split at h
  .rename_i au;simp only[Option.some.injEq]at h;rw[h]at au;exact absurd au.2.2.2 (by simp[I.tree])
  .cases h
 .split at h<;>try (cases h;done)
  split at h<;>try (cases h;done)
  split at h<;>try (cases h;done)
  rename_i d ao au;by_cases aw:d.plain=true
  .simp only[aw,if_true,Option.some.injEq]at h;rw[h]at au;exact absurd au.2.2.2 (by simp[I.tree])
  .simp only[aw,Option.some.injEq]at h;injection h with h1 af;subst h1;rfl
 .cases h
theorem VR {k:Nat} (h:eD x.ae aC s):pB C aC T x k=pB C s T x k:=by
 unfold pB;split<;>try rfl
 split<;>try rfl
 cases x<;>first
  |rfl
  |(simp only[];rw[h _ (by simp[I.ae])])
theorem VS {k:Nat} (h:eD x.ae aC s):ex aC x k=ex s x k:=by
 cases x<;>first
  |rfl
  |(simp only[ex];rw[h _ (by simp[I.ae])])
theorem BO:∀(q:aAf) (a d e:I),I.sub q a=some d->(d.plain=false\/q≠[])->(q=[]->e.ae=[])->(I.put q e a).ae=[]:=by
 intro q a d e h aw he;cases q with
 |nil=>rw[I.put];exact he rfl
 |cons k q=>
  cases a<;>first
   |(simp[I.sub]at h;done)
   |skip
  all_goals
   unfold I.put
   repeat' split
   all_goals first|rfl|(simp_all;done)
end
def Loc {α:Type} (dZ BP:aAf) (f:an->Option (α×an)) (s:an) (av:α) (s1:an):Prop:=
 ∃ms,s1=eQ ms s/\(∀m∈ms,m.x∈BP/\m.d.ae=[])/\∀aC,eD dZ aC s->f aC=some (av,eQ ms aC)
theorem Loc.pure {α:Type} {dZ BP:aAf} {f:an->Option (α×an)} {s:an} {av:α} (h:∀aC,eD dZ aC s->f aC=some (av,aC)):Loc dZ BP f s av s:=
 ⟨[],rfl,by simp,λaC ae=>h aC ae⟩
theorem Loc.mono {α:Type} {dZ BP VT VU:aAf} {f:an->Option (α×an)} {s s1:an} {av:α} (h:Loc dZ BP f s av s1) (uk:∀u∈dZ,u∈VT) (kP:∀u∈BP,u∈VU):Loc VT VU f s av s1:=by
 obtain⟨ms,h1,af,ay⟩:=h;exact⟨ms,h1,λm hm=>⟨kP _ (af m hm).1,(af m hm).2⟩,λaC ae=>ay aC (ae.sub uk)⟩
section
variable {C:cu} {s s1:an} {x y d:I} {T A B:TypeId}
theorem uu (h:dG s x=some (d,s1)):Loc x.ae x.ae (λs=>dG s x) s d s1:=by
 cases x with
 |h y q=>
  simp only[dG]at h;split at h
  .rename_i e he;split at h
   .cases h
   .rename_i aw;simp only[Option.some.injEq,Prod.mk.injEq]at h;obtain⟨rfl,rfl⟩:=h;have aw:e.plain=false:=by simpa using aw
    refine⟨[⟨.cU,y,I.put q e.d_ (s y)⟩],zF _ _ _,?_,?_⟩
    .intro m hm;simp only[mem_singleton]at hm;subst hm;refine⟨by simp[I.ae],BO q _ _ _ he (.inl aw) λcF=>?_⟩;subst cF;cases e<;>first|(simp[I.plain]at aw;done)|rfl
    .intro aC ae;have aK:aC y=s y:=ae y (by simp[I.ae]);simp only[dG,aK,he,aw];rw[<-zF];rfl
  .cases h
 |aw y q=>simp[dG]at h
 |ab y q=>simp[dG]at h
 |fn f c=>simp[dG]at h
 |hole=>simp[dG]at h
 |_=>
  simp only[dG,Option.some.injEq,Prod.mk.injEq]at h;obtain⟨rfl,rfl⟩:=h;exact .pure λaC _=>rfl
mutual
theorem VV (x:Nat):∀a:I,∀u∈(cU x a).ae,u∈a.ae
 | .h y q,u,h=>by
   simp only[cU]at h;split at h
   .split at h
    .exact h
    .simp[I.ae]at h
   .exact h
 | .aw y q,u,h=>by
   simp only[cU]at h;split at h
   .simp[I.ae]at h
   .exact h
 | .ab y q,u,h=>h
 | .fn f cap,u,h=>by simp only[cU,I.ae]at h⊢;exact VW x cap u h
 | .hole,u,h=>h
 | .bool _,u,h=>h
 | .gq,u,h=>h
 | .int _ _,u,h=>h
 | .str _,u,h=>h
 | .et,u,h=>h
 | .bf,u,h=>h
 | .slice _,u,h=>h
 | .ag _ _,u,h=>h
 | .ref _,u,h=>h
 | .aP _,u,h=>h
 | .agg _,u,h=>h
 | .tuple _,u,h=>h
theorem VW (x:Nat):∀ds:aAk,∀u∈I.ff (kO x ds),u∈I.ff ds
 |[],u,h=>h
 |d::ds,u,h=>by
  simp only[kO,I.ff,mem_append]at h⊢;exact h.imp (VV x d u) (VW x ds u)
end
theorem NL (o:Option Nat) (a:I):∀u∈(nw o a).ae,u∈a.ae:=by
 intro u h;cases o with
 |none=>exact h
 |some x=>exact VV x a u h
theorem VX:∀(os:List (Option Nat)) (a:I),∀u∈(nZ os a).ae,u∈a.ae:=by
 intro os;induction os with
 |nil=>intro a u h;exact h
 |cons o os ih=>intro a u h;exact NL o a u (ih (nw o a) u h)
theorem VY {place:Nat->Option (Nat×Nat)}:∀{ps:aAj} {s s1:an} {zs ds:aAk} {os:List (Option Nat)},eK place s zs os ps=some (ds,s1)->
  Loc (I.ff (ps.map (·.2))) (I.ff (ps.map (·.2))) (λs=>eK place s zs os ps) s ds s1:=by
 intro ps;induction ps with
 |nil=>
  intro s s1 zs ds os h;simp only[eK,Option.some.injEq,Prod.mk.injEq]at h;obtain⟨rfl,rfl⟩:=h;exact .pure λaC _=>rfl
 |cons p ps ih=>
  intro s s1 zs ds os h;obtain⟨k,a⟩:=p;simp only[eK]at h;split at h
  .rename_i d s2 off n z a6 fL b3;split at h
   .cases h
   .rename_i bN n0;split at h
    .rename_i au;obtain⟨sX,rfl,af,ay⟩:=uu a6;obtain⟨xS,rfl,b1,dn⟩:=ih h;refine⟨sX++xS,(pH _ _ _).symm,?_,?_⟩
     .intro m hm;simp only[map_cons,I.ff,mem_append]at hm⊢;rcases hm with hm|hm
      .exact⟨.inl (VX _ _ _ (af m hm).1),(af m hm).2⟩
      .exact⟨.inr (b1 m hm).1,(b1 m hm).2⟩
     .intro aC ae;simp only[map_cons,I.ff]at ae;have aK:=ay aC (ae.left.sub (VX _ _));have aT:=dn (eQ sX aC) (ae.right.eQ sX);simp only at aK aT;simp only[eK,aK,fL,b3,pH];rw[if_pos au];exact aT
    .cases h
  .cases h
theorem afu {ps:aAj} {av:I} (h:gB C s T ps=some (av,s1)):Loc (I.ff (ps.map (·.2))) (I.ff (ps.map (·.2))) (λs=>gB C s T ps) s av s1:=by
 unfold gB at h;split at h
 .rename_i aG zs hk b3;split at h
  .rename_i au;split at h
   .rename_i ds s2 bI;simp only[Option.some.injEq,Prod.mk.injEq]at h;obtain⟨rfl,rfl⟩:=h;obtain⟨ms,h1,af,ay⟩:=VY bI;refine⟨ms,h1,af,λaC ae=>?_⟩;have:=ay aC ae;simp only at this;simp only[gB,hk,b3,if_pos au,this]
   .cases h
  .cases h
 .cases h
theorem afv {n:Nat} {ps:aAj} {av:I} (h:dM C s T n ps=some (av,s1)):Loc (I.ff (ps.map (·.2))) (I.ff (ps.map (·.2))) (λs=>dM C s T n ps) s av s1:=by
 unfold dM at h;split at h
 .rename_i e hk;split at h
  .rename_i au;split at h
   .rename_i ds s2 bI;simp only[Option.some.injEq,Prod.mk.injEq]at h;obtain⟨rfl,rfl⟩:=h;obtain⟨ms,h1,af,ay⟩:=VY bI;refine⟨ms,h1,af,λaC ae=>?_⟩;have:=ay aC ae;simp only at this;simp only[dM,hk,if_pos au,this]
   .cases h
  .cases h
 .cases h
theorem afw {av:I} (h:ir s x=some (av,s1)):Loc x.ae x.ae (λs=>ir s x) s av s1:=by
 unfold ir at h;split at h
 .cases h
 .rename_i d s2 n0 a6;simp only[Option.some.injEq,Prod.mk.injEq]at h;obtain⟨rfl,rfl⟩:=h;obtain⟨ms,h1,af,ay⟩:=uu a6;refine⟨ms,h1,af,λaC ae=>?_⟩;have:=ay aC ae;simp only at this;simp only[ir,this]
 .cases h
theorem afx {av:I} (h:mg s x=some (av,s1)):Loc x.ae [] (λs=>mg s x) s av s1:=by
 unfold mg at h;split at h
 .rename_i y q;split at h
  .rename_i ds qM;split at h
   .cases h
   .rename_i EJ;simp only[Option.some.injEq,Prod.mk.injEq]at h;obtain⟨rfl,rfl⟩:=h;refine .pure λaC ae=>?_;have e:aC y=s y:=ae y (by simp[I.ae]);simp only[mg,e,qM,if_neg EJ]
  .cases h
 .split at h
  .rename_i au;simp only[Option.some.injEq,Prod.mk.injEq]at h;obtain⟨rfl,rfl⟩:=h;exact .pure λaC ae=>by simp only[mg,au,if_true]
  .cases h
 .cases h
theorem afy {s2:an} (h:k3 C s T x y=some s2):Loc (x.ae++y.ae) (x.ae++y.ae) (λs=>(k3 C s T x y).map λs1=>(I.hole,s1)) s .hole s2:=by
 unfold k3 at h;split at h
 .rename_i d s1 z q a6 hl;obtain⟨ms,h1,af,ay⟩:=uu a6;have b3:=NK hl;have cF:q≠[]:=by
   cases x with
   |h y p=>
    simp only[loc]at hl;split at hl
    .simp only[Option.some.injEq,Prod.mk.injEq]at hl;simp[<-hl.2]
    .cases hl
   |aw y p=>
    simp only[loc]at hl;split at hl
    .rename_i sO;simp only[Option.some.injEq,Prod.mk.injEq]at hl;obtain⟨rfl,rfl⟩:=hl;intro e;subst e;simp[I.gE]at sO
    .cases hl
   |_=>simp[loc]at hl
  split at h
  .cases h
  .rename_i bN n0;split at h
   .rename_i d0 nW;split at h
    .rename_i au;simp only[Option.some.injEq]at h;subst h;refine⟨ms++[⟨.cU,z,I.put q d (s z)⟩],?_,?_,?_⟩
     .rw[pH,<-h1,zF]
     .intro m hm;simp only[mem_append,mem_singleton]at hm⊢;rcases hm with hm|rfl
      .exact⟨.inr (af m hm).1,(af m hm).2⟩
      .exact⟨.inl b3,BO q _ _ _ nW (.inr cF) λe=>(cF e).elim⟩
     .intro aC ae;have aK:=ay aC ae.right;simp only at aK;simp only[k3,aK,NJ ae.left,hl,ae.left z b3,nW];cases d<;>first|(simp only[if_pos au,Option.map_some,pH,zF];done)|exact(n0 _ rfl).elim
    .cases h
   .cases h
 .cases h
theorem afz {fP aj:Option I} {av:I} (h:iJ C s T x fP aj=some (av,s1)):Loc x.ae x.ae (λs=>iJ C s T x fP aj) s av s1:=by
 cases x with
 |h y q=>
  unfold iJ at h;split at h<;>first|(cases h;done)|skip
  all_goals (rename_i aq;try cases aq)
  rename_i e hk;split at h
  .rename_i sz xs fY;split at h
   .rename_i b rC rD;split at h
    .rename_i au;split at h
     .rename_i d s2 a6;simp only[Option.some.injEq,Prod.mk.injEq]at h;obtain⟨rfl,rfl⟩:=h;obtain⟨ms,h1,af,ay⟩:=uu a6;refine⟨ms,h1,af,λaC ae=>?_⟩;have:=ay aC ae;simp only at this;have aK:aC y=s y:=ae y (by simp[I.ae]);simp only[iJ,hk,aK,fY,rC,rD,if_pos au,this]
     .cases h
    .cases h
   .cases h
  .cases h
 |_=>
  have vW:s1=s:=by
   unfold iJ at h
   repeat' split at h
   all_goals first|(cases h;done)|(simp only[Option.some.injEq,Prod.mk.injEq]at h;exact h.2.symm)|simp_all
  subst vW;refine .pure λaC _=>?_;unfold iJ at h⊢
  repeat' split at h
  all_goals first
   |(cases h;done)
   |(simp only[Option.some.injEq,Prod.mk.injEq]at h
     obtain⟨rfl,_⟩:=h;simp_all)
def uv (C:cu) (e:TypeId) (s:an):I->Option (I×an)
 | .bf=>some (I.ag (C.T e).sz [],s)
 | .h a q=>dG s (.h a q)
 |_=>none
def oA (s1:an):I->Option (aAk×an)
 | .bf=>some ([],s1)
 | .slice cq=>some (cq,s1)
 | .str l=>some (l.map jg,s1)
 | .h a q=>match dG s1 (.h a q)with
   |some (.ag _ cq,s2)=>some (cq,s2)
   |_=>none
 |_=>none
theorem NM (C:cu) (s:an) (T dZ:TypeId) (x y:I):vU C s T dZ x y=(match(C.T T).k with
 | .slice e=>if(C.T e).ok=true/\(C.T e).zero.wd=(C.T e).sz/\(flat (C.T e).zero).isSome=true/\IX C e dZ=true then
   match uv C e s x with
   |some (.ag sz xs,s1)=>if sz=(C.T e).sz then
     match oA s1 (nw x.owner y)with
     |some (cq,s2)=>if(∀d∈cq,d.wd=(C.T e).sz)/\(xs.length+cq.length)*(C.T e).bytes<=140737488355328/\xs.length+cq.length<=9223372036854775807 then some (.ag sz (xs++cq),s2)else none
     |none=>none
    else none
   |_=>none
   else none
 |_=>none):=by
 unfold vU;generalize nw x.owner y=ox;cases(C.T T).k<;>first
  |rfl
  |(cases x<;>cases ox<;>rfl)
theorem afA {e:TypeId} {d:I} (h1:uv C e s x=some (d,s1)):Loc x.ae x.ae (λs=>uv C e s x) s d s1:=by
 cases x with
 |bf=>
  simp only[uv,Option.some.injEq,Prod.mk.injEq]at h1;obtain⟨h1,rfl⟩:=h1;exact .pure λaC _=>by simp only[uv,h1]
 |h a q=>exact uu h1
 |_=>simp[uv]at h1
theorem afB {cq:aAk} (af:oA s y=some (cq,s1)):Loc y.ae y.ae (λs=>oA s y) s cq s1:=by
 cases y with
 |bf=>
  simp only[oA,Option.some.injEq,Prod.mk.injEq]at af;obtain⟨rfl,rfl⟩:=af;exact .pure λaC _=>rfl
 |slice cq=>
  simp only[oA,Option.some.injEq,Prod.mk.injEq]at af;obtain⟨rfl,rfl⟩:=af;exact .pure λaC _=>rfl
 |str l=>
  simp only[oA,Option.some.injEq,Prod.mk.injEq]at af;obtain⟨rfl,rfl⟩:=af;exact .pure λaC _=>rfl
 |h a q=>
  simp only[oA]at af;split at af
  .rename_i aeS ayc mV a6;simp only[Option.some.injEq,Prod.mk.injEq]at af;obtain⟨rfl,rfl⟩:=af;obtain⟨ms,g1,g2,g3⟩:=uu a6;refine⟨ms,g1,g2,λaC ae=>?_⟩;have:=g3 aC ae;simp only at this;simp only[oA,this]
  .cases af
 |_=>simp[oA]at af
theorem afC {av:I} (h:vU C s T A x y=some (av,s1)):Loc (x.ae++y.ae) (x.ae++y.ae) (λs=>vU C s T A x y) s av s1:=by
 rw[NM]at h;split at h
 .rename_i e hk;split at h
  .rename_i au;split at h
   .rename_i sz xs s2 h1;split at h
    .rename_i eX;split at h
     .rename_i cq pI af;split at h
      .rename_i lq;simp only[Option.some.injEq,Prod.mk.injEq]at h;obtain⟨rfl,rfl⟩:=h;obtain⟨sX,rfl,a2,a3⟩:=afA h1;obtain⟨xS,rfl,fI,fV⟩:=(afB af).mono (NL _ _) (NL _ _);refine⟨sX++xS,(pH _ _ _).symm,?_,?_⟩
       .intro m hm;simp only[mem_append]at hm⊢;rcases hm with hm|hm
        .exact⟨.inl (a2 m hm).1,(a2 m hm).2⟩
        .exact⟨.inr (fI m hm).1,(fI m hm).2⟩
       .intro aC ae;have aK:=a3 aC ae.left;have aT:=fV (eQ sX aC) (ae.right.eQ sX);simp only at aK aT;simp only[NM,hk,if_pos au,aK,if_pos eX,aT,if_pos lq,pH]
      .cases h
     .cases h
    .cases h
   .cases h
  .cases h
 .cases h
theorem afD {aC:an} {i:I} (h:eD x.ae aC s):jU C aC T x i=jU C s T x i:=by
 cases x with
 |h y q=>cases i<;>simp only[jU,h y (by simp[I.ae])]
 |_=>rfl
theorem afE {i v:I} {s2:an} (h:k6 C s T x i v=some s2):Loc x.ae x.ae (λs=>(k6 C s T x i v).map λs1=>(I.hole,s1)) s .hole s2:=by
 unfold k6 at h;split at h
 .rename_i y q k b;split at h
  .rename_i m ao;split at h
   .rename_i kP;simp only[Option.some.injEq]at h;subst h;refine⟨[⟨.cU,y,I.put q (.ck (.mp (kx k b m))) (s y)⟩],zF _ _ _,?_,λaC ae=>?_⟩
    .intro n aV;simp only[mem_singleton]at aV;subst aV;exact⟨by simp[I.ae],BO q _ _ _ ao (.inl rfl) λ_=>rfl⟩
    .have aK:aC y=s y:=ae y (by simp[I.ae]);simp only[k6,aK,ao,kP,if_true,Option.map_some];rw[<-zF]
   .cases h
  .cases h
 .cases h
theorem VZ {b4:e2} {av:I} (h:ch C s b4=some (av,s1)):Loc (use s b4) (lr s b4) (λs=>ch C s b4) s av s1:=by
 cases b4 with
 |shr b4=>simp[ch]at h
 |mU f args L=>simp[ch]at h
 |pG x=>
  simp only[ch]at h;unfold uo at h;split at h
  .rename_i y q aq;obtain⟨ms,h1,af,ay⟩:=uu h;refine⟨ms,h1,by simpa only[lr,aq]using af,λaC ae=>?_⟩;have e:=bA.gC (x:=x) ae;have aT:=ay aC (by rw[<-aq];exact eD.bx ae);simp only[ch,e,aq,uo];exact aT
  .rename_i V0;simp only[Option.some.injEq,Prod.mk.injEq]at h;obtain⟨rfl,rfl⟩:=h;refine .pure λaC ae=>?_;have e:=bA.gC (x:=x) ae;simp only[ch,e,uo]
 |p_ x=>
  simp only[ch,Option.some.injEq,Prod.mk.injEq]at h;obtain⟨rfl,rfl⟩:=h;exact .pure λaC ae=>by simp only[ch,bA.gC (x:=x) ae]
 |mg T x=>
  obtain⟨ms,h1,af,ay⟩:=afx h;refine⟨ms,h1,af,λaC ae=>?_⟩;simp only[ch,bA.gC (x:=x) ae];exact ay aC (eD.bx ae)
 |bad=>simp[ch]at h
 |kQ fp x y=>
  simp only[ch,Option.map_eq_some_iff,Prod.mk.injEq]at h;obtain⟨d,ao,rfl,rfl⟩:=h;exact .pure λaC ae=>by
   simp only[use]at ae;simp only[ch,bA.gC (x:=x) ae.left,bA.gC (x:=y) ae.right,ao,Option.map_some]
 |cap T x=>
  simp only[ch]at h;split at h
  .rename_i e hk aq;simp only[Option.some.injEq,Prod.mk.injEq]at h;obtain⟨rfl,rfl⟩:=h;exact .pure λaC ae=>by simp only[ch,bA.gC (x:=x) ae,hk,aq]
  .cases h
 |ht x=>
  simp only[ch,Option.some.injEq,Prod.mk.injEq]at h;obtain⟨rfl,rfl⟩:=h;exact .pure λaC ae=>by simp only[ch,bA.gC (x:=x) ae]
 |hN x=>
  simp only[ch]at h;split at h
  .rename_i y q aq;obtain⟨ms,h1,af,ay⟩:=uu h;refine⟨ms,h1,by simpa only[lr,aq]using af,λaC ae=>?_⟩;have e:=bA.gC (x:=x) ae;have aT:=ay aC (by rw[<-aq];exact eD.bx ae);simp only[ch,e,aq];exact aT
  .rename_i V0;simp only[Option.some.injEq,Prod.mk.injEq]at h;obtain⟨rfl,rfl⟩:=h;refine .pure λaC ae=>?_;have e:=bA.gC (x:=x) ae;simp only[ch,e]
 |pick c a b=>
  simp only[ch]at h;split at h
  .rename_i gI ab;simp only[Option.some.injEq,Prod.mk.injEq]at h;obtain⟨rfl,rfl⟩:=h;refine .pure λaC ae=>?_;simp only[use]at ae;simp only[ch,bA.gC (x:=c) ae.left,bA.gC (x:=a) ae.right.left,bA.gC (x:=b) ae.right.right,ab]
  .cases h
 |mR T=>
  simp only[ch,Option.map_eq_some_iff,Prod.mk.injEq]at h;obtain⟨d,ao,rfl,rfl⟩:=h;exact .pure λaC ae=>by simp only[ch,ao,Option.map_some]
 |ir T x=>
  obtain⟨ms,h1,af,ay⟩:=afw h;refine⟨ms,h1,af,λaC ae=>?_⟩;simp only[ch,bA.gC (x:=x) ae];exact ay aC (eD.bx ae)
 |gB T ps=>
  obtain⟨ms,h1,af,ay⟩:=afu h;simp only[List.map_map,Function.comp_def]at af ay;refine⟨ms,h1,af,λaC ae=>?_⟩;simp only[ch,bA.NI (ps:=ps) ae];refine ay aC (ae.sub λu hu=>?_);simp only[use];exact bA.I3 u (by simpa [List.map_map,Function.comp_def]using hu)
 |dM T n ps=>
  obtain⟨ms,h1,af,ay⟩:=afv h;simp only[List.map_map,Function.comp_def]at af ay;refine⟨ms,h1,af,λaC ae=>?_⟩;simp only[ch,bA.NI (ps:=ps) ae];refine ay aC (ae.sub λu hu=>?_);simp only[use];exact bA.I3 u (by simpa [List.map_map,Function.comp_def]using hu)
 |ld T x=>
  simp only[ch,Option.map_eq_some_iff,Prod.mk.injEq]at h;obtain⟨d,ao,rfl,rfl⟩:=h;exact .pure λaC ae=>by simp only[ch,bA.gC (x:=x) ae,afk (eD.bx ae),ao,Option.map_some]
 |k3 T x y=>
  simp only[ch,Option.map_eq_some_iff,Prod.mk.injEq]at h;obtain⟨s2,ao,rfl,rfl⟩:=h;obtain⟨ms,h1,af,ay⟩:=afy ao;refine⟨ms,h1,af,λaC ae=>?_⟩;simp only[use]at ae;simp only[ch,bA.gC (x:=x) ae.left,bA.gC (x:=y) ae.right];exact ay aC (ae.sub λu hu=>by simp only[mem_append]at hu⊢;exact hu.imp (bA.zG u) (bA.zG u))
 |mA x=>
  simp only[ch,Option.map_eq_some_iff,Prod.mk.injEq]at h;obtain⟨d,ao,rfl,rfl⟩:=h;exact .pure λaC ae=>by simp only[ch,bA.gC (x:=x) ae,afs (eD.bx ae),ao,Option.map_some]
 |eP op T x y=>
  simp only[ch,Option.map_eq_some_iff,Prod.mk.injEq]at h;obtain⟨d,ao,rfl,rfl⟩:=h;refine .pure λaC ae=>?_;simp only[use]at ae;simp only[ch,bA.gC (x:=x) ae.left,bA.gC (x:=y) ae.right,afr (eD.bx ae.left),ao,Option.map_some]
 |un op x=>
  simp only[ch,Option.map_eq_some_iff,Prod.mk.injEq]at h;obtain⟨d,ao,rfl,rfl⟩:=h;exact .pure λaC ae=>by simp only[ch,bA.gC (x:=x) ae,ao,Option.map_some]
 |k5 A B x=>
  simp only[ch,Option.map_eq_some_iff,Prod.mk.injEq]at h;obtain⟨d,ao,rfl,rfl⟩:=h;exact .pure λaC ae=>by simp only[ch,bA.gC (x:=x) ae,afo (eD.bx ae),ao,Option.map_some]
 |p9 f cs=>
  simp only[ch,Option.some.injEq,Prod.mk.injEq]at h;obtain⟨rfl,rfl⟩:=h;exact .pure λaC ae=>by simp only[ch,bA.NH (xs:=cs) ae]
 |fi T l c=>
  simp only[ch,Option.map_eq_some_iff,Prod.mk.injEq]at h;obtain⟨d,ao,rfl,rfl⟩:=h;refine .pure λaC ae=>?_;simp only[use]at ae;simp only[ch,bA.gC (x:=l) ae.left,bA.gC (x:=c) ae.right,ao,Option.map_some]
 |iJ T x fP aj=>
  simp only[ch]at h;obtain⟨ms,h1,af,ay⟩:=afz h;refine⟨ms,h1,af,λaC ae=>?_⟩;simp only[use]at ae;simp only[ch,bA.gC (x:=x) ae.left,VQ ae.right.left,VQ ae.right.right];exact ay aC (eD.bx ae.left)
 |hV T x k=>
  simp only[ch,Option.map_eq_some_iff,Prod.mk.injEq]at h;obtain⟨d,ao,rfl,rfl⟩:=h;exact .pure λaC ae=>by simp only[ch,bA.gC (x:=x) ae,afl (eD.bx ae),ao,Option.map_some]
 |kg T x i=>
  simp only[ch,Option.map_eq_some_iff,Prod.mk.injEq]at h;obtain⟨d,ao,rfl,rfl⟩:=h;refine .pure λaC ae=>?_;simp only[use]at ae;simp only[ch,bA.gC (x:=x) ae.left,bA.gC (x:=i) ae.right,afm (eD.bx ae.left),ao,Option.map_some]
 |idx T x i=>
  simp only[ch,Option.map_eq_some_iff,Prod.mk.injEq]at h;obtain⟨d,ao,rfl,rfl⟩:=h;refine .pure λaC ae=>?_;simp only[use]at ae;simp only[ch,bA.gC (x:=x) ae.left,bA.gC (x:=i) ae.right,ao,Option.map_some]
 |ext x k=>
  simp only[ch]at h;obtain⟨y,q,p,h1,af,ay⟩:=VC h;obtain⟨ms,g1,g2,g3⟩:=uu ay;refine⟨ms,g1,by simpa only[lr,h1,I.ae]using g2,λaC ae=>?_⟩;have bs:eD (bx s x).ae aC s:=eD.bx ae;have aK:ex aC (bx s x) k=some (.h y p):=(VS bs).trans af;have aT:=g3 aC (λv aB=>bs v (by rw[h1];exact aB));simp only[ch,bA.gC (x:=x) ae];unfold xU;rw[aK,h1];simp only[if_true];exact aT
 |ex x k=>
  simp only[ch,Option.map_eq_some_iff,Prod.mk.injEq]at h;obtain⟨d,ao,rfl,rfl⟩:=h;exact .pure λaC ae=>by simp only[ch,bA.gC (x:=x) ae,VS (eD.bx ae),ao,Option.map_some]
 |sU=>
  simp only[ch,Option.some.injEq,Prod.mk.injEq]at h;obtain⟨rfl,rfl⟩:=h;exact .pure λaC ae=>rfl
 |jU T x i=>
  simp only[ch,Option.map_eq_some_iff,Prod.mk.injEq]at h;obtain⟨d,ao,rfl,rfl⟩:=h;refine .pure λaC ae=>?_;simp only[use]at ae;simp only[ch,bA.gC (x:=x) ae.left,bA.gC (x:=i) ae.right,afD (eD.bx ae.left),ao,Option.map_some]
 |k6 T x i v=>
  simp only[ch,Option.map_eq_some_iff,Prod.mk.injEq]at h;obtain⟨s2,ao,rfl,rfl⟩:=h;obtain⟨ms,h1,af,ay⟩:=afE ao;refine⟨ms,h1,af,λaC ae=>?_⟩;simp only[use]at ae;simp only[ch,bA.gC (x:=x) ae.left,bA.gC (x:=i) ae.right.left,bA.gC (x:=v) ae.right.right];exact ay aC (eD.bx ae.left)
 |pB T x k=>
  simp only[ch,Option.bind_eq_some_iff]at h;obtain⟨d,ao,h⟩:=h;unfold uo at h;split at h
  .rename_i y q;have aq:=aft ao;obtain⟨ms,h1,af,ay⟩:=uu h;refine⟨ms,h1,by simpa only[lr,aq,I.ae]using af,λaC ae=>?_⟩;have aT:=ay aC (by rw[show(I.h y q).ae=(bx s x).ae from aq.symm];exact eD.bx ae);simp only[ch,bA.gC (x:=x) ae,VR (eD.bx ae),ao,Option.bind_some,uo];exact aT
  .rename_i V0;simp only[Option.some.injEq,Prod.mk.injEq]at h;obtain⟨rfl,rfl⟩:=h;refine .pure λaC ae=>?_;simp only[ch,bA.gC (x:=x) ae,VR (eD.bx ae),ao,Option.bind_some,uo]
 |call f args=>simp[ch]at h
 |len T x=>
  simp only[ch,Option.map_eq_some_iff,Prod.mk.injEq]at h;obtain⟨d,ao,rfl,rfl⟩:=h;exact .pure λaC ae=>by simp only[ch,bA.gC (x:=x) ae,afn (eD.bx ae),ao,Option.map_some]
 |app T dZ x y=>
  obtain⟨ms,h1,af,ay⟩:=afC h;refine⟨ms,h1,af,λaC ae=>?_⟩;simp only[use]at ae;simp only[ch,bA.gC (x:=x) ae.left,bA.gC (x:=y) ae.right];exact ay aC (ae.sub λu hu=>by simp only[mem_append]at hu⊢;exact hu.imp (bA.zG u) (bA.zG u))
end
mutual
def view (s:an):I->Option I
 | .h x q=>match I.sub q (s x)with
   |some d=>(match d with| .tuple _=>none| .ck _=>none| .gN _ _=>none|d=>if d.plain then none else some d.share)
   |none=>none
 | .aw x q=>if I.gE q (s x)then(match I.sub q (s x)with
   |some d=>(match d with| .tuple _=>none|d=>some (.ref d.share))
   |none=>none)else none
 | .ab _ _=>none
 | .fn f cap=>(views s cap).map (.fn f)
 | .hole=>none
 |d=>some d
def views (s:an):aAk->Option aAk
 |[]=>some []
 |d::ds=>match view s d,views s ds with
  |some a,some b=>some (a::b)
  |_,_=>none
end
mutual
theorem NN:∀d:I,d.share.plain=true
 | .hole=>rfl
 | .bool _=>rfl
 | .gq=>rfl
 | .int _ _=>rfl
 | .str _=>rfl
 | .et=>rfl
 | .bf=>rfl
 | .slice _=>rfl
 | .ag _ _=>rfl
 | .ref _=>rfl
 | .aP _=>rfl
 | .agg aG=>by simp only[I.share,I.plain];exact NO aG
 | .tuple aG=>by simp only[I.share,I.plain];exact NO aG
 | .fn _ _=>rfl
 | .h _ _=>rfl
 | .aw _ _=>rfl
 | .ab _ _=>rfl
 | .ck _=>rfl
 | .gN _ _=>rfl
theorem NO:∀ds:aAk,I.e6 (I.shares ds)=true
 |[]=>rfl
 |d::ds=>by simp only[I.shares,I.e6];rw[NN d,NO ds];rfl
end
theorem afF {s:an} {a d:I} (h:a.plain=true) (he:view s a=some d):d.plain=true:=by
 cases a with
 |h x q=>
  simp only[view]at he;split at he
  .rename_i e fY;cases e<;>simp only at he<;>first
    |(cases he;done)
    |(split at he
      .cases he
      .simp only[Option.some.injEq]at he;subst he;exact NN _)
  .cases he
 |aw x q=>
  simp only[view]at he;split at he
  .split at he
   .rename_i e fY;cases e<;>simp only at he<;>first
     |(cases he;done)
     |(simp only[Option.some.injEq]at he;subst he;rfl)
   .cases he
  .cases he
 |fn f cap=>
  simp only[view,Option.map_eq_some_iff]at he;obtain⟨ds,_,rfl⟩:=he;rfl
 |hole=>simp[view]at he
 |ab y q=>simp[view]at he
 |_=>simp only[view,Option.some.injEq]at he;subst he;exact h
theorem NP {d:I} {v:Value} (h1:∀vs,d≠.tuple vs) (h:eW d v):eW d.share v:=by
 cases d<;>first|exact h|exact(h1 _ rfl).elim
theorem afG (w:World):∀(q:aAf) (av d bN:I) (cs dI:aAi) (a dF:Option (Nat×Nat)),I.sub q av=some d->bN.wd=d.wd->ew w q av cs a=some (d,dI,dF)->
  ew w q (I.put q bN av) cs a=some (bN,dI,dF):=by
 intro q;induction q with
 |nil=>
  intro av d bN cs dI a dF ao hw h;simp only[ew,Option.some.injEq,Prod.mk.injEq]at h;obtain⟨rfl,rfl,rfl⟩:=h;simp only[I.put,ew]
 |cons k q ih=>
  intro av d bN cs dI a dF ao hw h;cases av with
  |agg aG=>
   simp only[I.sub]at ao;split at ao
   .rename_i x aq;have hk:k<aG.length:=(List.getElem?_eq_some_iff.1 aq).1;simp only[ew,aq]at h;simp only[I.put,aq,ew];rw[getElem?_set_self hk];simp only[take_set_of_le (Nat.le_refl k),I.Bx q x d bN ao hw];exact ih _ _ _ _ _ _ _ ao hw h
   .cases ao
  |tuple aG=>
   simp only[I.sub]at ao;split at ao
   .rename_i x aq;have hk:k<aG.length:=(List.getElem?_eq_some_iff.1 aq).1;simp only[ew,aq]at h;simp only[I.put,aq,ew];rw[getElem?_set_self hk];simp only[take_set_of_le (Nat.le_refl k),I.Bx q x d bN ao hw];exact ih _ _ _ _ _ _ _ ao hw h
   .cases ao
  |ag sz aG=>
   simp only[I.sub]at ao;split at ao
   .rename_i x aq;have hk:k<aG.length:=(List.getElem?_eq_some_iff.1 aq).1;have nY:(aG.set k (I.put q bN x))[k]? =some (I.put q bN x):=getElem?_set_self hk;simp only[I.put,aq];rw[ew.eq_def]at h⊢;simp only[aq]at h;simp only;rw[nY];split at h
    .rename_i aK;simp only[Option.some.injEq]at aK;subst aK;exact ih _ _ _ _ _ _ _ ao hw h
    .cases h
   .cases ao
  |aP x=>
   cases k with
   |zero=>
    simp only[I.sub]at ao;rw[ew.eq_def]at h⊢;simp only at h;simp only[I.put];split at h
    .rw[I.Bx q x d bN ao hw];exact ih _ _ _ _ _ _ _ ao hw h
    .cases h
   |succ k=>simp[I.sub]at ao
  |_=>simp[I.sub]at ao
section
variable {w0 w aJ:World} {F0 X F Fc:Nat->Prop} {S:Nat->Nat->Prop} {s aC:an} {aD kf:Nat->Value}
theorem afH (h:ca w0 F0 X F S s aD w) (bC:∀b,F b->Fc b):∀n,
  (∀(a:I) (v:Value) (d:I),SizeOf.sizeOf a<=n->(∀t∈a.ae,∀b,S t b->Fc b)->view s a=some d->aQ w F s aD a v (λ_=>False)->aQ w Fc aC kf d v (λ_=>False))/\
  (∀(as:aAk) (vs:aAi) (ds:aAk),SizeOf.sizeOf as<=n->(∀t∈I.ff as,∀b,S t b->Fc b)->views s as=some ds->e7 w F s aD as vs->e7 w Fc aC kf ds vs):=by
 intro n;induction n with
 |zero=>exact⟨λa _ _ b3=>by cases a<;>simp at b3<;>omega,λas _ _ b3=>by cases as<;>simp at b3<;>omega⟩
 |succ n ih=>
  refine⟨λa v d b3 cc he aB=>?_,λas vs ds b3 cc he aB=>?_⟩
  .cases a with
   |h x q=>
    simp only[view]at he;split at he
    .rename_i e fY;have key:(∀aG,e≠.tuple aG)/\e.plain=false/\d=e.share/\(∀o,e≠.ck o)/\∀f c,e≠.gN f c:=by
      cases e<;>simp only at he<;>first
       |(cases he;done)
       |(split at he
         .cases he
         .rename_i fL;simp only[Option.some.injEq]at he;exact⟨(λ_ h=>by cases h),by simpa using fL,he.symm,(λ_ h=>by cases h),λ_ _ h=>by cases h⟩)
     obtain⟨n0,fL,rfl,nU,NQ⟩:=key;rw[aQ]at aB;obtain⟨dI,dF,g1,g2,g3⟩:=aB e fY fL;have a6:=jF fY (.inl fL);have aq:=(aQ.dj a6).1 (h.eg x);obtain⟨gZ,a2,fb,gr,k0,bV,cn,dV,ea,eC⟩:=ctx q (s x) (cZ (aD x)) (S x) none e aq.2 fY;rw[g1]at k0;simp only[Option.some.injEq,Prod.mk.injEq,true_and]at k0;obtain⟨rfl,rfl⟩:=k0;have ED:e.share.tree=true:=by cases e<;>first|rfl|(simp[I.plain]at fL;done)|exact(nU _ rfl).elim|exact(NQ _ _ rfl).elim
     have aR:=az.shared bC e dI gr (λb ab=>cc x (by simp[I.ae]) b (cn b ab)) ea;exact(aQ.dj ED).2 ⟨NP n0 g3,by rw[g2];exact aR⟩
    .cases he
   |aw x q=>
    simp only[view]at he;split at he
    .rename_i sO;split at he
     .rename_i e fY;have key:(∀aG,e≠.tuple aG)/\d= .ref e.share:=by
       cases e<;>simp only at he<;>first
        |(cases he;done)
        |(simp only[Option.some.injEq]at he;exact⟨(λ_ h=>by cases h),he.symm⟩)
      obtain⟨n0,rfl⟩:=key;rw[aQ]at aB;obtain⟨dI,b,o,g1,rfl⟩:=aB e fY sO;have a6:=jF fY (.inr sO);have aq:=(aQ.dj a6).1 (h.eg x);obtain⟨gZ,a2,fb,gr,k0,bV,cn,dV,ea,eC⟩:=ctx q (s x) (cZ (aD x)) (S x) none e aq.2 fY;rw[g1]at k0;simp only[Option.some.injEq,Prod.mk.injEq,true_and]at k0;obtain⟨rfl,rfl⟩:=k0;have aR:=az.shared bC e dI gr (λb ab=>cc x (by simp[I.ae]) b (cn b ab)) ea;rcases eC with⟨l,r,_,aT,_⟩|⟨gI,cur,ty,fr,l,r,aK,aT,aU,b_,cY,_⟩
      .simp at aT
      .simp only[Option.some.injEq,Prod.mk.injEq]at aK;obtain⟨rfl,rfl⟩:=aK;refine(aQ.dj rfl).2 ⟨rfl,?_⟩;rw[az];refine⟨b,l.length,dI,rfl,cc x (by simp[I.ae]) b (bV b aT),?_,aR⟩;intro j c bE;simp only[World.cell?,aU];have au:cur[l.length+j]? =some c:=by
        rw[<-Array.getElem?_toList,cY,getElem?_append_right (by omega),getElem?_append_left (by
         have:=(List.getElem?_eq_some_iff.1 bE).1;omega)]
        rw[<-bE];congr 1;omega
       simpa using au
     .cases he
    .cases he
   |fn f cap=>
    simp only[view,Option.map_eq_some_iff]at he;obtain⟨ds,lT,rfl⟩:=he;rw[aQ]at aB;obtain⟨arr,rfl,au⟩:=aB;rw[aQ];exact⟨arr,rfl,ih.2 cap _ _ (by simp at b3;omega) (by simpa [I.ae]using cc) lT au⟩
   |hole=>simp[view]at he
   |ab y q=>simp[view]at he
   |_=>
    simp only[view,Option.some.injEq]at he;subst he;have px:=(aQ.dj rfl).1 aB;exact(aQ.dj rfl).2 ⟨px.1,az.mono bC _ _ _ _ (λ_ h=>h) px.2⟩
  .cases as with
   |nil=>
    simp only[views,Option.some.injEq]at he;subst he;rw[e7]at aB⊢;exact aB
   |cons a as=>
    simp only[views]at he;split at he
    .rename_i d ds h1 af;simp only[Option.some.injEq]at he;subst he;rw[e7]at aB⊢;obtain⟨v,mc,rfl,g1,g2⟩:=aB;simp at b3;simp only[I.ff,mem_append]at cc;exact⟨v,mc,rfl,ih.1 a v d (by omega) (λt a6=>cc t (.inl a6)) h1 g1,ih.2 as mc ds (by omega) (λt a6=>cc t (.inr a6)) af g2⟩
    .cases he
theorem ca.kR (h:ca w0 F0 X F S s aD w) {x:Nat} {q:aAf} {d0 bN:I} {dI:aAi} {a:Option (Nat×Nat)} {Sn:Nat->Prop}
  (ao:I.sub q (s x)=some d0) (bI:ew w q (s x) (cZ (aD x)) none=some (d0,dI,a)) (af:∀vs,bN≠.tuple vs) (a6:q=[]->bN.tree=true/\eW bN (aD x))
  (ay:∀k p,q=k::p->(s x).tree=true/\(∀v,ke d0 v->ke bN v)) (hw:bN.wd=d0.wd)
  (aB:az w F bN dI Sn) (eA:∀b,Sn b->b<w.heap.size) (bC:∀b,Sn b->¬F b) (cc:∀u b,Sn b->¬S u b) (a7:∀b,Sn b->X b\/w0.heap.size<=b):
  ca w0 F0 X F (g_ S x (λb=>S x b\/Sn b)) (eo (oZ x s) x (I.put q bN (s x))) aD w:=by
 have fe:eo aD x (aD x)=aD:=by funext u;simp only[eo];split<;>simp_all
 have main:(I.put q bN (s x)).tree=true/\eW (I.put q bN (s x)) (aD x)/\az w F (I.put q bN (s x)) (cZ (aD x)) (λb=>S x b\/Sn b):=by
  cases q with
  |nil=>
   simp only[ew,Option.some.injEq,Prod.mk.injEq]at bI;obtain⟨aK,aT,aU⟩:=bI;obtain⟨g1,g2⟩:=a6 rfl;simp only[I.put];refine⟨g1,?_,?_⟩
   .exact g2
   .rw[aT];exact az.mono (λ_ h=>h) _ _ _ _ (λb ab=>.inr ab) aB
  |cons k p=>
   obtain⟨g1,g2⟩:=ay k p rfl;have aq:=(aQ.dj g1).1 (h.eg x);obtain⟨gZ,a2,fb,gr,k0,bV,cn,dV,ea,eC⟩:=ctx (k::p) (s x) (cZ (aD x)) (S x) none d0 aq.2 ao;rw[bI]at k0;simp only[Option.some.injEq,Prod.mk.injEq,true_and]at k0;obtain⟨rfl,rfl⟩:=k0;refine⟨?_,?_,?_⟩
   .rcases xJ k p bN (s x)with⟨aG,gs,aK,e⟩|⟨aG,gs,aK,e⟩|⟨sz,xs,cq,aK,e⟩|⟨y,z,aK,e⟩|e<;>rw[e]<;>first|rfl|exact g1
   .refine Ez aq.1 ao g2 (λ_ vs e=>(af vs e).elim) hw
   .have mono:∀b,(fb b\/Sn b)->(S x b\/Sn b):=λb ab=>ab.imp (bV b) id;rcases eC with⟨l,r,aK,aT,aU⟩|⟨b,cur,ty,fr,l,r,aK,aT,aU,b_,cY,cv⟩
    .rw[aK];exact az.mono (λ_ h=>h) _ _ _ _ mono (aU w bN dI Sn (λ_ _=>rfl) (λ_ _=>rfl) hw aB (λb ab au=>cc x b ab (bV b au)))
    .refine az.mono (λ_ h=>h) _ _ _ _ mono (cv w bN dI Sn (λ_ _=>rfl) (λ_ _ _=>rfl) ?_ hw aB (λb ab au=>cc x b ab (bV b au)));rw[aU,<-cY]
 have:=h.UE (t:=x) main.1 main.2.1 main.2.2 (by rintro b (ab|ab);exact h.fc x b ab;exact eA b ab) (by rintro b (ab|ab);exact h.gl x b ab;exact bC b ab)
  (by rintro u b dP (ab|ab);exact λhu=>h.fT u x b dP hu ab;exact cc u b ab) (by rintro b (ab|ab);exact h.eI x b ab;exact a7 b ab)
 rwa [fe]at this
end
mutual
def I.c8:I->Bool
 | .slice _=>false
 | .ref _=>false
 | .fn _ _=>false
 | .h _ _=>false
 | .aw _ _=>false
 | .ab _ _=>false
 | .ag _ xs=>I.gJ xs
 | .aP d=>d.c8
 | .agg aG=>I.gJ aG
 | .tuple aG=>I.gJ aG
 | .gN _ aG=>I.gJ aG
 |_=>true
def I.gJ:aAk->Bool
 |[]=>true
 |d::ds=>d.c8&&I.gJ ds
end
mutual
theorem az.c8 {w:World} {F cg:Nat->Prop}:∀(d:I) (cs:aAi) (S:Nat->Prop),d.c8=true->az w F d cs S->az w cg d cs S
 | .hole,_,_,_,h=>h
 | .bool _,_,_,_,h=>h
 | .gq,_,_,_,h=>h
 | .int _ _,_,_,_,h=>h
 | .str _,_,_,_,h=>h
 | .et,_,_,_,h=>h
 | .bf,_,_,_,h=>h
 | .slice xs,cs,S,aV,h=>by simp[I.c8]at aV
 | .ref d,cs,S,aV,h=>by simp[I.c8]at aV
 | .ag sz xs,cs,S,aV,h=>by
   rw[az]at h⊢;rcases h with h|⟨b,cap,cur,e,fr,aY,h1,af,ay,a_,b1,dn,dc,gH,iq,k2,nT⟩
   .exact .inl h
   .exact .inr ⟨b,cap,cur,e,fr,aY,h1,af,ay,a_,b1,dn,dc,gH,br.c8 xs _ _ aV iq,k2,nT⟩
 | .aP d,cs,S,aV,h=>by
   rw[az]at h⊢;obtain⟨b,cur,e,fr,aY,h1,af,ay,a_,b1,dn,dc⟩:=h;exact⟨b,cur,e,fr,aY,h1,af,ay,a_,az.c8 d _ _ aV b1,dn,dc⟩
 | .agg aG,cs,S,aV,h=>by rw[az]at h⊢;exact br.c8 aG _ _ aV h
 | .tuple aG,cs,S,aV,h=>by rw[az]at h⊢;exact br.c8 aG _ _ aV h
 | .fn _ _,_,_,aV,h=>by simp[I.c8]at aV
 | .h _ _,_,_,_,h=>h
 | .aw _ _,_,_,_,h=>h
 | .ab _ _,_,_,_,h=>h
 | .ck _,_,_,_,h=>h
 | .gN _ caps,cs,S,aV,h=>by
   rw[az]at h⊢;obtain⟨arr,h1,af,ay⟩:=h;exact⟨arr,h1,af,br.c8 caps _ _ aV ay⟩
theorem br.c8 {w:World} {F cg:Nat->Prop}:∀(ds:aAk) (cs:aAi) (S:Nat->Prop),I.gJ ds=true->br w F ds cs S->br w cg ds cs S
 |[],_,_,_,h=>h
 |d::ds,cs,S,aV,h=>by
  simp only[I.gJ,Bool.and_eq_true]at aV;rw[br]at h⊢;obtain⟨c1,c2,cL,eG,h1,af,ay,a_,b1,dn⟩:=h;exact⟨c1,c2,cL,eG,h1,az.c8 d _ _ aV.1 af,br.c8 ds _ _ aV.2 ay,a_,b1,dn⟩
end
theorem V1:∀(q:aAf) (av d e:I),I.sub q av=some d->I.sub q (I.put q e av)=some e:=by
 intro q;induction q with
 |nil=>intro av d e _;simp[I.put,I.sub]
 |cons k q ih=>
  intro av d e h;cases av with
  |agg aG=>
   simp only[I.sub]at h;split at h
   .rename_i x aq;have hk:k<aG.length:=(List.getElem?_eq_some_iff.1 aq).1;simp only[I.put,aq,I.sub,getElem?_set_self hk];exact ih _ _ _ h
   .cases h
  |tuple aG=>
   simp only[I.sub]at h;split at h
   .rename_i x aq;have hk:k<aG.length:=(List.getElem?_eq_some_iff.1 aq).1;simp only[I.put,aq,I.sub,getElem?_set_self hk];exact ih _ _ _ h
   .cases h
  |ag sz aG=>
   simp only[I.sub]at h;split at h
   .rename_i x aq;have hk:k<aG.length:=(List.getElem?_eq_some_iff.1 aq).1;simp only[I.put,aq,I.sub,getElem?_set_self hk];exact ih _ _ _ h
   .cases h
  |aP x=>
   cases k with
   |zero=>simp only[I.sub]at h;simp only[I.put,I.sub];exact ih _ _ _ h
   |succ k=>simp[I.sub]at h
  |_=>simp[I.sub]at h
structure dq where
 a:I
 g:Bool
 d:I
 o:I
def I.own:I->Bool
 | .ag _ _=>true
 | .aP _=>true
 |_=>false
def I.hv:I->Bool
 | .ag _ _=>true
 | .aP _=>true
 | .ck _=>true
 | .gN _ _=>true
 | .agg aG=> !I.e6 aG
 |_=>false
def xW (d o:I):Bool:=match d,o with
 | .agg a,.agg b=>I.e_ a==I.e_ b
 | .agg _,_=>false
 |_,.agg _=>false
 |_,_=>true
theorem vX {d:I} (h:d.hv=true):d.plain=false/\d.tree=true/\∀vs,d≠.tuple vs:=by
 cases d<;>simp[I.hv]at h<;>first|exact⟨rfl,rfl,λvs e=>by cases e⟩|exact⟨by simp only[I.plain];exact h,rfl,λvs e=>by cases e⟩
theorem afI {d o:I} (h:d.hv=true) (bG:o.hv=true) (hl:xW d o=true):o.wd=d.wd/\(∀v,eW d v->eW o v)/\∀v,ke d.d_ v->ke o v:=by
 cases d<;>simp[I.hv]at h<;>cases o<;>simp[I.hv]at bG<;>simp[xW]at hl<;>first
  |exact⟨rfl,λ_ h=>h,λ_ h=>h⟩
  |exact⟨by simp only[I.wd];exact hl.symm,λ_ h=>h,λ_ h=>h⟩
def dq.ok (s:an) (p:dq):Prop:=
 if p.g then(match p.a with| .h x q=>I.sub q (s x)=some p.d/\p.d.hv=true/\(p.o= .hole\/(p.o.hv=true/\xW p.d p.o=true))|_=>False)
 else view s p.a=some p.d
def jH:List dq->Bool
 |[]=>true
 |p::r=>(r.all λdi=> !(p.g||di.g)||(p.a.ae.all λu=> !di.a.ae.contains u))&&jH r
def dq.take (s:an) (p:dq):an:=
 if p.g then(match p.a with| .h x q=>eo (js x s) x (I.put q p.d.d_ (s x))|_=>s)else s
def dq.kR (s:an) (p:dq):an:=
 if p.g then(match p.a,p.o with|_,.hole=>s| .h x q,o=>eo (oZ x s) x (I.put q o (s x))|_,_=>s)else s
def fM (s:an) (ps:List dq):an:=ps.foldl dq.take s
def iK (s:an) (ps:List dq):an:=ps.foldl dq.kR s
section
variable {w0 w aJ:World} {F0 X F Fc:Nat->Prop} {S:Nat->Nat->Prop} {s aC:an} {aD kf:Nat->Value}
def afJ (w:World) (F:Nat->Prop) (s1:an) (aD:Nat->Value) (p:dq) (v:Value) (Sn:Nat->Prop):Prop:=
 ∃x q a0,p.a= .h x q/\I.sub q (s1 x)=some p.d.d_/\ew w q (s1 x) (cZ (aD x)) none=some (p.d.d_,cZ v,a0)/\(s1 x).ae=[]/\(q=[]->eW p.d (aD x))/\(q≠[]->(s1 x).tree=true)/\
  eW p.d v/\az w F p.d (cZ v) Sn
theorem afK {p:dq} {x:Nat} (h:(s x).ae=[]) (aw:p.g=true->x∉p.a.ae):dq.take s p x=s x:=by
 unfold dq.take;split
 .rename_i hg;cases bs:p.a with
  |h y q=>
   have:x≠y:=by
    have:=aw hg;rw[bs]at this;simpa [I.ae]using this
   simp only;rw[lp _ _ this];exact E2 _ (by rw[h];simp)
  |_=>rfl
 .rfl
theorem NR:∀{ps:List dq} {s:an} {x:Nat},(s x).ae=[]->(∀p∈ps,p.g=true->x∉p.a.ae)->fM s ps x=s x:=by
 intro ps;induction ps with
 |nil=>intros;rfl
 |cons p ps ih=>
  intro s x h aw;have e:=afK (s:=s) (p:=p) h (aw p (by simp));show fM (dq.take s p) ps x=s x;rw[ih (by rw[e];exact h) (λdi fj=>aw di (by simp[fj])),e]
theorem zH {d:I} (h:d.own=true):d.plain=false/\d.tree=true/\d.d_= .hole/\d.one=true/\d.wd=1/\(∀v,eW d v↔Value.hq v=true):=by
 cases d<;>simp[I.own]at h<;>exact⟨rfl,rfl,rfl,rfl,rfl,λv=>Iff.rfl⟩
theorem afL:∀(ps:List dq) (vs:aAi) (s:an) (S:Nat->Nat->Prop),ca w0 F0 X F S s aD w->ps.length=vs.length->
  (∀(i:Nat) (p:dq) (v:Value),ps[i]? =some p->vs[i]? =some v->p.a.plain=true/\aQ w F s aD p.a v (λ_=>False)/\(p.g=true->p.ok s))->jH ps=true->
  ∃(Sn cL:Nat->Nat->Prop),ca w0 F0 X F cL (fM s ps) aD w/\(∀u b,cL u b->S u b)/\
   (∀(i:Nat) (p:dq) (v:Value),ps[i]? =some p->vs[i]? =some v->p.g=true->afJ w F (fM s ps) aD p v (Sn i))/\
   (∀i b,Sn i b->∃p,ps[i]? =some p/\p.g=true)/\
   (∀i b,Sn i b->∃u,S u b)/\(∀i u b,Sn i b->¬cL u b)/\(∀i j b,i≠j->Sn i b->¬Sn j b)/\
   (∀(bN:I) (hj:Value) (aY:Nat->Prop),(∀p∈ps,p.g=true->∀u∈p.a.ae,u∉bN.ae)->aQ w F s aD bN hj aY->aQ w F (fM s ps) aD bN hj aY):=by
 intro ps;induction ps with
 |nil=>
  intro vs s S h hl _ _;exact⟨λ_ _=>False,S,h,λ_ _ h=>h,λi p v aw=>by simp at aw,λ_ _ h=>h.elim,λ_ _ h=>h.elim,λ_ _ _ h=>h.elim,λ_ _ _ _ h=>h.elim,λ_ _ _ _ h=>h⟩
 |cons p ps ih=>
  intro vs s S h hl EY mT;cases vs with
  |nil=>simp at hl
  |cons v vs=>
   simp only[length_cons,Nat.add_right_cancel_iff]at hl;simp only[jH,Bool.and_eq_true,List.all_eq_true,Bool.or_eq_true,Bool.not_eq_true']at mT;obtain⟨sY,rL⟩:=mT;have BQ:∀di∈ps,(p.g=true\/di.g=true)->∀u∈p.a.ae,u∉di.a.ae:=by
    intro di fj hg u hu;rcases sY di fj with e|e
    .rcases hg with hg|hg<;>simp[hg]at e
    .simpa using e u hu
   obtain⟨f1,f2,f3⟩:=EY 0 p v rfl rfl;cases hg:p.g with
   |false=>
    have gb:dq.take s p=s:=by simp[dq.take,hg]
    obtain⟨Sn,cL,g1,g2,g3,g4,g5,g6,g7,g8⟩:=ih vs s S h hl (λi di hj aw aB=>EY (i+1) di hj (by simpa using aw) (by simpa using aB)) rL;have aK:fM s (p::ps)=fM s ps:=by show fM (dq.take s p) ps=_;rw[gb]
    rw[aK];refine⟨λi=>match i with|0=>λ_=>False|i+1=>Sn i,cL,g1,g2,?_,?_,?_,?_,?_,λbN hj aY ao=>g8 bN hj aY λdi fj=>ao di (by simp[fj])⟩
    .intro i di hj aw aB iY;cases i with
     |zero=>simp at aw;subst aw;rw[hg]at iY;cases iY
     |succ i=>exact g3 i di hj (by simpa using aw) (by simpa using aB) iY
    .intro i b ab;cases i with
     |zero=>exact ab.elim
     |succ i=>simpa using g4 i b ab
    .intro i b ab;cases i with
     |zero=>exact ab.elim
     |succ i=>exact g5 i b ab
    .intro i u b ab;cases i with
     |zero=>exact ab.elim
     |succ i=>exact g6 i u b ab
    .intro i j b dP aj bE;cases i with
     |zero=>exact aj.elim
     |succ i=>
      cases j with
      |zero=>exact bE.elim
      |succ j=>exact g7 i j b (by omega) aj bE
   |true=>
    have gv:=f3 hg;simp only[dq.ok,hg,if_true]at gv;split at gv
    .rename_i x q bs;obtain⟨fY,E4,zk⟩:=gv;obtain⟨nB,k7,qT⟩:=vX E4;have vY:dG s p.a=some (p.d,eo (js x s) x (I.put q p.d.d_ (s x))):=by
      rw[bs];simp only[dG,fY,nB];rfl
     obtain⟨cL,t1,t2,t3,afM,t4,t5,t6,t7,t8,t9,t10,t11⟩:=rv h f1 f2 vY;have gb:dq.take s p=eo (js x s) x (I.put q p.d.d_ (s x)):=by simp[dq.take,hg,bs]
     have sZ:∀di∈ps,x∉di.a.ae:=λdi fj=>BQ di fj (.inl hg) x (by rw[bs];simp[I.ae]);have NS:dq.take s p x=I.put q p.d.d_ (s x):=by rw[gb,o0]
     have V2:(dq.take s p x).ae=[]:=by
      rw[NS];exact BO q _ _ _ fY (.inl nB) (λ_=>by cases ao:p.d<;>first|rfl|(rw[ao]at E4;simp[I.hv]at E4))
     obtain⟨Sn,eG,g1,g2,g3,g4,g5,g6,g7,g8⟩:=ih vs (dq.take s p) cL (by rw[gb];exact t1) hl (by
      intro i di hj aw aB;obtain⟨bV,cn,dV⟩:=EY (i+1) di hj (by simpa using aw) (by simpa using aB);have hm:di∈ps:=mem_of_getElem? aw;refine⟨bV,?_,?_⟩
      .have:=t11 _ _ _ cn;rw[bs]at this;rw[gb];simp only[I.owner,nw]at this
       rwa [E2 _ (sZ di hm)]at this
      .intro iY;have:=dV iY;simp only[dq.ok,iY,if_true]at this⊢;split at this
       .rename_i y lQ zI;have dP:y≠x:=λe=>sZ di hm (by rw[zI,e];simp[I.ae]);rw[gb,lp _ _ dP];have a6:=jF this.1 (.inl (vX this.2.1).1);simp only[js,MS a6];exact this
       .exact this.elim) rL
     have aK:fM s (p::ps)=fM (dq.take s p) ps:=rfl;have xX:fM (dq.take s p) ps x=I.put q p.d.d_ (s x):=by
      rw[NR V2 (λdi fj _=>sZ di fj),NS]
     rw[aK];refine⟨λi=>match i with|0=>afM|i+1=>Sn i,eG,g1,λu b ab=>t9 u b (g2 u b ab),?_,?_,?_,?_,?_,?_⟩
     rotate_left 5
     .intro bN hj aY ao kS;refine g8 bN hj aY (λdi fj=>ao di (by simp[fj])) ?_;have:=t11 _ _ _ kS;rw[bs]at this;rw[gb];simp only[I.owner,nw]at this
      rwa [E2 _ (ao p (by simp) hg x (by rw[bs];simp[I.ae]))]at this
     .intro i di hj aw aB iY;cases i with
      |zero=>
       simp at aw aB;subst aw aB;have I4:=f2;rw[bs,aQ]at I4;obtain⟨dI,a0,c1,c2,c3⟩:=I4 _ fY nB;refine⟨x,q,a0,bs,?_,?_,?_,?_,?_,t3,t4⟩
       .rw[xX];exact V1 q _ _ _ fY
       .rw[xX,c2];exact afG w q _ _ _ _ _ _ _ fY (I.xI _) c1
       .rw[xX,<-NS];exact V2
       .intro cF;subst cF;simp only[I.sub,Option.some.injEq]at fY;have:=(aQ.dj (by rw[fY];exact k7)).1 (h.eg x);rw[fY]at this;exact this.1
       .intro cF;have a6:=jF fY (.inl nB);rw[xX];cases q with
        |nil=>exact(cF rfl).elim
        |cons k q=>rcases xJ k q p.d.d_ (s x)with⟨aG,gs,aK,e⟩|⟨aG,gs,aK,e⟩|⟨sz,xs,cq,aK,e⟩|⟨y,z,aK,e⟩|e<;>rw[e]<;>first|rfl|exact a6
      |succ i=>exact g3 i di hj (by simpa using aw) (by simpa using aB) iY
     .intro i b ab;cases i with
      |zero=>exact⟨p,rfl,hg⟩
      |succ i=>simpa using g4 i b ab
     .intro i b ab;cases i with
      |zero=>exact t10 b ab
      |succ i=>obtain⟨u,hu⟩:=g5 i b ab;exact⟨u,t9 u b hu⟩
     .intro i u b ab;cases i with
      |zero=>exact λhu=>t7 u b ab (g2 u b hu)
      |succ i=>exact g6 i u b ab
     .intro i j b dP aj bE;cases i with
      |zero=>
       cases j with
       |zero=>exact dP rfl
       |succ j=>obtain⟨u,hu⟩:=g5 j b bE;exact t7 u b aj hu
      |succ i=>
       cases j with
       |zero=>obtain⟨u,hu⟩:=g5 i b aj;exact t7 u b bE hu
       |succ j=>exact g7 i j b (by omega) aj bE
    .exact gv.elim
end
def rM:aAk->aAk->aAk
 |d::ds,.hole::us=>(if d.plain=true then d else .hole)::rM ds us
 |_::ds,u::us=>u::rM ds us
 |_,us=>us
def I5:I->I->I
 | .gN _ ds,.gN g us=>.gN g (rM ds us)
 |_,o=>o
theorem afN {d o:I} (h:(I5 d o).tree=true):o.tree=true:=by
 cases d<;>cases o<;>first|exact h|rfl
theorem V3 {d:I} (h:d.one=true):d.wd=1:=by cases d<;>first|rfl|(simp[I.one]at h)
theorem V4 {w aJ:World} {F oB:Nat->Prop} (bC:∀b,F b->oB b) (hw:∀b,F b->aJ.heap[b]? =w.heap[b]?):∀(ds us:aAk) (cs:aAi) (S aY:Nat->Prop),(∀d∈ds,d.one=true)->(∀d∈us,d.one=true)->
  br w F ds cs S->br aJ oB us cs aY->br aJ oB (rM ds us) cs aY/\∀d∈rM ds us,d.one=true
 |[],us,cs,S,aY,_,h1,_,ay=>by
  have e:rM [] us=us:=by cases us<;>rfl
  rw[e];exact⟨ay,h1⟩
 |d::ds,[],cs,S,aY,_,_,_,ay=>by
  have e:rM (d::ds) []=[]:=rfl;rw[e];exact⟨ay,λd h=>by cases h⟩
 |d::ds,u::us,cs,S,aY,a7,h1,af,ay=>by
  rw[br]at af ay;obtain⟨c1,c2,cL,eG,aK,J,a2,a3,a4,a5⟩:=af;obtain⟨ha,fI,V5,V6,aT,bV,cn,dV,ea,eC⟩:=ay;have fO:=az.length _ _ _ J;have l2:=az.length _ _ _ bV;rw[V3 (a7 d (by simp))]at fO;rw[V3 (h1 u (by simp))]at l2;have aU:c1=ha/\c2=fI:=append_inj (aK.symm.trans aT) (by rw[fO,l2]);obtain⟨rfl,rfl⟩:=aU;obtain⟨ef,bg⟩:=V4 bC hw ds us c2 eG V6 (λd ao=>a7 d (by simp[ao])) (λd ao=>h1 d (by simp[ao])) a2 cn;have key:∀y:I,az aJ oB y c1 V5->y.one=true->br aJ oB (y::rM ds us) cs aY/\∀d∈y::rM ds us,d.one=true:=by
   intro y hy Nd;rw[br];exact⟨⟨c1,c2,V5,V6,aT,hy,ef,dV,ea,eC⟩,λd ao=>by
    rcases mem_cons.1 ao with rfl|ao
    .exact Nd
    .exact bg d ao⟩
  by_cases hu:u= .hole
  .subst hu;simp only[rM];by_cases aw:d.plain=true
   .rw[if_pos aw];exact key d (az.plain _ _ _ _ aw (az.mono bC _ _ _ _ (λ_ h=>h) (az.frame hw _ _ (λ_=>False) (λ_ h=>h.elim) (az.plain _ _ _ _ aw J)))) (a7 d (by simp))
   .rw[if_neg aw];exact key .hole bV rfl
  .have e:rM (d::ds) (u::us)=u::rM ds us:=by cases u<;>first|rfl|exact(hu rfl).elim
   rw[e];exact key u bV (h1 u (by simp))
theorem afO {w aJ:World} {F oB:Nat->Prop} {d o:I} {cs:aAi} {S aY:Nat->Prop} (bC:∀b,F b->oB b) (hw:∀b,F b->aJ.heap[b]? =w.heap[b]?) (h1:az w F d cs S) (af:az aJ oB o cs aY):az aJ oB (I5 d o) cs aY:=by
 cases d with
 |gN f ds=>
  cases o with
  |gN g us=>
   simp only[I5];rw[az]at h1 af⊢;obtain⟨arr,rfl,a2,a3⟩:=h1;obtain⟨ayd,e,fI,fV⟩:=af;simp only[cons.injEq,Value.func.injEq,and_true]at e;obtain⟨aK,aT,aU⟩:=e;subst aU;obtain⟨ef,bg⟩:=V4 bC hw ds us _ _ _ a2 fI a3 fV;exact⟨arr,by simp_all,bg,ef⟩
  |_=>exact af
 |_=>cases o<;>exact af
def gd (l:aAk):an:=λi=>l.getD i .hole
def hW (l:aAi):Nat->Value:=λi=>l.getD i undef
def qU (P:Program) (f:FuncId) (args:Array Value) (w:World) (eL:Value->World->Prop):Prop:=
 ((callFunc f args).run P w= .ok (.enter f args) w/\Calls P f args w (λe aJ=>∃v,e= .returned v/\eL v aJ))\/
 ∃v aJ,(callFunc f args).run P w= .ok (.value v) aJ/\eL v aJ
theorem qU.mono {P:Program} {f:FuncId} {args:Array Value} {w:World} {eL V7:Value->World->Prop} (h:qU P f args w eL) (aR:∀v aJ,eL v aJ->V7 v aJ):qU P f args w V7:=by
 rcases h with⟨h1,af⟩|⟨v,aJ,h1,af⟩
 .exact .inl ⟨h1,Calls.mono af λe aJ ⟨v,e,h⟩=>⟨v,e,aR v aJ h⟩⟩
 .exact .inr ⟨v,aJ,h1,aR v aJ af⟩
def aW (C:cu) (f:FuncId) (as:aAk) (r:I) (outs:aAk):Prop:=
 ∀(w:World) (F X:Nat->Prop) (S:Nat->Nat->Prop) (vs:aAi),vs.length=as.length->ca w F X F S (gd as) (hW vs) w->
  qU C.P f vs.toArray w λv aJ=>∃cg aY,ca w F X cg aY (gd (r::outs)) (hW (v::vs)) aJ
def I.res:I->Bool
 | .h _ _=>false
 | .aw _ _=>false
 | .ab _ _=>false
 | .fn _ _=>false
 |_=>true
theorem V8 {d:I} (h:d.tree=true):d.ae=[]:=by cases d<;>first|rfl|(simp[I.tree]at h)
mutual
theorem NT {s aC:an}:∀(a:I) (d:I),(∀u∈a.ae,(s u).tree=true->aC u=s u)->view s a=some d->view aC a=some d
 | .h x q,d,hu,h=>by
   have a6:(s x).tree=true:=by
    simp only[view]at h;split at h
    .rename_i e fY;cases e<;>simp only at h<;>first
      |(cases h;done)
      |(split at h
        .cases h
        .rename_i aw;exact jF fY (.inl (by simpa using aw)))
    .cases h
   simp only[view]at h⊢;rw[hu x (by simp[I.ae]) a6];exact h
 | .aw x q,d,hu,h=>by
   have a6:(s x).tree=true:=by
    simp only[view]at h;split at h
    .rename_i au;split at h
     .rename_i e fY;exact jF fY (.inr au)
     .cases h
    .cases h
   simp only[view]at h⊢;rw[hu x (by simp[I.ae]) a6];exact h
 | .ab x q,d,hu,h=>by simp[view]at h
 | .fn f cap,d,hu,h=>by
   simp only[view,Option.map_eq_some_iff]at h⊢;obtain⟨ds,h1,af⟩:=h;exact⟨ds,V9 cap ds (by simpa [I.ae]using hu) h1,af⟩
 | .hole,d,hu,h=>h
 | .bool _,d,hu,h=>h
 | .gq,d,hu,h=>h
 | .int _ _,d,hu,h=>h
 | .str _,d,hu,h=>h
 | .et,d,hu,h=>h
 | .bf,d,hu,h=>h
 | .slice _,d,hu,h=>h
 | .ag _ _,d,hu,h=>h
 | .ref _,d,hu,h=>h
 | .aP _,d,hu,h=>h
 | .agg _,d,hu,h=>h
 | .tuple _,d,hu,h=>h
 | .ck _,d,hu,h=>h
 | .gN _ _,d,hu,h=>h
theorem V9 {s aC:an}:∀(as:aAk) (ds:aAk),(∀u∈I.ff as,(s u).tree=true->aC u=s u)->views s as=some ds->views aC as=some ds
 |[],ds,hu,h=>h
 |a::as,ds,hu,h=>by
  simp only[I.ff,mem_append]at hu;simp only[views]at h⊢;split at h
  .rename_i x y h1 af;rw[NT a x (λu hm=>hu u (.inl hm)) h1,V9 as y (λu hm=>hu u (.inr hm)) af];exact h
  .cases h
end
section
variable {C:cu} {w0 w aJ:World} {F0 X F Fc:Nat->Prop} {S:Nat->Nat->Prop} {s aC:an} {aD kf:Nat->Value}
def afP (w:World) (F:Nat->Prop) (s:an) (aD:Nat->Value) (p:dq) (v:Value) (So:Nat->Prop):Prop:=
 p.g=true->p.o= .hole\/∃x q a0 d0,p.a= .h x q/\I.sub q (s x)=some d0/\ew w q (s x) (cZ (aD x)) none=some (d0,cZ v,a0)/\(s x).ae=[]/\
  (q=[]->eW p.o (aD x))/\(q≠[]->(s x).tree=true)/\p.o.hv=true/\az w F p.o (cZ v) So/\p.o.wd=d0.wd/\∀v,ke d0 v->ke p.o v
theorem afQ:∀(ps:List dq) (vs:aAi) (s:an) (S So:Nat->Nat->Prop),ca w0 F0 X F S s aD w->ps.length=vs.length->
  (∀(i:Nat) (p:dq) (v:Value),ps[i]? =some p->vs[i]? =some v->afP w F s aD p v (So i))->
  (∀i b,So i b->b<w.heap.size/\¬F b/\(X b\/w0.heap.size<=b)/\∀u,¬S u b)->(∀i j b,i≠j->So i b->¬So j b)->jH ps=true->
  ∃eG,ca w0 F0 X F eG (iK s ps) aD w/\∀u b,eG u b->S u b\/∃i,So i b:=by
 intro ps;induction ps with
 |nil=>intro vs s S So h _ _ _ _ _;exact⟨S,h,λu b ab=>.inl ab⟩
 |cons p ps ih=>
  intro vs s S So h hl NU ab ao mT;cases vs with
  |nil=>simp at hl
  |cons v vs=>
   simp only[length_cons,Nat.add_right_cancel_iff]at hl;simp only[jH,Bool.and_eq_true,List.all_eq_true,Bool.or_eq_true,Bool.not_eq_true']at mT;obtain⟨sY,rL⟩:=mT;have BQ:∀di∈ps,(p.g=true\/di.g=true)->∀u∈p.a.ae,u∉di.a.ae:=by
    intro di fj hg u hu;rcases sY di fj with e|e
    .rcases hg with hg|hg<;>simp[hg]at e
    .simpa using e u hu
   have skip:dq.kR s p=s->∃eG,ca w0 F0 X F eG (iK s (p::ps)) aD w/\∀u b,eG u b->S u b\/∃i,So i b:=by
    intro gb;obtain⟨eG,g1,g2⟩:=ih vs s S (λi=>So (i+1)) h hl (λi di hj aw aB=>NU (i+1) di hj (by simpa using aw) (by simpa using aB)) (λi b h=>ab (i+1) b h)
     (λi j b dP=>ao (i+1) (j+1) b (by omega)) rL
    refine⟨eG,?_,λu b hu=>(g2 u b hu).imp id λ⟨i,aj⟩=>⟨i+1,aj⟩⟩;show ca _ _ _ _ _ (iK (dq.kR s p) ps) _ _;rw[gb];exact g1
   cases hg:p.g with
   |false=>exact skip (by simp[dq.kR,hg])
   |true=>
    rcases NU 0 p v rfl rfl hg with bG|⟨x,q,a0,d0,bs,c1,c2,c3,c4,c5,eT,NV,iu,c9⟩
    .exact skip (by simp only[dq.kR,hg,bG,if_true])
    .obtain⟨nB,k7,xY⟩:=vX eT;have gb:dq.kR s p=eo (oZ x s) x (I.put q p.o (s x)):=by
      simp only[dq.kR,hg,if_true,bs];cases afR:p.o<;>first|rfl|(rw[afR]at eT;simp[I.hv]at eT)
     have step:=h.kR (x:=x) (q:=q) (bN:=p.o) c1 c2 xY (λcF=>⟨k7,c4 cF⟩) (λk r cF=>⟨c5 (by rw[cF];simp),c9⟩) iu NV
      (λb h=>(ab 0 b h).1) (λb h=>(ab 0 b h).2.1) (λu b h=>(ab 0 b h).2.2.2 u) (λb h=>(ab 0 b h).2.2.1)
     rw[<-gb]at step;obtain⟨eG,g1,g2⟩:=ih vs (dq.kR s p) _ (λi=>So (i+1)) step hl (by
      intro i di hj aw aB iY;have hm:di∈ps:=mem_of_getElem? aw;rcases NU (i+1) di hj (by simpa using aw) (by simpa using aB) iY with bG|⟨y,lQ,J,d1,bV,cn,dV,ea,eC,dB,kh,e1,pD⟩
      .exact .inl bG
      .have dP:y≠x:=λe=>BQ di hm (.inl hg) x (by rw[bs];simp[I.ae]) (by rw[bV,e];simp[I.ae]);have qM:dq.kR s p y=s y:=by
        rw[gb,lp _ _ dP];exact ND _ (by rw[ea];simp)
       exact .inr ⟨y,lQ,J,d1,bV,by rw[qM];exact cn,by rw[qM];exact dV,by rw[qM];exact ea,eC,by rw[qM];exact dB,kh,e1,pD⟩)
      (by
       intro i b aj;obtain⟨ha,fI,fV,bZ⟩:=ab (i+1) b aj;refine⟨ha,fI,fV,λu hu=>?_⟩;simp only[g_]at hu;split at hu
       .rcases hu with hu|hu
        .exact bZ _ hu
        .exact ao 0 (i+1) b (by omega) hu aj
       .exact bZ _ hu)
      (λi j b dP=>ao (i+1) (j+1) b (by omega)) rL
     refine⟨eG,g1,λu b hu=>?_⟩;rcases g2 u b hu with hu|⟨i,aj⟩
     .simp only[g_]at hu;split at hu
      .rename_i e;subst e;exact hu.imp id λh=>⟨0,h⟩
      .exact .inl hu
     .exact .inr ⟨i+1,aj⟩
def lU (ps:List dq):Bool:=ps.any λp=> !p.g&& !p.a.ae.isEmpty
theorem afS (h:ca w0 F0 X F S s aD w) {ps:List dq} {vs V_:aAi} {os:aAk} {f:FuncId} {r:I} (hl:ps.length=vs.length) (Wa:∀(i:Nat) (p:dq),ps[i]? =some p->∃o,os[i]? =some o/\(p.o=o\/p.o=I5 p.d o))
  (kS:∀(i:Nat) (p:dq) (v:Value),ps[i]? =some p->vs[i]? =some v->p.a.plain=true/\aQ w F s aD p.a v (λ_=>False))
  (gv:∀p∈ps,p.ok s) (mT:jH ps=true) (bI:∀(Fc nC:Nat->Prop) (fb:Nat->Nat->Prop),(∀b,F b->Fc b)->(∀b,nC b->∃u,S u b)->ca w Fc nC Fc fb (gd (ps.map (·.d))) (hW vs) w->
   qU C.P f V_.toArray w λv aJ=>∃cg aY,ca w Fc nC cg aY (gd (r::os)) (hW (v::vs)) aJ) (aR:r.res=true)
  (aV:lU ps=true->r.c8=true/\∀(i:Nat) (p:dq) (o:I),ps[i]? =some p->os[i]? =some o->p.g=true->o.c8=true):
  qU C.P f V_.toArray w λv aJ=>∃cg aY,ca w0 F0 X cg aY (iK (fM s ps) ps) aD aJ/\nV w0 X cg aY (iK (fM s ps) ps) aD aJ r v/\∀b,F b->cg b/\aJ.heap[b]? =w.heap[b]? :=by
 obtain⟨Sn,cL,g1,g2,g3,g4,g5,g6,g7,g8⟩:=afL ps vs s S h hl (λi p v aw aB=>⟨(kS i p v aw aB).1,(kS i p v aw aB).2,λ_=>gv p (mem_of_getElem? aw)⟩) mT;have apart:∀(i j:Nat) (p di:dq),ps[i]? =some p->ps[j]? =some di->i≠j->(p.g=true\/di.g=true)->∀u∈p.a.ae,u∉di.a.ae:=by
  clear kS gv bI aV g1 g3 g4 g8 hl Wa;induction ps with
  |nil=>intro i j p di aw;simp at aw
  |cons jr ps ih=>
   simp only[jH,Bool.and_eq_true,List.all_eq_true,Bool.or_eq_true,Bool.not_eq_true']at mT;obtain⟨sY,rL⟩:=mT;have BQ:∀di∈ps,(jr.g=true\/di.g=true)->∀u∈jr.a.ae,u∉di.a.ae:=by
    intro di fj hg u hu;rcases sY di fj with e|e
    .rcases hg with hg|hg<;>simp[hg]at e
    .simpa using e u hu
   intro i j p di aw fj dP hg u hu;cases i with
   |zero=>
    simp at aw;subst aw;cases j with
    |zero=>exact(dP rfl).elim
    |succ j=>exact BQ di (mem_of_getElem? (by simpa using fj)) hg u hu
   |succ i=>
    cases j with
    |zero=>
     simp at fj;subst fj;exact λE5=>BQ p (mem_of_getElem? (by simpa using aw)) hg.symm u E5 hu
    |succ j=>exact ih rL i j p di (by simpa using aw) (by simpa using fj) (by omega) hg u hu
 let Fc:Nat->Prop:=λb=>F b\/(lU ps=true/\∃u,cL u b)
 let nC:Nat->Prop:=λb=>∃i,Sn i b
 have I6:∀b,F b->¬nC b:=λb bC ⟨i,aj⟩=>by obtain⟨u,hu⟩:=g5 i b aj;exact h.gl u b hu bC
 have E6:∀u b,cL u b->¬nC b:=λu b hu ⟨i,aj⟩=>g6 i u b aj hu;have aH:∀b,nC b->(X b\/w0.heap.size<=b)/\b<w.heap.size:=λb ⟨i,aj⟩=>by obtain⟨u,hu⟩:=g5 i b aj;exact⟨h.eI u b hu,h.fc u b hu⟩
 have pre:ca w Fc nC Fc Sn (gd (ps.map (·.d))) (hW vs) w:=by
  refine⟨λ_ h=>h,λ_ h=>.inl h,?_,λi b aj=>(aH b ⟨i,aj⟩).2,?_,λi j b dP=>g7 i j b dP,λi b aj=>.inl ⟨i,aj⟩,?_,λ_ _ _=>rfl,Nat.le_refl _,rfl,rfl,Out.refl _,h.fU.next h.size h.old λb ab=>(aH b ab).1⟩
  .rintro b (ab|⟨_,u,hu⟩)
   .exact h.fG b ab
   .exact g1.fc u b hu
  .rintro i b aj (ab|⟨_,u,hu⟩)
   .exact I6 b ab ⟨i,aj⟩
   .exact g6 i u b aj hu
  .intro t;cases aw:ps[t]? with
   |none=>
    have:gd (ps.map (·.d)) t= .hole:=by simp[gd,List.getD,aw]
    rw[this,aQ];trivial
   |some p=>
    have eA:t<vs.length:=by rw[<-hl];exact(List.getElem?_eq_some_iff.1 aw).1
    have aB:vs[t]? =some vs[t]:=getElem?_eq_getElem eA;have aK:gd (ps.map (·.d)) t=p.d:=by simp[gd,List.getD,aw]
    have aT:hW vs t=vs[t]:=by simp[hW,List.getD,aB]
    rw[aK,aT];have hm:p∈ps:=mem_of_getElem? aw;have hk:=gv p hm;cases hg:p.g with
    |true=>
     obtain⟨x,q,a0,bV,cn,dV,ea,eC,dB,kh,e1⟩:=g3 t p _ aw aB hg;simp only[dq.ok,hg,if_true,bV]at hk;exact(aQ.dj (vX hk.2.1).2.1).2 ⟨kh,az.mono (λb ab=>.inl ab) _ _ _ _ (λ_ h=>h) e1⟩
    |false=>
     simp only[dq.ok,hg]at hk;obtain⟨f1,f2⟩:=kS t p _ aw aB;have Wb:∀di∈ps,di.g=true->∀u∈di.a.ae,u∉p.a.ae:=by
      intro di fj iY u hu;obtain⟨j,bE⟩:=getElem?_of_mem fj;refine apart j t di p bE aw (λe=>?_) (.inl iY) u hu;subst e;rw[aw]at bE;simp only[Option.some.injEq]at bE;rw[bE,iY]at hg;cases hg
     have I4:=g8 _ _ _ Wb f2;have nY:view (fM s ps) p.a=some p.d:=NT _ _ (λu hu a6=>NR (V8 a6) (λdi fj iY E5=>Wb di fj iY u E5 hu)) (by simpa using hk);refine aQ.nothing (afF f1 nY) ((afH g1 (Fc:=Fc) (λb ab=>.inl ab) (SizeOf.sizeOf p.a)).1 p.a _ p.d (Nat.le_refl _) ?_ nY I4);intro u hu b ab;refine .inr ⟨?_,u,ab⟩;simp only[lU,List.any_eq_true];refine⟨p,hm,?_⟩;cases kz:p.a.ae with
     |nil=>rw[kz]at hu;cases hu
     |cons _ _=>simp[hg]
 refine qU.mono (bI Fc nC Sn (λb ab=>.inl ab) (λb ⟨i,aj⟩=>g5 i b aj) pre) ?_;rintro v aJ ⟨cg,aY,au⟩;have keep:∀b,b<w.heap.size->¬nC b->aJ.heap[b]? =w.heap[b]? :=au.old;let s0:Nat->Prop:=λb=>if lU ps=true then F b else cg b
 have Wc:∀b,F b->cg b:=λb ab=>au.hL b (.inl ab);have zJ:∀b,F b->s0 b:=λb ab=>by
  simp only[s0];split
  .exact ab
  .exact Wc b ab
 have oB:∀b,s0 b->cg b:=λb ab=>by
  simp only[s0]at ab;split at ab
  .exact Wc b ab
  .exact ab
 have Wd:∀b,s0 b->F b\/nC b\/w.heap.size<=b:=λb ab=>by
  simp only[s0]at ab;split at ab
  .exact .inl ab
  .rename_i vV;rcases au.h9 b ab with(ab|⟨h1,_⟩)|ab|ab
   .exact .inl ab
   .exact(vV h1).elim
   .exact .inr (.inl ab)
   .exact .inr (.inr ab)
 have mid:ca w0 F0 X s0 cL (fM s ps) aD aJ:=by
  refine⟨λb ab=>zJ b (g1.hL b ab),?_,λb ab=>au.fG b (oB b ab),λt b ab=>Nat.lt_of_lt_of_le (g1.fc t b ab) au.size,?_,g1.fT,g1.eI,?_,?_,Nat.le_trans g1.size au.size,au.os.trans g1.os,au.tape.trans g1.tape,au.output.trans g1.output,g1.fU⟩
  .intro b ab;rcases Wd b ab with ab|ab|ab
   .exact g1.h9 b ab
   .rcases(aH b ab).1 with h|h
    .exact .inr (.inl h)
    .exact .inr (.inr h)
   .exact .inr (.inr (Nat.le_trans g1.size ab))
  .intro t b a6 ab;rcases Wd b ab with ab|ab|ab
   .exact g1.gl t b a6 ab
   .exact E6 t b a6 ab
   .exact absurd (g1.fc t b a6) (by omega)
  .intro t;exact aQ.frame (Sx:=cL) (λb ab=>keep b (h.fG b ab) (I6 b ab)) zJ (λx b ab=>keep b (g1.fc x b ab) (E6 x b ab)) g1.eg _ _ _ (λb ab=>keep b (g1.fc t b ab) (E6 t b ab)) (g1.eg t)
  .intro b ab me;refine(keep b (Nat.lt_of_lt_of_le ab g1.size) λaq=>?_).trans (g1.old b ab me);rcases(aH b aq).1 with h|h
   .exact me h
   .omega
 have We:∀(d:I) (cs:aAi) (eI:Nat->Prop),(lU ps=true->d.c8=true)->az aJ cg d cs eI->az aJ s0 d cs eI:=by
  intro d cs eI NW hb;by_cases hle:lU ps=true
  .exact az.c8 d cs eI (NW hle) hb
  .exact az.mono (λb ab=>by simp only[s0];rw[if_neg hle];exact ab) _ _ _ _ (λ_ h=>h) hb
 have bound:∀i b,aY i b->b<aJ.heap.size/\¬s0 b/\(X b\/w0.heap.size<=b)/\∀u,¬cL u b:=by
  intro i b ab;refine⟨au.fc i b ab,λbC=>au.gl i b ab (oB b bC),?_,λu hu=>?_⟩
  .rcases au.eI i b ab with aq|aq
   .exact(aH b aq).1
   .exact .inr (Nat.le_trans g1.size aq)
  .rcases au.eI i b ab with aq|aq
   .exact E6 u b hu aq
   .exact absurd (g1.fc u b hu) (by omega)
 obtain⟨eG,bV,cn⟩:=afQ ps vs (fM s ps) cL (λi=>aY (i+1)) mid hl (by
  intro i p hj aw aB hg;have hm:p∈ps:=mem_of_getElem? aw;have hk:=gv p hm;obtain⟨x,q,a0,aK,aT,aU,b_,cY,cv,cd,fH⟩:=g3 i p hj aw aB hg;simp only[dq.ok,hg,if_true,aK]at hk;rcases hk.2.2 with bG|bG
  .exact .inl bG
  .obtain⟨fO,l2,E7⟩:=afI hk.2.1 bG.1 bG.2;refine .inr ⟨x,q,a0,p.d.d_,aK,aT,?_,b_,λcF=>l2 _ (cY cF),cv,bG.1,?_,fO.trans (I.xI _).symm,E7⟩
   .cases q with
    |nil=>simpa only[ew]using aU
    |cons k q=>
     have a6:=cv (by simp);rw[Iz (k::q) _ _ (cL x) none _ ((aQ.dj a6).1 (g1.eg x)).2 aT (λb ab=>keep b (g1.fc x b ab) (E6 x b ab))];exact aU
   .have:=au.eg (i+1);obtain⟨o,nB,k7⟩:=Wa i p aw;have jt:gd (r::os) (i+1)=o:=by simp[gd,List.getD,nB]
    have iI:hW (v::vs) (i+1)=hj:=by simp[hW,List.getD,aB]
    rw[jt,iI]at this;have afT:o.tree=true:=by
     rcases k7 with e|e
     .rw[<-e];exact(vX bG.1).2.1
     .exact afN (d:=p.d) (by rw[<-e];exact(vX bG.1).2.1)
    have h1:=We _ _ _ (λhle=>(aV hle).2 i p o aw nB hg) ((aQ.dj afT).1 this).2;rcases k7 with e|e
    .rw[e];exact h1
    .rw[e];exact afO zJ (λb ab=>keep b (h.fG b ab) (I6 b ab)) fH h1)
  (λi b ab=>bound (i+1) b ab) (λi j b dP=>au.fT (i+1) (j+1) b (by omega)) mT
 refine⟨s0,eG,bV,?_,λb ab=>⟨zJ b ab,keep b (h.fG b ab) (I6 b ab)⟩⟩;have a7:=au.eg 0;have jt:gd (r::os) 0=r:=rfl;have iI:hW (v::vs) 0=v:=rfl;rw[jt,iI]at a7;cases a6:r.tree with
 |false=>
  cases r<;>first
   |(simp[I.tree]at a6;done)
   |(simp[I.res]at aR;done)
   |exact .inl ⟨rfl,by rw[aQ];trivial⟩
 |true=>
  obtain⟨s1,s2⟩:=(aQ.dj a6).1 a7;have pI:=We _ _ _ (λhle=>(aV hle).1) s2;refine .inr ⟨a6,s1,aY 0,pI,λb ab=>(bound 0 b ab).1,λb ab=>(bound 0 b ab).2.1,λu b ab hu=>?_,λb ab=>(bound 0 b ab).2.2.1⟩;rcases cn u b hu with hu|⟨i,aj⟩
  .exact(bound 0 b ab).2.2.2 u hu
  .exact au.fT 0 (i+1) b (by omega) ab aj
theorem Wf (h:ca w0 F0 X F S s aD w) {ps:List dq} {vs:aAi} {f:FuncId} {r:I} (hl:ps.length=vs.length)
  (kS:∀(i:Nat) (p:dq) (v:Value),ps[i]? =some p->vs[i]? =some v->p.a.plain=true/\aQ w F s aD p.a v (λ_=>False))
  (gv:∀p∈ps,p.ok s) (mT:jH ps=true) (bI:∀(Fc nC:Nat->Prop) (fb:Nat->Nat->Prop),(∀b,F b->Fc b)->(∀b,nC b->∃u,S u b)->ca w Fc nC Fc fb (gd (ps.map (·.d))) (hW vs) w->
   qU C.P f vs.toArray w λv aJ=>∃cg aY,ca w Fc nC cg aY (gd (r::ps.map (·.o))) (hW (v::vs)) aJ) (aR:r.res=true)
  (aV:lU ps=true->r.c8=true/\∀p∈ps,p.o.c8=true):
  qU C.P f vs.toArray w λv aJ=>∃cg aY,ca w0 F0 X cg aY (iK (fM s ps) ps) aD aJ/\nV w0 X cg aY (iK (fM s ps) ps) aD aJ r v/\∀b,F b->cg b/\aJ.heap[b]? =w.heap[b]? :=
 afS h hl (λi p aw=>⟨p.o,by simp[aw],.inl rfl⟩) kS gv mT bI aR λhle=>⟨(aV hle).1,λi p o aw bG _=>by
  rw[getElem?_map,aw]at bG;have:=Option.some.inj bG;subst this;exact(aV hle).2 p (mem_of_getElem? aw)⟩
theorem afU (h:ca w0 F0 X F S s aD w) {ps:List dq} {vs:aAi} {f:FuncId} {r:I} (hl:ps.length=vs.length)
  (kS:∀(i:Nat) (p:dq) (v:Value),ps[i]? =some p->vs[i]? =some v->p.a.plain=true/\aQ w F s aD p.a v (λ_=>False))
  (gv:∀p∈ps,p.ok s) (mT:jH ps=true) (bI:aW C f (ps.map (·.d)) r (ps.map (·.o))) (aR:r.res=true)
  (aV:lU ps=true->r.c8=true/\∀p∈ps,p.o.c8=true):
  qU C.P f vs.toArray w λv aJ=>∃cg aY,ca w0 F0 X cg aY (iK (fM s ps) ps) aD aJ/\nV w0 X cg aY (iK (fM s ps) ps) aD aJ r v/\∀b,F b->cg b/\aJ.heap[b]? =w.heap[b]? :=
 Wf h hl kS gv mT (λFc nC fb _ _ aw=>bI w Fc nC fb vs (by simp[hl]) aw) aR aV
end
structure cB where
 dst:Option Nat
 b4:e2
 guard:Option (Nat×Bool)
def E8 (ops:Array Oper):Option (Nat×Bool)->Option (Option (Nat×Bool))
 |none=>some none
 |some (j,b)=>match(ops[j]?).bind (·.dst)with
  |some t=>some (some (t,b))
  |none=>none
structure Fr where
 n:Nat
 fx:aAf
def oC (n:Fr):Option Nat->Bool
 |none=>true
 |some t=>decide (t<n.n)&& !n.fx.contains t
def s3 (op:Op):e2:=match dv op with
 |some b4=>b4
 |none=>.bad
def uw (n:Fr) (ops:Array Oper) (o:Oper):Option cB:=
 if oC n o.dst=true then match E8 ops o.guard with
  |some g=>some ⟨o.dst,s3 o.op,g⟩
  |none=>none
 else none
def ux (n:Fr) (ops:Array Oper):List Oper->Option (List cB)
 |[]=>some []
 |o::os=>match uw n ops o,ux n ops os with
  |some r,some rs=>some (r::rs)
  |_,_=>none
def NX (C:cu) (s:an) (f:bA) (args:List bA) (K:I->an->Prop):Prop:=
 ∃(g:FuncId) (caps:aAk) (ps:List dq) (r:I),bx s f= .fn g caps/\I.e6 caps=true/\ps.map (·.a)=args.map (bx s)++caps/\(∀p∈ps,p.ok s)/\jH ps=true/\
   aW C g (ps.map (·.d)) r (ps.map (·.o))/\r.res=true/\(lU ps=true->r.c8=true/\∀p∈ps,p.o.c8=true)/\K r (iK (fM s ps) ps)
mutual
def I.gD (s:an):I->Bool
 | .h x q=>q.isEmpty&&(s x).own
 | .ab x _=> !(s x).plain
 | .aw _ _=>false
 | .hole=>true
 | .fn _ cap=>I.rN s cap
 |d=>d.plain
def I.rN (s:an):aAk->Bool
 |[]=>true
 |d::ds=>d.gD s&&I.rN s ds
end
def qa (s:an):aAj->an
 |[]=>s
 |p::L=>qa (eo s p.1 p.2) L
def oD (s:an):aAj->Bool
 |[]=>true
 |p::L=>p.2.gD s&&oD s L
def lu (s:an) (us:aAf):aAj:=us.map λu=>(u,s u)
def rO (C:cu) (s:an) (b4:e2) (K:I->an->Prop):Prop:=
 match b4 with
 | .call f args=>∃(g:FuncId) (caps:aAk) (ps:List dq) (r:I),bx s f= .fn g caps/\I.e6 caps=true/\ps.map (·.a)=args.map (bx s)++caps/\(∀p∈ps,p.ok s)/\jH ps=true/\
   aW C g (ps.map (·.d)) r (ps.map (·.o))/\r.res=true/\(lU ps=true->r.c8=true/\∀p∈ps,p.o.c8=true)/\K r (iK (fM s ps) ps)
 | .shr b4=>∃av s1,ch C s b4=some (av,s1)/\av.tree=true/\(∀vs,av≠.tuple vs)/\K av.share s1
 | .mU f args us=>oD s (lu s us)=true/\NX C s f args λav s1=>oD s1 (lu s us)=true/\K av (qa s1 (lu s us))
 |b4=>∃av s1,ch C s b4=some (av,s1)/\K av s1
theorem I7 {C:cu} {s:an} {b4:e2} {K eE:I->an->Prop} (h:rO C s b4 K) (hk:∀av s,K av s->eE av s):rO C s b4 eE:=by
 cases b4 with
 |call f args=>
  obtain⟨g,caps,ps,r,h1,hX,af,ay,a_,b1,dn,dc,gH⟩:=h;exact⟨g,caps,ps,r,h1,hX,af,ay,a_,b1,dn,dc,hk _ _ gH⟩
 |shr b4=>
  obtain⟨av,s1,h1,af,ay,a_⟩:=h;exact⟨av,s1,h1,af,ay,hk _ _ a_⟩
 |mU f args us=>
  obtain⟨cn,g,caps,ps,r,h1,hX,af,ay,a_,b1,dn,dc,gH,iq⟩:=h;exact⟨cn,g,caps,ps,r,h1,hX,af,ay,a_,b1,dn,dc,gH,hk _ _ iq⟩
 |_=>
  obtain⟨av,s1,h1,af⟩:=h;exact⟨av,s1,h1,hk _ _ af⟩
def o4 (C:cu) (s:an) (o:cB) (K:an->Prop):Prop:=
 match o.guard with
 |none=>rO C s o.b4 λav s1=>K (fin s1 o.dst av)
 |some (t,b)=>match s t with
  | .bool gI=>if gI=b then rO C s o.b4 (λav s1=>K (fin s1 o.dst av))else K (fin s o.dst (.tuple []))
  | .tuple []=>K (fin s o.dst (.tuple []))
  |_=>False
def oE (C:cu) (s:an):List cB->(an->Prop)->Prop
 |[],K=>K s
 |o::os,K=>o4 C s o λs1=>oE C s1 os K
def kT (C:cu) (ros:List cB) (s:an):aAf->(an->Prop)->Prop
 |[],K=>K s
 |i::l,K=>match ros[i]? with
  |none=>kT C ros s l K
  |some o=>o4 C s o λs1=>kT C ros s1 l K
theorem afV (C:cu) (K:an->Prop):∀(rs pre:List cB) (s:an),oE C s rs K->kT C (pre++rs) s ((range rs.length).map (·+pre.length)) K:=by
 intro rs;induction rs with
 |nil=>intro pre s h;exact h
 |cons r rs ih=>
  intro pre s h;rw[length_cons,range_succ_eq_map,map_cons,List.map_map];simp only[kT,Nat.zero_add];rw[getElem?_append_right (Nat.le_refl _)];simp only[Nat.sub_self,getElem?_cons_zero];have key:∀s1,oE C s1 rs K->kT C (pre++r::rs) s1 ((range rs.length).map ((λx=>x+pre.length)∘succ)) K:=by
   intro s1 h1;have:=ih (pre++[r]) s1 h1;simp only[append_assoc,singleton_append,length_append,length_singleton]at this;have e:((λx=>x+pre.length)∘succ)=λx=>x+(pre.length+1):=by funext x;simp;omega
   rw[e];exact this
  simp only[oE]at h;unfold o4 at h⊢;split
  .rename_i hg;rw[hg]at h;exact I7 h λav s1=>key _
  .rename_i t b hg;rw[hg]at h;simp only at h;split
   .rename_i gI ae;rw[ae]at h;simp only at h;split
    .rename_i ab;rw[if_pos ab]at h;exact I7 h λav s1=>key _
    .rename_i ab;rw[if_neg ab]at h;exact key _ h
   .rename_i ae;rw[ae]at h;exact key _ h
   .rename_i h1 af;split at h
    .exact h1 _ (by assumption)
    .exact af (by assumption)
    .exact h
structure Rel (w0:World) (F0 X:Nat->Prop) (n:Fr) (ρ:Nat->Value) (s:an) (a:Act) (w:World):Prop where
 defers:a.defers=[]
 size:a.tmps.size=n.n
 fixed:∀i∈n.fx,a.tmps.getD i undef=ρ i
 rel:∃F S,ca w0 F0 X F S s (λt=>a.tmps.getD t undef) w
section
variable {C:cu} {w0 w:World} {F0 X:Nat->Prop} {n:Fr} {ρ:Nat->Value} {s s1:an} {a:Act} {av:I} {Q:Exit->Act->World->Prop}
theorem E9 {dst:Option Nat} (v:Value) (ae:a.tmps.size=n.n) (ao:oC n dst=true):
  (λt=>(a.put dst v).tmps.getD t undef)=qL (λt=>a.tmps.getD t undef) dst v/\(a.put dst v).tmps.size=n.n/\(a.put dst v).defers=a.defers:=by
 cases dst with
 |none=>exact⟨rfl,ae,rfl⟩
 |some d=>
  simp only[oC,Bool.and_eq_true,decide_eq_true_eq]at ao;refine⟨?_,by simp[Act.put,ae],rfl⟩;funext t;simp only[Act.put,qL,eo,Array.getD_eq_getD_getElem?];by_cases h:t=d
  .subst h;rw[if_pos rfl,Array.getElem?_setIfInBounds_self_of_lt (by omega)];rfl
  .rw[if_neg h,Array.getElem?_setIfInBounds_ne (λe=>h e.symm)]
theorem Rel.put {F S} (ao:a.defers=[]) (ae:a.tmps.size=n.n) (bI:∀i∈n.fx,a.tmps.getD i undef=ρ i) {aJ:World} (aR:ca w0 F0 X F S s (λt=>a.tmps.getD t undef) aJ) {v:Value} (aB:nV w0 X F S s (λt=>a.tmps.getD t undef) aJ av v)
  {dst:Option Nat} (gv:oC n dst=true):Rel w0 F0 X n ρ (fin s dst av) (a.put dst v) aJ:=by
 obtain⟨aK,aT,aU⟩:=E9 (n:=n) (dst:=dst) v ae gv;obtain⟨aY,bL⟩:=aR.fin aB dst;refine⟨aU.trans ao,aT,λi aj=>?_,F,aY,by rw[aK];exact bL⟩;rw[congrFun aK i];cases dst with
 |none=>exact bI i aj
 |some d=>
  simp only[oC,Bool.and_eq_true,Bool.not_eq_true',contains_eq_mem,decide_eq_false_iff_not]at gv;have dP:i≠d:=λe=>gv.2 (by rw[<-e];exact aj);simp only[qL];rw[lp _ _ dP];exact bI i aj
theorem Rel.skip (h:Rel w0 F0 X n ρ s a w) {dst:Option Nat} (gv:oC n dst=true):Rel w0 F0 X n ρ (fin s dst (.tuple [])) (a.put dst undef) w:=by
 obtain⟨ao,ae,bI,F,S,aR⟩:=h;refine Rel.put (av:=.tuple []) ao ae bI aR (.inl ⟨rfl,(aQ.dj (d:=.tuple []) rfl).2 ⟨?_,?_⟩⟩) gv
 .exact⟨#[],rfl,rfl,λk d x hk=>by simp at hk⟩
 .rw[az,br];rfl
theorem Wg {F:Nat->Prop} {aD:Nat->Value} {w:World}:∀{ds es:aAk} {vs us:aAi},e7 w F s aD ds vs->e7 w F s aD es us->e7 w F s aD (ds++es) (vs++us):=by
 intro ds;induction ds with
 |nil=>intro es vs us h1 af;rw[e7]at h1;subst h1;exact af
 |cons d ds ih=>
  intro es vs us h1 af;rw[e7]at h1;obtain⟨v,mc,rfl,g1,g2⟩:=h1;rw[cons_append,cons_append,e7];exact⟨v,_,rfl,g1,ih g2 af⟩
theorem Wh {F:Nat->Prop} {aD:Nat->Value} {w:World}:∀{ds:aAk} {vs:aAi},e7 w F s aD ds vs->ds.length=vs.length/\∀(i:Nat) (d:I) (v:Value),ds[i]? =some d->vs[i]? =some v->aQ w F s aD d v (λ_=>False):=by
 intro ds;induction ds with
 |nil=>intro vs h;rw[e7]at h;subst h;exact⟨rfl,λi d v h=>by simp at h⟩
 |cons d ds ih=>
  intro vs h;rw[e7]at h;obtain⟨v,mc,rfl,g1,g2⟩:=h;obtain⟨bV,cn⟩:=ih g2;refine⟨by simp[bV],λi bN hj ao aB=>?_⟩;cases i with
  |zero=>simp at ao aB;subst ao aB;exact g1
  |succ i=>exact cn i bN hj (by simpa using ao) (by simpa using aB)
theorem rP {op:Op} {b4:e2} (h:s3 op=b4):b4= .bad\/dv op=some b4:=by
 unfold s3 at h;split at h
 .subst h;right;assumption
 .exact .inl h.symm
theorem afW {op:Op} {b4:e2}:dv op≠some (.shr b4):=by
 intro h;unfold dv at h;split at h<;>(try split at h)<;>(try split at h)<;>(try split at h)<;>(try simp[Option.map_eq_some_iff]at h)
theorem afX {op:Op} {f:bA} {args:List bA} {us:aAf}:dv op≠some (.mU f args us):=by
 intro h;unfold dv at h;split at h<;>(try split at h)<;>(try split at h)<;>(try split at h)<;>(try simp[Option.map_eq_some_iff]at h)
theorem afY {op:Op} {x:bA} {k:Nat}:dv op≠some (.ext x k):=by
 intro h;unfold dv at h;split at h<;>(try split at h)<;>(try split at h)<;>(try split at h)<;>(try simp[Option.map_eq_some_iff]at h)
theorem afZ {op:Op} {x:bA} {k:Nat} (h:dv op=some (.ex x k)):∃cV,op= .extract cV k/\eH cV=some x:=by
 cases op with
 |extract cV dr=>
  simp only[dv,Option.map_eq_some_iff,e2.ex.injEq]at h;obtain⟨y,hy,rfl,rfl⟩:=h;exact⟨cV,rfl,hy⟩
 |_=>
  exfalso;unfold dv at h;split at h<;>(try split at h)<;>(try split at h)<;>(try split at h)<;>(try simp[Option.map_eq_some_iff]at h)<;>contradiction
theorem af0 {op:Op} {T:TypeId} {x:bA}:dv op≠some (.mg T x):=by
 intro h;unfold dv at h;split at h<;>(try split at h)<;>(try split at h)<;>(try split at h)<;>(try simp[Option.map_eq_some_iff]at h)
theorem af1 {op:Op} {x:bA}:dv op≠some (.p_ x):=by
 intro h;unfold dv at h;split at h<;>(try split at h)<;>(try split at h)<;>(try split at h)<;>(try simp[Option.map_eq_some_iff]at h)
theorem af2 {op:Op} {x:bA}:dv op≠some (.pG x):=by
 intro h;unfold dv at h;split at h<;>(try split at h)<;>(try split at h)<;>(try split at h)<;>(try simp[Option.map_eq_some_iff]at h)
theorem af3 {op:Op} {x:bA} (h:dv op=some (.ht x)):∃cV,op= .move cV/\eH cV=some x:=by
 unfold dv at h;split at h<;>(try split at h)<;>(try split at h)<;>(try split at h)<;>(try simp[Option.map_eq_some_iff]at h)
 exact⟨_,rfl,h⟩
theorem af4 {op:Op} {x:bA} (h:dv op=some (.hN x)):∃cV,op= .assign cV/\eH cV=some x:=by
 unfold dv at h;split at h<;>(try split at h)<;>(try split at h)<;>(try split at h)<;>(try simp[Option.map_eq_some_iff]at h)
 exact⟨_,rfl,h⟩
theorem ca.alias {F:Nat->Prop} {S:Nat->Nat->Prop} {aD:Nat->Value} {u x:Nat} (h:ca w0 F0 X F S s aD w) (hu:s u= .hole) (aq:(s x).own=true) (aB:cZ (aD u)=cZ (aD x)) (h1:Value.hq (aD u)=true):
  ca w0 F0 X F (g_ S u (λ_=>False)) (eo s u (.h x [])) aD w:=by
 have fe:eo aD u (aD u)=aD:=by funext y;simp only[eo];split<;>simp_all
 have:=h.BA (t:=u) (d:=.h x []) (v:=aD u) rfl (by
  rw[aQ];intro d ao aw;simp only[I.sub,Option.some.injEq]at ao;subst ao;exact⟨cZ (aD x),none,rfl,aB,((zH aq).2.2.2.2.2 _).2 h1⟩)
 rwa [fe]at this
theorem nV.less {F:Nat->Prop} {S aY:Nat->Nat->Prop} {aD:Nat->Value} {s1:an} {v:Value} (cc:∀u b,aY u b->S u b) (aR:av.res=true) (h:nV w0 X F S s aD w av v):nV w0 X F aY s1 aD w av v:=by
 rcases h with⟨h1,af⟩|⟨h1,af,Sn,ay,a_,b1,dn,dc⟩
 .refine .inl ⟨h1,?_⟩;cases av<;>first
   |(simp[I.res]at aR;done)
   |(rw[aQ];trivial)
   |(rw[aQ]at af⊢;exact af)
 .exact .inr ⟨h1,af,Sn,ay,a_,b1,λu b ab hu=>dn u b ab (cc u b hu),dc⟩
theorem Wi (bU:C.Ok) (h:Rel w0 F0 X n ρ s a w) {o:Oper} {f:bA} {args:List bA} (dd:dv o.op=some (.call f args)) (ao:oC n o.dst=true) {K:I->an->Prop} {L:an->Prop} {next:Act->World->Prop}
  (hw:NX C s f args K) (mW:∀F S cg aY w aJ av s1 v,ca w0 F0 X F S s (λt=>a.tmps.getD t undef) w->K av s1->av.res=true->ca w0 F0 X cg aY s1 (λt=>a.tmps.getD t undef) aJ->nV w0 X cg aY s1 (λt=>a.tmps.getD t undef) aJ av v->(∀b,F b->cg b/\aJ.heap[b]? =w.heap[b]?)->
   ∃s2 eG,L (fin s2 o.dst av)/\ca w0 F0 X cg eG s2 (λt=>a.tmps.getD t undef) aJ/\nV w0 X cg eG s2 (λt=>a.tmps.getD t undef) aJ av v)
  (aV:∀aC dF aJ,L aC->Rel w0 F0 X n ρ aC dF aJ->next dF aJ):o.wp C.P a w next Q:=by
 have hrel:=h;obtain⟨ki,eX,iL,F,S,aR⟩:=h;obtain⟨g,caps,ps,r,h1,hX,af,ay,a_,b1,dn,dc,gH⟩:=hw;obtain⟨dst,op,ty,pos,after,guard⟩:=o;simp only at dd ao mW;cases op with
 |call c=>
  obtain⟨callee,qb,argTypes⟩:=c;simp only[dv]at dd;split at dd
  .split at dd
   .rename_i E_ _ _ af5 xs bI sZ;simp only[Option.some.injEq,e2.call.injEq]at dd;obtain⟨rfl,rfl⟩:=dd;obtain⟨f1,f2⟩:=gu aR (λ_=>rfl) bI;rw[h1,aQ]at f2;obtain⟨arr,f3,f4⟩:=f2;have Fa:execOp a.eval {dst,op:=.call {callee:=.value E_,args:=qb,argTypes},type:=ty,pos,after,guard}=callFunc g ((qb.toList.map a.eval++arr.toList).toArray):=by
     have:a.eval E_= .func (.func g) #[] arr:=f3;simp only[execOp,resolve,this,Deferred.ofValue,pure_bind,invoke];congr 1;apply Array.ext';simp
    unfold Oper.wp;rw[Fa];have Fb:e7 w F s (λt=>a.tmps.getD t undef) (xs.map (bx s)++caps) (qb.toList.map a.eval++arr.toList):=Wg (I2 aR (λ_=>rfl) _ _ (zE sZ)) f4;rw[<-af]at Fb;obtain⟨fO,l2⟩:=Wh Fb;have fL:∀d∈xs.map (bx s)++caps,d.plain=true:=by
     intro d ao;rcases mem_append.1 ao with ao|ao
     .obtain⟨x,aq,rfl⟩:=mem_map.1 ao;exact UK s x λav e=>by
       subst e;have hm:=zE sZ;have:some (bA.c av)∈xs.map some:=mem_map.2 ⟨_,aq,rfl⟩;rw[<-hm]at this;obtain⟨o,_,bG⟩:=mem_map.1 this;cases o with
       |const v=>simp only[eH,Option.map_eq_some_iff]at bG;obtain⟨c,au,e⟩:=bG;cases e;exact M1 au
       |tmp n=>simp[eH]at bG
       |func g=>simp[eH]at bG
       |global g=>simp[eH]at bG
     .obtain⟨k,hk⟩:=getElem?_of_mem ao;exact Iy hX hk
    have NY:=afU (C:=C) aR (ps:=ps) (vs:=qb.toList.map a.eval++arr.toList) (f:=g) (r:=r) (by simpa using fO)
     (λi p v aw aB=>⟨fL p.a (by rw[<-af];exact mem_map.2 ⟨p,mem_of_getElem? aw,rfl⟩),l2 i p.a v (by simp[aw]) aB⟩) ay a_ b1 dn dc
    rcases NY with⟨ef,bg⟩|⟨v,aJ,ef,cg,aY,bg,dt,bQ⟩
    .rw[ef,Oper.upon_enter];refine Calls.mono bg ?_;rintro e aJ ⟨v,rfl,cg,aY,bV,cn,dV⟩;obtain⟨s2,eG,m1,m2,m3⟩:=mW _ _ _ _ _ _ _ _ _ aR gH dn bV cn dV;exact aV _ _ _ m1 (Rel.put ki eX iL m2 m3 ao)
    .rw[ef,Oper.upon_value];obtain⟨s2,eG,m1,m2,m3⟩:=mW _ _ _ _ _ _ _ _ _ aR gH dn bg dt bQ;exact aV _ _ _ m1 (Rel.put ki eX iL m2 m3 ao)
   .cases dd
  .split at dd
   .simp only[Option.map_eq_some_iff]at dd;obtain⟨_,_,dd⟩:=dd;cases dd
   .cases dd
  .split at dd
   .simp only[Option.map_eq_some_iff]at dd;obtain⟨_,_,dd⟩:=dd;cases dd
   .cases dd
  iterate 3
   .split at dd
    .split at dd<;>cases dd
    .cases dd
  .cases dd
 |makeFunc fn first cs=>
  cases fn<;>simp only[dv]at dd<;>first|(cases dd;done)|(split at dd<;>simp at dd)
 |slice T x fP aj fp=>
  cases fp<;>simp only[dv]at dd<;>first|(cases dd;done)|(split at dd<;>simp at dd)
 |makeMap T r=>cases r<;>simp only[dv]at dd<;>simp at dd
 |lookup T x i c=>cases c<;>simp only[dv]at dd<;>first|(cases dd;done)|(split at dd<;>simp at dd)
 |_=>simp only[dv]at dd<;>first|(cases dd;done)|(simp at dd;done)|(split at dd<;>simp at dd)
theorem af6 (bU:C.Ok) (h:Rel w0 F0 X n ρ s a w) {o:Oper} {b4:e2} (dd:dv o.op=some b4) (ao:oC n o.dst=true) {K:an->Prop} {next:Act->World->Prop}
  (hw:rO C s b4 λav s1=>K (fin s1 o.dst av)) (aV:∀aC dF aJ,K aC->Rel w0 F0 X n ρ aC dF aJ->next dF aJ):o.wp C.P a w next Q:=by
 have hrel:=h;obtain⟨ki,eX,iL,F,S,aR⟩:=h;have plain:∀av s1,ch C s b4=some (av,s1)->K (fin s1 o.dst av)->o.wp C.P a w next Q:=by
  intro av s1 he hk;obtain⟨r,aJ,v,cg,aY,h1,af,ay,a_⟩:=VF (a:=a) bU aR (λ_=>rfl) dd he;unfold Oper.wp;rw[h1];rcases af with rfl|⟨rfl,rfl⟩
  .exact aV _ _ _ hk (Rel.put ki eX iL ay a_ ao)
  .exact aV _ _ _ hk (Rel.put ki eX iL ay a_ ao)
 cases b4 with
 |shr b4=>exact(afW dd).elim
 |call f args=>exact Wi bU ⟨ki,eX,iL,F,S,aR⟩ dd ao (K:=λav s1=>K (fin s1 o.dst av)) hw (λ_ _ _ aY _ _ _ s1 _ _ af _ ay a_ _=>⟨s1,aY,af,ay,a_⟩) aV
 |mU f args L=>exact(afX dd).elim
 |mg T x=>exact(af0 dd).elim
 |p_ x=>exact(af1 dd).elim
 |pG x=>exact(af2 dd).elim
 |ext x k=>exact(afY dd).elim
 |_=>
  obtain⟨av,s1,he,hk⟩:=hw;exact plain av s1 he hk
theorem nV.share {F:Nat->Prop} {S:Nat->Nat->Prop} {aD:Nat->Value} {v:Value} (h:ca w0 F0 X F S s aD w) (aB:nV w0 X F S s aD w av v) (a6:av.tree=true) (aV:∀vs,av≠.tuple vs):
  ∃cg,ca w0 F0 X cg S s aD w/\nV w0 X cg S s aD w av.share v:=by
 obtain⟨Sn,gP,gA,je,jG,rB,Fe⟩:∃Sn:Nat->Prop,eW av v/\az w F av (cZ v) Sn/\(∀b,Sn b->b<w.heap.size)/\(∀b,Sn b->¬F b)/\(∀u b,Sn b->¬S u b)/\(∀b,Sn b->X b\/w0.heap.size<=b):=by
  rcases aB with⟨h1,af⟩|⟨_,af,Sn,ay,a_,b1,dn,dc⟩
  .rw[aQ.dj a6]at af;exact⟨λ_=>False,af.1,af.2,λ_ h=>h.elim,λ_ h=>h.elim,λ_ _ h=>h.elim,λ_ h=>h.elim⟩
  .exact⟨Sn,af,ay,a_,b1,dn,dc⟩
 refine⟨λb=>F b\/Sn b,?_,.inl ⟨NN av,?_⟩⟩
 .exact {
   hL:=λb ab=>.inl (h.hL b ab)
   h9:=λb ab=>by
    rcases ab with ab|ab
    .exact h.h9 b ab
    .exact .inr (Fe b ab)
   fG:=λb ab=>ab.elim (h.fG b) (je b)
   fc:=h.fc
   gl:=λt b ab bI=>bI.elim (h.gl t b ab) (λae=>rB t b ae ab)
   fT:=h.fT
   eI:=h.eI
   eg:=λt=>aQ.frame (λ_ _=>rfl) (λb ab=>.inl ab) (λ_ _ _=>rfl) h.eg _ _ _ (λ_ _=>rfl) (h.eg t)
   old:=h.old
   size:=h.size
   os:=h.os
   tape:=h.tape
   output:=h.output
   fU:=h.fU}
 .by_cases bG:∃o,av= .ck o
  .obtain⟨o,rfl⟩:=bG;rw[I.share,aQ];trivial
  by_cases zK:∃f c,av= .gN f c
  .obtain⟨f,c,rfl⟩:=zK;rw[I.share,aQ];trivial
  have NZ:av.share.tree=true:=by cases av<;>first|exact a6|rfl|exact(bG ⟨_,rfl⟩).elim|exact(zK ⟨_,_,rfl⟩).elim
  rw[aQ.dj NZ];exact⟨NP aV gP,az.shared (λb ab=>.inl ab) av _ Sn (λb ab=>.inr ab) gA⟩
theorem af7 {op:Op} {T:TypeId} {x:bA} (h:dv op=some (.ir T x)):∃a,op= .box T a/\eH a=some x:=by
 cases op with
 |box N0 a=>
  simp only[dv,Option.map_eq_some_iff,e2.ir.injEq]at h;obtain⟨y,hy,rfl,rfl⟩:=h;exact⟨a,rfl,hy⟩
 |_=>
  exfalso;unfold dv at h;split at h<;>(try split at h)<;>(try split at h)<;>(try split at h)<;>(try simp[Option.map_eq_some_iff]at h)<;>contradiction
theorem af8 {aJ:World} {F cg:Nat->Prop} {s s1:an} {aD:Nat->Value} (bC:∀b,F b->cg b/\aJ.heap[b]? =w.heap[b]?):∀(n:Nat),
  (∀(d:I) (v:Value) (S:Nat->Prop),SizeOf.sizeOf d<=n->d.gD s=true->d.gD s1=true->aQ w F s aD d v S->aQ aJ cg s1 aD d v (λ_=>False))/\
  (∀(ds:aAk) (vs:aAi),SizeOf.sizeOf ds<=n->I.rN s ds=true->I.rN s1 ds=true->e7 w F s aD ds vs->e7 aJ cg s1 aD ds vs):=by
 intro n;induction n with
 |zero=>
  refine⟨λd v S b3=>?_,λds vs b3=>?_⟩
  .cases d<;>simp at b3<;>omega
  .cases ds<;>simp at b3<;>omega
 |succ n ih=>
  refine⟨λd v S b3 bV cn h=>?_,λds vs b3 bV cn h=>?_⟩
  .cases d with
   |hole=>rw[aQ];trivial
   |h x q=>
    simp only[I.gD,Bool.and_eq_true,isEmpty_iff]at bV cn;obtain⟨rfl,bV⟩:=bV;rw[aQ]at h⊢;obtain⟨dI,a,gO,iX,kd⟩:=h (s x) (by simp only[I.sub]) (zH bV).1;simp only[ew,Option.some.injEq,Prod.mk.injEq,true_and]at gO;intro d ao _;simp only[I.sub,Option.some.injEq]at ao;subst ao;exact⟨cZ (aD x),none,by simp only[ew],by rw[iX,<-gO.1],((zH cn.2).2.2.2.2.2 _).2 (((zH bV).2.2.2.2.2 _).1 kd)⟩
   |aw x q=>simp[I.gD]at bV
   |ab x k=>
    simp only[I.gD,Bool.not_eq_true']at bV;rw[aQ]at h⊢;obtain⟨b,cur,e,fr,h1,af,ay,a_⟩:=h bV;exact λ_=>⟨b,cur,e,fr,h1,(bC b af).1,(bC b af).2.trans ay,a_⟩
   |fn f cap=>
    simp only[I.gD]at bV cn;rw[aQ]at h⊢;obtain⟨arr,rfl,au⟩:=h;exact⟨arr,rfl,ih.2 _ _ (by simp at b3;omega) bV cn au⟩
   |_=>
    simp only[I.gD]at bV;have bL:=(aQ.dj rfl).1 h;exact(aQ.dj rfl).2 ⟨bL.1,az.mono (λb ab=>(bC b ab).1) _ _ _ _ (λ_ h=>h) (az.frame (λb ab=>(bC b ab).2) _ _ _ (λ_ h=>h.elim) (az.plain _ _ _ _ bV bL.2))⟩
  .cases ds with
   |nil=>rw[e7]at h⊢;exact h
   |cons d ds=>
    simp only[I.rN,Bool.and_eq_true]at bV cn;rw[e7]at h⊢;obtain⟨v,mc,rfl,h1,af⟩:=h;simp at b3;exact⟨v,mc,rfl,ih.1 _ _ _ (by omega) bV.1 cn.1 h1,ih.2 _ _ (by omega) bV.2 cn.2 af⟩
theorem af9 {s:an} {d:I} (h:d.gD s=true):d.plain=true:=by
 cases d<;>first|rfl|(simpa [I.gD]using h)
theorem ca.qa {F:Nat->Prop} {aD:Nat->Value}:∀(L:aAj) (s:an) (S:Nat->Nat->Prop),ca w0 F0 X F S s aD w->(∀p∈L,p.2.plain=true/\aQ w F s aD p.2 (aD p.1) (λ_=>False))->
  ∃aY,ca w0 F0 X F aY (en.qa s L) aD w/\∀u b,aY u b->S u b:=by
 intro L;induction L with
 |nil=>intro s S h _;exact⟨S,h,λ_ _ h=>h⟩
 |cons p L ih=>
  intro s S h mW;obtain⟨h1,af⟩:=mW p (by simp);have fe:eo aD p.1 (aD p.1)=aD:=by funext u;simp only[eo];split<;>simp_all
  have ay:=h.BA (t:=p.1) h1 af;rw[fe]at ay;have iH:∀x,x≠p.1->(eo s p.1 p.2 x).tree=true->eo s p.1 p.2 x=s x/\aD x=aD x:=λx aq _=>⟨lp _ _ aq,rfl⟩
  obtain⟨aY,g1,g2⟩:=ih _ _ ay (λq cF=>⟨(mW q (by simp[cF])).1,(aQ.void (t:=p.1) iH (by rw[o0];exact h1) _).1 _ _ _ (Nat.le_refl _) (mW q (by simp[cF])).2⟩);refine⟨aY,g1,λu b ab=>?_⟩;have:=g2 u b ab;simp only[g_]at this;split at this
  .exact this.elim
  .exact this
theorem N1 {s:an}:∀{L:aAj},oD s L=true->∀p∈L,p.2.gD s=true
 |q::L,h1,p,aw=>by
  simp only[oD,Bool.and_eq_true]at h1;rcases mem_cons.1 aw with rfl|aw
  .exact h1.1
  .exact N1 h1.2 p aw
theorem af_ {s:an} {us:aAf} {p:Nat×I} (h:p∈lu s us):p.1∈us/\s p.1=p.2:=by
 obtain⟨u,hu,rfl⟩:=mem_map.1 h;exact⟨hu,rfl⟩
theorem aga (bU:C.Ok) (h:Rel w0 F0 X n ρ s a w) {o:Oper} {b4:e2} (dd:s3 o.op=b4.base) (ao:oC n o.dst=true) {K:an->Prop} {next:Act->World->Prop}
  (hw:rO C s b4 λav s1=>K (fin s1 o.dst av)) (aV:∀aC dF aJ,K aC->Rel w0 F0 X n ρ aC dF aJ->next dF aJ):o.wp C.P a w next Q:=by
 cases b4 with
 |shr b4=>
  obtain⟨av,s1,he,a6,n0,hk⟩:=hw;rcases rP dd with dd|dd
  .change b4= .bad at dd;subst dd;cases he
  obtain⟨ki,eX,iL,F,S,aR⟩:=h;obtain⟨r,aJ,v,cg,aY,h1,af,ay,a_⟩:=VF (a:=a) bU aR (λ_=>rfl) dd he;obtain⟨oB,g3,g4⟩:=nV.share ay a_ a6 n0;unfold Oper.wp;rw[h1];rcases af with rfl|⟨rfl,rfl⟩
  .exact aV _ _ _ hk (Rel.put ki eX iL g3 g4 ao)
  .exact aV _ _ _ hk (Rel.put ki eX iL g3 g4 ao)
 |bad=>obtain⟨av,s1,he,_⟩:=hw;cases he
 |mU f args L=>
  obtain⟨aT,hw⟩:=hw;rcases rP dd with ab|ab
  .cases ab
  .refine Wi bU h ab ao hw ?_ aV;rintro F S cg aY w aJ av s1 v gP ⟨gA,jG⟩ rB Fe N2 agb;obtain⟨eG,g1,g2⟩:=Fe.qa (lu s L) s1 aY (λp aw=>by
    have ef:=(af_ aw).2;have bg:=N1 aT p aw;have dt:=N1 gA p aw;refine⟨af9 bg,(af8 agb _).1 _ _ (S p.1) (Nat.le_refl _) bg dt ?_⟩;have:=gP.eg p.1;rw[ef]at this;exact this)
   exact⟨_,eG,jG,g1,N2.less g2 rB⟩
 |mg T x=>
  obtain⟨av,s1,he,hk⟩:=hw;rcases rP dd with ab|ab
  .cases ab
  .obtain⟨cV,s4,aq⟩:=af7 ab;obtain⟨ki,eX,iL,F,S,aR⟩:=h;obtain⟨dst,op,ty,pos,after,guard⟩:=o;simp only at s4 ao hk;subst s4;obtain⟨r,aJ,v,cg,aY,h1,af,ay,a_⟩:Next C w0 F0 X (λt=>a.tmps.getD t undef) w (execOp a.eval ⟨dst,.box T cV,ty,pos,after,guard⟩) av s1:=(aej (T:=T) aR (gu aR (λ_=>rfl) aq).2 he).next;unfold Oper.wp;rw[h1];rcases af with rfl|⟨rfl,rfl⟩
   .exact aV _ _ _ hk (Rel.put ki eX iL ay a_ ao)
   .exact aV _ _ _ hk (Rel.put ki eX iL ay a_ ao)
 |pG x=>
  obtain⟨av,s1,he,hk⟩:=hw;rcases rP dd with ab|ab
  .cases ab
  .obtain⟨cV,s4,aq⟩:=af3 ab;obtain⟨ki,eX,iL,F,S,aR⟩:=h;obtain⟨dst,op,ty,pos,after,guard⟩:=o;simp only at s4 ao hk;subst s4;simp only[ch]at he;obtain⟨g1,g2⟩:=gu aR (λ_=>rfl) aq;obtain⟨r,aJ,v,cg,aY,h1,af,ay,a_⟩:Next C w0 F0 X (λt=>a.tmps.getD t undef) w (execOp a.eval ⟨dst,.move cV,ty,pos,after,guard⟩) av s1:=by
    unfold uo at he;split at he
    .rename_i y q hy;rw[hy]at g1 g2;obtain⟨cL,k0,bV,cn,Sn,dV,ea,eC,dB,kh,_⟩:=rv aR g1 g2 he;exact⟨_,w,_,F,cL,rfl,.inl rfl,k0,.inr ⟨bV,cn,Sn,dV,ea,eC,dB,kh⟩⟩
    .simp only[Option.some.injEq,Prod.mk.injEq]at he;obtain⟨rfl,rfl⟩:=he;exact⟨_,w,_,F,S,rfl,.inl rfl,aR,.inl ⟨g1,g2⟩⟩
   unfold Oper.wp;rw[h1];rcases af with rfl|⟨rfl,rfl⟩
   .exact aV _ _ _ hk (Rel.put ki eX iL ay a_ ao)
   .exact aV _ _ _ hk (Rel.put ki eX iL ay a_ ao)
 |ext x k=>
  obtain⟨av,s1,he,hk⟩:=hw;rcases rP dd with ab|ab
  .cases ab
  .obtain⟨cV,s4,aq⟩:=afZ ab;obtain⟨ki,eX,iL,F,S,aR⟩:=h;obtain⟨dst,op,ty,pos,after,guard⟩:=o;simp only at s4 ao hk;subst s4;simp only[ch]at he;obtain⟨y,q,p,f1,f2,f3⟩:=VC he;obtain⟨r,aJ,v,cg,aY,h1,af,ay,a_⟩:Next C w0 F0 X (λt=>a.tmps.getD t undef) w (execOp a.eval ⟨dst,.extract cV k,ty,pos,after,guard⟩) av s1:=by
    obtain⟨v,aJ,cg,aY,Nc,fq,qJ⟩:=U7 (C:=C) aR (gu aR (λ_=>rfl) aq).2 f2;have NC:aQ aJ cg s (λt=>a.tmps.getD t undef) (.h y p) v (λ_=>False):=by
     rcases qJ with⟨_,g2⟩|⟨g1,_⟩
     .exact g2
     .cases g1
    obtain⟨cL,k0,bV,cn,Sn,dV,ea,eC,dB,kh,_⟩:=rv fq rfl NC f3;exact⟨.value v,aJ,v,cg,cL,by simp[execOp,Nc],.inl rfl,k0,.inr ⟨bV,cn,Sn,dV,ea,eC,dB,kh⟩⟩
   unfold Oper.wp;rw[h1];rcases af with rfl|⟨rfl,rfl⟩
   .exact aV _ _ _ hk (Rel.put ki eX iL ay a_ ao)
   .exact aV _ _ _ hk (Rel.put ki eX iL ay a_ ao)
 |p_ x=>
  obtain⟨av,s1,he,hk⟩:=hw;rcases rP dd with ab|ab
  .cases ab
  .obtain⟨cV,s4,aq⟩:=af4 ab;obtain⟨ki,eX,iL,F,S,aR⟩:=h;obtain⟨dst,op,ty,pos,after,guard⟩:=o;simp only at s4 ao hk;subst s4;simp only[ch,Option.some.injEq,Prod.mk.injEq]at he;obtain⟨rfl,rfl⟩:=he;obtain⟨g1,g2⟩:=gu aR (λ_=>rfl) aq;obtain⟨r,aJ,v,cg,aY,h1,af,ay,a_⟩:Next C w0 F0 X (λt=>a.tmps.getD t undef) w (execOp a.eval ⟨dst,.assign cV,ty,pos,after,guard⟩) (bx s x) s:=⟨_,w,_,F,S,rfl,.inl rfl,aR,.inl ⟨g1,g2⟩⟩
   unfold Oper.wp;rw[h1];rcases af with rfl|⟨rfl,rfl⟩
   .exact aV _ _ _ hk (Rel.put ki eX iL ay a_ ao)
   .exact aV _ _ _ hk (Rel.put ki eX iL ay a_ ao)
 |_=>
  rcases rP dd with ab|ab
  .cases ab
  .exact af6 bU h ab ao hw aV
end
end Go.en
namespace Go.en
open Go.IntKind Nat Or
section
variable {C:cu} {w0 w:World} {F0 X:Nat->Prop} {n:Fr} {ρ:Nat->Value} {s s1:an} {a:Act} {av:I} {Q:Exit->Act->World->Prop}
def cB.un (o:cB):cB:=⟨o.dst,o.b4.base,o.guard⟩
theorem Ff {ops:Array Oper}:∀{os:List Oper} {rs:List cB},ux n ops os=some rs->os.length=rs.length/\∀(i:Nat) (o:Oper),os[i]? =some o->∃r,rs[i]? =some r/\uw n ops o=some r:=by
 intro os;induction os with
 |nil=>intro rs h;simp only[ux,Option.some.injEq]at h;subst h;exact⟨rfl,λi o h=>by simp at h⟩
 |cons o os ih=>
  intro rs h;simp only[ux]at h;split at h
  .rename_i r aye h1 af;simp only[Option.some.injEq]at h;subst h;obtain⟨bV,cn⟩:=ih af;refine⟨by simp[bV],λi qS bG=>?_⟩;cases i with
   |zero=>simp at bG;subst bG;exact⟨r,rfl,h1⟩
   |succ i=>simpa using cn i qS (by simpa using bG)
  .cases h
theorem I8 {o:Oper} {y:Nat->aAg} (h:o.guard=none):Region.wanted o y=true:=by simp[Region.wanted,h]
theorem agc (h:Rel w0 F0 X n ρ s a w) {ops:Array Oper} {j t:Nat} (bE:(ops[j]?).bind (·.dst)=some t):
  (∀b,s t= .bool b->yielded ops a.tmps j=some b)/\(s t= .tuple []->yielded ops a.tmps j=none):=by
 obtain⟨ao,ae,bI,F,S,aR⟩:=h;have kS:=aR.eg t;refine⟨λb ab=>?_,λab=>?_⟩
 .rw[ab]at kS;have aB:=xM kS;simp only[yielded,bE,Option.bind_some];rw[Array.getD_eq_getD_getElem?]at aB;cases hg:a.tmps[t]? with
  |none=>rw[hg]at aB;simp[undef]at aB
  |some v=>rw[hg]at aB;simp at aB;subst aB;rfl
 .rw[ab]at kS;obtain⟨⟨arr,h1,af⟩,_⟩:=(aQ.dj (d:=.tuple []) rfl).1 kS;simp only[yielded,bE,Option.bind_some];rw[Array.getD_eq_getD_getElem?]at h1;cases hg:a.tmps[t]? with
  |none=>rfl
  |some v=>rw[hg]at h1;simp at h1;subst h1;rfl
theorem N3 (bU:C.Ok) {ops:Array Oper} {ros:List cB} {l2:aAf} {K:an->Prop} (aV:∀aC dF aJ,K aC->Rel w0 F0 X n ρ aC dF aJ->wpOps C.P ops Q l2 dF aJ):
  ∀(l:aAf),(∀i∈l,(ops[i]? =none->ros[i]? =none)/\∀o,ops[i]? =some o->∃r,ros[i]? =some r/\uw n ops o=some r.un)->
  ∀(s:an) (a:Act) (w:World),kT C ros s l K->Rel w0 F0 X n ρ s a w->wpOps C.P ops Q (l++l2) a w:=by
 intro l;induction l with
 |nil=>intro _ s a w h aR;exact aV s a w h aR
 |cons i l ih=>
  intro rQ s a w h aR;replace ih:=ih λi aj=>rQ i (List.mem_cons_of_mem _ aj);rw[List.cons_append];simp only[wpOps];cases bG:ops[i]? with
  |none=>
   simp only[kT,(rQ i (by simp)).1 bG]at h;exact ih s a w h aR
  |some o=>
   obtain⟨r,h1,af⟩:=(rQ i (by simp)).2 o bG;simp only[kT,h1]at h;show(if Region.wanted o (yielded ops a.tmps)=true then o.wp C.P a w (wpOps C.P ops Q (l++l2)) Q\/(o.asks C.P a w/\LetsOut Q)else wpOps C.P ops Q (l++l2) (a.put o.dst undef) w);simp only[uw]at af;split at af
   .rename_i I9;split at af
    .rename_i g hg;obtain⟨rd,b4,rg⟩:=r;simp only[cB.un,Option.some.injEq,cB.mk.injEq]at af;obtain⟨rfl,dd,rfl⟩:=af;simp only[o4]at h;have run:∀(eE:an->Prop),(∀aC,eE aC->kT C ros aC l K)->rO C s b4 (λav s1=>eE (fin s1 o.dst av))->o.wp C.P a w (wpOps C.P ops Q (l++l2)) Q:=
      λeE hK hw=>aga bU aR dd I9 hw (λaC dF aJ hk fv=>ih aC dF aJ (hK aC hk) fv)
     cases BR:o.guard with
     |none=>
      rw[BR]at hg;simp only[E8,Option.some.injEq]at hg;subst hg;simp only at h;rw[if_pos (I8 BR)];exact .inl (run _ (λ_ h=>h) h)
     |some N4=>
      obtain⟨j,b⟩:=N4;rw[BR]at hg;simp only[E8]at hg;split at hg
      .rename_i t a6;simp only[Option.some.injEq]at hg;subst hg;simp only at h;obtain⟨fs,hn⟩:=agc aR a6;have Wj:∀(eE:kT C ros (fin s o.dst (.tuple [])) l K),wpOps C.P ops Q (l++l2) (a.put o.dst undef) w:=λeE=>ih _ _ _ eE (Rel.skip aR I9);split at h
       .rename_i gI ae;have hy:=fs gI ae;split at h
        .rename_i ab;subst ab;rw[if_pos (by simp[Region.wanted,BR,hy])];exact .inl (run _ (λ_ h=>h) h)
        .rename_i ab;rw[if_neg (by simp[Region.wanted,BR,hy,ab])];exact Wj h
       .rename_i ae;have hy:=hn ae;rw[if_neg (by simp[Region.wanted,BR,hy])];exact Wj h
       .exact h.elim
      .cases hg
    .cases af
   .cases af
theorem Wk (bU:C.Ok) {ops:Array Oper} {ros:List cB} (xZ:ux n ops ops.toList=some (ros.map cB.un)) {K:an->Prop} (aV:∀aC dF aJ,K aC->Rel w0 F0 X n ρ aC dF aJ->Q .normal dF aJ):
  ∀(l:aAf) (s:an) (a:Act) (w:World),kT C ros s l K->Rel w0 F0 X n ρ s a w->wpOps C.P ops Q l a w:=by
 obtain⟨hl,rQ⟩:=Ff xZ;intro l s a w h aR;have:=N3 (Q:=Q) bU (ros:=ros) (ops:=ops) (l2:=[]) (K:=K) (n:=n) (ρ:=ρ) (w0:=w0) (F0:=F0) (X:=X) (λaC dF aJ hk fv=>aV aC dF aJ hk fv) l (λi _=>⟨λbG=>by
   rw[List.getElem?_eq_none_iff,<-List.length_map (f:=cB.un),<-hl];have:=Array.getElem?_eq_none_iff.1 bG;simpa using this,λo bG=>by
   obtain⟨ak,k2,af⟩:=rQ i o (by simpa using bG);obtain⟨r,h1,rfl⟩:∃r,ros[i]? =some r/\r.un=ak:=by simpa using k2
   exact⟨r,h1,af⟩⟩) s a w h aR
 rwa [List.append_nil]at this
theorem Rel.drawn (h:Rel w0 F0 X n ρ s a w) (k:Nat) (hk:w.drawn<=k):Rel w0 F0 X n ρ s a {w with drawn:=k}:=by
 obtain⟨h1,af,bI,F,S,ay⟩:=h;exact⟨h1,af,bI,F,S,ay.grow (λ_ _=>rfl) (Nat.le_refl _) rfl rfl ⟨rfl,λ_=>hk⟩⟩
theorem agd (bU:C.Ok) {id:Nat} {ops:Array Oper} {ros:List cB} (xZ:ux n ops ops.toList=some (ros.map cB.un)) {K:an->Prop} (aV:∀aC dF aJ,K aC->Rel w0 F0 X n ρ aC dF aJ->Q .normal dF aJ)
  (h:oE C s ros K) (aR:Rel w0 F0 X n ρ s a w):(Code.region id ops false).wp C.P Q a w:=by
 refine wp_region (Wk bU xZ aV _ s a w ?_ aR);have:=afV C K ros [] s h;have hl:=(Ff xZ).1;simp only[List.nil_append,List.length_nil,Nat.add_zero,List.map_id']at this;rw[List.length_map]at hl;rw[<-hl]at this;simpa using this
end
def s5 (s6:aAd) (l:aAf):Prop:=
 l.Nodup/\(∀i,i∈l↔i<s6.length)/\∀u i v,l=u++i::v->∀e∈(s6[i]?).getD [],e∈u
def rR (ops:Array Oper):aAd:=ops.toList.map λo=>(o.after.toList.filter λe=>Region.binds .any e).map (·.on)
def Fg (s6:aAd):Bool:=s6.zipIdx.all λp=>p.1.all λe=>decide (e<p.2)
theorem age {s6:aAd} (h:Fg s6=true) {i:Nat} {l:aAf} (aj:s6[i]? =some l):∀e∈l,e<i:=by
 intro e he;simp only[Fg,List.all_eq_true]at h;have:=h (l,i) (by rw[List.mem_zipIdx_iff_getElem?];exact aj) e he;simpa using this
theorem agf {ops:Array Oper} (ab:Fg (rR ops)=true):∀(fuel t:Nat) (listed:Array Bool),listed.size=ops.size->((List.range ops.size).filter λi=> !listed.getD i true).length<=fuel->
  (Region.linearise.go .any ops fuel t listed []).Nodup/\(∀i,i∈Region.linearise.go .any ops fuel t listed []↔(i<ops.size/\listed.getD i true=false))/\
   ∀u i v,Region.linearise.go .any ops fuel t listed []=u++i::v->∀e∈((rR ops)[i]?).getD [],listed.getD e false=true\/e∈u:=by
 intro fuel;induction fuel with
 |zero=>
  intro t listed ae hl;have EU:((List.range ops.size).filter λi=> !listed.getD i true)=[]:=List.length_eq_zero_iff.1 (le_zero.1 hl);refine⟨by simp[Region.linearise.go],λi=>?_,λu i v h=>by simp[Region.linearise.go]at h⟩;simp only[Region.linearise.go,List.reverse_nil,List.not_mem_nil,false_iff,not_and];intro aj bI;have:i∈((List.range ops.size).filter λi=> !listed.getD i true):=List.mem_filter.2 ⟨List.mem_range.2 aj,by rw[bI];rfl⟩;rw[EU]at this;cases this
 |succ fuel ih=>
  intro t listed ae hl;have Wl:∀i,i∈Region.ready .any ops listed↔(i<ops.size/\listed.getD i true=false/\∀e∈((rR ops)[i]?).getD [],listed.getD e false=true):=by
   intro i;simp only[Region.ready,List.mem_filter,List.mem_range,Bool.and_eq_true,Bool.not_eq_true'];constructor
   .rintro⟨h1,af,ay⟩;refine⟨h1,af,?_⟩;rw[Array.getElem?_eq_getElem h1]at ay;simp only[Option.map_some,Option.getD_some,Array.all_eq_true_iff_forall_mem]at ay;simp only[rR,List.getElem?_map,Array.getElem?_toList,Array.getElem?_eq_getElem h1,Option.map_some,Option.getD_some,List.mem_map,List.mem_filter];rintro e ⟨x,⟨aq,zD⟩,rfl⟩;have:=ay x (by simpa using aq);simpa [zD]using this
   .rintro⟨h1,af,ay⟩;refine⟨h1,af,?_⟩;rw[Array.getElem?_eq_getElem h1];simp only[Option.map_some,Option.getD_some,Array.all_eq_true_iff_forall_mem];simp only[rR,List.getElem?_map,Array.getElem?_toList,Array.getElem?_eq_getElem h1,Option.map_some,Option.getD_some,List.mem_map,List.mem_filter]at ay;intro x aq;cases zD:Region.binds .any x with
    |false=>simp
    |true=>simpa using ay x.on ⟨x,⟨by simpa using aq,zD⟩,rfl⟩
  have hex:(∃i,i<ops.size/\listed.getD i true=false)->Region.ready .any ops listed≠[]:=by
   rintro⟨i,h1,af⟩;have:∃i,(i<ops.size/\listed.getD i true=false)/\∀j,j<i->¬(j<ops.size/\listed.getD j true=false):=by
    induction i using Nat.strongRecOn with
    |_ i agh=>
     by_cases bE:∃j,j<i/\(j<ops.size/\listed.getD j true=false)
     .obtain⟨j,rS,qV,agi⟩:=bE;exact agh j rS qV agi
     .exact⟨i,⟨h1,af⟩,λj agj au=>bE ⟨j,agj,au⟩⟩
   obtain⟨k,⟨bV,cn⟩,dV⟩:=this;have:k∈Region.ready .any ops listed:=(Wl k).2 ⟨bV,cn,λe he=>by
    cases bs:(rR ops)[k]? with
    |none=>rw[bs]at he;simp at he
    |some l=>
     rw[bs]at he;have eA:=age ab bs e he;have:=dV e eA;rw[not_and]at this;have:=this (by omega);have qW:e<listed.size:=by omega
     simp only[Array.getD_eq_getD_getElem?,Array.getElem?_eq_getElem qW,Option.getD_some]at this⊢;simpa using this⟩
   intro e;rw[e]at this;cases this
  have iv:Region.linearise.go .any ops (fuel+1) t listed []=(match(Region.ready .any ops listed)[t%(Region.ready .any ops listed).length]? with
   |some i=>Region.linearise.go .any ops fuel (t/(Region.ready .any ops listed).length) (listed.setIfInBounds i true) [i]
   |none=>[]):=rfl
  cases Fh:(Region.ready .any ops listed)[t%(Region.ready .any ops listed).length]? with
  |none=>
   have EU:Region.ready .any ops listed=[]:=by
    cases aR:Region.ready .any ops listed with
    |nil=>rfl
    |cons a l=>
     rw[aR]at Fh;have:=List.getElem?_eq_none_iff.1 Fh;have af:=mod_lt t (show 0<(a::l).length by simp);omega
   rw[iv,Fh];refine⟨by simp,λi=>?_,λu i v h=>by simp at h⟩;simp only[List.not_mem_nil,false_iff];intro aj;exact hex ⟨i,aj⟩ EU
  |some i=>
   have aj:=(Wl i).1 (List.mem_of_getElem? Fh);obtain⟨Fi,mX,agk⟩:=aj;rw[iv,Fh];simp only;rw[linearise_go_acc];simp only[List.reverse_singleton,List.singleton_append];have xL:∀j d,(listed.setIfInBounds i true).getD j d=if j=i then true else listed.getD j d:=by
    intro j d;split
    .rename_i e;subst e;simp[Array.getD_eq_getD_getElem?,Array.getElem?_setIfInBounds_self_of_lt (show j<listed.size by omega)]
    .rename_i e;simp[Array.getD_eq_getD_getElem?,Array.getElem?_setIfInBounds_ne (λh=>e h.symm)]
   obtain⟨g1,g2,g3⟩:=ih (t/(Region.ready .any ops listed).length) (listed.setIfInBounds i true) (by simpa using ae) (by
    have fY:((List.range ops.size).filter λj=> !(listed.setIfInBounds i true).getD j true)=((List.range ops.size).filter λi=> !listed.getD i true).filter λj=>decide (j≠i):=by
     rw[List.filter_filter];apply List.filter_congr;intro j _;rw[xL];by_cases e:j=i<;>simp[e]
    rw[fY];have eA:(((List.range ops.size).filter λi=> !listed.getD i true).filter λj=>decide (j≠i)).length<((List.range ops.size).filter λi=> !listed.getD i true).length:=by
     rw[List.length_filter_lt_length_iff_exists];exact⟨i,List.mem_filter.2 ⟨List.mem_range.2 Fi,by rw[mX];rfl⟩,by simp⟩
    omega)
   refine⟨?_,λj=>?_,?_⟩
   .rw[List.nodup_cons];refine⟨λhm=>?_,g1⟩;have:=((g2 i).1 hm).2;rw[xL,if_pos rfl]at this;cases this
   .rw[List.mem_cons,g2,xL];by_cases e:j=i
    .subst e;simp[Fi,mX]
    .simp[e]
   .intro u j v h e he;cases u with
    |nil=>
     simp only[List.nil_append,List.cons.injEq]at h;obtain⟨rfl,rfl⟩:=h;exact .inl (agk e he)
    |cons BS u=>
     simp only[List.cons_append,List.cons.injEq]at h;obtain⟨rfl,h⟩:=h;rcases g3 u j v h e he with bL|bL
     .rw[xL]at bL;split at bL
      .rename_i fS;subst fS;exact .inr (by simp)
      .exact .inl bL
     .exact .inr (by simp[bL])
theorem agl {ops:Array Oper} (ab:Fg (rR ops)=true) (t:Nat):s5 (rR ops) (Region.linearise .any ops t):=by
 have Wm:∀i d,i<ops.size->(Array.replicate ops.size false).getD i d=false:=by
  intro i d aj;simp[Array.getD_eq_getD_getElem?,aj]
 obtain⟨g1,g2,g3⟩:=agf ab ops.size t (Array.replicate ops.size false) (by simp) (by
  have:=List.length_filter_le (λi=> !(Array.replicate ops.size false).getD i true) (List.range ops.size);simpa using this)
 have hlen:(rR ops).length=ops.size:=by simp[rR]
 refine⟨g1,λi=>?_,λu i v h e he=>?_⟩
 .rw[hlen];rw[show Region.linearise .any ops t=Region.linearise.go .any ops ops.size t (Array.replicate ops.size false) []from rfl,g2];exact⟨λh=>h.1,λh=>⟨h,Wm i true h⟩⟩
 .rcases g3 u i v h e he with bL|bL
  .exfalso;by_cases Wn:e<ops.size
   .rw[Wm e false Wn]at bL;cases bL
   .simp[Array.getD_eq_getD_getElem?,Wn]at bL
  .exact bL
def ar:aAj->an
 |[],_=>.hole
 |(u,d)::l,t=>if t=u then d else ar l t
mutual
inductive fB:I->I->Prop
 |refl (d:I):fB d d
 |hY (sz:Nat):fB .bf (.ag sz [])
 |x0:fB .bf (.slice [])
 |any (b:Bool):fB (.bool b) .gq
 |share (d:I):d.tree=true->(∀vs,d≠.tuple vs)->(∀o,d≠.ck o)->(∀f c,d≠.gN f c)->fB d d.share
 |agg {ds es:aAk}:mC ds es->fB (.agg ds) (.agg es)
 |aP {d e:I}:fB d e->fB (.aP d) (.aP e)
 |ag {sz:Nat} {ds es:aAk}:mC ds es->fB (.ag sz ds) (.ag sz es)
 |tuple {ds es:aAk}:mC ds es->fB (.tuple ds) (.tuple es)
 |ref {d e:I}:fB d e->fB (.ref d) (.ref e)
 |trans {d e f:I}:fB d e->fB e f->fB d f
inductive mC:aAk->aAk->Prop
 |nil:mC [] []
 |cons {d e:I} {ds es:aAk}:fB d e->mC ds es->mC (d::ds) (e::es)
end
mutual
theorem fB.wd:∀{d e:I},fB d e->e.wd=d.wd
 |_,_,.refl _=>rfl
 |_,_,.hY _=>rfl
 |_,_,.x0=>rfl
 |_,_,.any _=>rfl
 |_,_,.share d _ _ _ _=>I.Ix d
 |_,_,.agg h=>by simp only[I.wd];exact mC.wd h
 |_,_,.aP _=>rfl
 |_,_,.ag _=>rfl
 |_,_,.tuple h=>by simp only[I.wd];exact mC.wd h
 |_,_,.ref _=>rfl
 |_,_,.trans h k=>(fB.wd k).trans (fB.wd h)
theorem mC.wd:∀{ds es:aAk},mC ds es->I.e_ es=I.e_ ds
 |_,_,.nil=>rfl
 |_,_,.cons h ae=>by simp only[I.e_];rw[fB.wd h,mC.wd ae]
end
theorem mC.len {ds es:aAk} (h:mC ds es):es.length=ds.length:=by
 induction ds generalizing es with
 |nil=>cases h;rfl
 |cons d ds ih=>cases h with|cons h ae=>simp[ih ae]
theorem mC.all {sz:Nat} {ds es:aAk} (h:mC ds es) (ao:∀d∈ds,d.wd=sz):∀d∈es,d.wd=sz:=by
 induction ds generalizing es with
 |nil=>cases h;intro d ao;cases ao
 |cons d ds ih=>
  cases h with
  |cons h ae=>
   intro x aq;rcases List.mem_cons.1 aq with rfl|aq
   .rw[h.wd];exact ao d (by simp)
   .exact ih ae (λd hm=>ao d (by simp[hm])) x aq
section
variable {w0 w:World} {F0 X F:Nat->Prop} {S:Nat->Nat->Prop} {s aC:an} {aD:Nat->Value}
def agm (w:World) (F:Nat->Prop) (_d e:I) (cs:aAi) (S:Nat->Prop):Prop:=
 ∃jV jW:Nat->Prop,(∀b,jV b->S b)/\(∀b,jW b->S b)/\(∀b,jW b->¬jV b)/\∀cg,(∀b,F b\/jV b->cg b)->az w cg e cs jW
mutual
theorem az.wider:∀{d e:I},fB d e->∀{F:Nat->Prop} {cs:aAi} {S:Nat->Prop},az w F d cs S->agm w F d e cs S
 |_,_,.refl _,F,cs,S,h=>⟨λ_=>False,S,λ_ h=>h.elim,λ_ h=>h,λ_ _ h=>h,λcg bC=>az.mono (λb ab=>bC b (.inl ab)) _ _ _ _ (λ_ h=>h) h⟩
 | .bf,_,.hY sz,F,cs,S,h=>⟨λ_=>False,S,λ_ h=>h.elim,λ_ h=>h,λ_ _ h=>h,λcg bC=>by simp only[az]at h⊢;exact .inl ⟨trivial,_,h⟩⟩
 | .bf,_,.x0,F,cs,S,h=>⟨λ_=>False,S,λ_ h=>h.elim,λ_ h=>h,λ_ _ h=>h,λcg bC=>by simp only[az]at h⊢;exact .inl ⟨trivial,none,0,h,zero_le _,λ_=>rfl⟩⟩
 | .bool _,_,.any b,F,cs,S,h=>⟨λ_=>False,S,λ_ h=>h.elim,λ_ h=>h,λ_ _ h=>h,λcg bC=>by simp only[az]at h⊢;exact⟨b,h⟩⟩
 |_,_,.share d _ _ _ _,F,cs,S,h=>⟨S,λ_=>False,λ_ h=>h,λ_ h=>h.elim,λ_ h=>h.elim,λcg bC=>az.shared (λb ab=>bC b (.inl ab)) d cs S (λb ab=>bC b (.inr ab)) h⟩
 |_,_,.agg lT,F,cs,S,h=>by
  rw[az]at h;obtain⟨jV,jW,h1,af,ay,a_⟩:=br.wider lT h;exact⟨jV,jW,h1,af,ay,λcg bC=>by rw[az];exact a_ cg bC⟩
 |_,_,.aP ao,F,cs,S,h=>by
  rw[az]at h;obtain⟨b,cur,ty,fr,aY,bV,cn,dV,ea,eC,dB,kh⟩:=h;obtain⟨jV,jW,h1,af,ay,a_⟩:=az.wider ao eC;refine⟨jV,λc=>c=b\/jW c,λc au=>dB c (h1 c au),?_,?_,λcg bC=>?_⟩
  .rintro c (rfl|au)
   .exact cn
   .exact dB c (af c au)
  .rintro c (rfl|au) bI
   .exact kh (h1 _ bI)
   .exact ay c au bI
  .rw[az];exact⟨b,cur,ty,fr,jW,bV,.inl rfl,dV,ea,a_ cg bC,λc au=>.inr au,λau=>kh (af _ au)⟩
 | .ag sz ds,.ag _ es,.ag lT,F,cs,S,h=>by
   rw[az]at h;have hl:=lT.len;rcases h with⟨h1,af⟩|⟨b,cap,cur,ty,fr,aY,bV,cn,dV,ea,eC,dB,kh,e1,pD,kE,Wo⟩
   .refine⟨λ_=>False,S,λ_ h=>h.elim,λ_ h=>h,λ_ _ h=>h,λcg _=>?_⟩;rw[az];subst h1;exact .inl ⟨List.length_eq_zero_iff.1 (by simpa using hl),af⟩
   .obtain⟨jV,jW,h1,af,ay,a_⟩:=br.wider lT pD;refine⟨jV,λc=>c=b\/jW c,λc au=>kE c (h1 c au),?_,?_,λcg bC=>?_⟩
    .rintro c (rfl|au)
     .exact cn
     .exact kE c (af c au)
    .rintro c (rfl|au) bI
     .exact Wo (h1 _ bI)
     .exact ay c au bI
    .rw[az];refine .inr ⟨b,cap,cur,ty,fr,jW,by rw[hl];exact bV,.inl rfl,dV,ea,by rw[hl];exact eC,dB,kh,lT.all e1,by rw[hl];exact a_ cg bC,λc au=>.inr au,λau=>Wo (af _ au)⟩
 |_,_,.tuple lT,F,cs,S,h=>by
  rw[az]at h;obtain⟨jV,jW,h1,af,ay,a_⟩:=br.wider lT h;exact⟨jV,jW,h1,af,ay,λcg bC=>by rw[az];exact a_ cg bC⟩
 |_,_,.ref ao,F,cs,S,h=>by
  rw[az]at h;obtain⟨b,o,fo,h1,af,ay,a_⟩:=h;obtain⟨jV,jW,bV,cn,dV,ea⟩:=az.wider ao a_;refine⟨λ_=>False,S,λ_ h=>h.elim,λ_ h=>h,λ_ _ h=>h,λcg bC=>?_⟩;rw[az];exact⟨b,o,fo,h1,bC _ (.inl af),ay,az.mono (λ_ h=>h) _ _ _ _ (λb ab=>cn b ab) (ea cg λb ab=>bC b (ab.imp id λh=>(bV b h).elim))⟩
 |_,_,.trans ao he,F,cs,S,h=>by
  obtain⟨jV,jW,h1,af,ay,a_⟩:=az.wider ao h;obtain⟨N5,I_,bV,cn,dV,ea⟩:=az.wider he (F:=λb=>F b\/jV b) (a_ _ λ_ h=>h);refine⟨λb=>jV b\/N5 b,I_,?_,λb ab=>af b (cn b ab),?_,λcg bC=>ea cg λb ab=>?_⟩
  .rintro b (h|h)
   .exact h1 b h
   .exact af b (bV b h)
  .rintro b ab (h|h)
   .exact ay b (cn b ab) h
   .exact dV b ab h
  .rcases ab with(ab|ab)|ab
   .exact bC b (.inl ab)
   .exact bC b (.inr (.inl ab))
   .exact bC b (.inr (.inr ab))
theorem br.wider:∀{ds es:aAk},mC ds es->∀{F:Nat->Prop} {cs:aAi} {S:Nat->Prop},br w F ds cs S->
  ∃jV jW:Nat->Prop,(∀b,jV b->S b)/\(∀b,jW b->S b)/\(∀b,jW b->¬jV b)/\∀cg,(∀b,F b\/jV b->cg b)->br w cg es cs jW
 |_,_,.nil,F,cs,S,h=>⟨λ_=>False,λ_=>False,λ_ h=>h.elim,λ_ h=>h.elim,λ_ h=>h.elim,λcg bC=>by rw[br]at h⊢;exact h⟩
 |_,_,.cons ao lT,F,cs,S,h=>by
  rw[br]at h;obtain⟨c1,c2,cL,eG,rfl,g2,g3,g4,g5,g6⟩:=h;obtain⟨agn,Wp,J,a2,a3,a4⟩:=az.wider ao g2;obtain⟨N5,I_,ha,fI,fV,bZ⟩:=br.wider lT g3;refine⟨λb=>agn b\/N5 b,λb=>Wp b\/I_ b,?_,?_,?_,λcg bC=>?_⟩
  .rintro b (h|h)
   .exact g4 b (J b h)
   .exact g5 b (ha b h)
  .rintro b (h|h)
   .exact g4 b (a2 b h)
   .exact g5 b (fI b h)
  .rintro b (h|h) (bL|bL)
   .exact a3 b h bL
   .exact g6 b (a2 b h) (ha b bL)
   .exact g6 b (J b bL) (fI b h)
   .exact fV b h bL
  .rw[br];refine⟨c1,c2,Wp,I_,rfl,a4 cg (λb ab=>bC b (ab.imp id .inl)),bZ cg (λb ab=>bC b (ab.imp id .inr)),λb ab=>.inl ab,λb ab=>.inr ab,λb h1 af=>g6 b (a2 b h1) (fI b af)⟩
end
theorem fB.Ja:∀{d e:I},fB d e->(∀vs,d≠.tuple vs)->∀vs,e≠.tuple vs
 |_,_,.refl _,h=>h
 |_,_,.hY _,_=>λ_ h=>by cases h
 |_,_,.x0,_=>λ_ h=>by cases h
 |_,_,.any _,_=>λ_ h=>by cases h
 |_,_,.share d _ _ _ _,h=>λvs he=>by cases d<;>first|(cases he;done)|exact h _ rfl
 |_,_,.agg _,_=>λ_ h=>by cases h
 |_,_,.aP _,_=>λ_ h=>by cases h
 |_,_,.ag _,_=>λ_ h=>by cases h
 |_,_,.tuple _,h=>λ_ _=>h _ rfl
 |_,_,.ref _,_=>λ_ h=>by cases h
 |_,_,.trans h k,aV=>fB.Ja k (fB.Ja h aV)
theorem fB.ke:∀{d e:I} {v:Value},fB d e->(∀vs,d≠.tuple vs)->en.ke d v->en.ke e v
 |_,_,_,.refl _,_,h=>h
 |_,_,_,.hY _,_,h=>h
 |_,_,_,.x0,_,h=>h
 |_,_,_,.any _,_,h=>h
 |_,_,_,.share d _ aV _ _,_,h=>by cases d<;>first|exact h|exact(aV _ rfl).elim
 |_,_,_,.agg _,_,h=>h
 |_,_,_,.aP _,_,h=>h
 |_,_,_,.ag _,_,h=>h
 |_,_,_,.tuple _,aV,_=>(aV _ rfl).elim
 |_,_,_,.ref _,_,h=>h
 |_,_,_,.trans h k,aV,ae=>fB.ke k (fB.Ja h aV) (fB.ke h aV ae)
theorem mC.get:∀{ds es:aAk},mC ds es->∀(k:Nat) (e:I),es[k]? =some e->∃d,ds[k]? =some d/\fB d e
 |_,_,.nil,k,e,h=>by simp at h
 |_,_,.cons ao ae,0,e,h=>by simp at h;subst h;exact⟨_,rfl,ao⟩
 |_,_,.cons ao ae,k+1,e,h=>mC.get ae k e (by simpa using h)
theorem fB.eW:∀{d e:I} {v:Value},fB d e->en.eW d v->en.eW e v
 |_,_,_,.refl _,ae=>ae
 |_,_,_,.hY _,ae=>ae
 |_,_,_,.x0,ae=>ae
 |_,_,_,.any _,ae=>ae
 |_,_,_,.share _ _ n0 _ _,ae=>NP n0 ae
 |_,_,_,.agg _,ae=>ae
 |_,_,_,.aP _,ae=>ae
 |_,_,_,.ag _,ae=>ae
 |_,_,_,.ref _,ae=>ae
 |_,_,_,.tuple ao,ae=>by
  obtain⟨arr,h1,af,ay⟩:=ae;refine⟨arr,h1,af.trans ao.len.symm,λk e x he aq=>?_⟩;obtain⟨d,hk,hw⟩:=ao.get k e he;obtain⟨J,a2,a3⟩:=ay k d x hk aq;exact⟨hw.ke a2 J,hw.Ja a2,a3.trans hw.wd.symm⟩
 |_,_,_,.trans h k,ae=>fB.eW k (fB.eW h ae)
theorem fB.tree:∀{d e:I},fB d e->d.tree=true->e.tree=true
 |_,_,.refl _,ao=>ao
 |_,_,.hY _,_=>rfl
 |_,_,.x0,_=>rfl
 |_,_,.any _,_=>rfl
 |_,_,.share d _ _ nU NQ,ao=>by cases d<;>first|exact ao|rfl|exact(nU _ rfl).elim|exact(NQ _ _ rfl).elim
 |_,_,.agg _,_=>rfl
 |_,_,.aP _,_=>rfl
 |_,_,.ag _,_=>rfl
 |_,_,.tuple _,_=>rfl
 |_,_,.ref _,_=>rfl
 |_,_,.trans h k,ao=>fB.tree k (fB.tree h ao)
mutual
def I.x1:I->aAf
 | .h x q=>if q.isEmpty then []else [x]
 | .aw x _=>[x]
 | .ab x _=>[x]
 | .fn _ cap=>I.x2 cap
 |_=>[]
def I.x2:aAk->aAf
 |[]=>[]
 |d::ds=>d.x1++I.x2 ds
end
def Fj (s aC:an) (x:Nat) (D:aAf):Prop:=aC x=s x\/aC x= .hole\/((s x).own=true/\(aC x).own=true/\x∉D)
theorem Fj.less {s aC:an} {x:Nat} {D E:aAf} (h:Fj s aC x D) (Fk:∀u∈E,u∈D):Fj s aC x E:=by
 rcases h with h|h|⟨h1,af,ay⟩
 .exact .inl h
 .exact .inr (.inl h)
 .exact .inr (.inr ⟨h1,af,λaq=>ay (Fk x aq)⟩)
theorem aQ.keep {cg:Nat->Prop} (bC:∀b,F b->cg b):∀n,(∀(d:I) (v:Value) (eI:Nat->Prop),SizeOf.sizeOf d<=n->(∀x∈d.ae,Fj s aC x d.x1)->aQ w F s aD d v eI->aQ w cg aC aD d v eI)/\
  (∀(ds:aAk) (vs:aAi),SizeOf.sizeOf ds<=n->(∀x∈I.ff ds,Fj s aC x (I.x2 ds))->e7 w F s aD ds vs->e7 w cg aC aD ds vs):=by
 intro n;induction n with
 |zero=>
  refine⟨λd v eI b3=>?_,λds vs b3=>?_⟩
  .cases d<;>simp at b3<;>omega
  .cases ds<;>simp at b3<;>omega
 |succ n ih=>
  refine⟨λd v eI b3 hk h=>?_,λds vs b3 hk h=>?_⟩
  .cases d with
   |hole=>rw[aQ];trivial
   |h x q=>
    rw[aQ]at h⊢;intro e fY aw;rcases hk x (by simp[I.ae])with he|he|⟨Fl,Wq,BT⟩
    .rw[he]at fY⊢;exact h e fY aw
    .rw[he]at fY;cases q with
     |nil=>simp only[I.sub,Option.some.injEq]at fY;subst fY;simp[I.plain]at aw
     |cons k q=>simp[I.sub]at fY
    .cases q with
     |nil=>
      simp only[I.sub,Option.some.injEq]at fY;subst fY;obtain⟨dI,a0,gO,iX,kd⟩:=h (s x) (by simp only[I.sub]) (zH Fl).1;simp only[ew,Option.some.injEq,Prod.mk.injEq,true_and]at gO;exact⟨cZ (aD x),none,by simp only[ew],by rw[iX,<-gO.1],((zH Wq).2.2.2.2.2 _).2 (((zH Fl).2.2.2.2.2 _).1 kd)⟩
     |cons k q=>exact(BT (by simp[I.x1])).elim
   |aw x q=>
    rw[aQ]at h⊢;intro e fY au;rcases hk x (by simp[I.ae])with he|he|⟨_,_,BT⟩
    .rw[he]at fY au⊢;exact h e fY au
    .rw[he]at au;cases q<;>simp[I.gE]at au
    .exact(BT (by simp[I.x1])).elim
   |ab x k=>
    rw[aQ]at h⊢;intro aw;rcases hk x (by simp[I.ae])with he|he|⟨_,_,BT⟩
    rotate_left 2
    .exact(BT (by simp[I.x1])).elim
    .rw[he]at aw;obtain⟨b,cur,e,fr,h1,af,ay,a_⟩:=h aw;exact⟨b,cur,e,fr,h1,bC b af,ay,a_⟩
    .rw[he]at aw;simp[I.plain]at aw
   |fn f cap=>
    rw[aQ]at h⊢;obtain⟨arr,rfl,au⟩:=h;exact⟨arr,rfl,ih.2 _ _ (by simp at b3;omega) (by simpa [I.ae,I.x1]using hk) au⟩
   |_=>
    have bL:=(aQ.dj rfl).1 h;exact(aQ.dj rfl).2 ⟨bL.1,az.mono bC _ _ _ _ (λ_ h=>h) bL.2⟩
  .cases ds with
   |nil=>rw[e7]at h⊢;exact h
   |cons d ds=>
    rw[e7]at h⊢;obtain⟨v,mc,rfl,h1,af⟩:=h;simp at b3;simp only[I.ff,List.mem_append]at hk;exact⟨v,mc,rfl,ih.1 _ _ _ (by omega) (λx aq=>(hk x (.inl aq)).less λu hu=>by simp[I.x2,hu]) h1,ih.2 _ _ (by omega) (λx aq=>(hk x (.inr aq)).less λu hu=>by simp[I.x2,hu]) af⟩
def x3 (s:an) (l:aAj):Prop:=
 ∀p∈l,p.2=s p.1\/((s p.1).tree=true/\fB (s p.1) p.2/\∀di∈l,p.1∉di.2.ae\/((s p.1).own=true/\p.2.own=true/\p.1∉di.2.x1))
theorem Wr:∀(l:aAj) (t:Nat),ar l t= .hole\/∃p∈l,p.1=t/\ar l t=p.2:=by
 intro l;induction l with
 |nil=>intro t;exact .inl rfl
 |cons p l ih=>
  intro t;obtain⟨u,d⟩:=p;simp only[ar];split
  .rename_i e;exact .inr ⟨(u,d),by simp,e.symm,rfl⟩
  .rcases ih t with h|⟨p,aw,h⟩
   .exact .inl h
   .exact .inr ⟨p,by simp[aw],h⟩
theorem ca.Ws (h:ca w0 F0 X F S s aD w) {l:aAj} (hw:x3 s l):∃cg aY,ca w0 F0 X cg aY (ar l) aD w:=by
 have each:∀t,∃jV jW:Nat->Prop,(∀b,jV b->S t b)/\(∀b,jW b->S t b)/\(∀b,jW b->¬jV b)/\∀cg,(∀b,F b\/jV b->cg b)->aQ w cg (ar l) aD (ar l t) (aD t) jW:=by
  intro t;rcases Wr l t with e|⟨p,aw,rfl,e⟩
  .exact⟨λ_=>False,λ_=>False,λ_ h=>h.elim,λ_ h=>h.elim,λ_ h=>h.elim,λcg _=>by rw[e,aQ];trivial⟩
  .rw[e];rcases hw p aw with hk|⟨a6,nt,_⟩
   .refine⟨λ_=>False,S p.1,λ_ h=>h.elim,λ_ h=>h,λ_ _ h=>h,λcg bC=>?_⟩;rw[hk];refine(aQ.keep (λb ab=>bC b (.inl ab)) (SizeOf.sizeOf (s p.1))).1 _ _ _ (Nat.le_refl _) ?_ (h.eg p.1);intro x aq;rcases Wr l x with fS|⟨di,fj,rfl,fS⟩
    .exact .inr (.inl fS)
    .rcases hw di fj with nY|⟨_,_,nU⟩
     .exact .inl (fS.trans nY)
     .rcases nU p aw with nU|⟨nB,k7,qT⟩
      .exact(nU (by rw[hk];exact aq)).elim
      .exact .inr (.inr ⟨nB,by rw[fS];exact k7,by rw[hk]at qT;exact qT⟩)
   .obtain⟨g1,g2⟩:=(aQ.dj a6).1 (h.eg p.1);obtain⟨jV,jW,bV,cn,dV,ea⟩:=az.wider nt g2;exact⟨jV,jW,bV,cn,dV,λcg bC=>(aQ.dj (nt.tree a6)).2 ⟨nt.eW g1,ea cg bC⟩⟩
 have c1:=λt=>(each t).choose_spec;let jV:=λt=>(each t).choose
 have c2:=λt=>(c1 t).choose_spec;let jW:=λt=>(c1 t).choose
 have gP:∀t b,jV t b->S t b:=λt=>(c2 t).1;have gA:∀t b,jW t b->S t b:=λt=>(c2 t).2.1;have je:∀t b,jW t b->¬jV t b:=λt=>(c2 t).2.2.1;have jG:=λt=>(c2 t).2.2.2;refine⟨λb=>F b\/∃t,jV t b,jW,λb ab=>.inl (h.hL b ab),?_,?_,λt b ab=>h.fc t b (gA t b ab),?_,λt u b dP ab hu=>h.fT t u b dP (gA t b ab) (gA u b hu),λt b ab=>h.eI t b (gA t b ab),?_,h.old,h.size,h.os,h.tape,h.output,h.fU⟩
 .rintro b (ab|⟨t,ab⟩)
  .exact h.h9 b ab
  .exact .inr (h.eI t b (gP t b ab))
 .rintro b (ab|⟨t,ab⟩)
  .exact h.fG b ab
  .exact h.fc t b (gP t b ab)
 .rintro t b ab (bI|⟨u,hu⟩)
  .exact h.gl t b (gA t b ab) bI
  .by_cases e:t=u
   .subst e;exact je t b ab hu
   .exact h.fT t u b e (gA t b ab) (gP u b hu)
 .intro t;exact jG t _ (λb ab=>ab.imp id λh=>⟨t,h⟩)
end
inductive aA where
 |skip
 |eh (ros:List cB) (keep:Option aAf)
 |jX (ros:List cB) (s6:aAd) (keep:Option aAf)
 |seq (a b:aA)
 |cond (c:bA) (a b:aA)
 |block (id:Nat) (b:aA)
 |loop (b:aA)
 |exit (id:Nat)
 |ret
 |kU (T:(Exit->an->Prop)->an->Prop) (b:aA)
 |raw (c:Code)
def fQ (n:Fr):Code->Option aA
 | .skip=>some .skip
 | .region id ops false=>match ux n ops ops.toList with
   |some r=>some (.eh r none)
   |none=>some (.raw (.region id ops false))
 | .region _ ops true=>if Fg (rR ops)=true then(ux n ops ops.toList).map λr=>.jX r (rR ops) none else none
 | .seq a b=>match fQ n a,fQ n b with
   |some a,some b=>some (.seq a b)
   |_,_=>none
 | .cond c a b=>match eH c,fQ n a,fQ n b with
   |some c,some a,some b=>some (.cond c a b)
   |_,_,_=>none
 | .block id b=>(fQ n b).map (.block id)
 | .loop b=>(fQ n b).map .loop
 | .exit id=>some (.exit id)
 | .ret=>some .ret
 |_=>none
def aA.nD:aA->aA
 | .eh ros _=>.eh ros none
 | .jX ros de _=>.jX ros de none
 | .seq a b=>.seq a.nD b.nD
 | .cond c a b=>.cond c a.nD b.nD
 | .block id b=>.block id b.nD
 | .loop b=>.loop b.nD
 | .kU T b=>.kU T b.nD
 |c=>c
def aA.strip:aA->aA
 | .eh ros _=>.eh (ros.map cB.un) none
 | .jX ros de _=>.jX (ros.map cB.un) de none
 | .seq a b=>.seq a.strip b.strip
 | .cond c a b=>.cond c a.strip b.strip
 | .block id b=>.block id b.strip
 | .loop b=>.loop b.strip
 | .kU _ b=>b.strip
 |c=>c
theorem aA.N6:∀c:aA,c.nD.strip=c.strip:=by
 intro c;induction c with
 |seq a b mD mE=>simp only[aA.nD,aA.strip,mD,mE]
 |cond c a b mD mE=>simp only[aA.nD,aA.strip,mD,mE]
 |block id b ih=>simp only[aA.nD,aA.strip,ih]
 |loop b ih=>simp only[aA.nD,aA.strip,ih]
 |kU T b ih=>simp only[aA.nD,aA.strip,ih]
 |_=>rfl
def aA.bare (H:((Exit->an->Prop)->an->Prop)->aA->Prop):aA->Prop
 | .eh _ k=>k=none
 | .jX _ _ k=>k=none
 | .seq a b=>a.bare H/\b.bare H
 | .cond _ a b=>a.bare H/\b.bare H
 | .block _ b=>b.bare H
 | .loop b=>b.bare H
 | .kU T b=>H T b
 |_=>True
def aA.qc (H:((Exit->an->Prop)->an->Prop)->aA->Prop):aA->Prop
 | .seq a b=>a.qc H/\b.qc H
 | .cond _ a b=>a.qc H/\b.qc H
 | .block _ b=>b.qc H
 | .loop b=>b.qc H
 | .kU T b=>H T b.nD
 |_=>True
theorem aA.Jb {H:((Exit->an->Prop)->an->Prop)->aA->Prop}:∀c:aA,c.qc H->c.nD.bare H:=by
 intro c;induction c with
 |seq a b mD mE=>intro h;exact⟨mD h.1,mE h.2⟩
 |cond c a b mD mE=>intro h;exact⟨mD h.1,mE h.2⟩
 |block id b ih=>intro h;exact ih h
 |loop b ih=>intro h;exact ih h
 |eh=>intro _;rfl
 |jX=>intro _;rfl
 |kU T b _=>intro h;exact h
 |_=>intro _;trivial
def aA.plain:aA->Bool
 | .seq a b=>a.plain&&b.plain
 | .cond _ a b=>a.plain&&b.plain
 | .block _ b=>b.plain
 | .loop b=>b.plain
 | .kU _ _=>false
 |_=>true
theorem aA.Wt {H:((Exit->an->Prop)->an->Prop)->aA->Prop}:∀c:aA,c.plain=true->c.qc H:=by
 intro c;induction c with
 |seq a b mD mE=>intro h;simp only[aA.plain,Bool.and_eq_true]at h;exact⟨mD h.1,mE h.2⟩
 |cond c a b mD mE=>intro h;simp only[aA.plain,Bool.and_eq_true]at h;exact⟨mD h.1,mE h.2⟩
 |block id b ih=>intro h;exact ih h
 |loop b ih=>intro h;exact ih h
 |kU T b _=>intro h;cases h
 |_=>intro _;trivial
def andThen (K:an->Prop) (Q:Exit->an->Prop):Exit->an->Prop
 | .normal,s=>K s
 |e,s=>Q e s
def BU (id:Nat) (Q:Exit->an->Prop):Exit->an->Prop
 | .exit i,s=>if i=id then Q .normal s else Q (.exit i) s
 |e,s=>Q e s
def eM (K:an->Prop) (s:an):Prop:=K s\/∃l,x3 s l/\K (ar l)
def Fm:Option aAf->(an->Prop)->an->Prop
 |none,K,s=>eM K s
 |some k,K,s=>K (ar (k.map λt=>(t,s t)))
def bn (C:cu):aA->(Exit->an->Prop)->an->Prop
 | .skip,Q,s=>Q .normal s
 | .eh ros keep,Q,s=>oE C s ros (Fm keep (Q .normal))
 | .jX ros s6 keep,Q,s=>∀l,s5 s6 l->kT C ros s l (Fm keep (Q .normal))
 | .seq a b,Q,s=>bn C a (andThen (eM (bn C b Q)) Q) s
 | .cond c a b,Q,s=>match bx s c with
   | .bool gI=>if gI=true then bn C a Q s else bn C b Q s
   | .gq=>bn C a Q s/\bn C b Q s
   |_=>False
 | .block id b,Q,s=>bn C b (BU id Q) s
 | .loop b,Q,s=>eM (λs=>∀Z:an->Prop,(∀aC,bn C b (andThen (eM Z) Q) aC->Z aC)->Z s) s
 | .exit id,Q,s=>Q (.exit id) s
 | .ret,Q,s=>Q .ret s
 | .kU T _,Q,s=>∀fk:Exit->an->Prop,(∀e s,Q e s->fk e s)->T fk s
 | .raw _,_,_=>False
section
variable {C:cu}
theorem Jc {s:an} {o:cB} {K eE:an->Prop} (h:o4 C s o K) (hk:∀s,K s->eE s):o4 C s o eE:=by
 unfold o4 at h⊢;split
 .rename_i hg;rw[hg]at h;exact I7 h λav s1=>hk _
 .rename_i t b hg;rw[hg]at h;simp only at h;split
  .rename_i gI ae;rw[ae]at h;simp only at h;split
   .rename_i ab;rw[if_pos ab]at h;exact I7 h λav s1=>hk _
   .rename_i ab;rw[if_neg ab]at h;exact hk _ h
  .rename_i ae;rw[ae]at h;exact hk _ h
  .rename_i h1 af;split at h
   .exact h1 _ (by assumption)
   .exact af (by assumption)
   .exact h
theorem Wu {K eE:an->Prop} (hk:∀s,K s->eE s):∀{ros:List cB} {s:an},oE C s ros K->oE C s ros eE:=by
 intro ros;induction ros with
 |nil=>intro s h;exact hk s h
 |cons o ros ih=>intro s h;exact Jc h λs h=>ih h
theorem Wv {ros:List cB} {K eE:an->Prop} (hk:∀s,K s->eE s):∀{l:aAf} {s:an},kT C ros s l K->kT C ros s l eE:=by
 intro l;induction l with
 |nil=>intro s h;exact hk s h
 |cons i l ih=>
  intro s h;simp only[kT]at h⊢;split
  .rename_i bG;rw[bG]at h;exact ih h
  .rename_i o bG;rw[bG]at h;exact Jc h λs h=>ih h
theorem BV {K eE:an->Prop} (hk:∀s,K s->eE s) (s:an) (h:eM K s):eM eE s:=
 h.imp (hk s) λ⟨l,h1,af⟩=>⟨l,h1,hk _ af⟩
theorem Ww {keep:Option aAf} {K eE:an->Prop} (hk:∀s,K s->eE s) (s:an) (h:Fm keep K s):Fm keep eE s:=by
 cases keep with
 |none=>exact BV hk s h
 |some k=>exact hk _ h
theorem Wx {keep:Option aAf} {K:an->Prop} {s:an} (h:Fm keep K s):eM K s:=by
 cases keep with
 |none=>exact h
 |some k=>
  refine .inr ⟨_,?_,h⟩;intro p aw;obtain⟨t,_,rfl⟩:=List.mem_map.1 aw;exact .inl rfl
theorem N7 {K eE:an->Prop} {Q fk:Exit->an->Prop} (hk:∀s,K s->eE s) (cF:∀e s,Q e s->fk e s):∀e s,andThen K Q e s->andThen eE fk e s:=by
 intro e s h;cases e with
 |normal=>exact hk s h
 |_=>exact cF _ s h
theorem N8:∀(c:aA) {Q fk:Exit->an->Prop} {s:an},(∀e s,Q e s->fk e s)->bn C c Q s->bn C c fk s:=by
 intro c;induction c with
 |skip=>intro Q fk s cF h;exact cF _ _ h
 |eh ros keep=>intro Q fk s cF h;exact Wu (Ww (cF _)) h
 |jX ros s6 keep=>intro Q fk s cF h l hl;exact Wv (Ww (cF _)) (h l hl)
 |seq a b mD mE=>
  intro Q fk s cF h;exact mD (N7 (λs h=>BV (λ_ h=>mE cF h) s h) cF) h
 |cond c a b mD mE=>
  intro Q fk s cF h;simp only[bn]at h⊢;split
  .rename_i gI ab;rw[ab]at h;simp only at h;split
   .rename_i e;rw[if_pos e]at h;exact mD cF h
   .rename_i e;rw[if_neg e]at h;exact mE cF h
  .rename_i ab;rw[ab]at h;exact⟨mD cF h.1,mE cF h.2⟩
  .rename_i h1 af;split at h
   .exact h1 _ (by assumption)
   .exact af (by assumption)
   .exact h
 |block id b ih=>
  intro Q fk s cF h;refine ih ?_ h;intro e s h;cases e with
  |exit i=>
   simp only[BU]at h⊢;split
   .rename_i e;rw[if_pos e]at h;exact cF _ _ h
   .rename_i e;rw[if_neg e]at h;exact cF _ _ h
  |_=>exact cF _ _ h
 |loop b ih=>
  intro Q fk s cF h;refine BV (λs h Z BW=>?_) s h;exact h Z λaC fZ=>BW aC (ih (N7 (λ_ h=>h) cF) fZ)
 |exit id=>intro Q fk s cF h;exact cF _ _ h
 |ret=>intro Q fk s cF h;exact cF _ _ h
 |kU T b _=>intro Q fk s cF h N9 af;exact h N9 λe s he=>af e s (cF e s he)
 |raw c=>intro Q fk s cF h;exact h
theorem Jd:∀(c:aA) {Q:Exit->an->Prop} {s:an},bn C c Q s->bn C c.nD Q s:=by
 intro c;induction c with
 |eh ros keep=>intro Q s h;exact Wu (λs h=>Wx h) h
 |jX ros de keep=>intro Q s h l hl;exact Wv (λs h=>Wx h) (h l hl)
 |seq a b mD mE=>intro Q s h;exact mD (N8 a (N7 (λs h=>BV (λ_ h=>mE h) s h) (λ_ _ h=>h)) h)
 |cond c a b mD mE=>
  intro Q s h;simp only[aA.nD,bn]at h⊢;split
  .rename_i gI ab;rw[ab]at h;simp only at h;split
   .rename_i e;rw[if_pos e]at h;exact mD h
   .rename_i e;rw[if_neg e]at h;exact mE h
  .rename_i ab;rw[ab]at h;exact⟨mD h.1,mE h.2⟩
  .rename_i h1 af;split at h
   .exact h1 _ (by assumption)
   .exact af (by assumption)
   .exact h
 |block id b ih=>intro Q s h;exact ih h
 |loop b ih=>
  intro Q s h;refine BV (λs h Z BW=>?_) s h;exact h Z λaC fZ=>BW aC (ih fZ)
 |kU T b _=>intro Q s h;exact h
 |_=>intro Q s h;exact h
variable {w0 w:World} {F0 X:Nat->Prop} {n:Fr} {ρ:Nat->Value} {s:an} {a:Act}
def vZ (w0:World) (F0 X:Nat->Prop) (n:Fr) (ρ:Nat->Value) (Q:Exit->an->Prop):Exit->Act->World->Prop:=λe a w=>∃s,Q e s/\Rel w0 F0 X n ρ s a w
theorem Rel.eM {K:an->Prop} {s:an} {a:Act} {w:World} (aR:Rel w0 F0 X n ρ s a w) (h:eM K s):∃aC,K aC/\Rel w0 F0 X n ρ aC a w:=by
 rcases h with h|⟨l,h1,af⟩
 .exact⟨s,h,aR⟩
 .obtain⟨g1,g2,g3,F,S,g4⟩:=aR;obtain⟨cg,aY,g5⟩:=g4.Ws h1;exact⟨ar l,af,g1,g2,g3,cg,aY,g5⟩
theorem aA.ago {c:aA} (h:c.strip= .skip):c= .skip\/∃T b,c= .kU T b:=by cases c<;>first|exact .inl rfl|exact .inr ⟨_,_,rfl⟩|cases h
theorem aA.agp {c:aA} (h:c.strip= .ret):c= .ret\/∃T b,c= .kU T b:=by cases c<;>first|exact .inl rfl|exact .inr ⟨_,_,rfl⟩|cases h
theorem aA.agq {c:aA} {i:Nat} (h:c.strip= .exit i):c= .exit i\/∃T b,c= .kU T b:=by cases c<;>first|exact .inl h|exact .inr ⟨_,_,rfl⟩|cases h
theorem aA.agr {c:aA} {x:Code} (h:c.strip= .raw x):c= .raw x\/∃T b,c= .kU T b:=by cases c<;>first|exact .inl h|exact .inr ⟨_,_,rfl⟩|cases h
theorem aA.ags {c:aA} {r:List cB} {k:Option aAf} (h:c.strip= .eh r k):(∃ros dr,c= .eh ros dr/\ros.map cB.un=r)\/∃T b,c= .kU T b:=by
 cases c<;>first|(cases h;exact .inl ⟨_,_,rfl,rfl⟩)|exact .inr ⟨_,_,rfl⟩|cases h
theorem aA.agt {c:aA} {r:List cB} {de:aAd} {k:Option aAf} (h:c.strip= .jX r de k):(∃ros Wy dr,c= .jX ros Wy dr/\ros.map cB.un=r/\Wy=de)\/∃T b,c= .kU T b:=by
 cases c<;>first|(cases h;exact .inl ⟨_,_,_,rfl,rfl,rfl⟩)|exact .inr ⟨_,_,rfl⟩|cases h
theorem aA.agu {c x y:aA} (h:c.strip= .seq x y):(∃a b,c= .seq a b/\a.strip=x/\b.strip=y)\/∃T b,c= .kU T b:=by
 cases c<;>first|(cases h;exact .inl ⟨_,_,rfl,rfl,rfl⟩)|exact .inr ⟨_,_,rfl⟩|cases h
theorem aA.agv {c x y:aA} {o:bA} (h:c.strip= .cond o x y):(∃qS a b,c= .cond qS a b/\qS=o/\a.strip=x/\b.strip=y)\/∃T b,c= .kU T b:=by
 cases c<;>first|(cases h;exact .inl ⟨_,_,_,rfl,rfl,rfl,rfl⟩)|exact .inr ⟨_,_,rfl⟩|cases h
theorem aA.agw {c x:aA} {i:Nat} (h:c.strip= .block i x):(∃a,c= .block i a/\a.strip=x)\/∃T b,c= .kU T b:=by
 cases c<;>first|(cases h;exact .inl ⟨_,rfl,rfl⟩)|exact .inr ⟨_,_,rfl⟩|cases h
theorem aA.agx {c x:aA} (h:c.strip= .loop x):(∃a,c= .loop a/\a.strip=x)\/∃T b,c= .kU T b:=by
 cases c<;>first|(cases h;exact .inl ⟨_,rfl,rfl⟩)|exact .inr ⟨_,_,rfl⟩|cases h
def x4:Code->List (Array Oper)
 | .region _ ops _=>[ops]
 | .seq a b=>x4 a++x4 b
 | .cond _ a b=>x4 a++x4 b
 | .block _ b=>x4 b
 | .loop b=>x4 b
 |_=>[]
theorem agy (bU:C.Ok) {H:((Exit->an->Prop)->an->Prop)->aA->Prop} {eL:List (Array Oper)}
  (hH:∀(c:Code) (T:(Exit->an->Prop)->an->Prop) (b:aA) (Q:Exit->an->Prop) (s:an) (a:Act) (w:World),(∀r∈x4 c,r∈eL)->H T b->fQ n c=some b.strip->T Q s->Rel w0 F0 X n ρ s a w->c.wp C.P (vZ w0 F0 X n ρ Q) a w):
  ∀(c:Code) {eb:aA} {Q:Exit->an->Prop} {s:an} {a:Act} {w:World},(∀r∈x4 c,r∈eL)->fQ n c=some eb.strip->eb.bare H->bn C eb Q s->Rel w0 F0 X n ρ s a w->c.wp C.P (vZ w0 F0 X n ρ Q) a w:=by
 intro c;induction c with
 |skip=>
  intro eb Q s a w fq ae ju h aR;have nE:=ae;simp only[fQ,Option.some.injEq]at ae;rcases aA.ago ae.symm with rfl|⟨T,b,rfl⟩
  .exact wp_skip ⟨s,h,aR⟩
  .exact hH _ T b Q s a w fq ju (by simpa only[aA.strip]using nE) (h Q λ_ _ h=>h) aR
 |region id ops draw=>
  intro eb Q s a w fq ae ju h aR;have nE:=ae;cases draw with
  |false=>
   simp only[fQ]at ae;split at ae
   rotate_left
   .have fZ:=(Option.some.injEq _ _▸ae).symm;rcases aA.agr fZ with rfl|⟨T,b,rfl⟩
    .exact h.elim
    .exact hH _ T b Q s a w fq ju (by simpa only[aA.strip]using nE) (h Q λ_ _ h=>h) aR
   rename_i agz Fo;simp only[Option.some.injEq]at ae;rcases aA.ags ae.symm with⟨ros,k,rfl,rfl⟩|⟨T,b,rfl⟩
   rotate_left
   .exact hH _ T b Q s a w fq ju (by simpa only[aA.strip]using nE) (h Q λ_ _ h=>h) aR
   cases ju;exact agd bU Fo (λaC dF aJ hk fv=>fv.eM hk) h aR
  |true=>
   simp only[fQ]at ae;split at ae
   .rename_i ab;simp only[Option.map_eq_some_iff]at ae;obtain⟨agz,Fo,ae⟩:=ae;rcases aA.agt ae.symm with⟨ros,de,k,rfl,rfl,rfl⟩|⟨T,b,rfl⟩
    rotate_left
    .exact hH _ T b Q s a w fq ju (by simpa only[aA.strip]using nE) (h Q λ_ _ h=>h) aR
    cases ju;refine wp_region_draw λt=>?_;rw[show Region.schedule (C.P.follows .mixedOrders) ops t=Region.linearise .any ops t by simp[Region.schedule,bU.mixed]];exact Wk bU Fo (λaC dF aJ hk fv=>fv.eM hk) _ s a _ (h _ (agl ab t)) (aR.drawn _ (by first|exact le_succ _|exact le_add_right _ _|omega))
   .cases ae
 |seq x y agA Je=>
  intro eb Q s a w fq ae ju h aR;have nE:=ae;simp only[fQ]at ae;split at ae
  .rename_i BL Wz aq hy;simp only[Option.some.injEq]at ae;rcases aA.agu ae.symm with⟨cV,ox,rfl,rfl,rfl⟩|⟨T,b,rfl⟩
   rotate_left
   .exact hH _ T b Q s a w fq ju (by simpa only[aA.strip]using nE) (h Q λ_ _ h=>h) aR
   refine wp_seq (wp_mono (agA (λr aR=>fq r (List.mem_append.2 (.inl aR))) aq ju.1 h aR) ?_);rintro e dF aJ ⟨aC,bL,fv⟩;cases e with
   |normal=>
    obtain⟨aC,bL,fv⟩:=fv.eM bL;exact Je (λr aR=>fq r (List.mem_append.2 (.inr aR))) hy ju.2 bL fv
   |_=>exact⟨aC,bL,fv⟩
  .cases ae
 |cond x y z Je WA=>
  intro eb Q s a w fq ae ju h aR;have nE:=ae;simp only[fQ]at ae;split at ae
  .rename_i BL Wz sz aq hy b3;simp only[Option.some.injEq]at ae;rcases aA.agv ae.symm with⟨cV,ox,vN,rfl,rfl,rfl,rfl⟩|⟨T,b,rfl⟩
   rotate_left
   .exact hH _ T b Q s a w fq ju (by simpa only[aA.strip]using nE) (h Q λ_ _ h=>h) aR
   have fv:=aR;obtain⟨ao,eX,bI,F,S,hrel⟩:=fv;have aB:=(gu (a:=a) hrel (λ_=>rfl) aq).2;simp only[bn]at h;split at h
   .rename_i gI ab;rw[ab]at aB;have:=xM aB;refine wp_cond this ?_;split
    .rename_i e;rw[if_pos e]at h;exact Je (λr aR=>fq r (List.mem_append.2 (.inl aR))) hy ju.1 h aR
    .rename_i e;rw[if_neg e]at h;exact WA (λr aR=>fq r (List.mem_append.2 (.inr aR))) b3 ju.2 h aR
   .rename_i ab;rw[ab]at aB;obtain⟨gI,pw⟩:=UW aB;refine wp_cond pw ?_;split
    .exact Je (λr aR=>fq r (List.mem_append.2 (.inl aR))) hy ju.1 h.1 aR
    .exact WA (λr aR=>fq r (List.mem_append.2 (.inr aR))) b3 ju.2 h.2 aR
   .exact h.elim
  .cases ae
 |block id b ih=>
  intro eb Q s a w fq ae ju h aR;have nE:=ae;simp only[fQ,Option.map_eq_some_iff]at ae;obtain⟨EV,ab,ae⟩:=ae;rcases aA.agw ae.symm with⟨gI,rfl,rfl⟩|⟨T,b,rfl⟩
  rotate_left
  .exact hH _ T b Q s a w fq ju (by simpa only[aA.strip]using nE) (h Q λ_ _ h=>h) aR
  refine wp_block (wp_mono (ih fq ab ju h aR) ?_);rintro e dF aJ ⟨aC,bL,fv⟩;cases e with
  |exit i=>
   simp only[BU]at bL;simp only[Exit.inBlock];split
   .rename_i e;rw[if_pos e]at bL;exact⟨aC,bL,fv⟩
   .rename_i e;rw[if_neg e]at bL;exact⟨aC,bL,fv⟩
  |_=>exact⟨aC,bL,fv⟩
 |loop b ih=>
  intro eb Q s a w fq ae ju h aR;have nE:=ae;simp only[fQ,Option.map_eq_some_iff]at ae;obtain⟨EV,ab,ae⟩:=ae;rcases aA.agx ae.symm with⟨gI,rfl,rfl⟩|⟨T,b,rfl⟩
  rotate_left
  .exact hH _ T b Q s a w fq ju (by simpa only[aA.strip]using nE) (h Q λ_ _ h=>h) aR
  obtain⟨s,h,aR⟩:=aR.eM h;have key:=h (λs=>∀a w,Rel w0 F0 X n ρ s a w->∀(f:Frame) (k:List Item) (cs:List Frame),∃e dF aJ,vZ w0 F0 X n ρ Q e dF aJ/\Arrives C.P (lone (f.at a (.code b:: .inLoop b::k)) cs w) f k cs e dF aJ) ?_
  .intro f k cs;obtain⟨e,dF,aJ,cF,x5⟩:=key a w aR f k cs;exact⟨e,dF,aJ,cF,.of_steps (.one step_loop) x5⟩
  .intro aC fZ a w aR f k cs;obtain⟨e,a₁,w₁,⟨s1,cF,x6⟩,x5⟩:=ih fq ab ju fZ aR f (.inLoop b::k) cs;cases e with
   |normal=>
    simp only[andThen]at cF;obtain⟨s1,cF,x6⟩:=x6.eM cF;obtain⟨e₂,a₂,w₂,hq₂,harr₂⟩:=cF a₁ w₁ x6 f k cs;exact⟨e₂,a₂,w₂,hq₂,.of_steps (Steps.trans x5 (.one step_inLoop)) harr₂⟩
   |exit id=>exact⟨_,a₁,w₁,⟨s1,cF,x6⟩,.pass (x:=.inLoop b) rfl (λ_ _=>.inl (by simp)) x5⟩
   |goto l=>exact⟨_,a₁,w₁,⟨s1,cF,x6⟩,.pass (x:=.inLoop b) rfl (λ_ _=>.inl (by simp)) x5⟩
   |ret=>exact⟨_,a₁,w₁,⟨s1,cF,x6⟩,.pass (x:=.inLoop b) rfl (λ_ _=>.inl (by simp)) x5⟩
   |panic ayf=>exact⟨_,a₁,w₁,⟨s1,cF,x6⟩,.pass (x:=.inLoop b) rfl (λ_ _=>.inl (by simp)) x5⟩
   |outgrown=>exact⟨_,a₁,w₁,⟨s1,cF,x6⟩,.pass (x:=.inLoop b) rfl (λ_ _=>.inl (by simp)) x5⟩
 |exit id=>
  intro eb Q s a w fq ae ju h aR;have nE:=ae;simp only[fQ,Option.some.injEq]at ae;rcases aA.agq ae.symm with rfl|⟨T,b,rfl⟩
  .exact wp_exit ⟨s,h,aR⟩
  .exact hH _ T b Q s a w fq ju (by simpa only[aA.strip]using nE) (h Q λ_ _ h=>h) aR
 |ret=>
  intro eb Q s a w fq ae ju h aR;have nE:=ae;simp only[fQ,Option.some.injEq]at ae;rcases aA.agp ae.symm with rfl|⟨T,b,rfl⟩
  .exact wp_ret ⟨s,h,aR⟩
  .exact hH _ T b Q s a w fq ju (by simpa only[aA.strip]using nE) (h Q λ_ _ h=>h) aR
 |_=>intro eb Q s a w fq ae;simp[fQ]at ae
theorem N_ (bU:C.Ok) {H:((Exit->an->Prop)->an->Prop)->aA->Prop}
  (hH:∀(c:Code) (T:(Exit->an->Prop)->an->Prop) (b:aA) (Q:Exit->an->Prop) (s:an) (a:Act) (w:World),H T b->fQ n c=some b.strip->T Q s->Rel w0 F0 X n ρ s a w->c.wp C.P (vZ w0 F0 X n ρ Q) a w):
  ∀(c:Code) {eb:aA} {Q:Exit->an->Prop} {s:an} {a:Act} {w:World},fQ n c=some eb.strip->eb.bare H->bn C eb Q s->Rel w0 F0 X n ρ s a w->c.wp C.P (vZ w0 F0 X n ρ Q) a w:=
 λc _ _ _ _ _ ae ab h aR=>agy bU (λc T b Q s a w _ kP ae h aR=>hH c T b Q s a w kP ae h aR) c (λ_ aR=>aR) ae ab h aR
theorem WB (bU:C.Ok) (c:Code) {eb:aA} {Q:Exit->an->Prop} {s:an} {a:Act} {w:World} (ae:fQ n c=some eb.strip) (ab:eb.bare (λ_ _=>False)) (h:bn C eb Q s) (aR:Rel w0 F0 X n ρ s a w):c.wp C.P (vZ w0 F0 X n ρ Q) a w:=
 N_ bU (λ_ _ _ _ _ _ _ bI=>bI.elim) c ae ab h aR
end
def kF:ResultVar->Nat
 | .tmp t=>t
 | .cell a _=>a
def qX (C:cu) (s:an):ResultVar->Option I
 | .tmp t=>if(s t).tree=true then(match s t with| .tuple _=>none|d=>some d)else none
 | .cell a T=>match s a with
   | .aP d=>if fits C T d=true/\d.tree=true then some d else none
   |_=>none
def Oa (C:cu) (fx:aAf) (e8:List ResultVar) (r:I) (outs:aAk) (s:an):Prop:=
 ∃ds,e8.map (qX C s)=ds.map some/\r=(match ds with|[d]=>d|ds=>.tuple ds)/\(e8.map kF).Nodup/\
  ∀(i:Nat) (o:I),outs[i]? =some o->o= .hole\/(o=s i/\o.hv=true/\i∈fx/\i∉e8.map kF)
def Ends (C:cu) (fx:aAf) (e8:List ResultVar) (r:I) (outs:aAk) (s:an):Prop:=
 Oa C fx e8 r outs s\/∃t y q d s1,s t= .h y q/\dG s (.h y q)=some (d,s1)/\Oa C fx e8 r outs (fin s1 (some t) d)
theorem ca.takes {w0 w:World} {F0 X F:Nat->Prop} {S:Nat->Nat->Prop} {s s1:an} {aD:Nat->Value} {t y:Nat} {q:aAf} {d:I} (aR:ca w0 F0 X F S s aD w) (h1:s t= .h y q) (af:dG s (.h y q)=some (d,s1)):
  ∃aY,ca w0 F0 X F aY (en.fin s1 (some t) d) aD w:=by
 have ae:=aR.eg t;rw[h1,aQ]at ae;obtain⟨cL,k0,bV,cn,Sn,dV,ea,eC,dB,kh,_⟩:=rv aR (av:=.h y q) (v:=aD t) rfl (by rw[aQ];exact ae) af;obtain⟨aY,bL⟩:=k0.fin (.inr ⟨bV,cn,Sn,dV,ea,eC,dB,kh⟩) (some t);refine⟨aY,?_⟩;have e:qL aD (some t) (aD t)=aD:=by
  funext u;simp only[qL,eo];split
  .rename_i h;rw[h]
  .rfl
 rwa [e]at bL
section
variable {C:cu} {w0 w:World} {F0 X F:Nat->Prop} {S:Nat->Nat->Prop} {s:an} {tmps:Array Value}
theorem WC {d:I} {x:Value} (ao:∀vs,d≠.tuple vs) (h:eW d x):cZ x=jd x/\ke d x:=by
 have:ke d x:=by cases d<;>first|exact h|exact(ao _ rfl).elim
 refine⟨?_,this⟩;cases d<;>first
  |(obtain⟨a,rfl⟩:=this;rfl)
  |(simp only[ke]at this
    rw[h_ this];cases x<;>first|rfl|(simp[Value.hq]at this))
def Fp (tmps:Array Value):ResultVar->Sem Value
 | .tmp t=>pure (tmps.getD t undef)
 | .cell a t=>do loadVar t (<-asAddr (tmps.getD a undef))
theorem agB (bU:C.Ok) (h:ca w0 F0 X F S s (λt=>tmps.getD t undef) w) {v:ResultVar} {d:I} (aB:qX C s v=some d):
  ∃x,(Fp tmps v).run C.P w= .ok x w/\d.tree=true/\(∀vs,d≠.tuple vs)/\eW d x/\az w F d (cZ x) (S (kF v)):=by
 cases v with
 |tmp t=>
  simp only[qX]at aB;split at aB
  .rename_i a6;have n0:(∀vs,s t≠.tuple vs)/\d=s t:=by
    cases ae:s t<;>rw[ae]at aB<;>simp only at aB<;>first
     |(cases aB;done)
     |(simp only[Option.some.injEq]at aB;exact⟨(λ_ h=>by cases h),aB.symm⟩)
   obtain⟨n0,rfl⟩:=n0;obtain⟨g1,g2⟩:=(aQ.dj a6).1 (h.eg t);exact⟨_,by simp[Fp],a6,n0,g1,g2⟩
  .cases aB
 |cell a T=>
  simp only[qX]at aB;split at aB
  .rename_i e ae;split at aB
   .rename_i agC;obtain⟨kA,agD⟩:=agC;simp only[Option.some.injEq]at aB;subst aB;have kS:=h.eg a;rw[ae]at kS;obtain⟨g1,g2⟩:=(aQ.dj (d:=.aP e) rfl).1 kS;rw[h_ g1,az]at g2;obtain⟨b,cur,ty,fr,aY,bV,cn,dV,ea,eC,dB,kh⟩:=g2;simp only[List.cons.injEq,and_true]at bV;have mz:Rd w b 0 cur.toList:=by
     have:=Bw dV cur.size
     rwa [List.take_of_length_le (by simp)]at this
    obtain⟨x,ef,bg,dt⟩:=IH (C:=C) bU mz eC kA;refine⟨x,?_,agD,?_,dt,?_⟩
    .simp only[Fp];rw[bV];simpa [asAddr]using ef
    .intro vs fS;subst fS;unfold fits at kA;split at kA<;>simp_all
    .rw[bg];exact az.mono (λ_ h=>h) _ _ _ _ dB eC
   .cases aB
  .cases aB
theorem agE (bU:C.Ok) (h:ca w0 F0 X F S s (λt=>tmps.getD t undef) w):∀(e8:List ResultVar) (ds:aAk),e8.map (qX C s)=ds.map some->(e8.map kF).Nodup->
  ∃xs,(e8.mapM (Fp tmps)).run C.P w= .ok xs w/\xs.length=ds.length/\br w F ds (xs.flatMap jd) (λb=>∃t∈e8.map kF,S t b)/\
   ∀(k:Nat) (d:I) (x:Value),ds[k]? =some d->xs[k]? =some x->eW d x/\(∀vs,d≠.tuple vs)/\(jd x).length=d.wd/\cZ x=jd x/\d.tree=true:=by
 intro e8;induction e8 with
 |nil=>
  intro ds he _;have:ds=[]:=by simpa using he.symm
  subst this;exact⟨[],by simp,rfl,by simp only[List.flatMap_nil];rw[br],λk d x ao=>by simp at ao⟩
 |cons v e8 ih=>
  intro ds he BX;cases ds with
  |nil=>simp at he
  |cons d ds=>
   simp only[List.map_cons,List.cons.injEq]at he;simp only[List.map_cons,List.nodup_cons]at BX;obtain⟨x,ef,rt,bg,dt,bQ⟩:=agB bU h he.1;obtain⟨xs,gP,gA,je,jG⟩:=ih ds he.2 BX.2;obtain⟨aK,aT⟩:=WC bg dt;refine⟨x::xs,by simp[List.mapM_cons,ef,gP],by simp[gA],?_,?_⟩
   .simp only[List.flatMap_cons];rw[br];rw[aK]at bQ;refine⟨jd x,xs.flatMap jd,S (kF v),λb=>∃t∈e8.map kF,S t b,rfl,bQ,je,λb ab=>⟨kF v,by simp,ab⟩,?_,?_⟩
    .rintro b ⟨t,a6,ab⟩;exact⟨t,by simp[a6],ab⟩
    .rintro b ab ⟨t,a6,pw⟩;have:t≠kF v:=λe=>BX.1 (e▸a6);exact h.fT t (kF v) b this pw ab
   .intro k bN cV ao aq;cases k with
    |zero=>
     simp at ao aq;subst ao aq;refine⟨dt,bg,?_,aK,rt⟩;rw[<-aK];exact az.length _ _ _ bQ
    |succ k=>exact jG k bN cV (by simpa using ao) (by simpa using aq)
theorem Ob (bU:C.Ok) {f:FuncId} {fn:Func} {c:Code} {fx:aAf} {as outs:aAk} {r:I} (bI:C.P.funcs[f]? =some fn) (ab:fn.body=some c)
  (mF:(fn.name== "runtime.NumGoroutine")=false) (aV:as.length<=fn.ntmps)
  {w:World} {F X:Nat->Prop} {S:Nat->Nat->Prop} {vs:aAi} (hl:vs.length=as.length) (aR:ca w F X F S (gd as) (hW vs) w)
  (Oc:∀a,Rel w F X ⟨fn.ntmps,fx⟩ (hW vs) (gd as) a w->(∀t,a.tmps.getD t undef=hW vs t)->c.wp C.P (vZ w F X ⟨fn.ntmps,fx⟩ (hW vs) (λe s=>(e= .normal\/e= .ret)/\eM (Ends C fx fn.results.toList r outs) s)) a w):
  qU C.P f vs.toArray w λv aJ=>∃cg aY,ca w F X cg aY (gd (r::outs)) (hW (v::vs)) aJ:=by
 have rK:(vs.toArray++Array.replicate (fn.ntmps-vs.toArray.size) undef).size=fn.ntmps:=by simp;omega
 have fe:(λt=>(vs.toArray++Array.replicate (fn.ntmps-vs.toArray.size) undef).getD t undef)=hW vs:=by
  funext t;simp only[hW,Array.getD_eq_getD_getElem?,List.getD_eq_getElem?_getD];by_cases a6:t<vs.length
  .rw[Array.getElem?_append_left (by simpa using a6)];simp
  .rw[Array.getElem?_append_right (by simpa using a6)];rw[List.getElem?_eq_none (by omega)];simp only[Array.getElem?_replicate];split<;>rfl
 have hrel:Rel w F X ⟨fn.ntmps,fx⟩ (hW vs) (gd as) {tmps:=vs.toArray++Array.replicate (fn.ntmps-vs.toArray.size) undef,defers:=[]} w:=
  ⟨rfl,rK,λi _=>congrFun fe i,F,S,by rw[fe];exact aR⟩
 have Od:fn.name≠ "runtime.NumGoroutine" :=by simpa using mF
 refine .inl ⟨by simp[callFunc,bI,Od,ab],calls_of_wp bI ab (wp_mono (Oc _ hrel (congrFun fe)) ?_)⟩;rintro e dF aJ ⟨aC,⟨he,agF⟩,agG⟩;obtain⟨aC,⟨ds,lT,WD,BX,zk⟩,ao,eX,iL,cg,aY,fv⟩:∃aC,Oa C fx fn.results.toList r outs aC/\Rel w F X ⟨fn.ntmps,fx⟩ (hW vs) aC dF aJ:=by
  obtain⟨aC,he,x7⟩:=agG.eM agF;rcases he with he|⟨t,y,q,d,s1,h1,af,he⟩
  .exact⟨aC,he,x7⟩
  .obtain⟨g1,g2,g3,F,S,g4⟩:=x7;obtain⟨aY,g5⟩:=g4.takes h1 af;exact⟨_,he,g1,g2,g3,F,aY,g5⟩
 obtain⟨xs,gP,gA,je,jG⟩:=agE bU fv _ ds lT BX;have agH:(results fn dF.tmps)=(do let vs<-fn.results.mapM (Fp dF.tmps);pure (if h:vs.size=1 then vs[0]else .tuple vs)):=by
  unfold results;congr 1
 have zp:(results fn dF.tmps).run C.P aJ= .ok (if h:xs.toArray.size=1 then xs.toArray[0]else .tuple xs.toArray) aJ:=by
  rw[agH,Array.mapM_eq_mapM_toList];simp[gP]
 have uy:(r.tree=true/\eW r (if h:xs.toArray.size=1 then xs.toArray[0]else .tuple xs.toArray)/\
   az aJ cg r (cZ (if h:xs.toArray.size=1 then xs.toArray[0]else .tuple xs.toArray)) (λb=>∃t∈fn.results.toList.map kF,aY t b)):=by
  by_cases h1:∃d,ds=[d]
  .obtain⟨d,rfl⟩:=h1;obtain⟨x,rfl⟩:∃x,xs=[x]:=by
    cases xs with
    |nil=>simp at gA
    |cons x xs=>cases xs with
     |nil=>exact⟨x,rfl⟩
     |cons y cq=>simp at gA
   obtain⟨bV,cn,dV,ea,eC⟩:=jG 0 d x rfl rfl;have agI:d=r:=WD.symm;subst agI;simp only[List.flatMap_cons,List.flatMap_nil,List.append_nil]at je;rw[br]at je;obtain⟨c1,c2,cL,eG,aK,aT,aU,b_,cY,cv⟩:=je;rw[br]at aU;subst aU;simp only[List.append_nil]at aK;subst aK;have aq:(if h:([x]:aAi).toArray.size=1 then([x]:aAi).toArray[0]else .tuple ([x]:aAi).toArray)=x:=by simp
   rw[aq,ea];exact⟨eC,bV,az.mono (λ_ h=>h) _ _ _ _ b_ aT⟩
  .have Jf:r= .tuple ds:=by
    rw[WD];cases ds with
    |nil=>rfl
    |cons d ds=>cases ds with
     |nil=>exact(h1 ⟨d,rfl⟩).elim
     |cons e ds=>rfl
   have aq:(if h:xs.toArray.size=1 then xs.toArray[0]else Value.tuple xs.toArray)= .tuple xs.toArray:=by
    rw[dif_neg];intro eX;have:ds.length=1:=by rw[<-gA];simpa using eX
    obtain⟨d,ao⟩:=List.length_eq_one_iff.1 this;exact h1 ⟨d,ao⟩
   rw[aq,Jf];refine⟨rfl,⟨xs.toArray,rfl,by simpa using gA,λk d x ao aq=>?_⟩,?_⟩
   .obtain⟨bV,cn,dV,ea,_⟩:=jG k d x ao (by simpa using aq);exact⟨(WC cn bV).2,cn,dV⟩
   .rw[az];simpa [cZ]using je
 have post:∀(v:Value),(r.tree=true/\eW r v/\az aJ cg r (cZ v) (λb=>∃t∈fn.results.toList.map kF,aY t b))->∃zJ cL,ca w F X zJ cL (gd (r::outs)) (hW (v::vs)) aJ:=by
  rintro v ⟨v1,v2,v3⟩;have Oe:∀i,(outs.getD i .hole).hv=true->outs.getD i .hole=aC i/\i∈fx/\i∉fn.results.toList.map kF:=by
   intro i aj;cases bG:outs[i]? with
   |none=>simp[List.getD,bG,I.hv]at aj
   |some o=>
    have e:outs.getD i .hole=o:=by simp[List.getD,bG]
    rw[e]at aj⊢;rcases zk i o bG with h|h
    .subst h;simp[I.hv]at aj
    .exact⟨h.1,h.2.2⟩
  refine⟨cg,λt b=>match t with|0=>∃t∈fn.results.toList.map kF,aY t b|i+1=>(outs.getD i .hole).hv=true/\aY i b,fv.hL,fv.h9,fv.fG,?_,?_,?_,?_,?_,fv.old,fv.size,fv.os,fv.tape,fv.output,aR.fU⟩
  .intro t b ab;cases t with
   |zero=>obtain⟨t,_,ab⟩:=ab;exact fv.fc t b ab
   |succ i=>exact fv.fc i b ab.2
  .intro t b ab;cases t with
   |zero=>obtain⟨t,_,ab⟩:=ab;exact fv.gl t b ab
   |succ i=>exact fv.gl i b ab.2
  .intro t u b dP ab hu;cases t with
   |zero=>
    obtain⟨t,a6,ab⟩:=ab;cases u with
    |zero=>exact dP rfl
    |succ j=>
     refine fv.fT t j b (λe=>?_) ab hu.2;subst e;exact(Oe t hu.1).2.2 a6
   |succ i=>
    cases u with
    |zero=>
     obtain⟨t,a6,hu⟩:=hu;refine fv.fT t i b (λe=>?_) hu ab.2;subst e;exact(Oe t ab.1).2.2 a6
    |succ j=>exact fv.fT i j b (by omega) ab.2 hu.2
  .intro t b ab;cases t with
   |zero=>obtain⟨t,_,ab⟩:=ab;exact fv.eI t b ab
   |succ i=>exact fv.eI i b ab.2
  .intro t;cases t with
   |zero=>exact(aQ.dj v1).2 ⟨v2,v3⟩
   |succ i=>
    show aQ aJ cg (gd (r::outs)) (hW (v::vs)) (outs.getD i .hole) (vs.getD i undef) (λb=>(outs.getD i .hole).hv=true/\aY i b);cases aj:(outs.getD i .hole).hv with
    |false=>
     have:outs.getD i .hole= .hole:=by
      cases bG:outs[i]? with
      |none=>simp[List.getD,bG]
      |some o=>
       have e:outs.getD i .hole=o:=by simp[List.getD,bG]
       rw[e]at aj⊢;rcases zk i o bG with h|h
       .exact h
       .rw[h.2.1]at aj;cases aj
     rw[this,aQ];trivial
    |true=>
     obtain⟨nB,k7,qT⟩:=Oe i aj;have a6:=(vX aj).2.1;have kS:=fv.eg i;rw[<-nB]at kS;obtain⟨g1,g2⟩:=(aQ.dj a6).1 kS;have aB:dF.tmps.getD i undef=vs.getD i undef:=iL i k7;rw[aB]at g1 g2;exact(aQ.dj a6).2 ⟨g1,az.mono (λ_ h=>h) _ _ _ _ (λb ab=>⟨rfl,ab⟩) g2⟩
 rcases he with rfl|rfl
 .exact⟨ao,_,zp,_,rfl,post _ uy⟩
 .exact⟨ao,_,zp,_,rfl,post _ uy⟩
theorem aW.of_wp (bU:C.Ok) {f:FuncId} {fn:Func} {c:Code} {eb:aA} {fx:aAf} {as outs:aAk} {r:I} (bI:C.P.funcs[f]? =some fn) (ab:fn.body=some c)
  (mF:(fn.name== "runtime.NumGoroutine")=false) (ae:fQ ⟨fn.ntmps,fx⟩ c=some eb.strip) (aV:as.length<=fn.ntmps)
  (h:bn C eb (λe s=>(e= .normal\/e= .ret)/\eM (Ends C fx fn.results.toList r outs) s) (gd as)) (aw:eb.plain=true:=by kernel_rfl):aW C f as r outs:=
 λw F X S vs hl aR=>Ob bU bI ab mF aV hl aR λa hrel _=>WB bU c (by rw[aA.N6];exact ae) (aA.Jb eb (aA.Wt eb aw)) (Jd eb h) hrel
end
def num:Nat->aAk->aAj
 |_,[]=>[]
 |k,a::as=>(k,a)::num (k+1) as
theorem agJ:∀(as:aAk) (k t:Nat),ar (num k as) (k+t)=as.getD t .hole:=by
 intro as;induction as with
 |nil=>intro k t;simp[num,ar]
 |cons a as ih=>
  intro k t;cases t with
  |zero=>simp[num,ar]
  |succ t=>
   have:=ih (k+1) t;simp only[num,ar];rw[if_neg (by omega)];rw[show k+(t+1)=k+1+t by omega,this];simp
theorem Jg (as:aAk):gd as=ar (num 0 as):=by
 funext t;have:=agJ as 0 t;rw[Nat.zero_add]at this;rw[this];rfl
theorem Fq (l:aAj) (t:Nat) (d:I):eo (ar l) t d=ar ((t,d)::l):=by
 funext u;simp only[eo,ar]
def v7 (t:Nat):aAj->aAj
 |[]=>[]
 |(u,d)::l=>(u,dJ t d)::v7 t l
def zL (t:Nat):aAj->aAj
 |[]=>[]
 |(u,d)::l=>(u,cU t d)::zL t l
theorem Of (t:Nat):∀l:aAj,oZ t (ar l)=ar (v7 t l):=by
 intro l;funext u;induction l with
 |nil=>rfl
 |cons p l ih=>
  obtain⟨v,d⟩:=p;simp only[oZ,ar,v7]at ih⊢;split
  .rfl
  .exact ih
theorem agK (t:Nat):∀l:aAj,js t (ar l)=ar (zL t l):=by
 intro l;funext u;induction l with
 |nil=>rfl
 |cons p l ih=>
  obtain⟨v,d⟩:=p;simp only[js,ar,zL]at ih⊢;split
  .rfl
  .exact ih
def gK (k:aAf) (s:an):aAj:=k.map λt=>(t,s t)
section
variable {C:cu} {l:aAj}
def e2.jY:e2->Bool
 | .call _ _=>true
 | .ht _=>false
 | .hN _=>false
 | .pick _ _ _=>false
 | .mR _=>false
 | .ir _ _=>false
 | .gB _ _=>false
 | .dM _ _ _=>false
 | .ld _ _=>false
 | .k3 _ _ _=>false
 | .mA _=>false
 | .eP _ _ _ _=>false
 | .un _ _=>false
 | .k5 _ _ _=>false
 | .p9 _ _=>false
 | .fi _ _ _=>false
 | .iJ _ _ _ _=>false
 | .hV _ _ _=>false
 | .kg _ _ _=>false
 | .idx _ _ _=>false
 | .ex _ _=>false
 | .pB _ _ _=>false
 | .len _ _=>false
 | .app _ _ _ _=>false
 | .shr _=>true
 | .cap _ _=>false
 | .kQ _ _ _=>false
 | .bad=>false
 | .mU _ _ _=>true
 | .mg _ _=>false
 | .p_ _=>false
 | .pG _=>false
 | .ext _ _=>false
 | .sU=>false
 | .jU _ _ _=>false
 | .k6 _ _ _ _=>false
variable {Q:Exit->an->Prop}
def I.Fs:I->Bool
 | .tuple _=>true
 |_=>false
theorem Ends.one {fx:aAf} {t:Nat} {r:I} {s:an} (h1:s t=r) (af:(r.tree&& !r.Fs)=true):Ends C fx [.tmp t] r [] s:=by
 simp only[Bool.and_eq_true,Bool.not_eq_true']at af;obtain⟨af,Jh⟩:=af;have ay:∀vs,r≠.tuple vs:=λvs e=>by subst e;simp[I.Fs]at Jh
 refine .inl ⟨[r],?_,rfl,by simp,λi o h=>by simp at h⟩;have:qX C s (.tmp t)=some r:=by
  simp only[qX,h1,af,if_true];try (cases r<;>first|rfl|exact(ay _ rfl).elim)
 simp only[List.map_cons,List.map_nil,this]
end
section
variable {C:cu} {l:aAj} {Q:Exit->an->Prop}
theorem aW.outs {f:FuncId} {as:aAk} {r:I} {nB k7:aAk} (h:aW C f as r nB) (he:gd nB=gd k7):aW C f as r k7:=by
 intro w F X S vs hl aR;refine qU.mono (h w F X S vs hl aR) ?_;rintro v aJ ⟨cg,aY,bL⟩;refine⟨cg,aY,?_⟩;have:gd (r::k7)=gd (r::nB):=by
  funext t;cases t with
  |zero=>rfl
  |succ t=>exact(congrFun he t).symm
 rw[this];exact bL
def pJ:aAk->aAk->List dq
 |a::as,d::ds=>⟨a,false,d,.hole⟩::pJ as ds
 |_,_=>[]
theorem agL {s:an}:∀(as ds:aAk),views s as=some ds->(pJ as ds).map (·.a)=as/\(pJ as ds).map (·.d)=ds/\(∀p∈pJ as ds,p.ok s/\p.g=false/\p.o= .hole/\p.a∈as)/\jH (pJ as ds)=true/\
  gd ((pJ as ds).map (·.o))=gd []/\(∀v8,fM v8 (pJ as ds)=v8)/\(∀v8,iK v8 (pJ as ds)=v8):=by
 intro as;induction as with
 |nil=>
  intro ds h;simp only[views,Option.some.injEq]at h;subst h;exact⟨rfl,rfl,(λp aw=>by cases aw),rfl,rfl,λ_=>rfl,λ_=>rfl⟩
 |cons a as ih=>
  intro ds h;simp only[views]at h;split at h
  .rename_i d agM h1 af;simp only[Option.some.injEq]at h;subst h;obtain⟨aK,aT,aU,b_,cY,cv,cd⟩:=ih agM af;refine⟨by simp only[pJ,List.map_cons,aK],by simp only[pJ,List.map_cons,aT],?_,?_,?_,?_,?_⟩
   .intro p aw;simp only[pJ,List.mem_cons]at aw;rcases aw with rfl|aw
    .exact⟨by simp only[dq.ok];exact h1,rfl,rfl,by simp⟩
    .obtain⟨g1,g2,g3,g4⟩:=aU p aw;exact⟨g1,g2,g3,by simp[g4]⟩
   .simp only[pJ,jH,b_,Bool.and_true,List.all_eq_true];intro p aw;simp[(aU p aw).2.1]
   .funext t;cases t with
    |zero=>rfl
    |succ t=>exact(congrFun cY t).trans (by simp[gd])
   .intro v8;exact cv v8
   .intro v8;exact cd v8
  .cases h
end
structure fJ where
 dZ:aAf
 H:aAf
 T:aAf
 c:Bool
mutual
def I.clean:I->Bool
 | .hole=>false
 | .fn _ cap=>I.BZ cap
 |_=>true
def I.BZ:aAk->Bool
 |[]=>true
 |d::ds=>d.clean&&I.BZ ds
end
mutual
theorem WE {x:Nat}:∀a:I,(cU x a).clean=true->cU x a=a
 | .h y q,h=>by
   simp only[cU]at h⊢;split
   .rename_i e;rw[if_pos e]at h;split
    .rfl
    .rename_i fS;rw[if_neg fS]at h;simp[I.clean]at h
   .rfl
 | .aw y q,h=>by
   simp only[cU]at h⊢;split
   .rename_i e;rw[if_pos e]at h;simp[I.clean]at h
   .rfl
 | .ab y q,h=>rfl
 | .fn f cap,h=>by simp only[cU,I.clean]at h⊢;rw[WG cap h]
 | .hole,_=>rfl
 | .bool _,_=>rfl
 | .gq,_=>rfl
 | .int _ _,_=>rfl
 | .str _,_=>rfl
 | .et,_=>rfl
 | .bf,_=>rfl
 | .slice _,_=>rfl
 | .ag _ _,_=>rfl
 | .ref _,_=>rfl
 | .aP _,_=>rfl
 | .agg _,_=>rfl
 | .tuple _,_=>rfl
 | .ck _,_=>rfl
 | .gN _ _,_=>rfl
theorem WG {x:Nat}:∀ds:aAk,I.BZ (kO x ds)=true->kO x ds=ds
 |[],_=>rfl
 |d::ds,h=>by
  simp only[kO,I.BZ,Bool.and_eq_true]at h⊢;rw[WE d h.1,WG ds h.2]
end
mutual
theorem WH {x:Nat}:∀a:I,(dJ x a).clean=true->dJ x a=a
 | .h y q,h=>by
   simp only[dJ]at h⊢;split
   .rename_i e;rw[if_pos e]at h;simp[I.clean]at h
   .rfl
 | .aw y q,h=>by
   simp only[dJ]at h⊢;split
   .rename_i e;rw[if_pos e]at h;simp[I.clean]at h
   .rfl
 | .ab y q,h=>by
   simp only[dJ]at h⊢;split
   .rename_i e;rw[if_pos e]at h;simp[I.clean]at h
   .rfl
 | .fn f cap,h=>by simp only[dJ,I.clean]at h⊢;rw[WI cap h]
 | .hole,_=>rfl
 | .bool _,_=>rfl
 | .gq,_=>rfl
 | .int _ _,_=>rfl
 | .str _,_=>rfl
 | .et,_=>rfl
 | .bf,_=>rfl
 | .slice _,_=>rfl
 | .ag _ _,_=>rfl
 | .ref _,_=>rfl
 | .aP _,_=>rfl
 | .agg _,_=>rfl
 | .tuple _,_=>rfl
 | .ck _,_=>rfl
 | .gN _ _,_=>rfl
theorem WI {x:Nat}:∀ds:aAk,I.BZ (lo x ds)=true->lo x ds=ds
 |[],_=>rfl
 |d::ds,h=>by
  simp only[lo,I.BZ,Bool.and_eq_true]at h⊢;rw[WH d h.1,WI ds h.2]
end
theorem agN {k:ur} {x:Nat} {a:I} (h:(k.app x a).clean=true):k.app x a=a:=by
 cases k with
 |no=>rfl
 |cU=>exact WE a h
 |dJ=>exact WH a h
theorem agO:∀(ms:List ib) (u:Nat) (a:I),(∀m∈ms,m.x≠u)->(mB ms u a).clean=true->mB ms u a=a:=by
 intro ms;induction ms with
 |nil=>intros;rfl
 |cons m ms ih=>
  intro u a aq au;simp only[mB]at au⊢;have e:=ih u _ (λjT o5=>aq jT (by simp[o5])) au;have hm:m.at u a=m.k.app m.x a:=by
   simp only[ib.at];rw[if_neg (λe=>aq m (by simp) e.symm)]
  rw[e,hm];rw[e,hm]at au;exact agN au
theorem agP:∀(ms:List ib) (u:Nat) (a:I),(∀m∈ms,m.x≠u/\m.x∉a.ae)->mB ms u a=a:=by
 intro ms;induction ms with
 |nil=>intros;rfl
 |cons m ms ih=>
  intro u a aq;simp only[mB];have hm:m.at u a=a:=by
   simp only[ib.at];rw[if_neg (λe=>(aq m (by simp)).1 e.symm)];exact E3 (.inr (aq m (by simp)).2)
  rw[hm];exact ih u a λjT o5=>aq jT (by simp[o5])
theorem agQ (m:ib):∀(ms:List ib) (u:Nat) (a:I),(∀jT∈ms,jT.x≠m.x/\jT.x∉m.d.ae/\m.x∉jT.d.ae)->mB ms u (m.at u a)=m.at u (mB ms u a):=by
 intro ms;induction ms with
 |nil=>intros;rfl
 |cons n ms ih=>
  intro u a aq;simp only[mB];have aV:=aq n (by simp);have au:n.at u (m.at u a)=m.at u (n.at u a):=by
   simp only[ib.at];by_cases aK:u=n.x
   .subst aK;rw[if_pos rfl,if_neg aV.1,if_pos rfl];exact(E3 (.inr aV.2.2)).symm
   .rw[if_neg aK];by_cases aT:u=m.x
    .subst aT;rw[if_pos rfl,if_pos rfl];exact E3 (.inr aV.2.1)
    .rw[if_neg aT,if_neg aK,if_neg aT];exact afj _ _ _ _ _
  rw[au];exact ih u _ λjT o5=>aq jT (by simp[o5])
theorem agR:∀(ms mi:List ib) (s:an),(∀m∈ms,∀n∈mi,n.x≠m.x/\n.x∉m.d.ae/\m.x∉n.d.ae)->eQ mi (eQ ms s)=eQ ms (eQ mi s):=by
 intro ms;induction ms with
 |nil=>intros;rfl
 |cons m ms ih=>
  intro mi s h;have e:∀s,eQ (m::ms) s=eQ ms (eQ [m] s):=λs=>pH [m] ms s;rw[e,e,ih mi _ (λjT o5=>h jT (by simp[o5]))];congr 1;funext u;simp only[eQ,mB];exact agQ m mi u _ (h m (by simp))
def WJ (C:cu) (s:an) (f:bA) (args:List bA) (K:aAf->I->an->Prop):Prop:=
 ∃(g:FuncId) (caps:aAk) (ps:List dq) (r:I),bx s f= .fn g caps/\I.e6 caps=true/\ps.map (·.a)=args.map (bx s)++caps/\(∀p∈ps,p.ok s)/\jH ps=true/\
   aW C g (ps.map (·.d)) r (ps.map (·.o))/\r.res=true/\(lU ps=true->r.c8=true/\∀p∈ps,p.o.c8=true)/\K (I.ff ((ps.filter (·.g)).map (·.a))) r (iK (fM s ps) ps)
def qY (C:cu) (s:an) (b4:e2) (K:aAf->I->an->Prop):Prop:=
 match b4 with
 | .call f args=>∃(g:FuncId) (caps:aAk) (ps:List dq) (r:I),bx s f= .fn g caps/\I.e6 caps=true/\ps.map (·.a)=args.map (bx s)++caps/\(∀p∈ps,p.ok s)/\jH ps=true/\
   aW C g (ps.map (·.d)) r (ps.map (·.o))/\r.res=true/\(lU ps=true->r.c8=true/\∀p∈ps,p.o.c8=true)/\K (I.ff ((ps.filter (·.g)).map (·.a))) r (iK (fM s ps) ps)
 | .shr b4=>∃av s1,ch C s b4=some (av,s1)/\av.tree=true/\(∀vs,av≠.tuple vs)/\K (lr s b4) av.share s1
 | .mU f args us=>oD s (lu s us)=true/\WJ C s f args λdG av s1=>oD s1 (lu s us)=true/\K (us++dG) av (qa s1 (lu s us))
 |b4=>∃av s1,ch C s b4=some (av,s1)/\K (lr s b4) av s1
def kV (s:an) (dZ:aAf) (dst:Option Nat) (dG:aAf) (av:I):fJ:=
 ⟨dZ,dZ.flatMap (λu=>(s u).ae)++av.ae,dst.toList++dG,dZ.all λu=>(s u).clean⟩
def o6 (C:cu) (s:an) (o:cB) (K:fJ->an->Prop):Prop:=
 match o.guard with
 |none=>qY C s o.b4 λdG av s1=>K (kV s (use s o.b4) o.dst dG av) (fin s1 o.dst av)
 |some (t,b)=>match s t with
  | .bool gI=>if gI=b then qY C s o.b4 (λdG av s1=>K (kV s (t::use s o.b4) o.dst dG av) (fin s1 o.dst av))else K (kV s [t] o.dst [] (.tuple [])) (fin s o.dst (.tuple []))
  | .tuple []=>K (kV s [t] o.dst [] (.tuple [])) (fin s o.dst (.tuple []))
  |_=>False
def s7:Option (List fJ)->fJ->Option (List fJ)
 |none,_=>none
 |some l,f=>some (f::l)
def dD (C:cu) (s:an):List cB->Option (List fJ)->(Option (List fJ)->an->Prop)->Prop
 |[],acc,K=>K acc s
 |o::os,acc,K=>o6 C s o λf s1=>dD C s1 os (s7 acc f) K
section
variable {C:cu}
theorem WK {s:an} {b4:e2} {K:aAf->I->an->Prop} {eE:I->an->Prop} (hk:∀dG av s,K dG av s->eE av s) (h:qY C s b4 K):rO C s b4 eE:=by
 cases b4 with
 |call f args=>
  obtain⟨g,caps,ps,r,h1,hX,af,ay,a_,b1,dn,dc,gH⟩:=h;exact⟨g,caps,ps,r,h1,hX,af,ay,a_,b1,dn,dc,hk _ _ _ gH⟩
 |mU f args us=>
  obtain⟨cn,g,caps,ps,r,h1,hX,af,ay,a_,b1,dn,dc,gH,iq⟩:=h;exact⟨cn,g,caps,ps,r,h1,hX,af,ay,a_,b1,dn,dc,gH,hk _ _ _ iq⟩
 |shr b4=>
  obtain⟨av,s1,h1,af,ay,a_⟩:=h;exact⟨av,s1,h1,af,ay,hk _ _ _ a_⟩
 |_=>
  obtain⟨av,s1,h1,af⟩:=h;exact⟨av,s1,h1,hk _ _ _ af⟩
theorem agS {s:an} {o:cB} {K:fJ->an->Prop} {eE:an->Prop} (hk:∀f s,K f s->eE s) (h:o6 C s o K):o4 C s o eE:=by
 unfold o6 at h;unfold o4;split
 .rename_i hg;rw[hg]at h;exact WK (λ_ _ _=>hk _ _) h
 .rename_i t b hg;rw[hg]at h;simp only at h;split
  .rename_i gI ae;rw[ae]at h;simp only at h;split
   .rename_i ab;rw[if_pos ab]at h;exact WK (λ_ _ _=>hk _ _) h
   .rename_i ab;rw[if_neg ab]at h;exact hk _ _ h
  .rename_i ae;rw[ae]at h;exact hk _ _ h
  .rename_i h1 af;split at h
   .exact h1 _ (by assumption)
   .exact af (by assumption)
   .exact h
theorem zM {K:an->Prop}:∀{ros:List cB} {s:an} {acc:Option (List fJ)} {eE:Option (List fJ)->an->Prop},(∀a s,eE a s->K s)->dD C s ros acc eE->oE C s ros K:=by
 intro ros;induction ros with
 |nil=>intro s acc eE hk h;exact hk _ _ h
 |cons o ros ih=>intro s acc eE hk h;exact agS (λf s h=>ih hk h) h
theorem WL {q:aAf} {a d:I} (h:I.sub q a=some d) (cF:q≠[]\/d.ae=[]):a.ae=[]:=by
 cases q with
 |nil=>
  simp only[I.sub,Option.some.injEq]at h;subst h;exact cF.resolve_left (λe=>e rfl)
 |cons k q=>cases a<;>first|rfl|(simp[I.sub]at h)
def Ji (s:an) (p:dq) (e:I->Prop):Prop:=p.g=true->∃x q d,p.a= .h x q/\I.sub q (s x)=some d/\e d/\(p.o= .hole\/p.o.hv=true)
theorem WM {d:I} (h:d.hv=true):d.ae=[]:=V8 (vX h).2.1
theorem WN {d:I} (h:d.hv=true):d.d_.ae=[]:=by cases d<;>first|rfl|(simp[I.hv]at h)
theorem WO {p:dq} {ps:List dq} (h:jH (p::ps)=true):jH ps=true/\∀di∈ps,(p.g=true\/di.g=true)->∀u∈p.a.ae,u∉di.a.ae:=by
 simp only[jH,Bool.and_eq_true,List.all_eq_true,Bool.or_eq_true,Bool.not_eq_true']at h;refine⟨h.2,λdi fj hg u hu=>?_⟩;rcases h.1 di fj with e|e
 .rcases hg with hg|hg<;>simp[hg]at e
 .simpa using e u hu
def uz (ps:List dq):aAf:=I.ff ((ps.filter (·.g)).map (·.a))
theorem B0 (p:dq) (ps:List dq):(∀u∈uz ps,u∈uz (p::ps))/\(p.g=true->∀u∈p.a.ae,u∈uz (p::ps)):=by
 unfold uz;by_cases hg:p.g=true
 .simp only[List.filter_cons,hg,if_true,List.map_cons,I.ff,List.mem_append];exact⟨λu h=>.inr h,λ_ u h=>.inl h⟩
 .simp only[List.filter_cons,hg];exact⟨λu h=>h,λh=>by simp at h⟩
theorem agT {p:dq} {ps:List dq} (h:p∈ps):∀u∈p.a.ae,u∈I.ff (ps.map (·.a)):=by
 induction ps with
 |nil=>cases h
 |cons di ps ih=>
  intro u hu;simp only[List.map_cons,I.ff,List.mem_append];rcases List.mem_cons.1 h with rfl|h
  .exact .inl hu
  .exact .inr (ih h u hu)
theorem agU:∀(ps:List dq) (s:an),(∀p∈ps,Ji s p (λd=>d=p.d/\p.d.hv=true))->jH ps=true->
  (∃ms:List ib,(∀m∈ms,m.x∈uz ps/\m.d.ae=[])/\∀aC,eD (I.ff (ps.map (·.a))) aC s->fM aC ps=eQ ms aC)/\∀p∈ps,Ji (fM s ps) p (λd=>d=p.d.d_/\p.d.hv=true):=by
 intro ps;induction ps with
 |nil=>intro s _ _;exact⟨⟨[],by simp,λaC _=>rfl⟩,λp aw=>by cases aw⟩
 |cons p ps ih=>
  intro s hg mT;obtain⟨sY,rL⟩:=WO mT;by_cases pK:p.g=true
  .obtain⟨x,q,d,bs,ae,⟨rfl,ao⟩,bG⟩:=hg p (by simp) pK;have ln:(I.put q p.d.d_ (s x)).ae=[]:=BO q _ _ _ ae (.inl (vX ao).1) λ_=>WN ao;have Ft:∀aC:an,aC x=s x->p.take aC=eQ [⟨.cU,x,I.put q p.d.d_ (s x)⟩] aC:=by
    intro aC e;simp only[dq.take,pK,if_true,bs,e,zF]
   have dP:∀di∈ps,∀cV lQ,di.a= .h cV lQ->cV≠x:=by
    intro di fj cV lQ e fS;have:=rL di fj (.inl pK) x (by simp[bs,I.ae]);rw[e,fS]at this;simp[I.ae]at this
   have xX:∀cV,cV≠x->(s cV).ae=[]->eQ [⟨.cU,x,I.put q p.d.d_ (s x)⟩] s cV=s cV:=by
    intro cV BF a7;simp only[eQ,mB,ib.at];rw[if_neg BF];exact E3 (.inr (by rw[a7];simp))
   obtain⟨⟨ms,m1,m2⟩,m3⟩:=ih (eQ [⟨.cU,x,I.put q p.d.d_ (s x)⟩] s) (λdi fj Og=>by
    obtain⟨cV,lQ,bN,zI,fZ,jo,Fu⟩:=hg di (by simp[fj]) Og;refine⟨cV,lQ,bN,zI,?_,jo,Fu⟩;rw[xX cV (dP di fj cV lQ zI) (WL fZ (.inr (by rw[jo.1];exact WM jo.2)))];exact fZ) sY
   refine⟨⟨[⟨.cU,x,I.put q p.d.d_ (s x)⟩]++ms,?_,?_⟩,?_⟩
   .intro m hm;rcases List.mem_append.1 hm with hm|hm
    .simp only[List.mem_singleton]at hm;subst hm;exact⟨(B0 p ps).2 pK x (by simp[bs,I.ae]),ln⟩
    .exact⟨(B0 p ps).1 _ (m1 m hm).1,(m1 m hm).2⟩
   .intro aC fZ;simp only[List.map_cons,I.ff]at fZ;have e:aC x=s x:=fZ x (by simp[bs,I.ae]);rw[pH];show fM (p.take aC) ps=_;rw[Ft aC e];exact m2 _ (eD.eQ fZ.right _)
   .have aK:fM s (p::ps)=fM (eQ [⟨.cU,x,I.put q p.d.d_ (s x)⟩] s) ps:=by
     show fM (p.take s) ps=_;rw[Ft s rfl]
    rw[aK];intro di fj;rcases List.mem_cons.1 fj with rfl|fj
    .intro _;refine⟨x,q,di.d.d_,bs,?_,⟨rfl,ao⟩,bG⟩;have aB:eQ [⟨.cU,x,I.put q di.d.d_ (s x)⟩] s x=I.put q di.d.d_ (s x):=by
      simp only[eQ,mB,ib.at,if_true]
     rw[NR (by rw[aB];exact ln) (λagV agW ayg=>?_),aB]
     .exact V1 q _ _ _ ae
     .exact rL agV agW (.inl pK) x (by simp[bs,I.ae])
    .exact m3 di fj
  .have Ft:∀aC:an,p.take aC=aC:=by intro aC;simp only[dq.take,pK];rfl
   obtain⟨⟨ms,m1,m2⟩,m3⟩:=ih s (λdi fj=>hg di (by simp[fj])) sY;refine⟨⟨ms,λm hm=>⟨(B0 p ps).1 _ (m1 m hm).1,(m1 m hm).2⟩,?_⟩,?_⟩
   .intro aC fZ;simp only[List.map_cons,I.ff]at fZ;show fM (p.take aC) ps=_;rw[Ft];exact m2 aC fZ.right
   .intro di fj;have aK:fM s (p::ps)=fM s ps:=by show fM (p.take s) ps=_;rw[Ft]
    rw[aK];rcases List.mem_cons.1 fj with rfl|fj
    .intro h;exact(pK h).elim
    .exact m3 di fj
theorem agX:∀(ps:List dq) (s:an),(∀p∈ps,Ji s p (λd=>d=p.d.d_/\p.d.hv=true))->jH ps=true->
  (∃ms:List ib,(∀m∈ms,m.x∈uz ps/\m.d.ae=[])/\∀aC,eD (I.ff (ps.map (·.a))) aC s->iK aC ps=eQ ms aC):=by
 intro ps;induction ps with
 |nil=>intro s _ _;exact⟨[],by simp,λaC _=>rfl⟩
 |cons p ps ih=>
  intro s hg mT;obtain⟨sY,rL⟩:=WO mT;by_cases pK:p.g=true/\p.o≠.hole
  .obtain⟨pK,agY⟩:=pK;obtain⟨x,q,d,bs,ae,⟨rfl,ao⟩,bG⟩:=hg p (by simp) pK;have bG:p.o.hv=true:=bG.resolve_left agY;have ln:(I.put q p.o (s x)).ae=[]:=by
    cases q with
    |nil=>simp only[I.put];exact WM bG
    |cons k q=>exact BO _ _ _ _ ae (.inr (by simp)) (by simp)
   have Oh:∀aC:an,aC x=s x->p.kR aC=eQ [⟨.dJ,x,I.put q p.o (s x)⟩] aC:=by
    intro aC e;simp only[dq.kR,pK,if_true,bs];rw[e,VH]
   have dP:∀di∈ps,∀cV lQ,di.a= .h cV lQ->cV≠x:=by
    intro di fj cV lQ e fS;have:=rL di fj (.inl pK) x (by simp[bs,I.ae]);rw[e,fS]at this;simp[I.ae]at this
   obtain⟨ms,m1,m2⟩:=ih (eQ [⟨.dJ,x,I.put q p.o (s x)⟩] s) (λdi fj Og=>by
    obtain⟨cV,lQ,bN,zI,fZ,jo,Fu⟩:=hg di (by simp[fj]) Og;refine⟨cV,lQ,bN,zI,?_,jo,Fu⟩;have a7:=WL fZ (.inr (by rw[jo.1];exact WN jo.2));have xX:eQ [⟨.dJ,x,I.put q p.o (s x)⟩] s cV=s cV:=by
     simp only[eQ,mB,ib.at];rw[if_neg (dP di fj cV lQ zI)];exact E3 (.inr (by rw[a7];simp))
    rw[xX];exact fZ) sY
   refine⟨[⟨.dJ,x,I.put q p.o (s x)⟩]++ms,?_,?_⟩
   .intro m hm;rcases List.mem_append.1 hm with hm|hm
    .simp only[List.mem_singleton]at hm;subst hm;exact⟨(B0 p ps).2 pK x (by simp[bs,I.ae]),ln⟩
    .exact⟨(B0 p ps).1 _ (m1 m hm).1,(m1 m hm).2⟩
   .intro aC fZ;simp only[List.map_cons,I.ff]at fZ;have e:aC x=s x:=fZ x (by simp[bs,I.ae]);rw[pH];show iK (p.kR aC) ps=_;rw[Oh aC e];exact m2 _ (eD.eQ fZ.right _)
  .have Oh:∀aC:an,p.kR aC=aC:=by
    intro aC;unfold dq.kR;split
    .rename_i iY;have:p.o= .hole:=by
      by_cases h:p.o= .hole
      .exact h
      .exact(pK ⟨iY,h⟩).elim
     rw[this]
    .rfl
   obtain⟨ms,m1,m2⟩:=ih s (λdi fj=>hg di (by simp[fj])) sY;refine⟨ms,λm hm=>⟨(B0 p ps).1 _ (m1 m hm).1,(m1 m hm).2⟩,?_⟩;intro aC fZ;simp only[List.map_cons,I.ff]at fZ;show iK (p.kR aC) ps=_;rw[Oh];exact m2 aC fZ.right
theorem agZ {s aC:an}:∀(a:I) (d:I),eD a.ae aC s->view s a=some d->view aC a=some d:=by
 intro a d h;have:=NT (s:=s) (aC:=aC) a d;intro aB;cases a with
 |h x q=>simp only[view]at aB⊢;rw[h x (by simp[I.ae])];exact aB
 |aw x q=>simp only[view]at aB⊢;rw[h x (by simp[I.ae])];exact aB
 |fn f cap=>
  refine this (λu hu _=>h u hu) aB
 |_=>exact aB
theorem ag0 {p:dq} {s aC:an} (h:eD p.a.ae aC s) (gv:p.ok s):p.ok aC:=by
 unfold dq.ok at gv⊢;split
 .rename_i hg;rw[if_pos hg]at gv;cases bs:p.a with
  |h x q=>
   rw[bs]at gv;simp only at gv⊢;rw[h x (by simp[bs,I.ae])];exact gv
  |_=>rw[bs]at gv;exact gv.elim
 .rename_i hg;rw[if_neg hg]at gv;exact agZ _ _ h gv
def Jj (C:cu) (o:cB) (s:an) (nF:fJ) (ms:List ib):Prop:=
 (∀aC,eD nF.dZ aC s->∀K:an->Prop,K (eQ ms aC)->o4 C aC o K)/\(∀m∈ms,m.x∈nF.T/\∀u∈m.d.ae,u∈nF.H)/\(∀u∈nF.dZ,∀x∈(s u).ae,x∈nF.H)/\(nF.c=true->∀u∈nF.dZ,(s u).clean=true)
theorem WQ (dst:Option Nat) (av:I):∃ms:List ib,(∀m∈ms,m.x∈dst.toList/\m.d=av)/\∀s1:an,fin s1 dst av=eQ ms s1:=by
 cases dst with
 |none=>exact⟨[],by simp,λs=>rfl⟩
 |some t=>
  simp only[fin];by_cases h:av.plain=true
  .exact⟨[⟨.no,t,av⟩],by simp,λs=>by rw[if_pos h,VI]⟩
  .exact⟨[⟨.dJ,t,av⟩],by simp,λs=>by rw[if_neg h,VH]⟩
theorem Jk {s:an} {dZ:aAf} {dst:Option Nat} {dG:aAf} {av:I}:(∀u∈(kV s dZ dst dG av).dZ,∀x∈(s u).ae,x∈(kV s dZ dst dG av).H)/\((kV s dZ dst dG av).c=true->∀u∈(kV s dZ dst dG av).dZ,(s u).clean=true):=by
 refine⟨λu hu x aq=>?_,λau=>?_⟩
 .simp only[kV,List.mem_append,List.mem_flatMap];exact .inl ⟨u,hu,aq⟩
 .simp only[kV,List.all_eq_true]at au;exact au
theorem WR {s:an} {f:bA} {args:List bA} {K:aAf->I->an->Prop} (h:WJ C s f args K):
  ∃dG av ms,K dG av (eQ ms s)/\(∀m∈ms,m.x∈dG/\m.d.ae=[])/\∀aC,eD (use s (.call f args)) aC s->∀eE:I->an->Prop,eE av (eQ ms aC)->NX C aC f args eE:=by
 obtain⟨g,caps,ps,r,h1,hX,af,ay,a_,b1,dn,dc,gH⟩:=h;have ag1:∀p∈ps,Ji s p (λd=>d=p.d/\p.d.hv=true):=by
  intro p aw hg;have:=ay p aw;simp only[dq.ok,hg,if_true]at this;cases bs:p.a with
  |h x q=>rw[bs]at this;exact⟨x,q,p.d,rfl,this.1,⟨rfl,this.2.1⟩,this.2.2.imp id λh=>h.1⟩
  |_=>rw[bs]at this;exact this.elim
 obtain⟨⟨sX,J,a2⟩,a3⟩:=agU ps s ag1 a_;obtain⟨xS,ha,fI⟩:=agX ps (fM s ps) a3 a_;have uk:∀u∈I.ff (ps.map (·.a)),u∈use s (.call f args):=by
  rw[af];intro u hu;simp only[use,List.mem_append];have key:∀(fO l2:aAk),u∈I.ff (fO++l2)->u∈I.ff fO\/u∈I.ff l2:=by
   intro fO;induction fO with
   |nil=>intro l2 h;exact .inr h
   |cons a fO ih=>
    intro l2 h;simp only[List.cons_append,I.ff,List.mem_append]at h⊢;rcases h with h|h
    .exact .inl (.inl h)
    .exact(ih l2 h).imp .inr id
  rcases key _ _ hu with hu|hu
  .exact .inr (bA.I3 u hu)
  .refine .inl (bA.zG u ?_);rw[h1];exact hu
 have gb:iK (fM s ps) ps=eQ (sX++xS) s:=by
  rw[pH,<-a2 s (λ_ _=>rfl),fI _ (λ_ _=>rfl)]
 refine⟨uz ps,r,sX++xS,by rw[<-gb];exact gH,?_,?_⟩
 .intro m hm;rcases List.mem_append.1 hm with hm|hm
  .exact J m hm
  .exact ha m hm
 .intro aC ae eE hk;have vW:eD (I.ff (ps.map (·.a))) aC s:=ae.sub uk;have bI:eD (f.use s) aC s:=by simp only[use]at ae;exact ae.left
  have aq:eD (bA.sW s args) aC s:=by simp only[use]at ae;exact ae.right
  have aK:iK (fM aC ps) ps=eQ (sX++xS) aC:=by
   rw[pH,<-a2 aC vW,fI];rw[a2 aC vW,a2 s (λ_ _=>rfl)];exact eD.eQ vW _
  exact⟨g,caps,ps,r,by rw[bA.gC bI];exact h1,hX,by rw[bA.NH aq];exact af,λp aw=>ag0 (vW.sub (agT aw)) (ay p aw),a_,b1,dn,dc,by rw[aK];exact hk⟩
mutual
theorem WS {s aC:an}:∀(d:I),eD d.ae aC s->d.gD aC=d.gD s
 | .h x q,h=>by simp only[I.gD];rw[h x (by simp[I.ae])]
 | .ab x q,h=>by simp only[I.gD];rw[h x (by simp[I.ae])]
 | .fn f cap,h=>by simp only[I.gD];exact WT cap (by simpa only[I.ae]using h)
 | .aw _ _,_=>by simp only[I.gD]
 | .hole,_=>by simp only[I.gD]
 | .bool _,_=>by simp only[I.gD]
 | .gq,_=>by simp only[I.gD]
 | .int _ _,_=>by simp only[I.gD]
 | .str _,_=>by simp only[I.gD]
 | .et,_=>by simp only[I.gD]
 | .bf,_=>by simp only[I.gD]
 | .slice _,_=>by simp only[I.gD]
 | .ag _ _,_=>by simp only[I.gD]
 | .ref _,_=>by simp only[I.gD]
 | .aP _,_=>by simp only[I.gD]
 | .agg _,_=>by simp only[I.gD]
 | .tuple _,_=>by simp only[I.gD]
 | .ck _,_=>by simp only[I.gD]
 | .gN _ _,_=>by simp only[I.gD]
theorem WT {s aC:an}:∀(ds:aAk),eD (I.ff ds) aC s->I.rN aC ds=I.rN s ds
 |[],_=>rfl
 |d::ds,h=>by
  simp only[I.ff]at h;simp only[I.rN];rw[WS d h.left,WT ds h.right]
end
theorem Oi {s aC:an} {us:aAf} (h:eD (us.flatMap λu=>u::(s u).ae) aC s):lu aC us=lu s us:=by
 unfold lu;refine List.map_congr_left λu hu=>?_;rw[h u (List.mem_flatMap.2 ⟨u,hu,by simp⟩)]
theorem Oj {s aC:an}:∀(L:aAj),(∀p∈L,eD p.2.ae aC s)->oD aC L=oD s L
 |[],_=>rfl
 |p::L,h=>by
  simp only[oD];rw[WS p.2 (h p (by simp)),Oj L (λq cF=>h q (by simp[cF]))]
theorem WU:∀(L:aAj) (s:an),qa s L=eQ (L.map λp=>⟨.no,p.1,p.2⟩) s
 |[],s=>rfl
 |p::L,s=>by
  simp only[qa,List.map_cons];rw[WU L,VI];exact(pH [⟨.no,p.1,p.2⟩] _ s).symm
theorem ag2 {s:an} {b4:e2} {K:aAf->I->an->Prop} (h:qY C s b4 K):
  ∃dG av ms,K dG av (eQ ms s)/\(∀m∈ms,m.x∈dG/\∀v∈m.d.ae,∃u∈use s b4,v∈(s u).ae)/\∀aC,eD (use s b4) aC s->∀eE:I->an->Prop,eE av (eQ ms aC)->rO C aC b4 eE:=by
 have plain:(∃av s1,ch C s b4=some (av,s1)/\K (lr s b4) av s1)->(∀aC (eE:I->an->Prop) av s1,ch C aC b4=some (av,s1)->eE av s1->rO C aC b4 eE)->
   ∃dG av ms,K dG av (eQ ms s)/\(∀m∈ms,m.x∈dG/\∀v∈m.d.ae,∃u∈use s b4,v∈(s u).ae)/\∀aC,eD (use s b4) aC s->∀eE:I->an->Prop,eE av (eQ ms aC)->rO C aC b4 eE:=by
  rintro⟨av,s1,h1,af⟩ hw;obtain⟨ms,aK,aT,aU⟩:=VZ h1;subst aK;exact⟨_,av,ms,af,λm hm=>⟨(aT m hm).1,λv aB=>by rw[(aT m hm).2]at aB;cases aB⟩,λaC ae eE hk=>hw aC eE av _ (aU aC ae) hk⟩
 cases b4 with
 |call f args=>
  obtain⟨dG,av,ms,J,a2,a3⟩:=WR h;exact⟨dG,av,ms,J,λm hm=>⟨(a2 m hm).1,λv aB=>by rw[(a2 m hm).2]at aB;cases aB⟩,λaC ae eE hk=>a3 aC ae eE hk⟩
 |mU f args us=>
  obtain⟨cn,au⟩:=h;obtain⟨dG,av,ms,⟨J,ag3⟩,a2,a3⟩:=WR au;have e:∀aC:an,qa (eQ ms aC) (lu s us)=eQ (ms++(lu s us).map λp=>⟨.no,p.1,p.2⟩) aC:=λaC=>by rw[pH,WU]
  have kz:∀{aC:an},eD (us.flatMap λu=>u::(s u).ae) aC s->∀p∈lu s us,eD p.2.ae aC s:=λ{aC} ae p aw v aB=>by
   obtain⟨u,hu,rfl⟩:=List.mem_map.1 aw;exact ae v (List.mem_flatMap.2 ⟨u,hu,by simp[aB]⟩)
  refine⟨us++dG,av,ms++(lu s us).map λp=>⟨.no,p.1,p.2⟩,by rw[<-e];exact ag3,?_,?_⟩
  .intro m hm;rcases List.mem_append.1 hm with hm|hm
   .exact⟨by simp[(a2 m hm).1],λv aB=>by rw[(a2 m hm).2]at aB;cases aB⟩
   .obtain⟨p,aw,rfl⟩:=List.mem_map.1 hm;obtain⟨u,hu,rfl⟩:=List.mem_map.1 aw;exact⟨List.mem_append_left _ hu,λv aB=>⟨u,by simp only[use,List.mem_append,List.mem_flatMap];exact .inl ⟨u,hu,by simp⟩,aB⟩⟩
  .intro aC ae eE hk;simp only[use]at ae;refine⟨by rw[Oi ae.left,Oj _ (kz ae.left)];exact cn,a3 aC ae.right _ ⟨?_,?_⟩⟩
   .rw[Oi ae.left,Oj _ (λp aw=>(kz ae.left p aw).eQ ms)];exact J
   .rw[Oi ae.left,e];exact hk
 |shr b4=>
  obtain⟨av,s1,h1,af,ay,a_⟩:=h;obtain⟨ms,aK,aT,aU⟩:=VZ h1;subst aK;exact⟨_,av.share,ms,a_,λm hm=>⟨(aT m hm).1,λv aB=>by rw[(aT m hm).2]at aB;cases aB⟩,λaC ae eE hk=>⟨av,_,aU aC ae,af,ay,hk⟩⟩
 |_=>exact plain h (λaC eE av s1 h1 af=>⟨av,s1,h1,af⟩)
theorem ag4 {s:an} {o:cB} {K:fJ->an->Prop} (h:o6 C s o K):∃nF ms,K nF (eQ ms s)/\Jj C o s nF ms:=by
 have op:∀(dZ:aAf),(∀u∈use s o.b4,u∈dZ)->(∀aC,eD dZ aC s->∀eE:an->Prop,rO C aC o.b4 (λav s1=>eE (fin s1 o.dst av))->o4 C aC o eE)->
   qY C s o.b4 (λdG av s1=>K (kV s dZ o.dst dG av) (fin s1 o.dst av))->∃nF ms,K nF (eQ ms s)/\Jj C o s nF ms:=by
  intro dZ uk fq hw;obtain⟨dG,av,ms,h1,af,ay⟩:=ag2 hw;obtain⟨mi,lV,bJ⟩:=WQ o.dst av;refine⟨kV s dZ o.dst dG av,ms++mi,?_,?_,?_,Jk.1,Jk.2⟩
  .rw[pH,<-bJ];exact h1
  .intro aC ae eE hk;refine fq aC ae eE (ay aC (ae.sub uk) _ ?_);rw[bJ,<-pH];exact hk
  .intro m hm;simp only[kV,List.mem_append];rcases List.mem_append.1 hm with hm|hm
   .refine⟨.inr (af m hm).1,λv aB=>.inl ?_⟩;obtain⟨u,hu,px⟩:=(af m hm).2 v aB;exact List.mem_flatMap.2 ⟨u,uk u hu,px⟩
   .exact⟨.inl (lV m hm).1,λu hu=>.inr (by rw[(lV m hm).2]at hu;exact hu)⟩
 have skip:∀t,(∀aC,eD [t] aC s->∀eE:an->Prop,eE (fin aC o.dst (.tuple []))->o4 C aC o eE)->K (kV s [t] o.dst [] (.tuple [])) (fin s o.dst (.tuple []))->∃nF ms,K nF (eQ ms s)/\Jj C o s nF ms:=by
  intro t fq hk;obtain⟨mi,lV,bJ⟩:=WQ o.dst (.tuple []);refine⟨_,mi,by rw[<-bJ];exact hk,?_,?_,Jk.1,Jk.2⟩
  .intro aC ae eE nY;exact fq aC ae eE (by rw[bJ];exact nY)
  .intro m hm;simp only[kV,List.mem_append];exact⟨.inl (lV m hm).1,λu hu=>by rw[(lV m hm).2]at hu;simp[I.ae]at hu⟩
 unfold o6 at h;split at h
 .rename_i hg;exact op _ (λ_ h=>h) (λaC _ eE hw=>by unfold o4;rw[hg];exact hw) h
 .rename_i t b hg;split at h
  .rename_i gI ab;split at h
   .rename_i e;refine op (t::use s o.b4) (λu hu=>by simp[hu]) (λaC ae eE hw=>?_) h;have:aC t=s t:=ae t (by simp);unfold o4;rw[hg];simp only[this,ab,if_pos e];exact hw
   .rename_i e;refine skip t (λaC ae eE hk=>?_) h;have:aC t=s t:=ae t (by simp);unfold o4;rw[hg];simp only[this,ab,if_neg e];exact hk
  .rename_i ab;refine skip t (λaC ae eE hk=>?_) h;have:aC t=s t:=ae t (by simp);unfold o4;rw[hg];simp only[this,ab];exact hk
  .exact h.elim
def x8 (C:cu) (ros:List cB):an->List (Nat×fJ×List ib)->Prop
 |_,[]=>True
 |s,e::r=>(∃o,ros[e.1]? =some o/\Jj C o s e.2.1 e.2.2)/\x8 C ros (eQ e.2.2 s) r
def s8 (s:an) (r:List (Nat×fJ×List ib)):an:=r.foldl (λs e=>eQ e.2.2 s) s
def rG (a b:aAf):Bool:=a.all λx=> !b.contains x
theorem B1 {a b:aAf} (h:rG a b=true):∀x∈a,x∉b:=by
 intro x aq;simp only[rG,List.all_eq_true]at h;simpa using h x aq
def zN (a b:fJ):Bool:=rG b.T a.dZ&&rG b.T a.H&&rG b.T a.T&&rG a.T b.dZ&&rG a.T b.H&&b.c
theorem ag5 {ros:List cB} {s:an} {a b:Nat×fJ×List ib} {r:List (Nat×fJ×List ib)} (h:x8 C ros s (a::b::r)) (aj:zN a.2.1 b.2.1=true):
  x8 C ros s (b::a::r)/\s8 s (b::a::r)=s8 s (a::b::r):=by
 obtain⟨⟨ag6,bs,J,a2,a3,a4⟩,⟨ck,ab,ha,fI,fV,bZ⟩,aR⟩:=h;simp only[zN,Bool.and_eq_true]at aj;obtain⟨⟨⟨⟨⟨pt,i2⟩,i3⟩,i4⟩,i5⟩,MH⟩:=aj;have Ol:∀u∈b.2.1.dZ,eQ a.2.2 s u=s u:=by
  intro u hu;refine agO _ _ _ (λm hm e=>?_) (bZ MH u hu);exact B1 i4 m.x (a2 m hm).1 (e▸hu)
 have Om:∀u∈a.2.1.dZ,eQ b.2.2 s u=s u:=by
  intro u hu;refine agP _ _ _ λm hm=>⟨λe=>?_,λaq=>?_⟩
  .exact B1 pt m.x (fI m hm).1 (e▸hu)
  .exact B1 i2 m.x (fI m hm).1 (a3 u hu _ aq)
 have WV:eQ b.2.2 (eQ a.2.2 s)=eQ a.2.2 (eQ b.2.2 s):=by
  refine agR _ _ _ λm hm n aV=>⟨λe=>?_,λh=>?_,λh=>?_⟩
  .exact B1 i3 n.x (fI n aV).1 (e▸(a2 m hm).1)
  .exact B1 i2 n.x (fI n aV).1 ((a2 m hm).2 _ h)
  .exact B1 i5 m.x (a2 m hm).1 ((fI n aV).2 _ h)
 refine⟨⟨⟨ck,ab,?_,fI,?_,?_⟩,⟨ag6,bs,?_,a2,?_,?_⟩,?_⟩,?_⟩
 .intro aC ae K hk;exact ha aC (λu hu=>(ae u hu).trans (Ol u hu).symm) K hk
 .intro u hu x aq;exact fV u hu x (by rw[Ol u hu];exact aq)
 .intro au u hu;have:=bZ au u hu
  rwa [Ol u hu]at this
 .intro aC ae K hk;exact J aC (λu hu=>(ae u hu).trans (Om u hu)) K hk
 .intro u hu x aq;rw[Om u hu]at aq;exact a3 u hu x aq
 .intro au u hu;rw[Om u hu];exact a4 au u hu
 .rw[<-WV];exact aR
 .simp only[s8,List.foldl_cons];rw[WV]
theorem ag7 {ros:List cB} {e:Nat×fJ×List ib} {post:List (Nat×fJ×List ib)}:∀(pre:List (Nat×fJ×List ib)) (s:an),x8 C ros s (pre++e::post)->(∀a∈pre,zN a.2.1 e.2.1=true)->
  x8 C ros s (e::(pre++post))/\s8 s (e::(pre++post))=s8 s (pre++e::post):=by
 intro pre;induction pre with
 |nil=>intro s h _;exact⟨h,rfl⟩
 |cons a pre ih=>
  intro s h aj;obtain⟨h1,af⟩:=h;obtain⟨g1,g2⟩:=ih _ af λb ab=>aj b (by simp[ab]);have au:x8 C ros s (a::e::(pre++post)):=⟨h1,g1⟩
  obtain⟨bV,cn⟩:=ag5 au (aj a (by simp));refine⟨bV,cn.trans ?_⟩;simp only[s8,List.foldl_cons,List.cons_append]at g2⊢;exact g2
end
def Fv:aAd->aAd->aAd
 |done,[]=>done
 |done,a::r=>Fv (done++[a++a.flatMap λe=>(done[e]?).getD []]) r
def nG (de:aAd):aAd:=Fv [] de
theorem ag8 {de:aAd} {l:aAf} (hl:∀u i v,l=u++i::v->∀e∈(de[i]?).getD [],e∈u):∀(rest pre done:aAd),de=pre++rest->done.length=pre.length->
  (∀u i v,l=u++i::v->∀e∈(done[i]?).getD [],e∈u)->∀u i v,l=u++i::v->∀e∈((Fv done rest)[i]?).getD [],e∈u:=by
 intro rest;induction rest with
 |nil=>intro pre done _ _ h;exact h
 |cons a rest ih=>
  intro pre done WW hlen h;simp only[Fv];refine ih (pre++[a]) _ (by simp[WW]) (by simp[hlen]) ?_;intro u i v hu e he;by_cases aj:i<done.length
  .rw[List.getElem?_append_left aj]at he;exact h u i v hu e he
  .rw[List.getElem?_append_right (by omega)]at he;by_cases uq:i-done.length=0
   .rw[uq]at he;simp only[List.getElem?_cons_zero,Option.getD_some,List.mem_append,List.mem_flatMap]at he;have Jl:(de[i]?).getD []=a:=by
     have:i=pre.length:=by omega
     rw[WW,this,List.getElem?_append_right (Nat.le_refl _)];simp
    rcases he with he|⟨fS,qW,he⟩
    .exact hl u i v hu e (by rw[Jl];exact he)
    .have E5:=hl u i v hu fS (by rw[Jl];exact qW);obtain⟨v_,x9,rfl⟩:=List.append_of_mem E5;have:=h v_ fS (x9++i::v) (by rw[hu];simp) e he;simp[this]
   .rw[List.getElem?_eq_none (by simp;omega)]at he;simp at he
theorem ag9 {de:aAd} {l:aAf} (hl:∀u i v,l=u++i::v->∀e∈(de[i]?).getD [],e∈u):∀u i v,l=u++i::v->∀e∈((nG de)[i]?).getD [],e∈u:=
 ag8 hl de [] [] rfl rfl λu i v _ e he=>by simp at he
def kG (cl:aAd):Nat->List (Nat×fJ)->List fJ->Bool
 |_,_,[]=>true
 |j,es,f::aG=>(es.all λe=>((cl[j]?).getD []).contains e.1||zN e.2 f)&&kG cl (j+1) ((j,f)::es) aG
def On (cl:aAd) (a b:Nat×fJ×List ib):Prop:=a.1∈(cl[b.1]?).getD []\/zN a.2.1 b.2.1=true
theorem ag_ {cl:aAd}:∀(iZ:List (Nat×fJ×List ib)) (j:Nat) (es:List (Nat×fJ)),iZ.map (·.1)=(List.range iZ.length).map (·+j)->kG cl j es (iZ.map (·.2.1))=true->
  iZ.Pairwise (On cl)/\∀e∈es,∀b∈iZ,e.1∈(cl[b.1]?).getD []\/zN e.2 b.2.1=true:=by
 intro iZ;induction iZ with
 |nil=>intro j es _ _;exact⟨.nil,λe _ b ab=>by cases ab⟩
 |cons a iZ ih=>
  intro j es zO gv;rw[List.length_cons,List.range_succ_eq_map,List.map_cons,List.map_cons,List.map_map]at zO;simp only[List.cons.injEq,Nat.zero_add]at zO;obtain⟨bE,zO⟩:=zO;simp only[List.map_cons,kG,Bool.and_eq_true,List.all_eq_true,Bool.or_eq_true]at gv;obtain⟨h1,af⟩:=gv;obtain⟨g1,g2⟩:=ih (j+1) _ (by rw[zO];congr 1;funext x;simp;omega) af;refine⟨.cons (λb ab=>?_) g1,λe he b ab=>?_⟩
  .have:=g2 (j,a.2.1) (by simp) b ab;simp only[On,bE];exact this
  .rcases List.mem_cons.1 ab with rfl|ab
   .rw[bE];exact(h1 e he).imp (λh=>by simpa using h) id
   .exact g2 e (by simp[he]) b ab
section
variable {C:cu}
theorem aha {K:Option (List fJ)->an->Prop}:∀(os pre:List cB) (s:an) (acc:List fJ),dD C s os (some acc) K->
  ∃iZ,x8 C (pre++os) s iZ/\iZ.map (·.1)=(List.range os.length).map (·+pre.length)/\K (some ((iZ.map (·.2.1)).reverse++acc)) (s8 s iZ):=by
 intro os;induction os with
 |nil=>intro pre s acc h;exact⟨[],trivial,rfl,h⟩
 |cons o os ih=>
  intro pre s acc h;obtain⟨nF,ms,h1,af⟩:=ag4 h;obtain⟨iZ,g1,g2,g3⟩:=ih (pre++[o]) _ (nF::acc) h1;refine⟨(pre.length,nF,ms)::iZ,⟨⟨o,?_,af⟩,?_⟩,?_,?_⟩
  .rw[List.getElem?_append_right (Nat.le_refl _)];simp
  .simpa using g1
  .rw[List.length_cons,List.range_succ_eq_map,List.map_cons,List.map_cons,List.map_map,g2];simp only[List.cons.injEq,Nat.zero_add,true_and];congr 1;funext x;simp;omega
  .simpa [s8]using g3
theorem ahb {ros:List cB} {cl:aAd} {K:an->Prop}:∀(l:aAf) (iZ:List (Nat×fJ×List ib)) (s:an),x8 C ros s iZ->iZ.Pairwise (On cl)->l.Nodup->(iZ.map (·.1)).Nodup->
  (∀i,i∈l↔i∈iZ.map (·.1))->(∀u i v,l=u++i::v->∀e∈(cl[i]?).getD [],e∈iZ.map (·.1)->e∈u)->K (s8 s iZ)->kT C ros s l K:=by
 intro l;induction l with
 |nil=>
  intro iZ s _ _ _ _ hm _ hk;cases iZ with
  |nil=>exact hk
  |cons e iZ=>have:=(hm e.1).2 (by simp);cases this
 |cons i l ih=>
  intro iZ s au aw aV xT hm bG hk;obtain⟨e,he,aj⟩:=List.mem_map.1 ((hm i).1 (by simp));obtain⟨pre,post,rfl⟩:=List.append_of_mem he;have ahc:∀a∈pre,zN a.2.1 e.2.1=true:=by
   intro a bs;have aR:=(List.pairwise_append.1 aw).2.2 a bs e (by simp);rcases aR with aR|aR
   .rw[aj]at aR;have:=bG [] i l rfl a.1 aR (by simp only[List.map_append,List.mem_append,List.mem_map];exact .inl ⟨a,bs,rfl⟩);cases this
   .exact aR
  obtain⟨g1,g2⟩:=ag7 pre s au ahc;obtain⟨⟨o,ahd,zK⟩,g3⟩:=g1;have WX:i∉(pre++post).map (·.1):=by
   have:(pre.map (·.1)++e.1::post.map (·.1)).Nodup:=by simpa using xT
   have bL:=(List.perm_middle.nodup_iff.1 this)
   rw[List.nodup_cons]at bL;rw[<-aj];simpa using bL.1
  simp only[kT];rw[<-aj,ahd];refine zK.1 s (λ_ _=>rfl) _ ?_;rw[List.nodup_cons]at aV;refine ih (pre++post) _ g3 ?_ aV.2 ?_ ?_ ?_ ?_
  .exact aw.sublist ((List.Sublist.refl pre).append (List.sublist_cons_self e post))
  .have:(pre.map (·.1)++e.1::post.map (·.1)).Nodup:=by simpa using xT
   have bL:=(List.perm_middle.nodup_iff.1 this)
   rw[List.nodup_cons]at bL;simpa using bL.2
  .intro j;constructor
   .intro bE;have h1:=(hm j).1 (by simp[bE]);simp only[List.map_append,List.map_cons,List.mem_append,List.mem_cons]at h1⊢;rcases h1 with h1|rfl|h1
    .exact .inl h1
    .exact(aV.1 (aj▸bE)).elim
    .exact .inr h1
   .intro bE;have h1:=(hm j).2 (by
     simp only[List.map_append,List.map_cons,List.mem_append,List.mem_cons]at bE⊢;exact bE.imp id .inr)
    rcases List.mem_cons.1 h1 with rfl|h1
    .exact(WX bE).elim
    .exact h1
  .intro u j v hu x aq Oo;have h1:=bG (i::u) j v (by rw[hu];rfl) x aq (by
    simp only[List.map_append,List.map_cons,List.mem_append,List.mem_cons]at Oo⊢;exact Oo.imp id .inr)
   rcases List.mem_cons.1 h1 with rfl|h1
   .exact(WX Oo).elim
   .exact h1
  .have:s8 s (e::(pre++post))=s8 (eQ e.2.2 s) (pre++post):=rfl;rw[<-this,g2];exact hk
theorem Jm {ros:List cB} {de:aAd} {s:an} {K:an->Prop} (hlen:de.length=ros.length)
  (h:dD C s ros (some []) (λacc s=>kG (nG de) 0 [] (acc.getD []).reverse=true/\K s)):∀l,s5 de l->kT C ros s l K:=by
 intro l ⟨fO,l2,E7⟩;obtain⟨iZ,g1,g2,g3,g4⟩:=aha ros [] s [] h;simp only[List.nil_append,List.append_nil,List.length_nil,Option.getD_some,List.reverse_reverse]at g1 g2 g3;have hl:iZ.length=ros.length:=by have:=congrArg List.length g2;simpa using this
 have zO:iZ.map (·.1)=(List.range iZ.length).map (·+0):=by rw[g2,hl]
 have aR:iZ.map (·.1)=List.range ros.length:=by rw[g2];simp
 obtain⟨gO,_⟩:=ag_ iZ 0 [] zO g3;refine ahb l iZ s g1 gO fO (by rw[aR];exact List.nodup_range) (λi=>?_) (λu i v hu e he _=>ag9 E7 u i v hu e he) g4;rw[aR,l2,hlen,List.mem_range]
end
def pL (C:cu) (dst:Option Nat) (os:List cB) (K:Option (List fJ)->an->Prop):Option (I×an)->Prop
 |some (av,s1)=>dD C (fin s1 dst av) os none K
 |none=>False
def qd (C:cu) (l:aAj) (dZ dG:aAf) (dst:Option Nat) (os:List cB) (a:List fJ) (K:Option (List fJ)->an->Prop):Option (I×an)->Prop
 |some (av,s1)=>dD C (fin s1 dst av) os (some (kV (ar l) dZ dst dG av::a)) K
 |none=>False
def lW (C:cu) (l:aAj) (dst:Option Nat) (b4:e2) (t:Nat) (b:Bool) (os:List cB) (acc:Option (List fJ)) (K:Option (List fJ)->an->Prop):I->Prop
 | .bool gI=>if gI=b then qY C (ar l) b4 (λdG av s1=>dD C (fin s1 dst av) os (s7 acc (kV (ar l) (t::use (ar l) b4) dst dG av)) K)else dD C (fin (ar l) dst (.tuple [])) os (s7 acc (kV (ar l) [t] dst [] (.tuple []))) K
 | .tuple []=>dD C (fin (ar l) dst (.tuple [])) os (s7 acc (kV (ar l) [t] dst [] (.tuple []))) K
 |_=>False
section
variable {C:cu} {l:aAj} {os:List cB} {K:Option (List fJ)->an->Prop} {dst:Option Nat} {a:List fJ} {acc:Option (List fJ)}
theorem Jn {s:an} {b4:e2} {K:aAf->I->an->Prop} (aV:b4.jY=false):qY C s b4 K=(match ch C s b4 with
  |some (av,s1)=>K (lr s b4) av s1
  |none=>False):=by
 apply propext;constructor
 .intro h;cases b4<;>first
   |(simp[e2.jY]at aV;done)
   |(obtain⟨av,s1,h1,af⟩:=h;rw[h1];exact af)
 .intro h;split at h
  .rename_i av s1 he;cases b4<;>first
    |(simp[e2.jY]at aV;done)
    |exact⟨av,s1,he,h⟩
  .exact h.elim
theorem WY:dD C (ar l) [] acc K=K acc (ar l):=rfl
theorem wa {b4:e2} (aV:b4.jY=false):dD C (ar l) (⟨dst,b4,none⟩::os) none K=pL C dst os K (ch C (ar l) b4):=by
 simp only[dD,o6,s7];rw[Jn aV];cases ch C (ar l) b4 with
 |none=>rfl
 |some p=>rfl
theorem x_ {b4:e2} (aV:b4.jY=false):dD C (ar l) (⟨dst,b4,none⟩::os) (some a) K=qd C l (use (ar l) b4) (lr (ar l) b4) dst os a K (ch C (ar l) b4):=by
 simp only[dD,o6,s7];rw[Jn aV];cases ch C (ar l) b4 with
 |none=>rfl
 |some p=>rfl
theorem WZ {b4:e2} {t:Nat} {b:Bool}:dD C (ar l) (⟨dst,b4,some (t,b)⟩::os) acc K=lW C l dst b4 t b os acc K (ar l t):=by
 simp only[dD,o6];generalize ar l t=v;cases v<;>first|rfl|(rename_i vs;cases vs<;>rfl)
theorem Oq {b4:e2} {t:Nat} {b:Bool} (aV:b4.jY=false):lW C l dst b4 t b os none K (.bool b)=pL C dst os K (ch C (ar l) b4):=by
 simp only[lW,if_true];rw[Jn aV];cases ch C (ar l) b4 with
 |none=>rfl
 |some p=>rfl
theorem Ot {b4:e2} {t:Nat} {b:Bool} (aV:b4.jY=false):lW C l dst b4 t b os (some a) K (.bool b)=qd C l (t::use (ar l) b4) (lr (ar l) b4) dst os a K (ch C (ar l) b4):=by
 simp only[lW,if_true];rw[Jn aV];cases ch C (ar l) b4 with
 |none=>rfl
 |some p=>rfl
theorem ahe {b4:e2} {t:Nat}:lW C l dst b4 t true os none K (.bool false)=dD C (fin (ar l) dst (.tuple [])) os none K/\lW C l dst b4 t false os none K (.bool true)=dD C (fin (ar l) dst (.tuple [])) os none K/\
  (∀b,lW C l dst b4 t b os none K (.tuple [])=dD C (fin (ar l) dst (.tuple [])) os none K):=⟨rfl,rfl,λ_=>rfl⟩
theorem ahf {b4:e2} {t:Nat}:lW C l dst b4 t true os (some a) K (.bool false)=dD C (fin (ar l) dst (.tuple [])) os (some (kV (ar l) [t] dst [] (.tuple [])::a)) K/\
  lW C l dst b4 t false os (some a) K (.bool true)=dD C (fin (ar l) dst (.tuple [])) os (some (kV (ar l) [t] dst [] (.tuple [])::a)) K/\
  (∀b,lW C l dst b4 t b os (some a) K (.tuple [])=dD C (fin (ar l) dst (.tuple [])) os (some (kV (ar l) [t] dst [] (.tuple [])::a)) K):=⟨rfl,rfl,λ_=>rfl⟩
theorem ahg (av:I) (s1:an):pL C dst os K (some (av,s1))=dD C (fin s1 dst av) os none K:=rfl
theorem ahh (dZ dG:aAf) (av:I) (s1:an):qd C l dZ dG dst os a K (some (av,s1))=dD C (fin s1 dst av) os (some (kV (ar l) dZ dst dG av::a)) K:=rfl
def wb (s:an):I->Option (I×an)
 | .h y q=>dG s (.h y q)
 |d=>some (d,s)
def W0 (s:an):I->I->I->Option (I×an)
 | .bool gI,x,y=>some (if gI then x else y,s)
 |_,_,_=>none
def lv (s:an):Option I->Option (I×an)
 |some d=>some (d,s)
 |none=>none
def da:Option an->Option (I×an)
 |some s1=>some (.hole,s1)
 |none=>none
def lx (s:an):List bA->aAk
 |[]=>[]
 |x::xs=>bx s x::lx s xs
def ya (s:an):List (Nat×bA)->aAj
 |[]=>[]
 |(k,x)::xs=>(k,bx s x)::ya s xs
def Fw (s:an):Option bA->Option I
 |none=>none
 |some x=>some (bx s x)
theorem Ou (s:an) (x:Option I):(x.map λd=>(d,s))=lv s x:=by cases x<;>rfl
theorem W1 (x:Option an):(x.map λs1=>(I.hole,s1))=da x:=by cases x<;>rfl
theorem B2 (s:an):∀xs:List bA,xs.map (bx s)=lx s xs
 |[]=>rfl
 |x::xs=>by simp only[List.map_cons,lx,B2 s xs]
theorem W2 (s:an):∀xs:List (Nat×bA),(xs.map λp=>(p.1,bx s p.2))=ya s xs
 |[]=>rfl
 |(k,x)::xs=>by simp only[List.map_cons,ya,W2 s xs]
theorem ahi (s:an) (x:Option bA):x.map (bx s)=Fw s x:=by cases x<;>rfl
theorem W3:(∀x,e2.jY (.ht x)=false)/\
  (∀x,e2.jY (.hN x)=false)/\
  (∀c x y,e2.jY (.pick c x y)=false)/\
  (∀T,e2.jY (.mR T)=false)/\
  (∀T x,e2.jY (.ir T x)=false)/\
  (∀T ps,e2.jY (.gB T ps)=false)/\
  (∀T n ps,e2.jY (.dM T n ps)=false)/\
  (∀T x,e2.jY (.ld T x)=false)/\
  (∀T x y,e2.jY (.k3 T x y)=false)/\
  (∀x,e2.jY (.mA x)=false)/\
  (∀op T x y,e2.jY (.eP op T x y)=false)/\
  (∀op x,e2.jY (.un op x)=false)/\
  (∀A B x,e2.jY (.k5 A B x)=false)/\
  (∀f cs,e2.jY (.p9 f cs)=false)/\
  (∀T x y,e2.jY (.fi T x y)=false)/\
  (∀T x fP aj,e2.jY (.iJ T x fP aj)=false)/\
  (∀T x k,e2.jY (.hV T x k)=false)/\
  (∀T x y,e2.jY (.kg T x y)=false)/\
  (∀T x y,e2.jY (.idx T x y)=false)/\
  (∀x k,e2.jY (.ex x k)=false)/\
  (∀T x,e2.jY (.len T x)=false)/\
  (∀T dZ x y,e2.jY (.app T dZ x y)=false):=by
 and_intros<;>intros<;>rfl
theorem W4:(∀x,ch C (ar l) (.ht x)=some (bx (ar l) x,ar l))/\
  (∀x,ch C (ar l) (.hN x)=wb (ar l) (bx (ar l) x))/\
  (∀c x y,ch C (ar l) (.pick c x y)=W0 (ar l) (bx (ar l) c) (bx (ar l) x) (bx (ar l) y))/\
  (∀T,ch C (ar l) (.mR T)=lv (ar l) (mR C T))/\
  (∀T x,ch C (ar l) (.ir T x)=ir (ar l) (bx (ar l) x))/\
  (∀T ps,ch C (ar l) (.gB T ps)=gB C (ar l) T (ya (ar l) ps))/\
  (∀T n ps,ch C (ar l) (.dM T n ps)=dM C (ar l) T n (ya (ar l) ps))/\
  (∀T x,ch C (ar l) (.ld T x)=lv (ar l) (ld C (ar l) T (bx (ar l) x)))/\
  (∀T x y,ch C (ar l) (.k3 T x y)=da (k3 C (ar l) T (bx (ar l) x) (bx (ar l) y)))/\
  (∀x,ch C (ar l) (.mA x)=lv (ar l) (mA (ar l) (bx (ar l) x)))/\
  (∀op T x y,ch C (ar l) (.eP op T x y)=lv (ar l) (eP C (ar l) op T (bx (ar l) x) (bx (ar l) y)))/\
  (∀op x,ch C (ar l) (.un op x)=lv (ar l) (un op (bx (ar l) x)))/\
  (∀A B x,ch C (ar l) (.k5 A B x)=lv (ar l) (k5 C (ar l) A B (bx (ar l) x)))/\
  (∀f cs,ch C (ar l) (.p9 f cs)=some (.fn f (lx (ar l) cs),ar l))/\
  (∀T x y,ch C (ar l) (.fi T x y)=lv (ar l) (fi C T (bx (ar l) x) (bx (ar l) y)))/\
  (∀T x fP aj,ch C (ar l) (.iJ T x fP aj)=iJ C (ar l) T (bx (ar l) x) (Fw (ar l) fP) (Fw (ar l) aj))/\
  (∀T x k,ch C (ar l) (.hV T x k)=lv (ar l) (hV C (ar l) T (bx (ar l) x) k))/\
  (∀T x y,ch C (ar l) (.kg T x y)=lv (ar l) (kg C (ar l) T (bx (ar l) x) (bx (ar l) y)))/\
  (∀T x y,ch C (ar l) (.idx T x y)=lv (ar l) (idx C T (bx (ar l) x) (bx (ar l) y)))/\
  (∀x k,ch C (ar l) (.ex x k)=lv (ar l) (ex (ar l) (bx (ar l) x) k))/\
  (∀T x,ch C (ar l) (.len T x)=lv (ar l) (vQ C (ar l) T (bx (ar l) x)))/\
  (∀T dZ x y,ch C (ar l) (.app T dZ x y)=vU C (ar l) T dZ (bx (ar l) x) (bx (ar l) y)):=by
 and_intros<;>intros<;>first|rfl|(simp only[ch,Ou,W1,W2,B2,ahi];done)|(simp only[ch];cases bx (ar l) _<;>first|rfl|(rename_i b;cases b<;>rfl))
end
theorem W5:∀t d,ud t d=if I.plain d=true then d else .h t []:=λ_ _=>rfl
theorem W6:(∀l av,fin (ar l) none av=ar l)/\(∀l t av,fin (ar l) (some t) av=ar ((t,av)::if I.plain av=true then l else v7 t l)):=
 ⟨λ_ _=>rfl,λl t av=>by
  simp only[fin];split
  .rw[Fq]
  .rw[Of,Fq]⟩
theorem Ov:
  (∀k n,I.plain (.int k n)=true)/\
  (∀b,I.plain (.bool b)=true)/\
  (∀x,I.plain (.str x)=true)/\
  (∀xs,I.plain (.slice xs)=true)/\
  (∀d,I.plain (.ref d)=true)/\
  (∀f cap,I.plain (.fn f cap)=true)/\
  (∀x q,I.plain (.h x q)=true)/\
  (∀x q,I.plain (.aw x q)=true)/\
  (I.plain .et=true)/\
  (I.plain .bf=true)/\
  (I.plain .gq=true)/\
  (I.plain .hole=true)/\
  (∀sz xs,I.plain (.ag sz xs)=false)/\
  (∀d,I.plain (.aP d)=false)/\
  (∀aG,I.plain (.agg aG)=I.e6 aG)/\
  (∀aG,I.plain (.tuple aG)=I.e6 aG)/\
  (I.e6 []=true)/\
  (∀d ds,I.e6 (d::ds)=(d.plain&&I.e6 ds)):=
 ⟨λ_ _=>rfl,λ_=>rfl,λ_=>rfl,λ_=>rfl,λ_=>rfl,λ_ _=>rfl,λ_ _=>rfl,λ_ _=>rfl,rfl,rfl,rfl,rfl,λ_ _=>rfl,λ_=>rfl,λ_=>rfl,λ_=>rfl,rfl,λ_ _=>rfl⟩
theorem W7:∀s d,wb s d=match d with| .h y q=>dG s (.h y q)|d=>some (d,s):=λ_ _=>by unfold wb;rfl
theorem W8:
  (∀t k n,dJ t (.int k n)=(.int k n))/\
  (∀t b,dJ t (.bool b)=(.bool b))/\
  (∀t x,dJ t (.str x)=(.str x))/\
  (∀t xs,dJ t (.slice xs)=(.slice xs))/\
  (∀t d,dJ t (.ref d)=(.ref d))/\
  (∀t,dJ t .et= .et)/\
  (∀t,dJ t .bf= .bf)/\
  (∀t,dJ t .gq= .gq)/\
  (∀t,dJ t .hole= .hole)/\
  (∀t sz xs,dJ t (.ag sz xs)=(.ag sz xs))/\
  (∀t d,dJ t (.aP d)=(.aP d))/\
  (∀t aG,dJ t (.agg aG)=(.agg aG))/\
  (∀t aG,dJ t (.tuple aG)=(.tuple aG))/\
  (∀t y q,dJ t (.h y q)=if y=t then .hole else .h y q)/\
  (∀t y q,dJ t (.aw y q)=if y=t then .hole else .aw y q)/\
  (∀t f c,dJ t (.fn f c)= .fn f (lo t c))/\
  (∀t,lo t []=[])/\
  (∀t d ds,lo t (d::ds)=dJ t d::lo t ds)/\
  (∀t,v7 t []=[])/\
  (∀t u d l,v7 t ((u,d)::l)=(u,dJ t d)::v7 t l)/\
  (∀t l,oZ t (ar l)=ar (v7 t l)):=
 ⟨λ_ _ _=>by unfold dJ;rfl,λ_ _=>by unfold dJ;rfl,λ_ _=>by unfold dJ;rfl,λ_ _=>by unfold dJ;rfl,λ_ _=>by unfold dJ;rfl,λ_=>by unfold dJ;rfl,λ_=>by unfold dJ;rfl,λ_=>by unfold dJ;rfl,λ_=>by unfold dJ;rfl,λ_ _ _=>by unfold dJ;rfl,λ_ _=>by unfold dJ;rfl,λ_ _=>by unfold dJ;rfl,λ_ _=>by unfold dJ;rfl,λ_ _ _=>by unfold dJ;rfl,λ_ _ _=>by unfold dJ;rfl,λ_ _ _=>by simp only[dJ],λ_=>by simp only[lo],λ_ _ _=>by simp only[lo],λ_=>rfl,λ_ _ _ _=>rfl,λt l=>Of t l⟩
theorem W9:
  (∀t k n,cU t (.int k n)=(.int k n))/\
  (∀t b,cU t (.bool b)=(.bool b))/\
  (∀t x,cU t (.str x)=(.str x))/\
  (∀t xs,cU t (.slice xs)=(.slice xs))/\
  (∀t d,cU t (.ref d)=(.ref d))/\
  (∀t,cU t .et= .et)/\
  (∀t,cU t .bf= .bf)/\
  (∀t,cU t .gq= .gq)/\
  (∀t,cU t .hole= .hole)/\
  (∀t sz xs,cU t (.ag sz xs)=(.ag sz xs))/\
  (∀t d,cU t (.aP d)=(.aP d))/\
  (∀t aG,cU t (.agg aG)=(.agg aG))/\
  (∀t aG,cU t (.tuple aG)=(.tuple aG))/\
  (∀t y,cU t (.h y [])= .h y [])/\
  (∀t y k q,cU t (.h y (k::q))=if y=t then .hole else .h y (k::q))/\
  (∀t y q,cU t (.aw y q)=if y=t then .hole else .aw y q)/\
  (∀t f c,cU t (.fn f c)= .fn f (kO t c))/\
  (∀t,kO t []=[])/\
  (∀t d ds,kO t (d::ds)=cU t d::kO t ds)/\
  (∀t,zL t []=[])/\
  (∀t u d l,zL t ((u,d)::l)=(u,cU t d)::zL t l)/\
  (∀t l,js t (ar l)=ar (zL t l)):=
 ⟨λ_ _ _=>by unfold cU;rfl,λ_ _=>by unfold cU;rfl,λ_ _=>by unfold cU;rfl,λ_ _=>by unfold cU;rfl,λ_ _=>by unfold cU;rfl,λ_=>by unfold cU;rfl,λ_=>by unfold cU;rfl,λ_=>by unfold cU;rfl,λ_=>by unfold cU;rfl,λ_ _ _=>by unfold cU;rfl,λ_ _=>by unfold cU;rfl,λ_ _=>by unfold cU;rfl,λ_ _=>by unfold cU;rfl,λ_ _=>by simp[cU],λ_ _ _ _=>by simp[cU],λ_ _ _=>by unfold cU;rfl,λ_ _ _=>by simp only[cU],λ_=>by simp only[kO],λ_ _ _=>by simp only[kO],λ_=>rfl,λ_ _ _ _=>rfl,λt l=>agK t l⟩
def Ow:qK->Bool->Option I
 | .bool,b=>some (.bool b)
 |_,_=>none
def yb (neg:Bool):qK->Option aAg->Option I
 | .slice _,some r=>some (sR neg r)
 |_,_=>none
def zP (neg:Bool):qK->aAg->Option I
 | .ptr _,some b=>some (.bool (b !=neg))
 |_,_=>none
theorem W_ (C:cu) (s:an) (T:TypeId):
  (∀op k a dr b,eP C s op T (.int k a) (.int dr b)=k4 op k a dr b)/\
  (∀op a b,eP C s op T (.str a) (.str b)=qO op a b)/\
  (∀a b,eP C s .eql T (.bool a) (.bool b)=Ow (C.T T).k (a==b))/\
  (∀a b,eP C s .neq T (.bool a) (.bool b)=Ow (C.T T).k (!(a==b)))/\
  (∀xs,eP C s .eql T (.slice xs) .bf=yb false (C.T T).k (mh s (.slice xs)))/\
  (∀xs,eP C s .neq T (.slice xs) .bf=yb true (C.T T).k (mh s (.slice xs)))/\
  (eP C s .eql T .bf .bf=yb false (C.T T).k (mh s .bf))/\
  (eP C s .neq T .bf .bf=yb true (C.T T).k (mh s .bf))/\
  (∀x q,eP C s .eql T (.h x q) .bf=yb false (C.T T).k (mh s (.h x q)))/\
  (∀x q,eP C s .neq T (.h x q) .bf=yb true (C.T T).k (mh s (.h x q)))/\
  (∀x q,eP C s .eql T (.h x q) .et=zP false (C.T T).k (oz s (.h x q)))/\
  (∀x q,eP C s .neq T (.h x q) .et=zP true (C.T T).k (oz s (.h x q)))/\
  (∀d,eP C s .eql T (.ref d) .et=zP false (C.T T).k (oz s (.ref d)))/\
  (∀d,eP C s .neq T (.ref d) .et=zP true (C.T T).k (oz s (.ref d)))/\
  (eP C s .eql T .et .et=zP false (C.T T).k (oz s .et))/\
  (eP C s .neq T .et .et=zP true (C.T T).k (oz s .et)):=by
 refine⟨?_,?_,?_,?_,?_,?_,?_,?_,?_,?_,?_,?_,?_,?_,?_,?_⟩<;>intros<;>first
  |rfl
  |(simp only[eP]
    generalize (C.T T).k=ny;cases ny<;>first|rfl|(simp only[yb];generalize mh s _=v;cases v<;>rfl)|(simp only[zP];generalize oz s _=v;cases v<;>(try (rename_i b;cases b))<;>rfl))
theorem Xa (k:IntKind) (a b:Int):
  k4 .add k a k b=some (.int k (k.wrap (a+b)))/\k4 .sub k a k b=some (.int k (k.wrap (a-b)))/\k4 .mul k a k b=some (.int k (k.wrap (a*b)))/\
  k4 .eql k a k b=some (.bool (a==b))/\k4 .neq k a k b=some (.bool (a !=b))/\k4 .lss k a k b=some (.bool (decide (a<b)))/\k4 .leq k a k b=some (.bool (decide (a<=b)))/\
  k4 .gtr k a k b=some (.bool (decide (b<a)))/\k4 .geq k a k b=some (.bool (decide (b<=a)))/\
  k4 .and k a k b=some (.int k (bitsOf .and k a b))/\k4 .or k a k b=some (.int k (bitsOf .or k a b))/\k4 .xor k a k b=some (.int k (bitsOf .xor k a b))/\k4 .andNot k a k b=some (.int k (bitsOf .andNot k a b)):=by
 simp[k4]
theorem ahj {k:IntKind} {a b:Int} (h:b≠0):k4 .quo k a k b=some (.int k (k.wrap (a.tdiv b))):=by simp[k4,h]
theorem ahk {k:IntKind} {a b:Int} (h:b≠0):k4 .rem k a k b=some (.int k (a.tmod b)):=by simp[k4,h]
theorem Xb (a b:aAc):
  qO .eql a b=some (.bool (a==b))/\qO .neq a b=some (.bool !(a==b))/\qO .lss a b=some (.bool (Op.bytesLess a b))/\
  qO .leq a b=some (.bool (Op.bytesLess a b||a==b))/\qO .gtr a b=some (.bool !(Op.bytesLess a b||a==b))/\qO .geq a b=some (.bool !(Op.bytesLess a b)):=by
 refine⟨rfl,rfl,rfl,rfl,rfl,rfl⟩
theorem Xc:(∀b,un .not (.bool b)=some (.bool !b))/\(un .not .gq=some .gq)/\(∀k n,un .neg (.int k n)=some (.int k (k.wrap (0-n)))):=⟨λ_=>rfl,rfl,λ_ _=>rfl⟩
def Ox:qK->Option UInt8->Option I
 | .str,some c=>some (.int .u8 c.toNat)
 |_,_=>none
theorem Xd (C:cu) (T:TypeId) (l:aAc) (k:IntKind) (n:Int):idx C T (.str l) (.int k n)=Ox (C.T T).k (bh l n):=by
 simp only[idx,bh];generalize (C.T T).k=ny;cases ny<;>first|rfl|(simp only[Ox];split<;>first|rfl|(cases l[n.toNat]? <;>rfl))
def Oy (C:cu):qK->Option I->Option I
 | .slice e,some d=>if(C.T e).ok=true/\d.wd=(C.T e).sz then some (.ref d)else none
 |_,_=>none
theorem Xe (C:cu) (s:an) (T:TypeId) (xs:aAk) (k:IntKind) (n:Int):kg C s T (.slice xs) (.int k n)=Oy C (C.T T).k (bh xs n):=by
 simp only[kg,bh];generalize (C.T T).k=ny;cases ny<;>first|rfl|skip
 simp only[Oy];by_cases a7:0<=n
 .simp only[a7,true_and,if_true];split
  .cases xs[n.toNat]? <;>simp[*]
  .cases xs[n.toNat]? <;>simp[*]
 .simp only[a7,false_and,if_false]
def Fx (C:cu) (y:Nat) (q:aAf) (n:Int):qK->Option I->Option I
 | .slice e,some (.ag sz xs)=>if(bh xs n).isSome=true/\(C.T e).ok=true/\sz=(C.T e).sz then some (.aw y (q++[n.toNat]))else none
 |_,_=>none
theorem Xf (C:cu) (s:an) (T:TypeId) (y:Nat) (q:aAf) (k:IntKind) (n:Int):kg C s T (.h y q) (.int k n)=Fx C y q n (C.T T).k (I.sub q (s y)):=by
 simp only[kg];generalize (C.T T).k=ny;cases ny<;>first|rfl|skip
 rename_i e;cases ae:I.sub q (s y)with
 |none=>simp[Fx]
 |some d=>
  cases d<;>first
   |(simp[Fx];done)
   |skip
  rename_i sz xs;have hg:(bh xs n).isSome=true↔0<=n/\n.toNat<xs.length:=by
   unfold bh;split<;>simp_all<;>omega
  simp only[Fx,hg];by_cases a7:0<=n<;>by_cases h1:(C.T e).ok=true<;>simp[a7,h1]
def B3:qK->an->Option aAc->Option (I×an)
 | .str,s,some t=>some (.str t,s)
 |_,_,_=>none
def B4 (C:cu):qK->an->aAk->Option aAk->Option (I×an)
 | .slice e,s,xs,some t=>if(C.T e).ok=true/\∀d∈xs,d.wd=(C.T e).sz then some (.slice t,s)else none
 |_,_,_,_=>none
theorem Xg (C:cu) (s:an) (T:TypeId) (l:aAc):
  (∀k a dr b,iJ C s T (.str l) (some (.int k a)) (some (.int dr b))=B3 (C.T T).k s (gp l a b))/\
  (∀dr b,iJ C s T (.str l) none (some (.int dr b))=B3 (C.T T).k s (gp l 0 b))/\
  (∀k a,iJ C s T (.str l) (some (.int k a)) none=B3 (C.T T).k s (gp l a l.length)):=by
 have e:∀(fP aj:Option I) (a b:Int),(jR 0 fP=if 0<=a then some a.toNat else none)->(jR l.length aj=if 0<=b then some b.toNat else none)->iJ C s T (.str l) fP aj=B3 (C.T T).k s (gp l a b):=by
  intro fP aj a b h1 af;simp only[iJ];generalize (C.T T).k=ny;cases ny<;>first|rfl|skip
  simp only[h1,af,gp];by_cases bs:0<=a<;>by_cases ab:0<=b<;>simp only[bs,ab,if_true,if_false,B3,true_and,false_and]
  .by_cases au:a<=b/\b<=l.length
   .rw[if_pos ⟨by omega,by omega⟩,if_pos au]
   .rw[if_neg (λh=>au ⟨by omega,by omega⟩),if_neg au]
  .rw[if_neg (by omega)]
 exact⟨λk a dr b=>e _ _ a b rfl rfl,λdr b=>e _ _ 0 b rfl rfl,λk a=>e _ _ a l.length rfl (by simp[jR])⟩
theorem Xh (C:cu) (s:an) (T:TypeId) (xs:aAk):
  (∀k a dr b,iJ C s T (.slice xs) (some (.int k a)) (some (.int dr b))=B4 C (C.T T).k s xs (gp xs a b))/\
  (∀dr b,iJ C s T (.slice xs) none (some (.int dr b))=B4 C (C.T T).k s xs (gp xs 0 b))/\
  (∀k a,iJ C s T (.slice xs) (some (.int k a)) none=B4 C (C.T T).k s xs (gp xs a xs.length)):=by
 have e:∀(fP aj:Option I) (a b:Int),(jR 0 fP=if 0<=a then some a.toNat else none)->(jR xs.length aj=if 0<=b then some b.toNat else none)->iJ C s T (.slice xs) fP aj=B4 C (C.T T).k s xs (gp xs a b):=by
  intro fP aj a b h1 af;simp only[iJ];generalize (C.T T).k=ny;cases ny<;>first|rfl|skip
  simp only[h1,af,gp];by_cases bs:0<=a<;>by_cases ab:0<=b<;>simp only[bs,ab,if_true,if_false,B4,true_and,false_and]
  .by_cases au:a<=b/\b<=xs.length
   .rw[if_pos au];have h1:a.toNat<=b.toNat:=by omega
    have af:b.toNat<=xs.length:=by omega
    simp only[h1,af,true_and]
   .rw[if_neg (λh=>au ⟨by omega,by omega⟩),if_neg au]
  .rw[if_neg (by omega)]
 exact⟨λk a dr b=>e _ _ a b rfl rfl,λdr b=>e _ _ 0 b rfl rfl,λk a=>e _ _ a xs.length rfl (by simp[jR])⟩
def Fy (q:aAf):Option I->Option I
 |some d=>I.sub q d
 |none=>none
theorem Xi:(∀d,I.sub [] d=some d)/\(∀k q aG,I.sub (k::q) (.agg aG)=Fy q aG[k]?)/\(∀k q aG,I.sub (k::q) (.tuple aG)=Fy q aG[k]?)/\(∀k q sz xs,I.sub (k::q) (.ag sz xs)=Fy q xs[k]?)/\
  (∀q d,I.sub (0::q) (.aP d)=I.sub q d)/\(∀q d,Fy q (some d)=I.sub q d)/\
  (∀k q a b,I.sub (k::q) (.int a b)=none):=by
 refine⟨λd=>by simp[I.sub],?_,?_,?_,λq d=>by simp[I.sub],λ_ _=>rfl,λ_ _ _ _=>by simp[I.sub]⟩
 .intro k q aG;simp only[I.sub];cases aG[k]? <;>rfl
 .intro k q aG;simp only[I.sub];cases aG[k]? <;>rfl
 .intro k q sz aG;simp only[I.sub];cases aG[k]? <;>rfl
def Xj (k:Nat) (q:aAf) (n:I) (aG:aAk):Option I->I
 |some d=>.agg (aG.set k (I.put q n d))
 |none=>.agg aG
def iM (k:Nat) (q:aAf) (n:I) (aG:aAk):Option I->I
 |some d=>.tuple (aG.set k (I.put q n d))
 |none=>.tuple aG
def Xk (k:Nat) (q:aAf) (n:I) (sz:Nat) (xs:aAk):Option I->I
 |some d=>.ag sz (xs.set k (I.put q n d))
 |none=>.ag sz xs
theorem Xl:(∀n d,I.put [] n d=n)/\(∀k q n aG,I.put (k::q) n (.agg aG)=Xj k q n aG aG[k]?)/\(∀k q n aG,I.put (k::q) n (.tuple aG)=iM k q n aG aG[k]?)/\
  (∀k q n sz xs,I.put (k::q) n (.ag sz xs)=Xk k q n sz xs xs[k]?)/\(∀q n d,I.put (0::q) n (.aP d)= .aP (I.put q n d))/\
  (∀k q n aG d,Xj k q n aG (some d)= .agg (aG.set k (I.put q n d)))/\(∀k q n aG d,iM k q n aG (some d)= .tuple (aG.set k (I.put q n d)))/\
  (∀k q n sz xs d,Xk k q n sz xs (some d)= .ag sz (xs.set k (I.put q n d))):=by
 refine⟨λn d=>by simp[I.put],?_,?_,?_,λq n d=>by simp[I.put],λ_ _ _ _ _=>rfl,λ_ _ _ _ _=>rfl,λ_ _ _ _ _ _=>rfl⟩
 .intro k q n aG;simp only[I.put];cases aG[k]? <;>rfl
 .intro k q n aG;simp only[I.put];cases aG[k]? <;>rfl
 .intro k q n sz aG;simp only[I.put];cases aG[k]? <;>rfl
theorem Oz:(∀k n,I.wd (.int k n)=1)/\(∀b,I.wd (.bool b)=1)/\(∀x,I.wd (.str x)=1)/\(∀x,I.wd (.slice x)=1)/\(∀n x,I.wd (.ag n x)=1)/\(∀x,I.wd (.ref x)=1)/\(∀x,I.wd (.aP x)=1)/\
  I.wd .bf=1/\I.wd .et=1/\I.wd .hole=1/\I.wd .gq=1/\(∀x y,I.wd (.h x y)=1)/\(∀x y,I.wd (.aw x y)=1)/\(∀x y,I.wd (.fn x y)=1)/\(∀aG,I.wd (.agg aG)=I.e_ aG)/\(∀aG,I.wd (.tuple aG)=I.e_ aG)/\I.e_ []=0/\(∀d ds,I.e_ (d::ds)=d.wd+I.e_ ds):=by
 simp[I.wd,I.e_]
theorem OA (l:aAc):(∀d∈l.map jg,d.wd=1)=True:=by simp[jg,I.wd]
theorem ahl {α:Type} {e:α->I} {n:Nat} (h:∀x,(e x).wd=n) (xs:List α):(∀d∈xs.map e,d.wd=n)=True:=by
 simp only[List.mem_map,eq_iff_iff,iff_true];rintro d ⟨x,_,rfl⟩;exact h x
theorem ahm (C:cu) (s:an) (A B:TypeId) (k dr:IntKind) (n:Int) (jh:(C.T A).ok=true) (iH:(C.T B).k= .int dr):k5 C s A B (.int k n)=some (.int dr (dr.wrap n)):=by
 simp only[k5,jh,iH,if_true]
theorem Xm (m:Int):jg (pr m)= .int .u8 (u8.wrap m):=by
 have h:0<=u8.wrap m/\u8.wrap m<256:=by rw[wrap_u8];omega
 simp only[jg,pr,UInt8.toNat_ofNat'];congr 1;omega
theorem OB (m:Int):((pr m).toNat:Int)=u8.wrap m:=by
 have h:=Xm m;simpa [jg]using h
section
variable {C:cu} {l:aAj} {Q:Exit->an->Prop} {s:an}
theorem hx {ros:List cB} {k:aAf} (h:dD C (ar l) ros none (λ_ s=>Q .normal (ar (gK k s)))):bn C (.eh ros (some k)) Q (ar l):=zM (λ_ _ h=>h) h
theorem OC {ros:List cB} {de:aAd} {k:aAf} (hlen:de.length=ros.length) (h:dD C (ar l) ros (some []) (λacc s=>kG (nG de) 0 [] (acc.getD []).reverse=true/\Q .normal (ar (gK k s)))):
  bn C (.jX ros de (some k)) Q (ar l):=Jm hlen h
theorem ahn {a b:aA} (h:∀fk:Exit->an->Prop,(∀s,eM (bn C b Q) s->fk .normal s)->(∀s,Q .ret s->fk .ret s)->(∀i s,Q (.exit i) s->fk (.exit i) s)->bn C a fk s):bn C (.seq a b) Q s:=
 h _ (λ_ h=>h) (λ_ h=>h) (λ_ _ h=>h)
theorem dw {ros:List cB} {k:aAf} {b:aA} (h:dD C (ar l) ros none (λ_ s=>bn C b Q (ar (gK k s)))):bn C (.seq (.eh ros (some k)) b) Q (ar l):=zM (λ_ _ h=>.inl h) h
theorem jv {ros:List cB} {de:aAd} {k:aAf} {b:aA} (hlen:de.length=ros.length) (h:dD C (ar l) ros (some []) (λacc s=>kG (nG de) 0 [] (acc.getD []).reverse=true/\bn C b Q (ar (gK k s)))):
  bn C (.seq (.jX ros de (some k)) b) Q (ar l):=Jm (K:=λs=>eM (bn C b Q) (ar (gK k s))) hlen (by
   have key:∀(os:List cB) (s:an) (acc:Option (List fJ)),dD C s os acc (λacc s=>kG (nG de) 0 [] (acc.getD []).reverse=true/\bn C b Q (ar (gK k s)))->
     dD C s os acc (λacc s=>kG (nG de) 0 [] (acc.getD []).reverse=true/\eM (bn C b Q) (ar (gK k s))):=by
    intro os;induction os with
    |nil=>intro s acc h;exact⟨h.1,.inl h.2⟩
    |cons o os ih=>
     intro s acc h;have mono:∀{s:an} {b4:e2} {K eE:aAf->I->an->Prop},(∀a b c,K a b c->eE a b c)->qY C s b4 K->qY C s b4 eE:=by
      intro s b4 K eE hk h;cases b4 with
      |call f args=>
       obtain⟨g,caps,ps,r,h1,hX,af,ay,a_,b1,dn,dc,gH⟩:=h;exact⟨g,caps,ps,r,h1,hX,af,ay,a_,b1,dn,dc,hk _ _ _ gH⟩
      |shr b4=>obtain⟨av,s1,h1,af,ay,a_⟩:=h;exact⟨av,s1,h1,af,ay,hk _ _ _ a_⟩
      |mU f args us=>
       obtain⟨cn,g,caps,ps,r,h1,hX,af,ay,a_,b1,dn,dc,gH,iq⟩:=h;exact⟨cn,g,caps,ps,r,h1,hX,af,ay,a_,b1,dn,dc,gH,hk _ _ _ iq⟩
      |_=>obtain⟨av,s1,h1,af⟩:=h;exact⟨av,s1,h1,hk _ _ _ af⟩
     simp only[dD,o6]at h⊢;split
     .rename_i hg;rw[hg]at h;exact mono (λ_ _ _=>ih _ _) h
     .rename_i t gI hg;rw[hg]at h;simp only at h;split
      .rename_i ayh ae;rw[ae]at h;simp only at h;split
       .rename_i ab;rw[if_pos ab]at h;exact mono (λ_ _ _=>ih _ _) h
       .rename_i ab;rw[if_neg ab]at h;exact ih _ _ h
      .rename_i ae;rw[ae]at h;exact ih _ _ h
      .rename_i h1 af;split at h
       .exact h1 _ (by assumption)
       .exact af (by assumption)
       .exact h
   exact key _ _ _ h)
theorem i1 {c:bA} {a b:aA} (au:bx s c= .bool true) (h:bn C a Q s):bn C (.cond c a b) Q s:=by simp only[bn,au,if_true];exact h
theorem n1 {c:bA} {a b:aA} (au:bx s c= .bool false) (h:bn C b Q s):bn C (.cond c a b) Q s:=by simp only[bn,au];exact h
theorem aho {c:bA} {a b:aA} (au:bx s c= .gq) (h1:bn C a Q s) (af:bn C b Q s):bn C (.cond c a b) Q s:=by simp only[bn,au];exact⟨h1,af⟩
theorem ahp {id:Nat} {b:aA} (h:∀fk:Exit->an->Prop,(∀s,Q .normal s->fk .normal s)->(∀s,Q .ret s->fk .ret s)->(∀s,Q .normal s->fk (.exit id) s)->(∀i s,i≠id->Q (.exit i) s->fk (.exit i) s)->bn C b fk s):bn C (.block id b) Q s:=
 h (BU id Q) (λ_ h=>h) (λ_ h=>h) (λs h=>by simp only[BU,if_true];exact h) (λi s aj h=>by simp only[BU,if_neg aj];exact h)
theorem cN {id:Nat} (h:Q (.exit id) s):bn C (.exit id) Q s:=h
theorem hc (h:Q .ret s):bn C .ret Q s:=h
theorem aL (h:Q .normal s):bn C .skip Q s:=h
def cJ (C:cu) (b:aA) (Q:Exit->an->Prop) (s:an):Prop:=∀Z:an->Prop,(∀aC,bn C b (andThen (eM Z) Q) aC->Z aC)->Z s
theorem qe {b:aA} (h:eM (cJ C b Q) s):bn C (.loop b) Q s:=h
theorem ahq {b:aA} (h:∀fk:Exit->an->Prop,(∀s,eM (cJ C b Q) s->fk .normal s)->(∀s,Q .ret s->fk .ret s)->(∀i s,Q (.exit i) s->fk (.exit i) s)->bn C b fk s):cJ C b Q s:=by
 intro Z BW;refine BW s (N8 b ?_ (h (andThen (eM (cJ C b Q)) Q) (λ_ h=>h) (λ_ h=>h) (λ_ _ h=>h)));intro e aC bL;cases e with
 |normal=>exact BV (λs h=>h Z BW) aC bL
 |_=>exact bL
theorem bD {cr:aAj} (h:cr.map (·.2)=cr.map λp=>s p.1):x3 s cr:=by
 intro p aw;left;induction cr with
 |nil=>cases aw
 |cons a cr ih=>
  simp only[List.map_cons,List.cons.injEq]at h;rcases List.mem_cons.1 aw with rfl|aw
  .exact h.1
  .exact ih h.2 aw
end
section
variable {C:cu} {l:aAj} {Q:Exit->an->Prop} {s:an} {os ros:List cB} {K:Option (List fJ)->an->Prop} {dst:Option Nat}
theorem Xn (l:aAj):(∀n,bx (ar l) (.t n)=ud n (ar l n))/\(∀av,bx (ar l) (.c av)=av)/\(∀g,bx (ar l) (.f g)= .fn g []):=⟨λ_=>rfl,λ_=>rfl,λ_=>rfl⟩
theorem Xo:(∀t,ar [] t= .hole)/\(∀u d (l:aAj) t,ar ((u,d)::l) t=if t=u then d else ar l t):=⟨λ_=>rfl,λ_ _ _ _=>rfl⟩
theorem Xp (s:an):gK [] s=[]/\(∀t k,gK (t::k) s=(t,s t)::gK k s):=⟨rfl,λ_ _=>rfl⟩
theorem Xq (s:an):(∀d,lv s (some d)=some (d,s))/\(∀s1,da (some s1)=some (.hole,s1))/\lx s []=[]/\(∀x xs,lx s (x::xs)=bx s x::lx s xs)/\ya s []=[]/\(∀k x xs,ya s ((k,x)::xs)=(k,bx s x)::ya s xs)/\
  Fw s none=none/\(∀x,Fw s (some x)=some (bx s x))/\(∀b x y,W0 s (.bool b) x y=some (if b=true then x else y,s)):=
 ⟨λ_=>rfl,λ_=>rfl,rfl,λ_ _=>rfl,rfl,λ_ _ _=>rfl,rfl,λ_=>rfl,λb _ _=>by cases b<;>rfl⟩
theorem Xr (C:cu):(∀e d,Oy C (.slice e) (some d)=if(C.T e).ok=true/\d.wd=(C.T e).sz then some (.ref d)else none)/\
  (∀y q n e sz xs,Fx C y q n (.slice e) (some (.ag sz xs))=if(bh xs n).isSome=true/\(C.T e).ok=true/\sz=(C.T e).sz then some (.aw y (q++[n.toNat]))else none)/\
  (∀e s xs t,B4 C (.slice e) s xs (some t)=if(C.T e).ok=true/\∀d∈xs,d.wd=(C.T e).sz then some (.slice t,s)else none):=
 ⟨λ_ _=>rfl,λ_ _ _ _ _ _=>rfl,λ_ _ _ _=>rfl⟩
theorem Xs:(∀b,Ow .bool b=some (.bool b))/\(∀c,Ox .str (some c)=some (.int .u8 c.toNat))/\(∀s t,B3 .str s (some t)=some (.str t,s))/\(∀q d,Fy q (some d)=I.sub q d):=
 ⟨λ_=>rfl,λ_=>rfl,λ_ _=>rfl,λ_ _=>rfl⟩
theorem Xt (sz bytes:Nat) (z:I):(∀k,hC.ok ⟨.int k,sz,bytes,z⟩=true)/\hC.ok ⟨.bool,sz,bytes,z⟩=true/\hC.ok ⟨.str,sz,bytes,z⟩=true/\(∀e,hC.ok ⟨.ptr e,sz,bytes,z⟩=true)/\(∀e,hC.ok ⟨.slice e,sz,bytes,z⟩=true)/\(∀e,hC.ok ⟨.struct e,sz,bytes,z⟩=true)/\hC.ok ⟨.fn,sz,bytes,z⟩=true:=by
 simp[hC.ok]
theorem Xu (sz bytes:Nat) (z:I):(∀k,hC.flat ⟨.int k,sz,bytes,z⟩=true)/\hC.flat ⟨.bool,sz,bytes,z⟩=true/\hC.flat ⟨.str,sz,bytes,z⟩=true/\(∀e,hC.flat ⟨.ptr e,sz,bytes,z⟩=true)/\(∀e,hC.flat ⟨.slice e,sz,bytes,z⟩=true)/\(∀e,hC.flat ⟨.struct e,sz,bytes,z⟩=false)/\hC.flat ⟨.fn,sz,bytes,z⟩=true:=by
 simp[hC.flat]
theorem Fz (c:UInt8) (k:IntKind) (hk:k≠.i8):k.wrap (c.toNat:Int)=(c.toNat:Int):=by
 have:=c.toNat_lt;cases k<;>first|(exact(hk rfl).elim)|(simp[wrap,IntKind.bits,signed];try omega)
theorem OD (c:UInt8):i64.wrap (c.toNat:Int)=(c.toNat:Int)/\u64.wrap (c.toNat:Int)=(c.toNat:Int)/\u8.wrap (c.toNat:Int)=(c.toNat:Int)/\i32.wrap (c.toNat:Int)=(c.toNat:Int)/\u32.wrap (c.toNat:Int)=(c.toNat:Int):=
 ⟨Fz c _ (by simp),Fz c _ (by simp),Fz c _ (by simp),Fz c _ (by simp),Fz c _ (by simp)⟩
theorem b5 {k:aAf} {K:an->Prop} (cr:aAj) (h:∀P:aAj->Prop,P cr->dD C (ar l) ros none (λ_ s=>P (gK k s))) (hk:K (ar cr)):dD C (ar l) ros none (λ_ s=>K (ar (gK k s))):=
 h (λl=>K (ar l)) hk
theorem iN {k:aAf} {cl:aAd} {K:an->Prop} (cr:aAj) (h:∀P:aAj->Prop,P cr->dD C (ar l) ros (some []) (λacc s=>kG cl 0 [] (acc.getD []).reverse=true/\P (gK k s))) (hk:K (ar cr)):
  dD C (ar l) ros (some []) (λacc s=>kG cl 0 [] (acc.getD []).reverse=true/\K (ar (gK k s))):=
 h (λl=>K (ar l)) hk
theorem aW.ahr (bU:C.Ok) {f:FuncId} {fn:Func} {c:Code} {eb:aA} {fx:aAf} {as outs:aAk} {r:I} (bI:C.P.funcs[f]? =some fn) (ab:fn.body=some c)
  (mF:(fn.name== "runtime.NumGoroutine")=false) (ae:fQ ⟨fn.ntmps,fx⟩ c=some eb.strip) (aV:as.length<=fn.ntmps)
  (h:∀Q:Exit->an->Prop,(∀s,eM (Ends C fx fn.results.toList r outs) s->Q .ret s)->(∀s,eM (Ends C fx fn.results.toList r outs) s->Q .normal s)->bn C eb Q (ar (num 0 as))) (aw:eb.plain=true:=by kernel_rfl):aW C f as r outs:=by
 refine aW.of_wp bU bI ab mF ae aV ?_ aw;rw[Jg];exact h _ (λs h=>⟨.inr rfl,h⟩) (λs h=>⟨.inl rfl,h⟩)
def B5:aAk->I
 |[d]=>d
 |ds=>.tuple ds
theorem Xv {fx:aAf} {e8:List ResultVar} {r:I} {outs:aAk} (ds:aAk) (h1:e8.map (qX C s)=ds.map some) (af:r=B5 ds) (ay:(e8.map kF).Nodup)
  (a_:∀(i:Nat) (o:I),outs[i]? =some o->o= .hole\/(o=s i/\o.hv=true/\i∈fx/\i∉e8.map kF)):Ends C fx e8 r outs s:=.inl ⟨ds,h1,by subst af;cases ds with|nil=>rfl|cons a t=>cases t<;>rfl,ay,a_⟩
theorem Xw {fx:aAf} {e8:List ResultVar} {r:I} (t:Nat) (ds:aAk) {y:Nat} {q:aAf} {d:I} {s1:an} (af:r=B5 ds:=by cases im (by assumption);rfl) (a7:s t= .h y q:=by rfl) (hk:dG s (.h y q)=some (d,s1):=by rfl) (h1:e8.map (qX C (fin s1 (some t) d))=ds.map some:=by rfl) (ay:(e8.map kF).Nodup:=by decide):Ends C fx e8 r [] s:=
 .inr ⟨t,y,q,d,s1,a7,hk,ds,h1,by subst af;cases ds with|nil=>rfl|cons a t=>cases t<;>rfl,ay,λi o h=>by simp at h⟩
theorem ahs {fx:aAf} {e8:List ResultVar}:∀(i:Nat) (o:I),([]:aAk)[i]? =some o->o= .hole\/(o=s i/\o.hv=true/\i∈fx/\i∉e8.map kF):=λi o h=>by simp at h
theorem Xx:∀(as ds:aAk),(pJ as ds).filter (·.g)=[]
 |[],_=>rfl
 |_::_,[]=>rfl
 |a::as,d::ds=>by simp only[pJ,List.filter_cons];exact Xx as ds
theorem Jo {f:bA} {args:List bA} {g:FuncId} {caps:aAk} {K:aAf->I->an->Prop} (ds:aAk) (r:I)
  (h1:bx (ar l) f= .fn g caps) (hX:I.e6 caps=true) (lT:views (ar l) (lx (ar l) args++caps)=some ds)
  (b1:aW C g ds r []) (dn:r.res=true) (dc:I.ff (lx (ar l) args++caps)=[]\/r.c8=true) (hK:K [] r (ar l)):qY C (ar l) (.call f args) K:=by
 obtain⟨aK,aT,aU,b_,cY,cv,cd⟩:=agL _ _ lT;refine⟨g,caps,pJ (lx (ar l) args++caps) ds,r,h1,hX,by rw[aK,B2],λp aw=>(aU p aw).1,b_,by rw[aT];exact b1.outs cY.symm,dn,?_,by rw[cv,cd,Xx];exact hK⟩;intro hl;refine⟨?_,λp aw=>by rw[(aU p aw).2.2.1];rfl⟩;rcases dc with dc|dc
 .exfalso;simp only[lU,List.any_eq_true]at hl;obtain⟨p,aw,fL⟩:=hl;have hm:=(aU p aw).2.2.2;have:p.a.ae=[]:=by
   have key:∀(as:aAk) (a:I),a∈as->I.ff as=[]->a.ae=[]:=by
    intro as;induction as with
    |nil=>intro a h;cases h
    |cons b as ih=>
     intro a h he;simp only[I.ff,List.append_eq_nil_iff]at he;rcases List.mem_cons.1 h with rfl|h
     .exact he.1
     .exact ih a h he.2
   exact key _ _ hm dc
  rw[this]at fL;simp at fL
 .exact dc
theorem dz {f:bA} {args:List bA} {g:FuncId} {caps:aAk} {ds:aAk} {r:I} (b1:aW C g ds r [])
  (h1:bx (ar l) f= .fn g caps:=by rfl) (hX:I.e6 caps=true:=by rfl) (lT:views (ar l) (lx (ar l) args++caps)=some ds:=by rfl)
  (dn:r.res=true:=by rfl) (dc:I.ff (lx (ar l) args++caps)=[]\/r.c8=true:=by exact .inl (by rfl))
  (hK:dD C (fin (ar l) dst r) os none K):dD C (ar l) (⟨dst,.call f args,none⟩::os) none K:=by
 simp only[dD,o6,s7];exact Jo ds r h1 hX lT b1 dn dc hK
theorem hZ {a:List fJ} {f:bA} {args:List bA} {g:FuncId} {caps:aAk} {ds:aAk} {r:I} (b1:aW C g ds r [])
  (h1:bx (ar l) f= .fn g caps:=by rfl) (hX:I.e6 caps=true:=by rfl) (lT:views (ar l) (lx (ar l) args++caps)=some ds:=by rfl)
  (dn:r.res=true:=by rfl) (dc:I.ff (lx (ar l) args++caps)=[]\/r.c8=true:=by exact .inl (by rfl))
  (hK:dD C (fin (ar l) dst r) os (some (kV (ar l) (use (ar l) (.call f args)) dst [] r::a)) K):dD C (ar l) (⟨dst,.call f args,none⟩::os) (some a) K:=by
 simp only[dD,o6,s7];exact Jo ds r h1 hX lT b1 dn dc hK
theorem iO {t:Nat} {b:Bool} {f:bA} {args:List bA} {g:FuncId} {caps:aAk} {ds:aAk} {r:I} (b1:aW C g ds r [])
  (h1:bx (ar l) f= .fn g caps:=by rfl) (hX:I.e6 caps=true:=by rfl) (lT:views (ar l) (lx (ar l) args++caps)=some ds:=by rfl)
  (dn:r.res=true:=by rfl) (dc:I.ff (lx (ar l) args++caps)=[]\/r.c8=true:=by exact .inl (by rfl))
  (hK:dD C (fin (ar l) dst r) os none K):lW C l dst (.call f args) t b os none K (.bool b):=by
 simp only[lW,if_true];exact Jo ds r h1 hX lT b1 dn dc hK
theorem lX {a:List fJ} {t:Nat} {b:Bool} {f:bA} {args:List bA} {g:FuncId} {caps:aAk} {ds:aAk} {r:I} (b1:aW C g ds r [])
  (h1:bx (ar l) f= .fn g caps:=by rfl) (hX:I.e6 caps=true:=by rfl) (lT:views (ar l) (lx (ar l) args++caps)=some ds:=by rfl)
  (dn:r.res=true:=by rfl) (dc:I.ff (lx (ar l) args++caps)=[]\/r.c8=true:=by exact .inl (by rfl))
  (hK:dD C (fin (ar l) dst r) os (some (kV (ar l) (t::use (ar l) (.call f args)) dst [] r::a)) K):lW C l dst (.call f args) t b os (some a) K (.bool b):=by
 simp only[lW,if_true];exact Jo ds r h1 hX lT b1 dn dc hK
theorem gQ (s:an):views s []=some []/\(∀d ds,views s (d::ds)=(match view s d,views s ds with|some a,some b=>some (a::b)|_,_=>none))/\
  (∀k n,view s (.int k n)=some (.int k n))/\(∀b,view s (.bool b)=some (.bool b))/\(∀x,view s (.str x)=some (.str x))/\(∀x,view s (.slice x)=some (.slice x))/\(∀x,view s (.ref x)=some (.ref x))/\
  view s .bf=some .bf/\view s .et=some .et/\(∀aG,view s (.agg aG)=some (.agg aG))/\(∀f cap,view s (.fn f cap)=(views s cap).map (.fn f)):=by
 refine⟨rfl,λd ds=>?_,λ_ _=>rfl,λ_=>rfl,λ_=>rfl,λ_=>rfl,λ_=>rfl,rfl,rfl,λ_=>rfl,λ_ _=>by simp only[view]⟩;simp only[views];try rfl
theorem b0 {α:Type} {u e:α->I} (h:∀x,(u x).share=e x) (xs:List α):I.shares (xs.map u)=xs.map e:=by
 rw[I.xH];simp[h]
theorem jZ {α:Type} {u:α->I} (h:∀x,(u x).c8=true) (xs:List α):I.gJ (xs.map u)=true:=by
 induction xs with
 |nil=>rfl
 |cons x xs ih=>simp only[List.map_cons,I.gJ,h,ih,Bool.and_self]
def yc (s:an) (H:aAf):aAj->Prop
 |[]=>True
 |p::l=>(p.2=s p.1\/((s p.1).tree=true/\fB (s p.1) p.2/\p.1∉H))/\yc s H l
theorem hP {cr:aAj} (H:aAf) (hH:I.ff (cr.map (·.2))=H) (h:yc s H cr):x3 s cr:=by
 have key:∀(fO:aAj),yc s H fO->∀p∈fO,p.2=s p.1\/((s p.1).tree=true/\fB (s p.1) p.2/\p.1∉H):=by
  intro fO;induction fO with
  |nil=>intro _ p aw;cases aw
  |cons a fO ih=>
   intro h p aw;rcases List.mem_cons.1 aw with rfl|aw
   .exact h.1
   .exact ih h.2 p aw
 have ae:∀(fO:aAj),∀di∈fO,∀u∈di.2.ae,u∈I.ff (fO.map (·.2)):=by
  intro fO;induction fO with
  |nil=>intro p aw;cases aw
  |cons a fO ih=>
   intro p aw u hu;simp only[List.map_cons,I.ff,List.mem_append];rcases List.mem_cons.1 aw with rfl|aw
   .exact .inl hu
   .exact .inr (ih p aw u hu)
 intro p aw;rcases key _ h p aw with h1|⟨h1,af,ay⟩
 .exact .inl h1
 .refine .inr ⟨h1,af,λdi fj=>.inl λhm=>ay ?_⟩;rw[<-hH];exact ae cr di fj _ hm
def uA (s:an) (H D:aAf):aAj->Prop
 |[]=>True
 |p::l=>(p.2=s p.1\/((s p.1).tree=true/\fB (s p.1) p.2/\(p.1∉H\/((s p.1).own=true/\p.2.own=true/\p.1∉D))))/\uA s H D l
theorem aht {cr:aAj} (H D:aAf) (hH:I.ff (cr.map (·.2))=H) (OE:I.x2 (cr.map (·.2))=D) (h:uA s H D cr):x3 s cr:=by
 have key:∀(fO:aAj),uA s H D fO->∀p∈fO,p.2=s p.1\/((s p.1).tree=true/\fB (s p.1) p.2/\(p.1∉H\/((s p.1).own=true/\p.2.own=true/\p.1∉D))):=by
  intro fO;induction fO with
  |nil=>intro _ p aw;cases aw
  |cons a fO ih=>
   intro h p aw;rcases List.mem_cons.1 aw with rfl|aw
   .exact h.1
   .exact ih h.2 p aw
 have ae:∀(fO:aAj),∀di∈fO,(∀u∈di.2.ae,u∈I.ff (fO.map (·.2)))/\∀u∈di.2.x1,u∈I.x2 (fO.map (·.2)):=by
  intro fO;induction fO with
  |nil=>intro p aw;cases aw
  |cons a fO ih=>
   intro p aw;simp only[List.map_cons,I.ff,I.x2,List.mem_append];rcases List.mem_cons.1 aw with rfl|aw
   .exact⟨λu hu=>.inl hu,λu hu=>.inl hu⟩
   .exact⟨λu hu=>.inr ((ih p aw).1 u hu),λu hu=>.inr ((ih p aw).2 u hu)⟩
 intro p aw;rcases key _ h p aw with h1|⟨h1,af,ay⟩
 .exact .inl h1
 .refine .inr ⟨h1,af,λdi fj=>?_⟩;rcases ay with ay|⟨nB,k7,qT⟩
  .exact .inl λhm=>ay (by rw[<-hH];exact(ae cr di fj).1 _ hm)
  .exact .inr ⟨nB,k7,λhm=>qT (by rw[<-OE];exact(ae cr di fj).2 _ hm)⟩
theorem ahu {H D:aAf}:uA s H D []:=trivial
theorem OG {H D:aAf} {t:Nat} {d:I} {cr:aAj} (h:d=s t) (hl:uA s H D cr):uA s H D ((t,d)::cr):=⟨.inl h,hl⟩
theorem ahv {H D:aAf} {t:Nat} {d bN:I} {cr:aAj} (e:s t=d) (a6:d.tree=true) (ao:fB d bN) (hH:t∉H) (hl:uA s H D cr):uA s H D ((t,bN)::cr):=⟨.inr ⟨by rw[e];exact a6,by rw[e];exact ao,.inl hH⟩,hl⟩
theorem ahw {H D:aAf} {t:Nat} {d bN:I} {cr:aAj} (e:s t=d) (a6:d.tree=true) (ao:fB d bN) (h1:d.own=true) (af:bN.own=true) (OE:t∉D) (hl:uA s H D cr):uA s H D ((t,bN)::cr):=
 ⟨.inr ⟨by rw[e];exact a6,by rw[e];exact ao,.inr ⟨by rw[e];exact h1,af,OE⟩⟩,hl⟩
theorem hQ {H:aAf}:yc s H []:=trivial
theorem cO {H:aAf} {t:Nat} {d:I} {cr:aAj} (h:d=s t) (hl:yc s H cr):yc s H ((t,d)::cr):=⟨.inl h,hl⟩
theorem hD {H:aAf} {t:Nat} {d bN:I} {cr:aAj} (e:s t=d) (a6:d.tree=true) (ao:fB d bN) (hH:t∉H) (hl:yc s H cr):yc s H ((t,bN)::cr):=⟨.inr ⟨by rw[e];exact a6,by rw[e];exact ao,hH⟩,hl⟩
theorem ahx {d e:I} (a6:d.tree=true) (aV:d.own=true) (h:d.share=e):fB d e:=by
 subst h;exact .share d a6 (λvs e=>by subst e;simp[I.own]at aV) (λo e=>by subst e;simp[I.own]at aV) (λ_ _ e=>by subst e;simp[I.own]at aV)
theorem Xy {a b:I} (h:fB a b):∀n,mC (List.replicate n a) (List.replicate n b)
 |0=>.nil
 |n+1=>by simp only[List.replicate_succ];exact .cons h (Xy h n)
theorem FA {α:Type} {sz:Nat} {u:α->I} {z:α} {a:I} (h:fB a (u z)) (n:Nat):fB (.ag sz (List.replicate n a)) (.ag sz ((List.replicate n z).map u)):=by
 rw[List.map_replicate];exact .ag (Xy h n)
end
theorem Jp {C:cu} {A B:TypeId} {dr:IntKind} (jh:(C.T A).ok=true) (iH:(C.T B).k= .int dr):∀s k n,k5 C s A B (.int k n)=some (.int dr (dr.wrap n)):=λs k n=>ahm C s A B k dr n jh iH
def Xz:Option I->Option I
 |some (.ag 1 xs)=>(bytesOf xs).map .str
 |_=>none
theorem XA {C:cu} {A B e:TypeId} (jh:(C.T A).k= .slice e) (iH:(C.T B).k= .str) (he:(C.T e).k= .int .u8):
  (∀s xs,k5 C s A B (.slice xs)=(bytesOf xs).map .str)/\(∀s,k5 C s A B .bf=some (.str []))/\(∀s x q,k5 C s A B (.h x q)=Xz (I.sub q (s x))):=by
 have EZ:(C.T A).ok=true:=by simp[hC.ok,jh]
 refine⟨λs xs=>?_,λs=>?_,λs x q=>?_⟩
 .simp only[k5,EZ,jh,iH,he,if_true]
 .simp only[k5,EZ,jh,iH,he,if_true]
 .simp only[k5,EZ,jh,iH,he,if_true];rfl
theorem XB (xs:aAk):Xz (some (.ag 1 xs))=(bytesOf xs).map .str:=rfl
theorem XC (c:UInt8) (r:aAk):bytesOf (jg c::r)=(bytesOf r).map (c::·):=by
 have:=c.toNat_lt;simp only[jg,bytesOf];rw[if_pos (by omega)];simp
theorem XD:bytesOf []=some []/\
  (∀l:aAc,bytesOf (l.map jg)=some l)/\
  (∀c r,bytesOf (.int .u8 (c.toNat:Int)::r)=(bytesOf r).map (c::·))/\
  (∀m r,bytesOf (.int .u8 (u8.wrap m)::r)=(bytesOf r).map (pr m::·)):=
 ⟨rfl,aeB,λc r=>XC c r,λm r=>by rw[<-Xm];exact XC _ r⟩
theorem XE {k:IntKind} {b:Int} (h:b≠0):∀a,k4 .quo k a k b=some (.int k (k.wrap (a.tdiv b))):=λ_=>ahj h
theorem yd {k:IntKind} {b:Int} (h:b≠0):∀a,k4 .rem k a k b=some (.int k (a.tmod b)):=λ_=>ahk h
theorem ic {α:Type} {e:α->I} {n:Nat} (h:∀x,(e x).wd=n):∀xs:List α,(∀d∈xs.map e,d.wd=n)=True:=ahl h
theorem i6 {P:I->Prop} (d:I) (ds:aAk):(∀x∈d::ds,P x)=(P d/\∀x∈ds,P x):=by simp
theorem all_nil {P:I->Prop}:(∀x∈([]:aAk),P x)=True:=by simp
def XF (a b:aAc):Option Unit->Option I
 |some _=>some (.str (a++b))
 |none=>none
theorem wc (a b:aAc):qO .add a b=XF a b (iG (a.length+b.length)):=by
 simp only[qO,iG];split<;>rfl
theorem we (a b:aAc) (u:Unit):XF a b (some u)=some (.str (a++b)):=rfl
theorem XG:(∀l:aAf,[]++l=l)/\(∀a (l m:aAf),(a::l)++m=a::(l++m)):=⟨λ_=>rfl,λ_ _ _=>rfl⟩
def XH (C:cu) (e dZ:TypeId):Bool:=(C.T e).ok&&((C.T e).zero.wd==(C.T e).sz)&&(flat (C.T e).zero).isSome&&IX C e dZ
def Jq (C:cu) (e:TypeId) (xs:aAk):Option (aAk×an)->Option (I×an)
 |some (cq,s2)=>if(∀d∈cq,d.wd=(C.T e).sz)/\(room (C.T e).bytes (xs.length+cq.length)).isSome=true then some (.ag (C.T e).sz (xs++cq),s2)else none
 |none=>none
def OH (C:cu) (e:TypeId) (y:I) (o:Option Nat):Option (I×an)->Option (I×an)
 |some (.ag sz xs,s1)=>if sz=(C.T e).sz then Jq C e xs (oA s1 (nw o y))else none
 |_=>none
theorem ahy (b n:Nat):(room b n).isSome=true↔n*b<=140737488355328/\n<=9223372036854775807:=by unfold room;split<;>simp_all
theorem i7 {C:cu} {T dZ e:TypeId} (kP:(C.T T).k= .slice e) (gv:XH C e dZ=true):∀s x y,vU C s T dZ x y=OH C e y x.owner (uv C e s x):=by
 intro s x y;simp only[XH,Bool.and_eq_true,beq_iff_eq]at gv;rw[NM,kP];simp only;rw[if_pos ⟨gv.1.1.1,gv.1.1.2,gv.1.2,gv.2⟩];generalize x.owner=o;cases uv C e s x with
 |none=>rfl
 |some p=>
  obtain⟨d,s1⟩:=p;cases d<;>first
   |rfl
   |(simp only[OH]
     split
     .rename_i h;subst h;generalize oA s1 (nw o y)=z;cases z with
      |none=>rfl
      |some p=>simp only[Jq,ahy]
     .rfl)
def XI:Option (I×an)->Option (aAk×an)
 |some (.ag _ cq,s2)=>some (cq,s2)
 |_=>none
theorem i_ (s:an):oA s .bf=some ([],s)/\(∀cq,oA s (.slice cq)=some (cq,s))/\(∀l,oA s (.str l)=some (l.map jg,s))/\
  (∀a q,oA s (.h a q)=XI (dG s (.h a q)))/\(∀n cq,XI (some (.ag n cq,s))=some (cq,s)):=
 ⟨rfl,λ_=>rfl,λ_=>rfl,λ_ _=>by simp only[oA];rfl,λ_ _=>rfl⟩
theorem ja (C:cu) (e:TypeId):(∀s,uv C e s .bf=some (.ag (C.T e).sz [],s))/\(∀s a q,uv C e s (.h a q)=dG s (.h a q))/\
  (∀y o sz xs s1,OH C e y o (some (.ag sz xs,s1))=if sz=(C.T e).sz then Jq C e xs (oA s1 (nw o y))else none)/\
  (∀xs cq s2,Jq C e xs (some (cq,s2))=if(∀d∈cq,d.wd=(C.T e).sz)/\(room (C.T e).bytes (xs.length+cq.length)).isSome=true then some (.ag (C.T e).sz (xs++cq),s2)else none):=
 ⟨λ_=>rfl,λ_ _ _=>rfl,λ_ _ _ _ _=>rfl,λ_ _ _=>rfl⟩
theorem fW:(∀d,nw none d=d)/\(∀x d,nw (some x) d=cU x d)/\(∀x q,I.owner (.h x q)=some x)/\I.owner .bf=none:=
 ⟨λ_=>rfl,λ_ _=>rfl,λ_ _=>rfl,rfl⟩
def XJ (s:an) (x:Nat) (q:aAf):Option I->Option (I×an)
 |some d=>if d.plain=true then none else some (d,eo (js x s) x (I.put q d.d_ (s x)))
 |none=>none
theorem XK (s:an) (x:Nat) (q:aAf):dG s (.h x q)=XJ s x q (I.sub q (s x)):=by
 simp only[dG];cases I.sub q (s x)<;>rfl
theorem XL (s:an):(∀x q d,XJ s x q (some d)=if d.plain=true then none else some (d,eo (js x s) x (I.put q d.d_ (s x))))/\(∀k n,dG s (.int k n)=some (.int k n,s))/\(∀b,dG s (.bool b)=some (.bool b,s))/\(∀x,dG s (.str x)=some (.str x,s))/\
  (∀x,dG s (.slice x)=some (.slice x,s))/\(∀x,dG s (.ref x)=some (.ref x,s))/\(∀x,dG s (.agg x)=some (.agg x,s))/\dG s .bf=some (.bf,s)/\dG s .et=some (.et,s):=
 ⟨λ_ _ _=>rfl,λ_ _=>rfl,λ_=>rfl,λ_=>rfl,λ_=>rfl,λ_=>rfl,λ_=>rfl,rfl,rfl⟩
theorem XM (l:aAj) (t:Nat) (d:I):eo (ar l) t d=ar ((t,d)::l):=Fq l t d
theorem XN:(∀n x,I.d_ (.ag n x)= .hole)/\(∀x,I.d_ (.aP x)= .hole)/\(∀aG,I.d_ (.agg aG)= .agg (I.ow aG))/\(∀aG,I.d_ (.tuple aG)= .tuple (I.ow aG))/\I.ow []=[]/\(∀d ds,I.ow (d::ds)=d.d_::I.ow ds)/\
  (∀k n,I.d_ (.int k n)= .int k n)/\(∀b,I.d_ (.bool b)= .bool b)/\(∀x,I.d_ (.str x)= .str x)/\(∀x,I.d_ (.slice x)= .slice x)/\(∀x,I.d_ (.ref x)= .ref x)/\I.d_ .bf= .bf/\I.d_ .et= .et/\I.d_ .hole= .hole:=by
 simp[I.d_,I.ow]
def zQ:Option I->Option I
 |some d=>(match d with| .tuple _=>none| .ck _=>none| .gN _ _=>none|d=>if d.plain=true then none else some d.share)
 |none=>none
def zR:Option I->Option I
 |some d=>(match d with| .tuple _=>none|d=>some (.ref d.share))
 |none=>none
theorem gR (s:an) (x:Nat) (q:aAf):view s (.h x q)=zQ (I.sub q (s x))/\view s (.aw x q)=(if I.gE q (s x)=true then zR (I.sub q (s x))else none):=by
 constructor
 .simp only[view];rfl
 .simp only[view];rfl
theorem gS:(∀n xs,zQ (some (.ag n xs))=some (.slice (I.shares xs)))/\(∀d,zQ (some (.aP d))=some (.ref d.share))/\(∀aG,zQ (some (.agg aG))=if I.e6 aG=true then none else some (.agg (I.shares aG)))/\
  (∀aG,zR (some (.agg aG))=some (.ref (.agg (I.shares aG))))/\(∀k n,zR (some (.int k n))=some (.ref (.int k n)))/\(∀x,zR (some (.str x))=some (.ref (.str x))):=
 ⟨λ_ _=>by simp[zQ,I.plain,I.share],λ_=>by simp[zQ,I.plain,I.share],λaG=>by cases h:I.e6 aG<;>simp[zQ,I.plain,I.share,h],λ_=>by simp[zR,I.share],λ_ _=>by simp[zR,I.share],λ_=>by simp[zR,I.share]⟩
theorem cR:(∀n xs,I.share (.ag n xs)= .slice (I.shares xs))/\(∀d,I.share (.aP d)= .ref d.share)/\(∀xs,I.share (.slice xs)= .slice (I.shares xs))/\(∀d,I.share (.ref d)= .ref d.share)/\(∀aG,I.share (.agg aG)= .agg (I.shares aG))/\(∀aG,I.share (.tuple aG)= .tuple (I.shares aG))/\
  (∀k n,I.share (.int k n)= .int k n)/\(∀b,I.share (.bool b)= .bool b)/\(∀x,I.share (.str x)= .str x)/\I.share .bf= .bf/\I.share .et= .et/\I.shares []=[]/\(∀d ds,I.shares (d::ds)=d.share::I.shares ds):=by
 simp[I.share,I.shares]
def oF (sz:Nat):Option (aAk×an)->Option (I×an)
 |some (ds,s1)=>some (.ag sz ds,s1)
 |none=>none
def ei:Option (aAk×an)->Option (I×an)
 |some (ds,s1)=>some (.agg ds,s1)
 |none=>none
theorem FB {C:cu} {T e n sz:Nat} {zs:aAk} (kP:(C.T T).k= .slice e) (eX:(C.T e).sz=sz) (b3:List.replicate n (C.T e).zero=zs)
  (gv:((C.T e).ok&&((C.T e).zero.wd==sz)&&(flat (C.T e).zero).isSome&&(sz !=0)&&decide (n*sz<=16777216))=true):∀s ps,dM C s T n ps=oF sz (eK (λk=>some (k*sz,sz)) s zs [] ps):=by
 intro s ps;subst eX;simp only[Bool.and_eq_true,beq_iff_eq,bne_iff_ne,decide_eq_true_eq]at gv;obtain⟨⟨⟨⟨h1,af⟩,ay⟩,a_⟩,b1⟩:=gv;unfold dM;rw[kP];simp only;rw[if_pos ⟨h1,af,ay,a_,b1⟩,b3];cases eK (λk=>some (k*(C.T e).sz,(C.T e).sz)) s zs [] ps<;>rfl
theorem mY {C:cu} {T:Nat} {aG:List (TypeId×Nat)} {zs:aAk} (kP:(C.T T).k= .struct aG) (b3:(C.T T).zero= .agg zs)
  (gv:((flat (.agg zs)).isSome&&aG.all λf=>(C.T f.1).ok)=true):∀s ps,gB C s T ps=ei (eK (λk=>(aG[k]?).map λf=>(f.2,(C.T f.1).sz)) s zs [] ps):=by
 intro s ps;simp only[Bool.and_eq_true,List.all_eq_true]at gv;unfold gB;rw[kP,b3];simp only;rw[if_pos ⟨gv.1,gv.2⟩];cases eK (λk=>(aG[k]?).map λf=>(f.2,(C.T f.1).sz)) s zs [] ps<;>rfl
def dQ (place:Nat->Option (Nat×Nat)) (k:Nat) (zs:aAk) (os:List (Option Nat)) (r:aAj) (o:Option Nat):Option (Nat×Nat)->Option I->Option (I×an)->Option (aAk×an)
 |some (off,n),some z,some (d,s1)=>(match d with
  | .tuple _=>none
  |d=>if d.wd=n/\z.wd=n/\I.e_ (zs.take k)=off then eK place s1 (zs.set k d) (os++[o]) r else none)
 |_,_,_=>none
theorem lY (place:Nat->Option (Nat×Nat)) (s:an) (zs:aAk) (os:List (Option Nat)):eK place s zs os []=some (zs,s)/\
  (∀k a r,eK place s zs os ((k,a)::r)=dQ place k zs os r (nZ os a).owner (place k) zs[k]? (dG s (nZ os a))):=by
 refine⟨rfl,λk a r=>?_⟩;simp only[eK];cases dG s (nZ os a)with
 |none=>cases place k<;>cases zs[k]? <;>rfl
 |some p=>
  obtain⟨d,s1⟩:=p;cases place k with
  |none=>cases zs[k]? <;>rfl
  |some q=>cases zs[k]? <;>(cases d<;>rfl)
theorem lZ:(∀a,nZ [] a=a)/\(∀o os a,nZ (o::os) a=nZ os (nw o a)):=⟨λ_=>rfl,λ_ _ _=>rfl⟩
theorem cS:(∀k n,I.owner (.int k n)=none)/\(∀b,I.owner (.bool b)=none)/\(∀x,I.owner (.str x)=none)/\(∀x,I.owner (.slice x)=none)/\(∀x,I.owner (.ref x)=none)/\(∀x,I.owner (.agg x)=none)/\I.owner .et=none/\I.owner .bf=none/\(∀x q,I.owner (.h x q)=some x):=
 ⟨λ_ _=>rfl,λ_=>rfl,λ_=>rfl,λ_=>rfl,λ_=>rfl,λ_=>rfl,rfl,rfl,λ_ _=>rfl⟩
end Go.en
namespace Go.en
open List Option Go.IntKind Nat Or
def F0 (w:World):Nat->Prop:=λb=>b<w.heap.size
def Arg (w:World) (a:I) (v:Value):Prop:=a.tree=true/\eW a v/\az w (F0 w) a (cZ v) (λ_=>False)
inductive zS (w:World):aAk->aAi->Prop
 |nil:zS w [] []
 |cons {a:I} {v:Value} {as:aAk} {vs:aAi}:Arg w a v->zS w as vs->zS w (a::as) (v::vs)
theorem zS.get {w:World} {as:aAk} {vs:aAi} (h:zS w as vs):vs.length=as.length/\∀i,as.getD i .hole= .hole\/Arg w (as.getD i .hole) (vs.getD i undef):=by
 induction h with
 |nil=>exact⟨rfl,λi=>.inl rfl⟩
 |cons h _ ih=>
  refine⟨by simp[ih.1],λi=>?_⟩;cases i with
  |zero=>exact .inr h
  |succ i=>simpa using ih.2 i
theorem ahz {w:World} {as:aAk} {vs:aAi} (hg:ub w λ_=>False) (h:zS w as vs):ca w (F0 w) (λ_=>False) (F0 w) (λ_ _=>False) (gd as) (hW vs) w:=by
 refine⟨λ_ h=>h,λ_ h=>.inl h,λ_ h=>h,λ_ _ h=>h.elim,λ_ _ h=>h.elim,λ_ _ _ _ h=>h.elim,λ_ _ h=>h.elim,λt=>?_,λ_ _ _=>rfl,Nat.le_refl _,rfl,rfl,Out.refl _,hg⟩;show aQ w (F0 w) (gd as) (hW vs) (as.getD t .hole) (vs.getD t undef) (λ_=>False);rcases h.get.2 t with e|⟨h1,af,ay⟩
 .rw[e,aQ];trivial
 .exact(aQ.dj h1).2 ⟨af,ay⟩
theorem aW.law {C:cu} {f:FuncId} {fn:Func} {c:Code} {as:aAk} {vs:aAi} {w:World} (h:aW C f as (.bool true) []) (bI:C.P.funcs[f]? =some fn) (ab:fn.body=some c)
  (mF:(fn.name== "runtime.NumGoroutine")=false) (bs:zS w as vs) (hg:ub w λ_=>False:=by exact λ_ h=>absurd h not_mem_nil):Calls C.P f vs.toArray w λe aJ=>e= .returned (.bool true)/\RowKit.Below w.heap.size w aJ:=by
 have Od:fn.name≠ "runtime.NumGoroutine" :=by simpa using mF
 rcases h w _ _ _ vs bs.get.1 (ahz hg bs)with⟨_,af⟩|⟨v,aJ,h1,_⟩
 .refine af.mono ?_;rintro e aJ ⟨v,rfl,cg,aY,aR⟩;have aB:=aR.eg 0;have:aQ aJ cg (gd [I.bool true]) (hW (v::vs)) (.bool true) v (aY 0):=aB;have ab:=xM this;subst ab;exact⟨rfl,aR.os,aR.tape,aR.output.1,aR.size,λk hk=>aR.old k hk (λh=>h)⟩
 .simp[callFunc,bI,Od,ab]at h1
section
variable {H:Type} {enc:TypeId×Value->H} {P:Program} {w:World} {t:TypeId} {v:Value} {d:DataW H} {ps:List MemPlace} {base lS:Nat} {sp:Nat->Bool} {held:Bool} {r:Reach}
theorem wf_i64 {n:Int} (h:(Lit.int .i64 n).wf=true): -9223372036854775808<=n/\n<=9223372036854775807:=by
 simp[Lit.wf,IntKind.min,IntKind.max,signed,IntKind.bits]at h;omega
end
end Go.en
namespace Go.en
open List Option Go.IntKind Nat Or
theorem YX {P:Program} {W:World} {name:String} {g:Nat} {cs:Array Value} (hg:P.globalNamed name=some g) (h:W.var? P name=some cs):g<W.heap.size/\∃e fr,W.heap[g]? =some (.cells cs e fr):=by
 unfold World.var? at h;rw[hg]at h;simp only[bind_some]at h;split at h
 .rename_i c e fr he;cases h;refine⟨?_,e,fr,he⟩;rcases Nat.lt_or_ge g W.heap.size with bL|bL
  .exact bL
  .rw[Array.getElem?_eq_none bL]at he;cases he
 .cases h
theorem ajc {P:Program} {W:World} {l:List (String×DataW Unit)} {name:String} {x:DataW Unit} {g:Nat} {t:TypeId} {ms:Array (String×TypeId)} (mW:laidMetH P l W) (hg:P.globalNamed name=some g)
  (Pb:(P.globals[g]?).map (·.type)=some t) (aj:P.underlying t=some (.interface ms)) (aq:∃ky d,x= .iface ky d) (bI:((l.filter λx=>x.2.handleName?.isNone).filter λx=>x.1==name)=[(name,x)]):
  g<W.heap.size/\¬False/\∃o,W.heap[g]? =some o/\MU o:=by
 obtain⟨ky,d,rfl⟩:=aq;have h:=(laidMetH_iff.1 mW).1.filter λx=>x.1==name;rw[bI]at h;obtain⟨ps,⟨X7,Pc,cs,fuel,p,q,iY,Nr,ajd,ao,_,_⟩,_⟩:=h;obtain rfl:=some.inj (hg.symm.trans iY);obtain rfl:=some.inj (Pb.symm.trans Nr);obtain⟨_,u,v,hM,_⟩:=iface_of_trod aj ao;obtain⟨h1,e,fr,af⟩:=YX hg ajd;refine⟨h1,λh=>h,_,af,.iface u v,cs,e,fr,rfl,?_,.inr ⟨u,v,rfl⟩⟩;rw[<-Array.getElem?_toList,hM];rfl
theorem aje {P:Program} {W:World} {l:List (String×DataW Unit)} {name:String} {x:DataW Unit} {g:Nat} {t e:TypeId} (mW:laidMetH P l W) (hg:P.globalNamed name=some g)
  (Pb:(P.globals[g]?).map (·.type)=some t) (a6:P.underlying t=some (.array 20 e)) (he:P.underlying e=some (.int .u64)) (ajf:P.cellsOf e=1) (ajg:P.cellsOf t=20)
  (aq:x=Lib.tabData .u64 Lib.pow10Tab) (bI:((l.filter λx=>x.2.handleName?.isNone).filter λx=>x.1==name)=[(name,x)]):
  g<W.heap.size/\¬False/\∃o,W.heap[g]? =some o/\IB o:=by
 subst aq;have h:=(laidMetH_iff.1 mW).1.filter λx=>x.1==name;rw[bI]at h;have af:=Lib.tabIs_of_head hg Pb a6 he ajf ajg h;unfold Lib.TabIs at af;obtain⟨h1,e,fr,ay⟩:=YX hg af;refine⟨h1,λh=>h,_,ay,e,fr,?_⟩;simp only[Lib.pow10Tab,List.map_map];rfl
end Go.en
