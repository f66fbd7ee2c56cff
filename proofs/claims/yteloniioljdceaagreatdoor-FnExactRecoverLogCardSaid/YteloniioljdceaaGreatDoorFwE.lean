/- Part of a proof that a law returns true for every input. No condition. -/
import Derived.Test.YteloniioljdceaaGreatDoorFwD
import Derived.Laws.Tables
namespace Go.ca
open List Go.IntKind Nat Or
section
variable {C:bl} {w0 w:World} {F0 X F:Nat->Prop} {S:Nat->Nat->Prop} {s s1:aj} {ao:Nat->Value} {av:I}
theorem w3 (z:RJ):∀n,(range (n*z.length)).map (λi=>z[i%z.length]!)=(replicate n z).flatten
 |0=>by simp
 |n+1=>by
  rw[Nat.add_mul,Nat.one_mul,range_add,map_append,w3 z n,replicate_succ',flatten_append];congr 1;simp only[List.map_map,flatten_cons,flatten_nil,append_nil];apply ext_getElem
  .simp
  .intro i U ab;have aC:i<z.length:=ab;simp[mod_eq_of_lt aC,aC]
theorem aH.replicate {d:I} {cs:RJ} (h:∀aB,ah w F d cs aB):∀n aB,aH w F (replicate n d) (replicate n cs).flatten aB
 |0,aB=>by simp only[replicate_zero,flatten_nil];rw[aH]
 |n+1,aB=>by
  rw[replicate_succ,replicate_succ,flatten_cons,aH];exact⟨cs,_,λ_=>False,λ_=>False,rfl,h _,aH.replicate h n _,λ_ h=>h.elim,λ_ h=>h.elim,λ_ h=>h.elim⟩
def cQ (C:bl) (T:TypeId) (l c:I):Option I:=
 match(C.T T).k,l,c with
 | .slice e,.int .i64 n,.int .i64 m=>if n=m/\0<=n/\(C.T e).ok=true/\(C.T e).zero.wd=(C.T e).sz/\(flat (C.T e).zero).isSome=true/\(C.T e).sz≠0/\(C.T e).bytes*n<=140737488355328/\n<=9223372036854775807 then
   some (.aE (C.T e).sz (replicate n.toNat (C.T e).zero))else none
 |_,_,_=>none
theorem Hu (aS:C.cS) (h:aZ w0 F0 X F S s ao w) {T:TypeId} {l c:I} {AZ A0:Value} (hl:ar w F s ao l AZ (λ_=>False)) (ae:ar w F s ao c A0 (λ_=>False)) (he:cQ C T l c=some av):
  Good C w0 F0 X ao w (Instr.makeSlice T AZ A0) av s:=by
 unfold cQ at he;split at he
 .rename_i e n m ag;have:=jJ hl;subst this;have:=jJ ae;subst this;obtain⟨AL,d,AM,aD,aG,aJ,bp,bJ,bk,a7⟩:=aS.info (dV ag (by simp));rw[ag]at a7;have:=ir a7;subst this;split at he
  .rename_i rp;obtain⟨rfl,aT,mA,oI,oJ,dm,QR,oM⟩:=rp;simp only[Option.some.injEq]at he;subst he;obtain⟨i,AN,z,f1,f2,f3,f4,f5,f6,f7⟩:=aS.info mA;obtain⟨ep,k2⟩:=Option.isSome_iff_exists.1 oJ;have oK:=f5 ep k2;have eC:∀aB,ah w F (C.T e).zero ep aB:=λaB=>(ah.flat _).1 _ ep aB (Nat.le_refl _) k2;have nA:ep.length=(C.T e).sz:=by rw[ah.length _ _ _ (eC (λ_=>False)),oI]
   obtain⟨n,rfl⟩:=Int.eq_ofNat_of_zero_le aT;simp only[Int.toNat_natCast];have A1:i64.wrap (n:Int)=n:=by
    rw[wrap_i64];omega
   have tP:∀k (w:World),(askRoom k).run C.P w= .ok () w:=by
    intro k w;unfold askRoom;split<;>rfl
   have oA:((Array.range (n*(C.T e).sz)).map (ep.toArray[·%ep.toArray.size]!)).toList=(replicate n ep).flatten:=by
    have:=w3 ep n;rw[nA]at this;simpa [nA]using this
   have cq:¬(281474976710656<(i.bytes:Int)*n):=by
    rw[f3];omega
   have A2:¬((n:Int)<0):=by omega
   have run:(Instr.makeSlice T (.int .i64 n) (.int .i64 n)).run C.P w= .ok (.slice (some ⟨w.heap.size,0,none⟩) n n)
     (w.alloc (.cells (if n*(C.T e).sz=0 then(Array.range (n*(C.T e).sz)).map (λ_=>default)else(Array.range (n*(C.T e).sz)).map (ep.toArray[·%ep.toArray.size]!)) e)):=by
    by_cases bj:n*(C.T e).sz=0
    .simp[Instr.makeSlice,run_underlying bk,asInt,asIntOf,rn f1,A1,cq,A2,tP,hB f1,f2,bj,newRow]
    .simp only[bj,if_false];simp[Instr.makeSlice,run_underlying bk,asInt,asIntOf,rn f1,A1,cq,A2,tP,hB f1,f2,bj,newRow,pL f1 f4,oK]
   have jf:(if n*(C.T e).sz=0 then(Array.range (n*(C.T e).sz)).map (λ_=>(default:Value))else(Array.range (n*(C.T e).sz)).map (ep.toArray[·%ep.toArray.size]!)).toList=(replicate n ep).flatten:=by
    split
    .rename_i bj;have:n=0:=by
      rcases mul_eq_zero.1 bj with h|h
      .exact h
      .exact(dm h).elim
     subst this;simp
    .exact oA
   generalize rE:(if n*(C.T e).sz=0 then(Array.range (n*(C.T e).sz)).map (λ_=>(default:Value))else(Array.range (n*(C.T e).sz)).map (ep.toArray[·%ep.toArray.size]!))=cur at run jf;have gR:(replicate n ep).flatten.length=n*(C.T e).sz:=by simp[nA]
   have iQ:cur.size=n*(C.T e).sz:=by
    have:cur.size=cur.toList.length:=by simp
    rw[this,jf,gR]
   have ji:=h.tL (an:=w.alloc (.cells cur e)) (sz:=(C.T e).sz) (cap:=n) (xs:=replicate n (C.T e).zero) (cur:=cur) (e:=e) (fr:=(0,0)) (Sn:=λ_=>False) rfl rfl rfl ⟨rfl,λ_=>Nat.le_refl _⟩
    (λo _ ⟨_,ab⟩=>absurd ab (not_lt_zero _)) (by simp) (by unfold maxLen;omega) iQ (by intro d ad;rw[eq_of_mem_replicate ad];exact oI)
    (by rw[jf,length_replicate,take_of_length_le (by rw[gR];exact Nat.le_refl _)];exact aH.replicate eC n _) (λ_ h=>h.elim) (λ_ h=>h.elim) (λ_ _ h=>h.elim) (λ_ h=>h.elim)
   rw[length_replicate]at ji;exact⟨_,_,F,S,run,ji.1,ji.2⟩
  .cases he
 .cases he
def nF (s:aj) (f:FuncId) (cs:List aR):Option I:=some (.fn f (cs.map (aP s)))
theorem tW {a:Act} (h:aZ w0 F0 X F S s ao w) (cC:∀t,ao t=a.tmps.getD t undef):∀(os:List Operand) (xs:List aR),os.map ch=xs.map some->cE w F s ao (xs.map (aP s)) (os.map a.eval)
 |[],[],_=>by simp only[map_nil];rw[cE]
 |[],x::xs,h=>by simp at h
 |o::os,[],h=>by simp at h
 |o::os,x::xs,aN=>by
  simp only[map_cons,cons.injEq]at aN⊢;rw[cE];exact⟨_,_,rfl,(dC h cC aN.1).2,tW h cC os xs aN.2⟩
theorem A3:∀(vs:RJ) (k off:Nat) (A:Array Value) (l m r:RJ),A.toList=l++(m++r)->l.length=off+k->m.length=vs.length->
  ((vs.zipIdx k).foldl (λcs (x:Value×Nat)=>cs.setIfInBounds (off+x.2) x.1) A).toList=l++(vs++r)
 |[],k,off,A,l,m,r,fH,hl,hm=>by
  have:m=[]:=by simpa using hm
  subst this;simpa using fH
 |v::vs,k,off,A,l,m,r,fH,hl,hm=>by
  obtain⟨x,m,rfl⟩:∃x gA,m=x::gA:=by
   cases m with
   |nil=>simp at hm
   |cons x m=>exact⟨x,m,rfl⟩
  rw[zipIdx_cons,foldl_cons];have:=A3 vs (k+1) off (A.setIfInBounds (off+k) v) (l++[v]) m r (by
   rw[Array.toList_setIfInBounds,fH,<-hl,set_append_right _ _ (Nat.le_refl _)];simp) (by simp;omega) (by simpa using hm)
  simpa using this
def kj (os:List (Option Nat)) (a:I):I:=os.foldl (λa o=>hA o a) a
def jO (place:Nat->Option (Nat×Nat)):aj->RL->List (Option Nat)->RK->Option (RL×aj)
 |s,dP,_,[]=>some (dP,s)
 |s,dP,os,(k,a)::r=>match bK s (kj os a),place k,dP[k]? with
  |some (d,s1),some (off,n),some z=>match d with
   | .tuple _=>none
   |d=>if d.wd=n/\z.wd=n/\I.cp (dP.take k)=off then jO place s1 (dP.set k d) (os++[(kj os a).owner]) r else none
  |_,_,_=>none
def kk (w:World) (F:Nat->Prop) (s:aj) (ao:Nat->Value):RK->List (Nat×Value)->Prop
 |[],[]=>True
 |(k,a)::r,(b5,v)::eM=>k=b5/\a.plain=true/\ar w F s ao a v (λ_=>False)/\kk w F s ao r eM
 |_,_=>False
theorem Hv (x:Nat):∀d:I,d.plain=true->(bm x d).plain=true
 | .h y q,_=>by simp only[bm];split<;>(try split)<;>rfl
 | .af y q,_=>by simp only[bm];split<;>rfl
 | .J y q,_=>rfl
 | .fn f c,_=>by simp only[bm];rfl
 | .hole,h=>h
 | .bool _,h=>h
 | .dB,h=>h
 | .int _ _,h=>h
 | .str _,h=>h
 | .cu,h=>h
 | .bz,h=>h
 | .slice _,h=>h
 | .aE _ _,h=>h
 | .ref _,h=>h
 | .bC _,h=>h
 | .agg _,h=>h
 | .tuple _,h=>h
theorem Hw (o:Option Nat) (d:I) (h:d.plain=true):(hA o d).plain=true:=by
 cases o with
 |none=>exact h
 |some x=>exact Hv x d h
theorem kk.bm {w:World} {F:Nat->Prop} {s s1:aj} {ao:Nat->Value} {o:Option Nat} (af:∀(aV:I) (dO:Value) (aB:Nat->Prop),ar w F s ao aV dO aB->ar w F s1 ao (hA o aV) dO aB):
  ∀(r:RK) (eM:List (Nat×Value)),kk w F s ao r eM->kk w F s1 ao (r.map λp=>(p.1,hA o p.2)) eM
 |[],[],_=>trivial
 |(k,a)::r,(b5,v)::eM,h=>by
  obtain⟨U,ab,ay,aQ⟩:=h;exact⟨U,Hw _ _ ab,af _ _ _ ay,kk.bm af r eM aQ⟩
 |[],_::_,h=>h.elim
 |_::_,[],h=>h.elim
theorem w4 {place:Nat->Option (Nat×Nat)}:∀(ps:RK) (vs:List (Nat×Value)) (os:List (Option Nat)) (s:aj) (S:Nat->Nat->Prop) (dP:RL) (A:Array Value) (eQ:Nat->Prop),
  aZ w0 F0 X F S s ao w->kk w F s ao (ps.map λp=>(p.1,kj os p.2)) vs->aH w F dP A.toList eQ->(∀b,eQ b->b<w.heap.size)->(∀b,eQ b->¬F b)->(∀u b,eQ b->¬S u b)->(∀b,eQ b->X b\/w0.heap.size<=b)->
  ∀ds s1,jO place s dP os ps=some (ds,s1)->∃iV bg en,Instr.fill place A vs=some iV/\aZ w0 F0 X F bg s1 ao w/\aH w F ds iV.toList en/\(∀b,en b->b<w.heap.size)/\(∀b,en b->¬F b)/\(∀u b,en b->¬bg u b)/\
   (∀b,en b->X b\/w0.heap.size<=b)/\ds.length=dP.length/\I.cp ds=I.cp dP/\(∀n,(∀d∈dP,d.wd=n)->∀d∈ds,d.wd=n)
 |[],[],os,s,S,dP,A,eQ,h,_,U,ab,ay,aQ,bc,ds,s1,he=>by
  simp only[jO,Option.some.injEq,Prod.mk.injEq]at he;obtain⟨rfl,rfl⟩:=he;exact⟨A,S,eQ,rfl,h,U,ab,ay,aQ,bc,rfl,rfl,λ_ h=>h⟩
 |(k,a)::ps,(b5,v)::vs,os,s,S,dP,A,eQ,h,af,U,ab,ay,aQ,bc,ds,s1,he=>by
  obtain⟨rfl,gT,kU,oO⟩:=af;simp only[jO]at he;split at he
  .rename_i d pW off n z aI dZ bt;have key:∀d:I,(∀al,d≠.tuple al)->bK s (kj os a)=some (d,pW)->(if d.wd=n/\z.wd=n/\I.cp (dP.take k)=off then jO place pW (dP.set k d) (os++[(kj os a).owner]) ps else none)=some (ds,s1)->
     ∃iV bg en,Instr.fill place A ((k,v)::vs)=some iV/\aZ w0 F0 X F bg s1 ao w/\aH w F ds iV.toList en/\(∀b,en b->b<w.heap.size)/\(∀b,en b->¬F b)/\(∀u b,en b->¬bg u b)/\
     (∀b,en b->X b\/w0.heap.size<=b)/\ds.length=dP.length/\I.cp ds=I.cp dP/\(∀n,(∀d∈dP,d.wd=n)->∀d∈ds,d.wd=n):=by
    intro d mx aI he;split at he
    .rename_i ae;obtain⟨tX,mw,A4⟩:=ae;obtain⟨bg,g0,g1,g2,Sn,g3,g4,g5,g6,g7,g8,g9,g10⟩:=lE h gT kU aI;obtain⟨bb,dF,c2,Sx,eW,fH,eR,eo,eF,fj,dM,iN⟩:=aH.pick dP _ _ k z U bt;have oA:=wI g2 mx;have iW:=ah.length _ _ _ g3;have A5:=ah.length _ _ _ dM;have kc:=iN w d (bn v) Sn (λ_ _=>rfl) (λ_ _=>rfl) g3 (λb Hx Hy=>by obtain⟨u,hu⟩:=g9 b Hx;exact aQ u b (eo b Hy) hu);have A6:=A3 (bn v) 0 off A bb dF c2 fH (by rw[eR,A4];rfl) (by rw[A5,iW,tX,mw]);generalize rF:((bn v).zipIdx 0).foldl (λcs (x:Value×Nat)=>cs.setIfInBounds (off+x.2) x.1) A=tH at A6;obtain⟨iV,b0,en,m1,m2,m3,m4,m5,m6,m7,m8,m9,m10⟩:=w4 (place:=place) ps vs (os++[(kj os a).owner]) pW bg (dP.set k d) tH (λb=>Sx b\/Sn b) g0 (by have:=kk.bm g10 _ _ oO;simpa [kj,foldl_append,Function.comp_def]using this) (by rw[A6];exact kc)
      (by rintro b (J|J);exact ab b (eo b J);exact g4 b J) (by rintro b (J|J);exact ay b (eo b J);exact g5 b J)
      (by rintro u b (J|J);exact λhu=>aQ u b (eo b J) (g8 u b hu);exact g6 u b J) (by rintro b (J|J);exact bc b (eo b J);exact g7 b J) ds s1 he
     refine⟨iV,b0,en,?_,m2,m3,m4,m5,m6,m7,by rw[m8];simp,by rw[m9];exact wa _ _ _ _ bt (by rw[tX,mw]),?_⟩
     .have w5:off+n<=A.size:=by
       have:A.size=A.toList.length:=by simp
       rw[this,fH];simp[eR,A4,A5,mw]
      simp only[Instr.fill,dZ,oA,List.size_toArray,iW,tX];have hx:¬(n≠n\/A.size<off+n):=by omega
      have Hz:(bn v).toArray.zipIdx.foldl (λcs (x:Value×Nat)=>cs.setIfInBounds (off+x.2) x.1) A=tH:=by
       rw[<-rF,<-Array.foldl_toList];simp
      simp only[ne_eq,not_true_eq_false,decide_false,Bool.false_or,decide_eq_true_eq,gt_iff_lt];rw[if_neg (by simp;omega)];rw[show(bn v).toArray.zipIdx.foldl (λcs x=>match x with|(c,j)=>cs.setIfInBounds (off+j) c) A=tH from Hz];exact m1
     .intro HA ix;refine m10 HA (wb ix ?_);rw[tX,<-mw];exact ix z (mem_of_getElem? bt)
    .cases he
   split at he
   .cases he
   .rename_i mx;exact key _ (λal e=>mx al e) aI he
  .cases he
 |[],_::_,_,_,_,_,_,_,_,af,_,_,_,_,_,_,_,_=>af.elim
 |_::_,[],_,_,_,_,_,_,_,af,_,_,_,_,_,_,_,_=>af.elim
def ey (C:bl) (s:aj) (T:TypeId) (ps:RK):Option (I×aj):=
 match(C.T T).k,(C.T T).zero with
 | .struct al,.agg dP=>if(flat (.agg dP)).isSome=true/\(∀f∈al,(C.T f.1).ok=true)then
   (match jO (λk=>(al[k]?).map λf=>(f.2,(C.T f.1).sz)) s dP [] ps with
   |some (ds,s1)=>some (.agg ds,s1)
   |none=>none)else none
 |_,_=>none
def dH (C:bl) (s:aj) (T:TypeId) (n:Nat) (ps:RK):Option (I×aj):=
 match(C.T T).k with
 | .slice e=>if(C.T e).ok=true/\(C.T e).zero.wd=(C.T e).sz/\(flat (C.T e).zero).isSome=true/\(C.T e).sz≠0/\n*(C.T e).sz<=16777216 then
   (match jO (λk=>some (k*(C.T e).sz,(C.T e).sz)) s (replicate n (C.T e).zero) [] ps with
   |some (ds,s1)=>some (.aE (C.T e).sz ds,s1)
   |none=>none)else none
 |_=>none
theorem HB (aS:C.cS):∀(gs:List Field),(∀g∈gs,(C.T g.type).ok=true)->
  gs.mapM (λf=>(C.P.info? f.type).map λi=>(f.offset,i.size))=some (gs.map λg=>(g.offset,(C.T g.type).sz)):=by
 intro gs;induction gs with
 |nil=>intro _;simp
 |cons g gs ih=>
  intro hg;obtain⟨i,d,z,f1,f2,f3,f4,f5,f6,f7⟩:=aS.info (hg g (by simp));have:=ih (λg er=>hg g (by simp[er]));simp[mapM_cons,f1,f2,this]
theorem HC (aS:C.cS) (h:aZ w0 F0 X F S s ao w) {T:TypeId} {ps:RK} {vs:List (Nat×Value)} (af:kk w F s ao ps vs) (he:ey C s T ps=some (av,s1)):
  Good C w0 F0 X ao w (Instr.build T vs.toArray) av s1:=by
 unfold ey at he;split at he
 .rename_i al dP ag bt;split at he
  .rename_i ae;obtain⟨oJ,HD⟩:=ae;split at he
   .rename_i ds s2 gR;simp only[Option.some.injEq,Prod.mk.injEq]at he;obtain⟨rfl,rfl⟩:=he;obtain⟨i,d,z,aD,aG,aJ,bp,bJ,bk,a7⟩:=aS.info (dV ag (by simp));rw[ag]at a7;obtain⟨gs,rfl,rG⟩:=rm a7;obtain⟨ep,k2⟩:=Option.isSome_iff_exists.1 oJ;have oK:=bJ ep (by rw[bt];exact k2);have eC:aH w F dP ep.toArray.toList (λ_=>False):=by
     have:=(ah.flat (w:=w) (F:=F) _).1 (.agg dP) ep (λ_=>False) (Nat.le_refl _) k2;rw[ah]at this;simpa using this
    have cD:kk w F s ao (ps.map λp=>(p.1,kj [] p.2)) vs:=by simpa [kj]using af
    obtain⟨iV,bg,en,m1,m2,m3,m4,m5,m6,m7,m8,m9,m10⟩:=w4 ps vs [] s S dP ep.toArray (λ_=>False) h cD eC (λ_ h=>h.elim) (λ_ h=>h.elim) (λ_ _ h=>h.elim) (λ_ h=>h.elim) ds s2 gR;have dZ:=HB aS gs.toList (λg hg=>HD (g.type,g.offset) (by rw[<-rG];exact List.mem_map_of_mem hg));have HE:(λ(k:Nat)=>(al[k]?).map λ(f:TypeId×Nat)=>(f.2,(C.T f.1).sz))=λ(k:Nat)=>((gs.toList.map λg=>(g.offset,(C.T g.type).sz)).toArray)[k]? :=by
     funext k;rw[<-rG];simp only[getElem?_map,getElem?_toArray,Option.map_map];rfl
    rw[HE]at m1;refine⟨.agg iV,w,F,bg,run_build w T vs.toArray iV ?_,m2,.inr ⟨rfl,⟨_,rfl⟩,en,by simp only[bn,eG];rw[ah];exact m3,m4,m5,m6,m7⟩⟩;unfold Program.built;simp only[aD,bk,bp,dZ,oK];exact m1
   .cases he
  .cases he
 .cases he
theorem HF (aS:C.cS) (h:aZ w0 F0 X F S s ao w) {T:TypeId} {n:Nat} {ps:RK} {vs:List (Nat×Value)} (af:kk w F s ao ps vs) (he:dH C s T n ps=some (av,s1)):
  Good C w0 F0 X ao w (Instr.buildSlice T n vs.toArray) av s1:=by
 unfold dH at he;split at he
 .rename_i e ag;split at he
  .rename_i ae;obtain⟨mA,oI,oJ,dm,QS⟩:=ae;split at he
   .rename_i ds s2 gR;simp only[Option.some.injEq,Prod.mk.injEq]at he;obtain⟨rfl,rfl⟩:=he;obtain⟨AL,d,AM,aD,aG,aJ,bp,bJ,bk,a7⟩:=aS.info (dV ag (by simp));rw[ag]at a7;have:=ir a7;subst this;obtain⟨i,AN,z,f1,f2,f3,f4,f5,f6,f7⟩:=aS.info mA;obtain⟨ep,k2⟩:=Option.isSome_iff_exists.1 oJ;have oK:=f5 ep k2;have eC:∀aB,ah w F (C.T e).zero ep aB:=λaB=>(ah.flat _).1 _ ep aB (Nat.le_refl _) k2;have nA:ep.length=(C.T e).sz:=by rw[ah.length _ _ _ (eC (λ_=>False)),oI]
    generalize fH:((Array.range (n*(C.T e).sz)).map ((if n*(C.T e).sz=0 then #[]else ep.toArray)[·%(if n*(C.T e).sz=0 then(#[]:Array Value)else ep.toArray).size]!))=A;have w5:A.toList=(replicate n ep).flatten:=by
     rw[<-fH];by_cases bj:n*(C.T e).sz=0
     .have:n=0:=by
       rcases mul_eq_zero.1 bj with h|h
       .exact h
       .exact(dm h).elim
      subst this;simp
     .simp only[bj,if_false];have:=w3 ep n;rw[nA]at this;simpa [nA]using this
    have cD:kk w F s ao (ps.map λp=>(p.1,kj [] p.2)) vs:=by simpa [kj]using af
    obtain⟨iV,bg,en,m1,m2,m3,m4,m5,m6,m7,m8,m9,m10⟩:=w4 ps vs [] s S (replicate n (C.T e).zero) A (λ_=>False) h cD (by rw[w5];exact aH.replicate eC n _) (λ_ h=>h.elim) (λ_ h=>h.elim) (λ_ _ h=>h.elim) (λ_ h=>h.elim) ds s2 gR;have hlen:ds.length=n:=by rw[m8];simp
    have A7:=m10 (C.T e).sz (by intro d ad;rw[eq_of_mem_replicate ad];exact oI);have HG:iV.toList.length=n*(C.T e).sz:=by rw[aH.oH m3 A7,hlen]
    have HH:iV.size=n*(C.T e).sz:=by rw[<-HG];simp
    have QT:n<=16777216:=by
     have:n*1<=n*(C.T e).sz:=mul_le_mul_left _ (by omega);omega
    have ji:=m2.tL (an:=w.alloc (.cells iV e)) (sz:=(C.T e).sz) (cap:=n) (xs:=ds) (cur:=iV) (e:=e) (fr:=(0,0)) (Sn:=en) rfl rfl rfl ⟨rfl,λ_=>Nat.le_refl _⟩
     (λo _ ⟨_,ab⟩=>absurd ab (not_lt_zero _)) (by omega) (by unfold maxLen;omega) HH A7 (by rw[hlen,take_of_length_le (by omega)];exact m3) m4 m5 m6 m7
    rw[hlen]at ji;refine⟨_,_,F,bg,?_,ji.1,ji.2⟩;by_cases bj:n*(C.T e).sz=0
    .simp only[bj,if_true]at fH;have pX:(Array.map (λ_=>(default:Value)) (Array.range 0))=A:=by
      have:n=0:=by
       rcases mul_eq_zero.1 bj with h|h
       .exact h
       .exact(dm h).elim
      apply Array.ext';rw[w5,this];simp
     simp[Instr.buildSlice,run_underlying bk,hB f1,f2,bj,newRow];rw[pX,m1];simp
    .simp only[bj,if_false]at fH;have hx:¬(16777216<n*(C.T e).sz):=by omega
     simp[Instr.buildSlice,run_underlying bk,hB f1,f2,bj,hx,pL f1 f4,oK,newRow];have pX:(Array.map (λx=>ep[x%ep.length]?.getD default) (Array.range (n*(C.T e).sz)))=A:=by
      rw[<-fH];simp
     rw[pX,m1];simp
   .cases he
  .cases he
 .cases he
end
inductive cw where
 |jk (x:aR)
 |fI (x:aR)
 |pick (c a b:aR)
 |iR (T:TypeId)
 |fF (T:TypeId) (x:aR)
 |ey (T:TypeId) (ps:List (Nat×aR))
 |dH (T:TypeId) (n:Nat) (ps:List (Nat×aR))
 |eL (T:TypeId) (x:aR)
 |gS (T:TypeId) (x y:aR)
 |hG (x:aR)
 |cW (op:BinOp) (T:TypeId) (x y:aR)
 |un (op:UnOp) (x:aR)
 |fG (A B:TypeId) (x:aR)
 |nF (f:FuncId) (cs:List aR)
 |cQ (T:TypeId) (l c:aR)
 |eD (T:TypeId) (x:aR) (di aC:Option aR)
 |hC (T:TypeId) (x:aR) (k:Nat)
 |fE (T:TypeId) (x i:aR)
 |idx (T:TypeId) (x i:aR)
 |ex (x:aR) (k:Nat)
 |iS (T:TypeId) (x:aR) (k:Nat)
 |call (f:aR) (args:List aR)
 |len (T:TypeId) (x:aR)
 |app (T bQ:TypeId) (x y:aR)
 |shr (a6:cw)
 |cap (T:TypeId) (x:aR)
 |fJ (cY:Bool) (x y:aR)
 |bad
 |rH
 |ki (T:TypeId) (x i:aR)
 |jj (T:TypeId) (x i v:aR)
def cw.base:cw->cw
 | .shr a6=>a6
 |a6=>a6
def pY:List Operand->Option (List aR)
 |[]=>some []
 |o::os=>match ch o,pY os with
  |some x,some xs=>some (x::xs)
  |_,_=>none
def pZ:List (Nat×Operand)->Option (List (Nat×aR))
 |[]=>some []
 |(k,o)::os=>match ch o,pZ os with
  |some x,some xs=>some ((k,x)::xs)
  |_,_=>none
def rI:Option Operand->Option (Option aR)
 |none=>some none
 |some o=>(ch o).map some
def cB:Op->Option cw
 | .move x=>(ch x).map .jk
 | .assign x=>(ch x).map .fI
 | .pick c a b=>match ch c,ch a,ch b with
   |some c,some a,some b=>some (.pick c a b)
   |_,_,_=>none
 | .alloc T=>some (.iR T)
 | .box T x=>(ch x).map (.fF T)
 | .build T ps=>(pZ ps.toList).map (.ey T)
 | .buildSlice T n ps=>(pZ ps.toList).map (.dH T n)
 | .load T x=>(ch x).map (.eL T)
 | .store T x y=>match ch x,ch y with
   |some x,some y=>some (.gS T x y)
   |_,_=>none
 | .nilCheck x=>(ch x).map .hG
 | .binOp op T x y _=>match ch x,ch y with
   |some x,some y=>some (.cW op T x y)
   |_,_=>none
 | .unOp op _ x=>(ch x).map (.un op)
 | .convert A B x=>(ch x).map (.fG A B)
 | .makeFunc (.func f) first cs=>if first.isEmpty then(pY cs.toList).map (.nF f)else none
 | .makeSlice T l c=>match ch l,ch c with
   |some l,some c=>some (.cQ T l c)
   |_,_=>none
 | .slice T x di aC none=>match ch x,rI di,rI aC with
   |some x,some di,some aC=>some (.eD T x di aC)
   |_,_,_=>none
 | .fieldAddr T x k=>(ch x).map λx=>.hC T x k
 | .indexAddr T x i=>match ch x,ch i with
   |some x,some i=>some (.fE T x i)
   |_,_=>none
 | .index T x i=>match ch x,ch i with
   |some x,some i=>some (.idx T x i)
   |_,_=>none
 | .extract x k=>(ch x).map λx=>.ex x k
 | .field T x k=>(ch x).map λx=>.iS T x k
 | .makeMap _ none=>some .rH
 | .lookup T x i false=>match ch x,ch i with
   |some x,some i=>some (.ki T x i)
   |_,_=>none
 | .mapUpdate T x i v=>match ch x,ch i,ch v with
   |some x,some i,some v=>some (.jj T x i v)
   |_,_,_=>none
 | .call c=>match c.callee with
   | .value f=>match ch f,pY c.args.toList with
     |some f,some xs=>some (.call f xs)
     |_,_=>none
   | .builtin .len=>match c.args.toList,c.argTypes.toList with
     |[x],[T]=>(ch x).map (.len T)
     |_,_=>none
   | .builtin .cap=>match c.args.toList,c.argTypes.toList with
     |[x],[T]=>(ch x).map (.cap T)
     |_,_=>none
   | .builtin .min=>match c.args.toList with
     |[x,y]=>match ch x,ch y with
      |some x,some y=>some (.fJ false x y)
      |_,_=>none
     |_=>none
   | .builtin .max=>match c.args.toList with
     |[x,y]=>match ch x,ch y with
      |some x,some y=>some (.fJ true x y)
      |_,_=>none
     |_=>none
   | .builtin .append=>match c.args.toList,c.argTypes.toList with
     |[x,y],[T,bQ]=>match ch x,ch y with
      |some x,some y=>some (.app T bQ x y)
      |_,_=>none
     |_,_=>none
   |_=>none
 |_=>none
def fJ (cY:Bool):I->I->Option I
 | .str a,.str b=>some (.str (tr cY a b))
 | .int k a,.int b5 b=>if k=b5 then some (.int k (fC cY a b))else none
 |_,_=>none
def rJ (s:aj):I->Option (I×aj)
 | .h y q=>bK s (.h y q)
 |d=>some (d,s)
def bh (C:bl) (s:aj):cw->Option (I×aj)
 | .jk x=>some (aP s x,s)
 | .fI x=>match aP s x with
   | .h y q=>bK s (.h y q)
   |d=>some (d,s)
 | .pick c a b=>match aP s c with
   | .bool dw=>some (if dw then aP s a else aP s b,s)
   |_=>none
 | .iR T=>(iR C T).map λd=>(d,s)
 | .fF _ x=>fF s (aP s x)
 | .ey T ps=>ey C s T (ps.map λp=>(p.1,aP s p.2))
 | .dH T n ps=>dH C s T n (ps.map λp=>(p.1,aP s p.2))
 | .eL T x=>(eL C s T (aP s x)).map λd=>(d,s)
 | .gS T x y=>(gS C s T (aP s x) (aP s y)).map λs1=>(.hole,s1)
 | .hG x=>(hG s (aP s x)).map λd=>(d,s)
 | .cW op T x y=>(cW C s op T (aP s x) (aP s y)).map λd=>(d,s)
 | .un op x=>(un op (aP s x)).map λd=>(d,s)
 | .fG A B x=>(fG C s A B (aP s x)).map λd=>(d,s)
 | .nF f cs=>some (.fn f (cs.map (aP s)),s)
 | .cQ T l c=>(cQ C T (aP s l) (aP s c)).map λd=>(d,s)
 | .eD T x di aC=>eD C s T (aP s x) (di.map (aP s)) (aC.map (aP s))
 | .hC T x k=>(hC C s T (aP s x) k).map λd=>(d,s)
 | .fE T x i=>(fE C s T (aP s x) (aP s i)).map λd=>(d,s)
 | .idx T x i=>(idx C T (aP s x) (aP s i)).map λd=>(d,s)
 | .ex x k=>(ex s (aP s x) k).map λd=>(d,s)
 | .iS T x k=>(iS C s T (aP s x) k).bind (rJ s)
 | .call _ _=>none
 | .len T x=>(iT C s T (aP s x)).map λd=>(d,s)
 | .app T bQ x y=>mC C s T bQ (aP s x) (aP s y)
 | .shr _=>none
 | .rH=>some (.cf (.mp []),s)
 | .ki T x i=>(ki C s T (aP s x) (aP s i)).map λd=>(d,s)
 | .jj T x i v=>(jj C s T (aP s x) (aP s i) (aP s v)).map λs1=>(.hole,s1)
 | .cap T x=>match(C.T T).k,aP s x with
   | .slice _,.bz=>some (.int .i64 0,s)
   |_,_=>none
 | .fJ cY x y=>(fJ cY (aP s x) (aP s y)).map λd=>(d,s)
 | .bad=>none
section
variable {C:bl} {w0 w:World} {F0 X F:Nat->Prop} {S:Nat->Nat->Prop} {s s1:aj} {a:Act} {av:I}
theorem oP:∀{os:List Operand} {xs:List aR},pY os=some xs->os.map ch=xs.map some
 |[],xs,h=>by simp[pY]at h;subst h;rfl
 |o::os,xs,h=>by
  simp only[pY]at h;split at h
  .rename_i x HI U ab;simp at h;subst h;simp[U,oP ab]
  .cases h
theorem w6 {ao:Nat->Value} (h:aZ w0 F0 X F S s ao w) (cC:∀t,ao t=a.tmps.getD t undef):∀{ps:List (Nat×Operand)} {xs:List (Nat×aR)},pZ ps=some xs->
  kk w F s ao (xs.map λp=>(p.1,aP s p.2)) (ps.map λp=>(p.1,a.eval p.2))
 |[],xs,h=>by simp[pZ]at h;subst h;trivial
 |(k,o)::ps,xs,aN=>by
  simp only[pZ]at aN;split at aN
  .rename_i x HI U ab;simp at aN;subst aN;obtain⟨g1,g2⟩:=dC h cC U;exact⟨rfl,g1,g2,w6 h cC ab⟩
  .cases aN
def Next (C:bl) (w0:World) (F0 X:Nat->Prop) (ao:Nat->Value) (w:World) (m:Sem Go.Next) (av:I) (s1:aj):Prop:=
 ∃r an v a8 aB,m.run C.P w= .ok r an/\(r= .value v\/r= .skip/\v=undef)/\aZ w0 F0 X a8 aB s1 ao an/\hz w0 X a8 aB s1 ao an av v
theorem Good.next {ao:Nat->Value} {m:Sem Value} (h:Good C w0 F0 X ao w m av s1):Next C w0 F0 X ao w (do pure (.value (<-m))) av s1:=by
 obtain⟨v,an,a8,aB,U,ab,ay⟩:=h;exact⟨.value v,an,v,a8,aB,by simp[U],.inl rfl,ab,ay⟩
theorem A8 {ao:Nat->Value} (h:aZ w0 F0 X F S s ao w) {cY:Bool} {x y:I} {fq gb:Value} {m:Sem Go.Next} (U:ar w F s ao x fq (λ_=>False)) (ab:ar w F s ao y gb (λ_=>False))
  (he:(fJ cY x y).map (λd=>(d,s))=some (av,s1)) (hm:m=(do pure (.value (<-if cY then Builtin.max2 fq gb else Builtin.min2 fq gb)))):Next C w0 F0 X ao w m av s1:=by
 simp only[Option.map_eq_some_iff,Prod.mk.injEq]at he;obtain⟨d,ad,rfl,rfl⟩:=he;unfold fJ at ad;split at ad
 .rename_i a b;simp only[Option.some.injEq]at ad;subst ad;have aD:=iv U;have aG:=iv ab;subst aD aG;subst hm;refine⟨.value (.string ⟨⟨tr cY a b⟩⟩),w,_,F,S,?_,.inl rfl,h,.inl ⟨rfl,kY _⟩⟩;cases cY
  .simp only[Builtin.min2,Op.stringOp,rr,tr,Bool.false_eq_true,if_false];cases J:(Op.bytesLess a b||a==b)<;>simp[asBool]
  .simp only[Builtin.max2,Op.stringOp,rr,tr,if_true];cases J:Op.bytesLess a b<;>simp[asBool]
 .rename_i k a b5 b;split at ad
  .rename_i ag;subst ag;simp only[Option.some.injEq]at ad;subst ad;have aD:=jJ U;have aG:=jJ ab;subst aD aG;subst hm;refine⟨.value (.int k (fC cY a b)),w,_,F,S,?_,.inl rfl,h,.inl ⟨rfl,of_int _ _⟩⟩;cases cY<;>simp[Builtin.min2,Builtin.max2,fC]
  .cases ad
 .cases ad
theorem A9 (aS:C.cS) {ao:Nat->Value} (h:aZ w0 F0 X F S s ao w) (cC:∀t,ao t=a.tmps.getD t undef) {o:Oper} {a6:cw} (R:cB o.op=some a6) (he:bh C s a6=some (av,s1)):
  Next C w0 F0 X ao w (execOp a.eval o) av s1:=by
 obtain⟨dst,op,ty,pos,after,guard⟩:=o;simp only at R;cases op with
 |move x=>
  simp only[cB,Option.map_eq_some_iff]at R;obtain⟨ct,ak,rfl⟩:=R;obtain⟨g1,g2⟩:=dC h cC ak;simp only[bh,Option.some.injEq,Prod.mk.injEq]at he;obtain⟨rfl,rfl⟩:=he;exact⟨_,w,_,F,S,rfl,.inl rfl,h,.inl ⟨g1,g2⟩⟩
 |assign x=>
  simp only[cB,Option.map_eq_some_iff]at R;obtain⟨ct,ak,rfl⟩:=R;obtain⟨g1,g2⟩:=dC h cC ak;simp only[bh]at he;split at he
  .rename_i y q hy;rw[hy]at g1 g2;obtain⟨bg,k0,bA,bN,Sn,bO,bL,cz,db,fV,_⟩:=lE h g1 g2 he;exact⟨_,w,_,F,bg,rfl,.inl rfl,k0,.inr ⟨bA,bN,Sn,bO,bL,cz,db,fV⟩⟩
  .simp only[Option.some.injEq,Prod.mk.injEq]at he;obtain⟨rfl,rfl⟩:=he;exact⟨_,w,_,F,S,rfl,.inl rfl,h,.inl ⟨g1,g2⟩⟩
 |pick c x y=>
  simp only[cB]at R;split at R
  .rename_i rK ct iP ae ak hy;simp only[Option.some.injEq]at R;subst R;simp only[bh]at he;split at he
   .rename_i b J;simp only[Option.some.injEq,Prod.mk.injEq]at he;obtain⟨rfl,rfl⟩:=he;have rE:=(dC h cC ae).2;rw[J]at rE;have rE:=ny rE;obtain⟨aA,aM⟩:=dC h cC ak;obtain⟨w7,w8⟩:=dC h cC hy;refine⟨.value (if b then a.eval x else a.eval y),w,_,F,S,?_,.inl rfl,h,.inl ?_⟩
    .simp[execOp,rE,asBool]
    .cases b
     .exact⟨w7,w8⟩
     .exact⟨aA,aM⟩
   .cases he
  .cases R
 |alloc T=>
  simp only[cB,Option.some.injEq]at R;subst R;simp only[bh,Option.map_eq_some_iff,Prod.mk.injEq]at he;obtain⟨d,ad,rfl,rfl⟩:=he;exact(GF aS h ad).next
 |box T x=>
  simp only[cB,Option.map_eq_some_iff]at R;obtain⟨ct,ak,rfl⟩:=R;obtain⟨g1,g2⟩:=dC h cC ak;exact(GH h g1 g2 he).next
 |build T ps=>
  simp only[cB,Option.map_eq_some_iff]at R;obtain⟨HJ,af,rfl⟩:=R;obtain⟨ps⟩:=ps;have:=(HC aS h (w6 h cC af) he).next;simpa [execOp]using this
 |buildSlice T n ps=>
  simp only[cB,Option.map_eq_some_iff]at R;obtain⟨HJ,af,rfl⟩:=R;obtain⟨ps⟩:=ps;have:=(HF aS h (w6 h cC af) he).next;simpa [execOp]using this
 |load T x=>
  simp only[cB,Option.map_eq_some_iff]at R;obtain⟨ct,ak,rfl⟩:=R;obtain⟨g1,g2⟩:=dC h cC ak;simp only[bh,Option.map_eq_some_iff,Prod.mk.injEq]at he;obtain⟨d,ad,rfl,rfl⟩:=he;exact(Gy aS h g2 ad).next
 |store T x y=>
  simp only[cB]at R;split at R
  .rename_i ct iP ak hy;simp only[Option.some.injEq]at R;subst R;simp only[bh,Option.map_eq_some_iff,Prod.mk.injEq]at he;obtain⟨s2,ad,rfl,rfl⟩:=he;obtain⟨an,aB,U,ab⟩:=GC aS h (dC h cC ak).2 (dC h cC hy).1 (dC h cC hy).2 ad;exact⟨.skip,an,undef,F,aB,by simp[execOp,U],.inr ⟨rfl,rfl⟩,ab,.inl ⟨rfl,by rw[ar];trivial⟩⟩
  .cases R
 |nilCheck x=>
  simp only[cB,Option.map_eq_some_iff]at R;obtain⟨ct,ak,rfl⟩:=R;obtain⟨g1,g2⟩:=dC h cC ak;simp only[bh,Option.map_eq_some_iff,Prod.mk.injEq]at he;obtain⟨d,ad,rfl,rfl⟩:=he;obtain⟨rfl,af,az⟩:=GW h g2 ad;refine⟨.value (a.eval x),w,_,F,S,?_,.inl rfl,h,.inl ⟨af,g2⟩⟩;rcases az with⟨b,J⟩|⟨f,c,J⟩<;>simp[execOp,J]
 |binOp op T x y QU=>
  simp only[cB]at R;split at R
  .rename_i ct iP ak hy;simp only[Option.some.injEq]at R;subst R;simp only[bh,Option.map_eq_some_iff,Prod.mk.injEq]at he;obtain⟨d,ad,rfl,rfl⟩:=he;exact(GS aS h x y (dC h cC ak).2 (dC h cC hy).2 ad).next
  .cases R
 |unOp op T x=>
  simp only[cB,Option.map_eq_some_iff]at R;obtain⟨ct,ak,rfl⟩:=R;simp only[bh,Option.map_eq_some_iff,Prod.mk.injEq]at he;obtain⟨d,ad,rfl,rfl⟩:=he;exact(GU h (dC h cC ak).2 ad).next
 |convert A B x=>
  simp only[cB,Option.map_eq_some_iff]at R;obtain⟨ct,ak,rfl⟩:=R;simp only[bh,Option.map_eq_some_iff,Prod.mk.injEq]at he;obtain⟨d,ad,rfl,rfl⟩:=he;exact(G4 aS h (dC h cC ak).2 ad).next
 |makeFunc fn first cs=>
  cases fn with
  |func f=>
   simp only[cB]at R;split at R
   .rename_i HK;simp only[Option.map_eq_some_iff]at R;obtain⟨QV,iQ,rfl⟩:=R;simp only[bh,Option.some.injEq,Prod.mk.injEq]at he;obtain⟨rfl,rfl⟩:=he;have HL:first= #[]:=by simpa using HK
    subst HL;refine⟨_,w,_,F,S,rfl,.inl rfl,h,.inl ⟨rfl,?_⟩⟩;rw[ar];refine⟨cs.map a.eval,by simp,?_⟩;simpa using tW h cC _ _ (oP iQ)
   .cases R
  |_=>simp[cB]at R
 |makeSlice T l c=>
  simp only[cB]at R;split at R
  .rename_i ct iP ak hy;simp only[Option.some.injEq]at R;subst R;simp only[bh,Option.map_eq_some_iff,Prod.mk.injEq]at he;obtain⟨d,ad,rfl,rfl⟩:=he;exact(Hu aS h (dC h cC ak).2 (dC h cC hy).2 ad).next
  .cases R
 |slice T x di aC cY=>
  cases cY with
  |some m=>simp[cB]at R
  |none=>
   simp only[cB]at R;split at R
   .rename_i ct QW A_ ak gp ke;simp only[Option.some.injEq]at R;subst R;obtain⟨g1,g2⟩:=dC h cC ak;have opt:∀{o:Option Operand} {jP:Option aR},rI o=some jP->mz w F s ao (jP.map (aP s)) (o.map a.eval):=by
     intro o jP ba;cases o with
     |none=>simp[rI]at ba;subst ba;trivial
     |some o=>
      simp only[rI,Option.map_eq_some_iff]at ba;obtain⟨x,ak,rfl⟩:=ba;exact(dC h cC ak).2
    exact(G7 aS h g1 g2 (opt gp) (opt ke) he).next
   .cases R
 |fieldAddr T x k=>
  simp only[cB,Option.map_eq_some_iff]at R;obtain⟨ct,ak,rfl⟩:=R;obtain⟨g1,g2⟩:=dC h cC ak;simp only[bh,Option.map_eq_some_iff,Prod.mk.injEq]at he;obtain⟨d,ad,rfl,rfl⟩:=he;exact(Gs aS h g1 g2 ad).next
 |indexAddr T x i=>
  simp only[cB]at R;split at R
  .rename_i ct iP ak hy;simp only[Option.some.injEq]at R;subst R;simp only[bh,Option.map_eq_some_iff,Prod.mk.injEq]at he;obtain⟨d,ad,rfl,rfl⟩:=he;exact(Gt aS h (dC h cC ak).2 (dC h cC hy).2 ad).next
  .cases R
 |index T x i=>
  simp only[cB]at R;split at R
  .rename_i ct iP ak hy;simp only[Option.some.injEq]at R;subst R;simp only[bh,Option.map_eq_some_iff,Prod.mk.injEq]at he;obtain⟨d,ad,rfl,rfl⟩:=he;exact(G1 aS h (dC h cC ak).2 (dC h cC hy).2 ad).next
  .cases R
 |makeMap t r=>
  cases r with
  |none=>
   simp only[cB,Option.some.injEq]at R;subst R;simp only[bh,Option.some.injEq,Prod.mk.injEq]at he;obtain⟨rfl,rfl⟩:=he;exact(Ht h t).next
  |some r=>simp[cB]at R
 |lookup T x i c=>
  cases c with
  |true=>simp[cB]at R
  |false=>
   simp only[cB]at R;split at R
   .rename_i ct mv ak aC;simp only[Option.some.injEq]at R;subst R;simp only[bh,Option.map_eq_some_iff,Prod.mk.injEq]at he;obtain⟨d,ad,rfl,rfl⟩:=he;exact(Hq aS h (dC h cC ak).2 (dC h cC aC).2 ad).next
   .cases R
 |mapUpdate T x i v=>
  simp only[cB]at R;split at R
  .rename_i ct mv dO ak aC az;simp only[Option.some.injEq]at R;subst R;simp only[bh,Option.map_eq_some_iff,Prod.mk.injEq]at he;obtain⟨s2,ad,rfl,rfl⟩:=he;obtain⟨an,aB,U,ab⟩:=Hr aS h (dC h cC ak).2 (dC h cC aC).2 (dC h cC az).2 ad;exact⟨.skip,an,undef,F,aB,by simp[execOp,U],.inr ⟨rfl,rfl⟩,ab,.inl ⟨rfl,by rw[ar];trivial⟩⟩
  .cases R
 |extract x k=>
  simp only[cB,Option.map_eq_some_iff]at R;obtain⟨ct,ak,rfl⟩:=R;simp only[bh,Option.map_eq_some_iff,Prod.mk.injEq]at he;obtain⟨d,ad,rfl,rfl⟩:=he;exact(GY h (dC h cC ak).2 ad).next
 |field T x k=>
  simp only[cB,Option.map_eq_some_iff]at R;obtain⟨ct,ak,rfl⟩:=R;simp only[bh,Option.bind_eq_some_iff]at he;obtain⟨d,ad,he⟩:=he;obtain⟨v,an,a8,aB,ax,dh,kT⟩:=GZ aS h (dC h cC ak).2 ad;unfold rJ at he;split at he
  .rename_i y q;have HM:ar an a8 s ao (.h y q) v (λ_=>False):=by
    rcases kT with⟨_,g2⟩|⟨g1,_⟩
    .exact g2
    .cases g1
   obtain⟨bg,k0,bA,bN,Sn,bO,bL,cz,db,fV,_⟩:=lE dh rfl HM he;exact⟨.value v,an,v,a8,bg,by simp[execOp,ax],.inl rfl,k0,.inr ⟨bA,bN,Sn,bO,bL,cz,db,fV⟩⟩
  .simp only[Option.some.injEq,Prod.mk.injEq]at he;obtain⟨rfl,rfl⟩:=he;exact⟨.value v,an,v,a8,aB,by simp[execOp,ax],.inl rfl,dh,kT⟩
 |call c=>
  obtain⟨callee,args,argTypes⟩:=c;simp only[cB]at R;split at R
  .split at R
   .simp only[Option.some.injEq]at R;subst R;simp[bh]at he
   .cases R
  .split at R
   .rename_i x T kl rL;simp only[Option.map_eq_some_iff]at R;obtain⟨ct,ak,rfl⟩:=R;simp only[bh,Option.map_eq_some_iff,Prod.mk.injEq]at he;obtain⟨d,ad,rfl,rfl⟩:=he;have:=(G2 (ty:=ty) aS h (dC h cC ak).2 ad).next;have aD:args= #[x]:=by apply Array.ext';exact kl
    have aG:argTypes= #[T]:=by apply Array.ext';exact rL
    subst aD aG;simpa [execOp,resolve,invoke,builtin]using this
   .cases R
  .split at R
   .rename_i x T kl rL;simp only[Option.map_eq_some_iff]at R;obtain⟨ct,ak,rfl⟩:=R;simp only[bh]at he;split at he
    .rename_i e ag HN;simp only[Option.some.injEq,Prod.mk.injEq]at he;obtain⟨rfl,rfl⟩:=he;have az:=(dC h cC ak).2;rw[HN]at az;have:=nz az;obtain⟨i,d,z,aD,aG,aJ,bp,bJ,bk,a7⟩:=aS.info (dV ag (by simp));rw[ag]at a7;have ad:=ir a7;subst ad;have HO:args= #[x]:=by apply Array.ext';exact kl
     have HP:argTypes= #[T]:=by apply Array.ext';exact rL
     subst HO HP;have ax:(Builtin.cap_ #[T] ty #[a.eval x]).run C.P w= .ok (.int .i64 0) w:=by
      rw[this];simp[Builtin.cap_,run_underlying bk,goInt]
     have:=(Good.same (av:=.int .i64 0) h ax rfl (of_int _ _)).next;simpa [execOp,resolve,invoke,builtin]using this
    .cases he
   .cases R
  .split at R
   .rename_i x y kl;split at R
    .rename_i ct iP ak hy;simp only[Option.some.injEq]at R;subst R;have aD:args= #[x,y]:=by apply Array.ext';exact kl
     subst aD;exact A8 h (dC h cC ak).2 (dC h cC hy).2 he (by simp[execOp,resolve,invoke,builtin,Builtin.min_])
    .cases R
   .cases R
  .split at R
   .rename_i x y kl;split at R
    .rename_i ct iP ak hy;simp only[Option.some.injEq]at R;subst R;have aD:args= #[x,y]:=by apply Array.ext';exact kl
     subst aD;exact A8 h (dC h cC ak).2 (dC h cC hy).2 he (by simp[execOp,resolve,invoke,builtin,Builtin.max_])
    .cases R
   .cases R
  .split at R
   .rename_i x y T bQ kl rL;split at R
    .rename_i ct iP ak hy;simp only[Option.some.injEq]at R;subst R;have:=(Hh (ty:=ty) aS h (dC h cC ak).2 (dC h cC hy).2 he).next;have aD:args= #[x,y]:=by apply Array.ext';exact kl
     have aG:argTypes= #[T,bQ]:=by apply Array.ext';exact rL
     subst aD aG;simpa [execOp,resolve,invoke,builtin]using this
    .cases R
   .cases R
  .cases R
 |_=>simp[cB]at R
end
mutual
def I.R:I->RG
 | .h x _=>[x]
 | .af x _=>[x]
 | .J x _=>[x]
 | .fn _ cap=>I.cn cap
 |_=>[]
def I.cn:RL->RG
 |[]=>[]
 |d::ds=>d.R++I.cn ds
end
inductive lN where
 |no
 |bm
 |bG
structure et where
 k:lN
 x:Nat
 d:I
def lN.app (k:lN) (x:Nat) (a:I):I:=match k with
 | .no=>a
 | .bm=>ca.bm x a
 | .bG=>ca.bG x a
def et.at (m:et) (u:Nat) (a:I):I:=if u=m.x then m.d else m.k.app m.x a
def gB:List et->Nat->I->I
 |[],_,a=>a
 |m::ms,u,a=>gB ms u (m.at u a)
def cg (ms:List et) (s:aj):aj:=λu=>gB ms u (s u)
theorem Ba:∀(ms hH:List et) (u:Nat) (a:I),gB (ms++hH) u a=gB hH u (gB ms u a)
 |[],_,_,_=>rfl
 |m::ms,hH,u,a=>by simp only[cons_append,gB];exact Ba ms hH u _
theorem jQ (ms hH:List et) (s:aj):cg (ms++hH) s=cg hH (cg ms s):=by
 funext u;simp[cg,Ba]
theorem HQ {ms:List et} {s aq:aj} {u:Nat} (h:aq u=s u):cg ms aq u=cg ms s u:=by simp[cg,h]
theorem oQ (s:aj) (x:Nat) (d:I):cd (fa x s) x d=cg [⟨.bm,x,d⟩] s:=by
 funext u;simp only[cg,gB,et.at,cd,fa,lN.app]
theorem Bb (s:aj) (x:Nat) (d:I):cd (im x s) x d=cg [⟨.bG,x,d⟩] s:=by
 funext u;simp only[cg,gB,et.at,cd,im,lN.app]
theorem HR (s:aj) (x:Nat) (d:I):cd s x d=cg [⟨.no,x,d⟩] s:=by
 funext u;simp only[cg,gB,et.at,cd,lN.app]
mutual
theorem rM {x:Nat}:∀a:I,x∉a.R->bm x a=a
 | .h y q,h=>by
   simp only[I.R,mem_singleton]at h;simp only[bm];rw[if_neg (λe=>h e.symm)]
 | .af y q,h=>by
   simp only[I.R,mem_singleton]at h;simp only[bm];rw[if_neg (λe=>h e.symm)]
 | .J y q,h=>rfl
 | .fn f cap,h=>by simp only[bm];rw[Bc cap (by simpa [I.R]using h)]
 | .hole,_=>rfl
 | .bool _,_=>rfl
 | .dB,_=>rfl
 | .int _ _,_=>rfl
 | .str _,_=>rfl
 | .cu,_=>rfl
 | .bz,_=>rfl
 | .slice _,_=>rfl
 | .aE _ _,_=>rfl
 | .ref _,_=>rfl
 | .bC _,_=>rfl
 | .agg _,_=>rfl
 | .tuple _,_=>rfl
 | .cf _,_=>rfl
 | .dE _ _,_=>rfl
theorem Bc {x:Nat}:∀ds:RL,x∉I.cn ds->ft x ds=ds
 |[],_=>rfl
 |d::ds,h=>by
  simp only[I.cn,mem_append,not_or]at h;simp only[ft];rw[rM d h.1,Bc ds h.2]
end
mutual
theorem w9 {x:Nat}:∀a:I,x∉a.R->bG x a=a
 | .h y q,h=>by
   simp only[I.R,mem_singleton]at h;simp only[bG];rw[if_neg (λe=>h e.symm)]
 | .af y q,h=>by
   simp only[I.R,mem_singleton]at h;simp only[bG];rw[if_neg (λe=>h e.symm)]
 | .J y q,h=>by
   simp only[I.R,mem_singleton]at h;simp only[bG];rw[if_neg (λe=>h e.symm)]
 | .fn f cap,h=>by simp only[bG];rw[Bd cap (by simpa [I.R]using h)]
 | .hole,_=>rfl
 | .bool _,_=>rfl
 | .dB,_=>rfl
 | .int _ _,_=>rfl
 | .str _,_=>rfl
 | .cu,_=>rfl
 | .bz,_=>rfl
 | .slice _,_=>rfl
 | .aE _ _,_=>rfl
 | .ref _,_=>rfl
 | .bC _,_=>rfl
 | .agg _,_=>rfl
 | .tuple _,_=>rfl
 | .cf _,_=>rfl
 | .dE _ _,_=>rfl
theorem Bd {x:Nat}:∀ds:RL,x∉I.cn ds->fS x ds=ds
 |[],_=>rfl
 |d::ds,h=>by
  simp only[I.cn,mem_append,not_or]at h;simp only[fS];rw[w9 d h.1,Bd ds h.2]
end
theorem rN {k:lN} {x:Nat} {a:I} (h:k= .no\/x∉a.R):k.app x a=a:=by
 cases k with
 |no=>rfl
 |bm=>exact rM a (by simpa using h)
 |bG=>exact w9 a (by simpa using h)
mutual
theorem Be (x y:Nat):∀a:I,bm x (bm y a)=bm y (bm x a)
 | .h z q=>by simp only[bm];by_cases U:z=x<;>by_cases ab:z=y<;>by_cases ay:q=[]<;>simp[U,ab,ay,bm]<;>(subst_vars;simp_all [bm])
 | .af z q=>by simp only[bm];by_cases U:z=x<;>by_cases ab:z=y<;>simp[U,ab,bm]<;>(subst_vars;simp_all [bm])
 | .J z q=>rfl
 | .fn f cap=>by simp only[bm];rw[Bf x y cap]
 | .hole=>rfl
 | .bool _=>rfl
 | .dB=>rfl
 | .int _ _=>rfl
 | .str _=>rfl
 | .cu=>rfl
 | .bz=>rfl
 | .slice _=>rfl
 | .aE _ _=>rfl
 | .ref _=>rfl
 | .bC _=>rfl
 | .agg _=>rfl
 | .tuple _=>rfl
 | .cf _=>rfl
 | .dE _ _=>rfl
theorem Bf (x y:Nat):∀ds:RL,ft x (ft y ds)=ft y (ft x ds)
 |[]=>rfl
 |d::ds=>by simp only[ft];rw[Be x y d,Bf x y ds]
end
mutual
theorem Bg (x y:Nat):∀a:I,bG x (bG y a)=bG y (bG x a)
 | .h z q=>by simp only[bG];by_cases U:z=x<;>by_cases ab:z=y<;>simp[U,ab,bG]<;>(subst_vars;simp_all [bG])
 | .af z q=>by simp only[bG];by_cases U:z=x<;>by_cases ab:z=y<;>simp[U,ab,bG]<;>(subst_vars;simp_all [bG])
 | .J z q=>by simp only[bG];by_cases U:z=x<;>by_cases ab:z=y<;>simp[U,ab,bG]<;>(subst_vars;simp_all [bG])
 | .fn f cap=>by simp only[bG];rw[Bh x y cap]
 | .hole=>rfl
 | .bool _=>rfl
 | .dB=>rfl
 | .int _ _=>rfl
 | .str _=>rfl
 | .cu=>rfl
 | .bz=>rfl
 | .slice _=>rfl
 | .aE _ _=>rfl
 | .ref _=>rfl
 | .bC _=>rfl
 | .agg _=>rfl
 | .tuple _=>rfl
 | .cf _=>rfl
 | .dE _ _=>rfl
theorem Bh (x y:Nat):∀ds:RL,fS x (fS y ds)=fS y (fS x ds)
 |[]=>rfl
 |d::ds=>by simp only[fS];rw[Bg x y d,Bh x y ds]
end
mutual
theorem w_ (x y:Nat):∀a:I,bm x (bG y a)=bG y (bm x a)
 | .h z q=>by simp only[bG,bm];by_cases U:z=x<;>by_cases ab:z=y<;>by_cases ay:q=[]<;>simp[U,ab,ay,bG,bm]<;>(subst_vars;simp_all [bG,bm])
 | .af z q=>by simp only[bG,bm];by_cases U:z=x<;>by_cases ab:z=y<;>simp[U,ab,bG,bm]<;>(subst_vars;simp_all [bG,bm])
 | .J z q=>by simp only[bG,bm];by_cases ab:z=y<;>simp[ab,bm]
 | .fn f cap=>by simp only[bG,bm];rw[Bi x y cap]
 | .hole=>rfl
 | .bool _=>rfl
 | .dB=>rfl
 | .int _ _=>rfl
 | .str _=>rfl
 | .cu=>rfl
 | .bz=>rfl
 | .slice _=>rfl
 | .aE _ _=>rfl
 | .ref _=>rfl
 | .bC _=>rfl
 | .agg _=>rfl
 | .tuple _=>rfl
 | .cf _=>rfl
 | .dE _ _=>rfl
theorem Bi (x y:Nat):∀ds:RL,ft x (fS y ds)=fS y (ft x ds)
 |[]=>rfl
 |d::ds=>by simp only[fS,ft];rw[w_ x y d,Bi x y ds]
end
theorem HS (k l:lN) (x y:Nat) (a:I):k.app x (l.app y a)=l.app y (k.app x a):=by
 cases k<;>cases l<;>simp only[lN.app]<;>first|rfl|exact Be .. |exact Bg .. |exact w_ .. |exact(w_ ..).symm
def aR.use (s:aj):aR->RG
 | .t n=>n::(s n).R
 | .c av=>av.R
 | .f _=>[]
def aR.lO (s:aj):List aR->RG
 |[]=>[]
 |x::xs=>x.use s++aR.lO s xs
def xa (s:aj):Option aR->RG
 |none=>[]
 |some x=>x.use s
def use (s:aj):cw->RG
 | .jk x=>x.use s
 | .fI x=>x.use s
 | .pick c a b=>c.use s++(a.use s++b.use s)
 | .iR _=>[]
 | .fF _ x=>x.use s
 | .ey _ ps=>aR.lO s (ps.map (·.2))
 | .dH _ _ ps=>aR.lO s (ps.map (·.2))
 | .eL _ x=>x.use s
 | .gS _ x y=>x.use s++y.use s
 | .hG x=>x.use s
 | .cW _ _ x y=>x.use s++y.use s
 | .un _ x=>x.use s
 | .fG _ _ x=>x.use s
 | .nF _ cs=>aR.lO s cs
 | .cQ _ l c=>l.use s++c.use s
 | .eD _ x di aC=>x.use s++(xa s di++xa s aC)
 | .hC _ x _=>x.use s
 | .fE _ x i=>x.use s++i.use s
 | .idx _ x i=>x.use s++i.use s
 | .ex x _=>x.use s
 | .iS _ x _=>x.use s
 | .call f args=>f.use s++aR.lO s args
 | .len _ x=>x.use s
 | .app _ _ x y=>x.use s++y.use s
 | .shr a6=>use s a6
 | .rH=>[]
 | .ki _ x i=>x.use s++i.use s
 | .jj _ x i v=>x.use s++(i.use s++v.use s)
 | .cap _ x=>x.use s
 | .fJ _ x y=>x.use s++y.use s
 | .bad=>[]
def km (s:aj):cw->RG
 | .fI x=>(aP s x).R
 | .fF _ x=>(aP s x).R
 | .ey _ ps=>I.cn (ps.map λp=>aP s p.2)
 | .dH _ _ ps=>I.cn (ps.map λp=>aP s p.2)
 | .gS _ x y=>(aP s x).R++(aP s y).R
 | .iS _ x _=>(aP s x).R
 | .jj _ x _ _=>(aP s x).R
 | .eD _ x _ _=>(aP s x).R
 | .app _ _ x y=>(aP s x).R++(aP s y).R
 | .shr a6=>km s a6
 |_=>[]
def cl (bQ:RG) (aq s:aj):Prop:=∀u∈bQ,aq u=s u
theorem cl.left {bQ V:RG} {aq s:aj} (h:cl (bQ++V) aq s):cl bQ aq s:=λu hu=>h u (mem_append_left _ hu)
theorem cl.right {bQ V:RG} {aq s:aj} (h:cl (bQ++V) aq s):cl V aq s:=λu hu=>h u (mem_append_right _ hu)
theorem cl.cg {bQ:RG} {aq s:aj} (h:cl bQ aq s) (ms:List et):cl bQ (cg ms aq) (cg ms s):=λu hu=>HQ (h u hu)
theorem cl.sub {bQ V:RG} {aq s:aj} (h:cl bQ aq s) (R:∀u∈V,u∈bQ):cl V aq s:=λu hu=>h u (R u hu)
theorem aR.oR {s:aj} {x:aR}:∀u∈(aP s x).R,u∈x.use s:=by
 intro u hu;cases x with
 |t n=>
  simp only[aP,mr]at hu;split at hu
  .simp[aR.use,hu]
  .simp only[I.R,mem_singleton]at hu;simp[aR.use,hu]
 |c av=>exact hu
 |f g=>simp[aP,I.R,I.cn]at hu
theorem aR.dQ {s aq:aj} {x:aR} (h:cl (x.use s) aq s):aP aq x=aP s x:=by
 cases x with
 |t n=>simp only[aP];rw[h n (by simp[aR.use])]
 |c av=>rfl
 |f g=>rfl
theorem cl.aP {s aq:aj} {x:aR} (h:cl (x.use s) aq s):cl (aP s x).R aq s:=h.sub aR.oR
theorem Bj {s aq:aj} {x:Option aR} (h:cl (xa s x) aq s):x.map (aP aq)=x.map (aP s):=by
 cases x with
 |none=>rfl
 |some x=>simp only[Option.map_some];rw[aR.dQ h]
theorem aR.xb {s aq:aj}:∀{xs:List aR},cl (aR.lO s xs) aq s->xs.map (aP aq)=xs.map (aP s)
 |[],_=>rfl
 |x::xs,h=>by
  simp only[map_cons];rw[aR.dQ (h.left),aR.xb (h.right)]
theorem aR.xc {s aq:aj}:∀{ps:List (Nat×aR)},cl (aR.lO s (ps.map (·.2))) aq s->(ps.map λp=>(p.1,aP aq p.2))=ps.map λp=>(p.1,aP s p.2)
 |[],_=>rfl
 |x::xs,h=>by
  simp only[map_cons]at h⊢;rw[aR.dQ (h.left),aR.xc (h.right)]
theorem aR.tY {s:aj}:∀{xs:List aR},∀u∈I.cn (xs.map (aP s)),u∈aR.lO s xs
 |[],u,h=>by simp[I.cn]at h
 |x::xs,u,h=>by
  simp only[map_cons,I.cn,mem_append]at h;simp only[aR.lO,mem_append];exact h.imp (aR.oR u) (aR.tY u)
section
variable {C:bl} {s aq:aj} {x y i:I} {T A B:TypeId}
theorem xd (h:cl x.R aq s):loc aq x=loc s x:=by
 cases x<;>first
  |rfl
  |(simp only[loc];rw[h _ (by simp[I.R])])
theorem xe {z:Nat} {q:RG} (h:loc s x=some (z,q)):z∈x.R:=by
 cases x with
 |h y p=>
  simp only[loc]at h;split at h
  .simp only[Option.some.injEq,Prod.mk.injEq]at h;simp[I.R,h.1]
  .cases h
 |af y p=>
  simp only[loc]at h;split at h
  .simp only[Option.some.injEq,Prod.mk.injEq]at h;simp[I.R,h.1]
  .cases h
 |_=>simp[loc]at h
theorem HT (h:cl x.R aq s):eL C aq T x=eL C s T x:=by
 have hl:=xd h;unfold eL;split
 .rfl
 .rw[h _ (by simp[I.R])]
 .rw[hl];split
  .rename_i e;rw[h _ (xe e)]
  .rfl
theorem HU {k:Nat} (h:cl x.R aq s):hC C aq T x k=hC C s T x k:=by
 have hl:=xd h;unfold hC;split
 .split
  .split
   .split
    .rfl
    .rw[h _ (by simp[I.R])]
    .rw[hl];split
     .rename_i e;rw[h _ (xe e)]
     .rfl
   .rfl
  .rfl
 .rfl
theorem HV (h:cl x.R aq s):fE C aq T x i=fE C s T x i:=by
 cases x<;>first
  |rfl
  |(simp only[fE];rw[h _ (by simp[I.R])])
theorem HW (h:cl x.R aq s):iT C aq T x=iT C s T x:=by
 unfold iT;cases(C.T T).k<;>cases x<;>first
  |rfl
  |(simp only;rw[h _ (by simp[I.R])])
theorem HX (h:cl x.R aq s):fG C aq A B x=fG C s A B x:=by
 unfold fG;cases(C.T B).k<;>cases x<;>first
  |rfl
  |(simp only;rw[h _ (by simp[I.R])])
theorem HY (h:cl x.R aq s):hY aq x=hY s x:=by
 cases x<;>first
  |rfl
  |(simp only[hY];rw[h _ (by simp[I.R])])
theorem HZ (h:cl x.R aq s):hZ aq x=hZ s x:=by
 cases x<;>first
  |rfl
  |(simp only[hZ];rw[h _ (by simp[I.R])])
theorem H0 {op:BinOp} (h:cl x.R aq s):cW C aq op T x y=cW C s op T x y:=by
 have U:=HY h;have ab:=HZ h;unfold cW;split<;>first|rfl|simp only[U,ab]
theorem H2 (h:cl x.R aq s):hG aq x=hG s x:=by
 cases x<;>first
  |rfl
  |(simp only[hG];rw[h _ (by simp[I.R])])
theorem H3 {k y:Nat} {q:RG} (h:iS C s T x k=some (.h y q)):x.R=[y]:=by
 unfold iS at h;split at h<;>try (cases h;done)
 split at h<;>try (cases h;done)
 split at h
 .split at h<;>try (cases h;done)
  split at h
  .rename_i ae;simp only[Option.some.injEq]at h;rw[h]at ae;exact absurd ae.2.2.2 (by simp[I.tree])
  .cases h
 .split at h<;>try (cases h;done)
  split at h<;>try (cases h;done)
  split at h<;>try (cases h;done)
  rename_i d ad ae;by_cases af:d.plain=true
  .simp only[af,if_true,Option.some.injEq]at h;rw[h]at ae;exact absurd ae.2.2.2 (by simp[I.tree])
  .simp only[af,Option.some.injEq]at h;injection h with U ab;subst U;rfl
 .cases h
theorem Bk {k:Nat} (h:cl x.R aq s):iS C aq T x k=iS C s T x k:=by
 unfold iS;split<;>try rfl
 split<;>try rfl
 cases x<;>first
  |rfl
  |(simp only[];rw[h _ (by simp[I.R])])
theorem H4 {k:Nat} (h:cl x.R aq s):ex aq x k=ex s x k:=by
 cases x<;>first
  |rfl
  |(simp only[ex];rw[h _ (by simp[I.R])])
theorem p0:∀(q:RG) (a d e:I),I.sub q a=some d->(d.plain=false\/q≠[])->(q=[]->e.R=[])->(I.put q e a).R=[]:=by
 intro q a d e h af he;cases q with
 |nil=>rw[I.put];exact he rfl
 |cons k q=>
  cases a<;>first
   |(simp[I.sub]at h;done)
   |skip
  all_goals
   unfold I.put
   repeat' split
   all_goals first|rfl|(simp_all;done)
end
def Loc {α:Type} (bQ p1:RG) (f:aj->Option (α×aj)) (s:aj) (av:α) (s1:aj):Prop:=
 ∃ms,s1=cg ms s/\(∀m∈ms,m.x∈p1/\m.d.R=[])/\∀aq,cl bQ aq s->f aq=some (av,cg ms aq)
theorem Loc.pure {α:Type} {bQ p1:RG} {f:aj->Option (α×aj)} {s:aj} {av:α} (h:∀aq,cl bQ aq s->f aq=some (av,aq)):Loc bQ p1 f s av s:=
 ⟨[],rfl,by simp,λaq R=>h aq R⟩
theorem Loc.mono {α:Type} {bQ p1 Bl Bm:RG} {f:aj->Option (α×aj)} {s s1:aj} {av:α} (h:Loc bQ p1 f s av s1) (lL:∀u∈bQ,u∈Bl) (gP:∀u∈p1,u∈Bm):Loc Bl Bm f s av s1:=by
 obtain⟨ms,U,ab,ay⟩:=h;exact⟨ms,U,λm hm=>⟨gP _ (ab m hm).1,(ab m hm).2⟩,λaq R=>ay aq (R.sub lL)⟩
section
variable {C:bl} {s s1:aj} {x y d:I} {T A B:TypeId}
theorem nG (h:bK s x=some (d,s1)):Loc x.R x.R (λs=>bK s x) s d s1:=by
 cases x with
 |h y q=>
  simp only[bK]at h;split at h
  .rename_i e he;split at h
   .cases h
   .rename_i af;simp only[Option.some.injEq,Prod.mk.injEq]at h;obtain⟨rfl,rfl⟩:=h;have af:e.plain=false:=by simpa using af
    refine⟨[⟨.bm,y,I.put q e.bU (s y)⟩],oQ _ _ _,?_,?_⟩
    .intro m hm;simp only[mem_singleton]at hm;subst hm;refine⟨by simp[I.R],p0 q _ _ _ he (.inl af) λb2=>?_⟩;subst b2;cases e<;>first|(simp[I.plain]at af;done)|rfl
    .intro aq R;have aD:aq y=s y:=R y (by simp[I.R]);simp only[bK,aD,he,af];rw[<-oQ];rfl
  .cases h
 |af y q=>simp[bK]at h
 |J y q=>simp[bK]at h
 |fn f c=>simp[bK]at h
 |hole=>simp[bK]at h
 |_=>
  simp only[bK,Option.some.injEq,Prod.mk.injEq]at h;obtain⟨rfl,rfl⟩:=h;exact .pure λaq _=>rfl
mutual
theorem Bn (x:Nat):∀a:I,∀u∈(bm x a).R,u∈a.R
 | .h y q,u,h=>by
   simp only[bm]at h;split at h
   .split at h
    .exact h
    .simp[I.R]at h
   .exact h
 | .af y q,u,h=>by
   simp only[bm]at h;split at h
   .simp[I.R]at h
   .exact h
 | .J y q,u,h=>h
 | .fn f cap,u,h=>by simp only[bm,I.R]at h⊢;exact Bo x cap u h
 | .hole,u,h=>h
 | .bool _,u,h=>h
 | .dB,u,h=>h
 | .int _ _,u,h=>h
 | .str _,u,h=>h
 | .cu,u,h=>h
 | .bz,u,h=>h
 | .slice _,u,h=>h
 | .aE _ _,u,h=>h
 | .ref _,u,h=>h
 | .bC _,u,h=>h
 | .agg _,u,h=>h
 | .tuple _,u,h=>h
theorem Bo (x:Nat):∀ds:RL,∀u∈I.cn (ft x ds),u∈I.cn ds
 |[],u,h=>h
 |d::ds,u,h=>by
  simp only[ft,I.cn,mem_append]at h⊢;exact h.imp (Bn x d u) (Bo x ds u)
end
theorem xf (o:Option Nat) (a:I):∀u∈(hA o a).R,u∈a.R:=by
 intro u h;cases o with
 |none=>exact h
 |some x=>exact Bn x a u h
theorem Bp:∀(os:List (Option Nat)) (a:I),∀u∈(kj os a).R,u∈a.R:=by
 intro os;induction os with
 |nil=>intro a u h;exact h
 |cons o os ih=>intro a u h;exact xf o a u (ih (hA o a) u h)
theorem Bq {place:Nat->Option (Nat×Nat)}:∀{ps:RK} {s s1:aj} {dP ds:RL} {os:List (Option Nat)},jO place s dP os ps=some (ds,s1)->
  Loc (I.cn (ps.map (·.2))) (I.cn (ps.map (·.2))) (λs=>jO place s dP os ps) s ds s1:=by
 intro ps;induction ps with
 |nil=>
  intro s s1 dP ds os h;simp only[jO,Option.some.injEq,Prod.mk.injEq]at h;obtain⟨rfl,rfl⟩:=h;exact .pure λaq _=>rfl
 |cons p ps ih=>
  intro s s1 dP ds os h;obtain⟨k,a⟩:=p;simp only[jO]at h;split at h
  .rename_i d s2 off n z aI dZ bt;split at h
   .cases h
   .rename_i aV jl;split at h
    .rename_i ae;obtain⟨k4,rfl,ab,ay⟩:=nG aI;obtain⟨nE,rfl,bc,bW⟩:=ih h;refine⟨k4++nE,(jQ _ _ _).symm,?_,?_⟩
     .intro m hm;simp only[map_cons,I.cn,mem_append]at hm⊢;rcases hm with hm|hm
      .exact⟨.inl (Bp _ _ _ (ab m hm).1),(ab m hm).2⟩
      .exact⟨.inr (bc m hm).1,(bc m hm).2⟩
     .intro aq R;simp only[map_cons,I.cn]at R;have aD:=ay aq (R.left.sub (Bp _ _));have aG:=bW (cg k4 aq) (R.right.cg k4);simp only at aD aG;simp only[jO,aD,dZ,bt,jQ];rw[if_pos ae];exact aG
    .cases h
  .cases h
theorem H5 {ps:RK} {av:I} (h:ey C s T ps=some (av,s1)):Loc (I.cn (ps.map (·.2))) (I.cn (ps.map (·.2))) (λs=>ey C s T ps) s av s1:=by
 unfold ey at h;split at h
 .rename_i al dP ag bt;split at h
  .rename_i ae;split at h
   .rename_i ds s2 bq;simp only[Option.some.injEq,Prod.mk.injEq]at h;obtain⟨rfl,rfl⟩:=h;obtain⟨ms,U,ab,ay⟩:=Bq bq;refine⟨ms,U,ab,λaq R=>?_⟩;have:=ay aq R;simp only at this;simp only[ey,ag,bt,if_pos ae,this]
   .cases h
  .cases h
 .cases h
theorem H6 {n:Nat} {ps:RK} {av:I} (h:dH C s T n ps=some (av,s1)):Loc (I.cn (ps.map (·.2))) (I.cn (ps.map (·.2))) (λs=>dH C s T n ps) s av s1:=by
 unfold dH at h;split at h
 .rename_i e ag;split at h
  .rename_i ae;split at h
   .rename_i ds s2 bq;simp only[Option.some.injEq,Prod.mk.injEq]at h;obtain⟨rfl,rfl⟩:=h;obtain⟨ms,U,ab,ay⟩:=Bq bq;refine⟨ms,U,ab,λaq R=>?_⟩;have:=ay aq R;simp only at this;simp only[dH,ag,if_pos ae,this]
   .cases h
  .cases h
 .cases h
theorem H7 {av:I} (h:fF s x=some (av,s1)):Loc x.R x.R (λs=>fF s x) s av s1:=by
 unfold fF at h;split at h
 .cases h
 .rename_i d s2 jl aI;simp only[Option.some.injEq,Prod.mk.injEq]at h;obtain⟨rfl,rfl⟩:=h;obtain⟨ms,U,ab,ay⟩:=nG aI;refine⟨ms,U,ab,λaq R=>?_⟩;have:=ay aq R;simp only at this;simp only[fF,this]
 .cases h
theorem H8 {s2:aj} (h:gS C s T x y=some s2):Loc (x.R++y.R) (x.R++y.R) (λs=>(gS C s T x y).map λs1=>(I.hole,s1)) s .hole s2:=by
 unfold gS at h;split at h
 .rename_i d s1 z q aI hl;obtain⟨ms,U,ab,ay⟩:=nG aI;have bt:=xe hl;have b2:q≠[]:=by
   cases x with
   |h y p=>
    simp only[loc]at hl;split at hl
    .simp only[Option.some.injEq,Prod.mk.injEq]at hl;simp[<-hl.2]
    .cases hl
   |af y p=>
    simp only[loc]at hl;split at hl
    .rename_i kX;simp only[Option.some.injEq,Prod.mk.injEq]at hl;obtain⟨rfl,rfl⟩:=hl;intro e;subst e;simp[I.dt]at kX
    .cases hl
   |_=>simp[loc]at hl
  split at h
  .cases h
  .rename_i aV jl;split at h
   .rename_i d0 jh;split at h
    .rename_i ae;simp only[Option.some.injEq]at h;subst h;refine⟨ms++[⟨.bm,z,I.put q d (s z)⟩],?_,?_,?_⟩
     .rw[jQ,<-U,oQ]
     .intro m hm;simp only[mem_append,mem_singleton]at hm⊢;rcases hm with hm|rfl
      .exact⟨.inr (ab m hm).1,(ab m hm).2⟩
      .exact⟨.inl bt,p0 q _ _ _ jh (.inr b2) λe=>(b2 e).elim⟩
     .intro aq R;have aD:=ay aq R.right;simp only at aD;simp only[gS,aD,xd R.left,hl,R.left z bt,jh];cases d<;>first|(simp only[if_pos ae,Option.map_some,jQ,oQ];done)|exact(jl _ rfl).elim
    .cases h
   .cases h
 .cases h
theorem H9 {di aC:Option I} {av:I} (h:eD C s T x di aC=some (av,s1)):Loc x.R x.R (λs=>eD C s T x di aC) s av s1:=by
 cases x with
 |h y q=>
  unfold eD at h;split at h<;>first|(cases h;done)|skip
  all_goals (rename_i ak;try cases ak)
  rename_i e ag;split at h
  .rename_i sz xs cZ;split at h
   .rename_i b gp ke;split at h
    .rename_i ae;split at h
     .rename_i d s2 aI;simp only[Option.some.injEq,Prod.mk.injEq]at h;obtain⟨rfl,rfl⟩:=h;obtain⟨ms,U,ab,ay⟩:=nG aI;refine⟨ms,U,ab,λaq R=>?_⟩;have:=ay aq R;simp only at this;have aD:aq y=s y:=R y (by simp[I.R]);simp only[eD,ag,aD,cZ,gp,ke,if_pos ae,this]
     .cases h
    .cases h
   .cases h
  .cases h
 |_=>
  have oS:s1=s:=by
   unfold eD at h
   repeat' split at h
   all_goals first|(cases h;done)|(simp only[Option.some.injEq,Prod.mk.injEq]at h;exact h.2.symm)|simp_all
  subst oS;refine .pure λaq _=>?_;unfold eD at h⊢
  repeat' split at h
  all_goals first
   |(cases h;done)
   |(simp only[Option.some.injEq,Prod.mk.injEq]at h
     obtain⟨rfl,_⟩:=h;simp_all)
def lP (C:bl) (e:TypeId) (s:aj):I->Option (I×aj)
 | .bz=>some (I.aE (C.T e).sz [],s)
 | .h a q=>bK s (.h a q)
 |_=>none
def h1 (s1:aj):I->Option (RL×aj)
 | .bz=>some ([],s1)
 | .slice bM=>some (bM,s1)
 | .str l=>some (l.map eN,s1)
 | .h a q=>match bK s1 (.h a q)with
   |some (.aE _ bM,s2)=>some (bM,s2)
   |_=>none
 |_=>none
theorem xg (C:bl) (s:aj) (T bQ:TypeId) (x y:I):mC C s T bQ x y=(match(C.T T).k with
 | .slice e=>if(C.T e).ok=true/\(C.T e).zero.wd=(C.T e).sz/\(flat (C.T e).zero).isSome=true/\tQ C e bQ=true then
   match lP C e s x with
   |some (.aE sz xs,s1)=>if sz=(C.T e).sz then
     match h1 s1 (hA x.owner y)with
     |some (bM,s2)=>if(∀d∈bM,d.wd=(C.T e).sz)/\(xs.length+bM.length)*(C.T e).bytes<=140737488355328/\xs.length+bM.length<=9223372036854775807 then some (.aE sz (xs++bM),s2)else none
     |none=>none
    else none
   |_=>none
   else none
 |_=>none):=by
 unfold mC;generalize hA x.owner y=iP;cases(C.T T).k<;>first
  |rfl
  |(cases x<;>cases iP<;>rfl)
theorem H_ {e:TypeId} {d:I} (U:lP C e s x=some (d,s1)):Loc x.R x.R (λs=>lP C e s x) s d s1:=by
 cases x with
 |bz=>
  simp only[lP,Option.some.injEq,Prod.mk.injEq]at U;obtain⟨U,rfl⟩:=U;exact .pure λaq _=>by simp only[lP,U]
 |h a q=>exact nG U
 |_=>simp[lP]at U
theorem Ia {bM:RL} (ab:h1 s y=some (bM,s1)):Loc y.R y.R (λs=>h1 s y) s bM s1:=by
 cases y with
 |bz=>
  simp only[h1,Option.some.injEq,Prod.mk.injEq]at ab;obtain⟨rfl,rfl⟩:=ab;exact .pure λaq _=>rfl
 |slice bM=>
  simp only[h1,Option.some.injEq,Prod.mk.injEq]at ab;obtain⟨rfl,rfl⟩:=ab;exact .pure λaq _=>rfl
 |str l=>
  simp only[h1,Option.some.injEq,Prod.mk.injEq]at ab;obtain⟨rfl,rfl⟩:=ab;exact .pure λaq _=>rfl
 |h a q=>
  simp only[h1]at ab;split at ab
  .rename_i Hj QX hI aI;simp only[Option.some.injEq,Prod.mk.injEq]at ab;obtain⟨rfl,rfl⟩:=ab;obtain⟨ms,g1,g2,g3⟩:=nG aI;refine⟨ms,g1,g2,λaq R=>?_⟩;have:=g3 aq R;simp only at this;simp only[h1,this]
  .cases ab
 |_=>simp[h1]at ab
theorem Ib {av:I} (h:mC C s T A x y=some (av,s1)):Loc (x.R++y.R) (x.R++y.R) (λs=>mC C s T A x y) s av s1:=by
 rw[xg]at h;split at h
 .rename_i e ag;split at h
  .rename_i ae;split at h
   .rename_i sz xs s2 U;split at h
    .rename_i dm;split at h
     .rename_i bM rO ab;split at h
      .rename_i mw;simp only[Option.some.injEq,Prod.mk.injEq]at h;obtain⟨rfl,rfl⟩:=h;obtain⟨k4,rfl,a2,a3⟩:=H_ U;obtain⟨nE,rfl,dW,iw⟩:=(Ia ab).mono (xf _ _) (xf _ _);refine⟨k4++nE,(jQ _ _ _).symm,?_,?_⟩
       .intro m hm;simp only[mem_append]at hm⊢;rcases hm with hm|hm
        .exact⟨.inl (a2 m hm).1,(a2 m hm).2⟩
        .exact⟨.inr (dW m hm).1,(dW m hm).2⟩
       .intro aq R;have aD:=a3 aq R.left;have aG:=iw (cg k4 aq) (R.right.cg k4);simp only at aD aG;simp only[xg,ag,if_pos ae,aD,if_pos dm,aG,if_pos mw,jQ]
      .cases h
     .cases h
    .cases h
   .cases h
  .cases h
 .cases h
theorem Ic {aq:aj} {i:I} (h:cl x.R aq s):ki C aq T x i=ki C s T x i:=by
 cases x with
 |h y q=>cases i<;>simp only[ki,h y (by simp[I.R])]
 |_=>rfl
theorem Ie {i v:I} {s2:aj} (h:jj C s T x i v=some s2):Loc x.R x.R (λs=>(jj C s T x i v).map λs1=>(I.hole,s1)) s .hole s2:=by
 unfold jj at h;split at h
 .rename_i y q k b;split at h
  .rename_i m ad;split at h
   .rename_i gP;simp only[Option.some.injEq]at h;subst h;refine⟨[⟨.bm,y,I.put q (.cf (.mp (lB k b m))) (s y)⟩],oQ _ _ _,?_,λaq R=>?_⟩
    .intro n aT;simp only[mem_singleton]at aT;subst aT;exact⟨by simp[I.R],p0 q _ _ _ ad (.inl rfl) λ_=>rfl⟩
    .have aD:aq y=s y:=R y (by simp[I.R]);simp only[jj,aD,ad,gP,if_true,Option.map_some];rw[<-oQ]
   .cases h
  .cases h
 .cases h
theorem Br {a6:cw} {av:I} (h:bh C s a6=some (av,s1)):Loc (use s a6) (km s a6) (λs=>bh C s a6) s av s1:=by
 cases a6 with
 |shr a6=>simp[bh]at h
 |bad=>simp[bh]at h
 |fJ cY x y=>
  simp only[bh,Option.map_eq_some_iff,Prod.mk.injEq]at h;obtain⟨d,ad,rfl,rfl⟩:=h;exact .pure λaq R=>by
   simp only[use]at R;simp only[bh,aR.dQ (x:=x) R.left,aR.dQ (x:=y) R.right,ad,Option.map_some]
 |cap T x=>
  simp only[bh]at h;split at h
  .rename_i e ag ak;simp only[Option.some.injEq,Prod.mk.injEq]at h;obtain⟨rfl,rfl⟩:=h;exact .pure λaq R=>by simp only[bh,aR.dQ (x:=x) R,ag,ak]
  .cases h
 |jk x=>
  simp only[bh,Option.some.injEq,Prod.mk.injEq]at h;obtain⟨rfl,rfl⟩:=h;exact .pure λaq R=>by simp only[bh,aR.dQ (x:=x) R]
 |fI x=>
  simp only[bh]at h;split at h
  .rename_i y q ak;obtain⟨ms,U,ab,ay⟩:=nG h;refine⟨ms,U,by simpa only[km,ak]using ab,λaq R=>?_⟩;have e:=aR.dQ (x:=x) R;have aG:=ay aq (by rw[<-ak];exact cl.aP R);simp only[bh,e,ak];exact aG
  .rename_i Ig;simp only[Option.some.injEq,Prod.mk.injEq]at h;obtain⟨rfl,rfl⟩:=h;refine .pure λaq R=>?_;have e:=aR.dQ (x:=x) R;simp only[bh,e]
 |pick c a b=>
  simp only[bh]at h;split at h
  .rename_i dw J;simp only[Option.some.injEq,Prod.mk.injEq]at h;obtain⟨rfl,rfl⟩:=h;refine .pure λaq R=>?_;simp only[use]at R;simp only[bh,aR.dQ (x:=c) R.left,aR.dQ (x:=a) R.right.left,aR.dQ (x:=b) R.right.right,J]
  .cases h
 |iR T=>
  simp only[bh,Option.map_eq_some_iff,Prod.mk.injEq]at h;obtain⟨d,ad,rfl,rfl⟩:=h;exact .pure λaq R=>by simp only[bh,ad,Option.map_some]
 |fF T x=>
  obtain⟨ms,U,ab,ay⟩:=H7 h;refine⟨ms,U,ab,λaq R=>?_⟩;simp only[bh,aR.dQ (x:=x) R];exact ay aq (cl.aP R)
 |ey T ps=>
  obtain⟨ms,U,ab,ay⟩:=H5 h;simp only[List.map_map,Function.comp_def]at ab ay;refine⟨ms,U,ab,λaq R=>?_⟩;simp only[bh,aR.xc (ps:=ps) R];refine ay aq (R.sub λu hu=>?_);simp only[use];exact aR.tY u (by simpa [List.map_map,Function.comp_def]using hu)
 |dH T n ps=>
  obtain⟨ms,U,ab,ay⟩:=H6 h;simp only[List.map_map,Function.comp_def]at ab ay;refine⟨ms,U,ab,λaq R=>?_⟩;simp only[bh,aR.xc (ps:=ps) R];refine ay aq (R.sub λu hu=>?_);simp only[use];exact aR.tY u (by simpa [List.map_map,Function.comp_def]using hu)
 |eL T x=>
  simp only[bh,Option.map_eq_some_iff,Prod.mk.injEq]at h;obtain⟨d,ad,rfl,rfl⟩:=h;exact .pure λaq R=>by simp only[bh,aR.dQ (x:=x) R,HT (cl.aP R),ad,Option.map_some]
 |gS T x y=>
  simp only[bh,Option.map_eq_some_iff,Prod.mk.injEq]at h;obtain⟨s2,ad,rfl,rfl⟩:=h;obtain⟨ms,U,ab,ay⟩:=H8 ad;refine⟨ms,U,ab,λaq R=>?_⟩;simp only[use]at R;simp only[bh,aR.dQ (x:=x) R.left,aR.dQ (x:=y) R.right];exact ay aq (R.sub λu hu=>by simp only[mem_append]at hu⊢;exact hu.imp (aR.oR u) (aR.oR u))
 |hG x=>
  simp only[bh,Option.map_eq_some_iff,Prod.mk.injEq]at h;obtain⟨d,ad,rfl,rfl⟩:=h;exact .pure λaq R=>by simp only[bh,aR.dQ (x:=x) R,H2 (cl.aP R),ad,Option.map_some]
 |cW op T x y=>
  simp only[bh,Option.map_eq_some_iff,Prod.mk.injEq]at h;obtain⟨d,ad,rfl,rfl⟩:=h;refine .pure λaq R=>?_;simp only[use]at R;simp only[bh,aR.dQ (x:=x) R.left,aR.dQ (x:=y) R.right,H0 (cl.aP R.left),ad,Option.map_some]
 |un op x=>
  simp only[bh,Option.map_eq_some_iff,Prod.mk.injEq]at h;obtain⟨d,ad,rfl,rfl⟩:=h;exact .pure λaq R=>by simp only[bh,aR.dQ (x:=x) R,ad,Option.map_some]
 |fG A B x=>
  simp only[bh,Option.map_eq_some_iff,Prod.mk.injEq]at h;obtain⟨d,ad,rfl,rfl⟩:=h;exact .pure λaq R=>by simp only[bh,aR.dQ (x:=x) R,HX (cl.aP R),ad,Option.map_some]
 |nF f cs=>
  simp only[bh,Option.some.injEq,Prod.mk.injEq]at h;obtain⟨rfl,rfl⟩:=h;exact .pure λaq R=>by simp only[bh,aR.xb (xs:=cs) R]
 |cQ T l c=>
  simp only[bh,Option.map_eq_some_iff,Prod.mk.injEq]at h;obtain⟨d,ad,rfl,rfl⟩:=h;refine .pure λaq R=>?_;simp only[use]at R;simp only[bh,aR.dQ (x:=l) R.left,aR.dQ (x:=c) R.right,ad,Option.map_some]
 |eD T x di aC=>
  simp only[bh]at h;obtain⟨ms,U,ab,ay⟩:=H9 h;refine⟨ms,U,ab,λaq R=>?_⟩;simp only[use]at R;simp only[bh,aR.dQ (x:=x) R.left,Bj R.right.left,Bj R.right.right];exact ay aq (cl.aP R.left)
 |hC T x k=>
  simp only[bh,Option.map_eq_some_iff,Prod.mk.injEq]at h;obtain⟨d,ad,rfl,rfl⟩:=h;exact .pure λaq R=>by simp only[bh,aR.dQ (x:=x) R,HU (cl.aP R),ad,Option.map_some]
 |fE T x i=>
  simp only[bh,Option.map_eq_some_iff,Prod.mk.injEq]at h;obtain⟨d,ad,rfl,rfl⟩:=h;refine .pure λaq R=>?_;simp only[use]at R;simp only[bh,aR.dQ (x:=x) R.left,aR.dQ (x:=i) R.right,HV (cl.aP R.left),ad,Option.map_some]
 |idx T x i=>
  simp only[bh,Option.map_eq_some_iff,Prod.mk.injEq]at h;obtain⟨d,ad,rfl,rfl⟩:=h;refine .pure λaq R=>?_;simp only[use]at R;simp only[bh,aR.dQ (x:=x) R.left,aR.dQ (x:=i) R.right,ad,Option.map_some]
 |ex x k=>
  simp only[bh,Option.map_eq_some_iff,Prod.mk.injEq]at h;obtain⟨d,ad,rfl,rfl⟩:=h;exact .pure λaq R=>by simp only[bh,aR.dQ (x:=x) R,H4 (cl.aP R),ad,Option.map_some]
 |rH=>
  simp only[bh,Option.some.injEq,Prod.mk.injEq]at h;obtain⟨rfl,rfl⟩:=h;exact .pure λaq R=>rfl
 |ki T x i=>
  simp only[bh,Option.map_eq_some_iff,Prod.mk.injEq]at h;obtain⟨d,ad,rfl,rfl⟩:=h;refine .pure λaq R=>?_;simp only[use]at R;simp only[bh,aR.dQ (x:=x) R.left,aR.dQ (x:=i) R.right,Ic (cl.aP R.left),ad,Option.map_some]
 |jj T x i v=>
  simp only[bh,Option.map_eq_some_iff,Prod.mk.injEq]at h;obtain⟨s2,ad,rfl,rfl⟩:=h;obtain⟨ms,U,ab,ay⟩:=Ie ad;refine⟨ms,U,ab,λaq R=>?_⟩;simp only[use]at R;simp only[bh,aR.dQ (x:=x) R.left,aR.dQ (x:=i) R.right.left,aR.dQ (x:=v) R.right.right];exact ay aq (cl.aP R.left)
 |iS T x k=>
  simp only[bh,Option.bind_eq_some_iff]at h;obtain⟨d,ad,h⟩:=h;unfold rJ at h;split at h
  .rename_i y q;have ak:=H3 ad;obtain⟨ms,U,ab,ay⟩:=nG h;refine⟨ms,U,by simpa only[km,ak,I.R]using ab,λaq R=>?_⟩;have aG:=ay aq (by rw[show(I.h y q).R=(aP s x).R from ak.symm];exact cl.aP R);simp only[bh,aR.dQ (x:=x) R,Bk (cl.aP R),ad,Option.bind_some,rJ];exact aG
  .rename_i Ig;simp only[Option.some.injEq,Prod.mk.injEq]at h;obtain⟨rfl,rfl⟩:=h;refine .pure λaq R=>?_;simp only[bh,aR.dQ (x:=x) R,Bk (cl.aP R),ad,Option.bind_some,rJ]
 |call f args=>simp[bh]at h
 |len T x=>
  simp only[bh,Option.map_eq_some_iff,Prod.mk.injEq]at h;obtain⟨d,ad,rfl,rfl⟩:=h;exact .pure λaq R=>by simp only[bh,aR.dQ (x:=x) R,HW (cl.aP R),ad,Option.map_some]
 |app T bQ x y=>
  obtain⟨ms,U,ab,ay⟩:=Ib h;refine⟨ms,U,ab,λaq R=>?_⟩;simp only[use]at R;simp only[bh,aR.dQ (x:=x) R.left,aR.dQ (x:=y) R.right];exact ay aq (R.sub λu hu=>by simp only[mem_append]at hu⊢;exact hu.imp (aR.oR u) (aR.oR u))
end
mutual
def view (s:aj):I->Option I
 | .h x q=>match I.sub q (s x)with
   |some d=>(match d with| .tuple _=>none| .cf _=>none| .dE _ _=>none|d=>if d.plain then none else some d.share)
   |none=>none
 | .af x q=>if I.dt q (s x)then(match I.sub q (s x)with
   |some d=>(match d with| .tuple _=>none|d=>some (.ref d.share))
   |none=>none)else none
 | .J _ _=>none
 | .fn f cap=>(views s cap).map (.fn f)
 | .hole=>none
 |d=>some d
def views (s:aj):RL->Option RL
 |[]=>some []
 |d::ds=>match view s d,views s ds with
  |some a,some b=>some (a::b)
  |_,_=>none
end
mutual
theorem xh:∀d:I,d.share.plain=true
 | .hole=>rfl
 | .bool _=>rfl
 | .dB=>rfl
 | .int _ _=>rfl
 | .str _=>rfl
 | .cu=>rfl
 | .bz=>rfl
 | .slice _=>rfl
 | .aE _ _=>rfl
 | .ref _=>rfl
 | .bC _=>rfl
 | .agg al=>by simp only[I.share,I.plain];exact xi al
 | .tuple al=>by simp only[I.share,I.plain];exact xi al
 | .fn _ _=>rfl
 | .h _ _=>rfl
 | .af _ _=>rfl
 | .J _ _=>rfl
 | .cf _=>rfl
 | .dE _ _=>rfl
theorem xi:∀ds:RL,I.ee (I.shares ds)=true
 |[]=>rfl
 |d::ds=>by simp only[I.shares,I.ee];rw[xh d,xi ds];rfl
end
theorem Ih {s:aj} {a d:I} (h:a.plain=true) (he:view s a=some d):d.plain=true:=by
 cases a with
 |h x q=>
  simp only[view]at he;split at he
  .rename_i e cZ;cases e<;>simp only at he<;>first
    |(cases he;done)
    |(split at he
      .cases he
      .simp only[Option.some.injEq]at he;subst he;exact xh _)
  .cases he
 |af x q=>
  simp only[view]at he;split at he
  .split at he
   .rename_i e cZ;cases e<;>simp only at he<;>first
     |(cases he;done)
     |(simp only[Option.some.injEq]at he;subst he;rfl)
   .cases he
  .cases he
 |fn f cap=>
  simp only[view,Option.map_eq_some_iff]at he;obtain⟨ds,_,rfl⟩:=he;rfl
 |hole=>simp[view]at he
 |J y q=>simp[view]at he
 |_=>simp only[view,Option.some.injEq]at he;subst he;exact h
theorem xj {d:I} {v:Value} (U:∀vs,d≠.tuple vs) (h:b7 d v):b7 d.share v:=by
 cases d<;>first|exact h|exact(U _ rfl).elim
theorem Ii (w:World):∀(q:RG) (av d aV:I) (cs bF:RJ) (a bI:Option (Nat×Nat)),I.sub q av=some d->aV.wd=d.wd->b6 w q av cs a=some (d,bF,bI)->
  b6 w q (I.put q aV av) cs a=some (aV,bF,bI):=by
 intro q;induction q with
 |nil=>
  intro av d aV cs bF a bI ad hw h;simp only[b6,Option.some.injEq,Prod.mk.injEq]at h;obtain⟨rfl,rfl,rfl⟩:=h;simp only[I.put,b6]
 |cons k q ih=>
  intro av d aV cs bF a bI ad hw h;cases av with
  |agg al=>
   simp only[I.sub]at ad;split at ad
   .rename_i x ak;have ag:k<al.length:=(List.getElem?_eq_some_iff.1 ak).1;simp only[b6,ak]at h;simp only[I.put,ak,b6];rw[getElem?_set_self ag];simp only[take_set_of_le (Nat.le_refl k),I.pI q x d aV ad hw];exact ih _ _ _ _ _ _ _ ad hw h
   .cases ad
  |tuple al=>
   simp only[I.sub]at ad;split at ad
   .rename_i x ak;have ag:k<al.length:=(List.getElem?_eq_some_iff.1 ak).1;simp only[b6,ak]at h;simp only[I.put,ak,b6];rw[getElem?_set_self ag];simp only[take_set_of_le (Nat.le_refl k),I.pI q x d aV ad hw];exact ih _ _ _ _ _ _ _ ad hw h
   .cases ad
  |aE sz al=>
   simp only[I.sub]at ad;split at ad
   .rename_i x ak;have ag:k<al.length:=(List.getElem?_eq_some_iff.1 ak).1;have h0:(al.set k (I.put q aV x))[k]? =some (I.put q aV x):=getElem?_set_self ag;simp only[I.put,ak];rw[b6.eq_def]at h⊢;simp only[ak]at h;simp only;rw[h0];split at h
    .rename_i aD;simp only[Option.some.injEq]at aD;subst aD;exact ih _ _ _ _ _ _ _ ad hw h
    .cases h
   .cases ad
  |bC x=>
   cases k with
   |zero=>
    simp only[I.sub]at ad;rw[b6.eq_def]at h⊢;simp only at h;simp only[I.put];split at h
    .rw[I.pI q x d aV ad hw];exact ih _ _ _ _ _ _ _ ad hw h
    .cases h
   |succ k=>simp[I.sub]at ad
  |_=>simp[I.sub]at ad
section
variable {w0 w an:World} {F0 X F Fc:Nat->Prop} {S:Nat->Nat->Prop} {s aq:aj} {ao gO:Nat->Value}
theorem Ij (h:aZ w0 F0 X F S s ao w) (aL:∀b,F b->Fc b):∀n,
  (∀(a:I) (v:Value) (d:I),SizeOf.sizeOf a<=n->(∀t∈a.R,∀b,S t b->Fc b)->view s a=some d->ar w F s ao a v (λ_=>False)->ar w Fc aq gO d v (λ_=>False))/\
  (∀(as:RL) (vs:RJ) (ds:RL),SizeOf.sizeOf as<=n->(∀t∈I.cn as,∀b,S t b->Fc b)->views s as=some ds->cE w F s ao as vs->cE w Fc aq gO ds vs):=by
 intro n;induction n with
 |zero=>exact⟨λa _ _ bt=>by cases a<;>simp at bt<;>omega,λas _ _ bt=>by cases as<;>simp at bt<;>omega⟩
 |succ n ih=>
  refine⟨λa v d bt a_ he az=>?_,λas vs ds bt a_ he az=>?_⟩
  .cases a with
   |h x q=>
    simp only[view]at he;split at he
    .rename_i e cZ;have key:(∀al,e≠.tuple al)/\e.plain=false/\d=e.share/\(∀o,e≠.cf o)/\∀f c,e≠.dE f c:=by
      cases e<;>simp only at he<;>first
       |(cases he;done)
       |(split at he
         .cases he
         .rename_i dZ;simp only[Option.some.injEq]at he;exact⟨(λ_ h=>by cases h),by simpa using dZ,he.symm,(λ_ h=>by cases h),λ_ _ h=>by cases h⟩)
     obtain⟨jl,dZ,rfl,hx,xk⟩:=key;rw[ar]at az;obtain⟨bF,bI,g1,g2,g3⟩:=az e cZ dZ;have aI:=eX cZ (.inl dZ);have ak:=(ar.bx aI).1 (h.b9 x);obtain⟨dG,a2,cr,df,k0,bA,bN,bO,bL,cz⟩:=ctx q (s x) (bn (ao x)) (S x) none e ak.2 cZ;rw[g1]at k0;simp only[Option.some.injEq,Prod.mk.injEq,true_and]at k0;obtain⟨rfl,rfl⟩:=k0;have rj:e.share.tree=true:=by cases e<;>first|rfl|(simp[I.plain]at dZ;done)|exact(hx _ rfl).elim|exact(xk _ _ rfl).elim
     have ax:=ah.shared aL e bF df (λb J=>a_ x (by simp[I.R]) b (bN b J)) bL;exact(ar.bx rj).2 ⟨xj jl g3,by rw[g2];exact ax⟩
    .cases he
   |af x q=>
    simp only[view]at he;split at he
    .rename_i kX;split at he
     .rename_i e cZ;have key:(∀al,e≠.tuple al)/\d= .ref e.share:=by
       cases e<;>simp only at he<;>first
        |(cases he;done)
        |(simp only[Option.some.injEq]at he;exact⟨(λ_ h=>by cases h),he.symm⟩)
      obtain⟨jl,rfl⟩:=key;rw[ar]at az;obtain⟨bF,b,o,g1,rfl⟩:=az e cZ kX;have aI:=eX cZ (.inr kX);have ak:=(ar.bx aI).1 (h.b9 x);obtain⟨dG,a2,cr,df,k0,bA,bN,bO,bL,cz⟩:=ctx q (s x) (bn (ao x)) (S x) none e ak.2 cZ;rw[g1]at k0;simp only[Option.some.injEq,Prod.mk.injEq,true_and]at k0;obtain⟨rfl,rfl⟩:=k0;have ax:=ah.shared aL e bF df (λb J=>a_ x (by simp[I.R]) b (bN b J)) bL;rcases cz with⟨l,r,_,aG,_⟩|⟨dw,cur,ty,fr,l,r,aD,aG,aJ,bp,bJ,_⟩
      .simp at aG
      .simp only[Option.some.injEq,Prod.mk.injEq]at aD;obtain⟨rfl,rfl⟩:=aD;refine(ar.bx rfl).2 ⟨rfl,?_⟩;rw[ah];refine⟨b,l.length,bF,rfl,a_ x (by simp[I.R]) b (bA b aG),?_,ax⟩;intro j c bE;simp only[World.cell?,aJ];have ae:cur[l.length+j]? =some c:=by
        rw[<-Array.getElem?_toList,bJ,getElem?_append_right (by omega),getElem?_append_left (by
         have:=(List.getElem?_eq_some_iff.1 bE).1;omega)]
        rw[<-bE];congr 1;omega
       simpa using ae
     .cases he
    .cases he
   |fn f cap=>
    simp only[view,Option.map_eq_some_iff]at he;obtain⟨ds,gg,rfl⟩:=he;rw[ar]at az;obtain⟨arr,rfl,ae⟩:=az;rw[ar];exact⟨arr,rfl,ih.2 cap _ _ (by simp at bt;omega) (by simpa [I.R]using a_) gg ae⟩
   |hole=>simp[view]at he
   |J y q=>simp[view]at he
   |_=>
    simp only[view,Option.some.injEq]at he;subst he;have hX:=(ar.bx rfl).1 az;exact(ar.bx rfl).2 ⟨hX.1,ah.mono aL _ _ _ _ (λ_ h=>h) hX.2⟩
  .cases as with
   |nil=>
    simp only[views,Option.some.injEq]at he;subst he;rw[cE]at az⊢;exact az
   |cons a as=>
    simp only[views]at he;split at he
    .rename_i d ds U ab;simp only[Option.some.injEq]at he;subst he;rw[cE]at az⊢;obtain⟨v,hV,rfl,g1,g2⟩:=az;simp at bt;simp only[I.cn,mem_append]at a_;exact⟨v,hV,rfl,ih.1 a v d (by omega) (λt aI=>a_ t (.inl aI)) U g1,ih.2 as hV ds (by omega) (λt aI=>a_ t (.inr aI)) ab g2⟩
    .cases he
theorem aZ.fv (h:aZ w0 F0 X F S s ao w) {x:Nat} {q:RG} {d0 aV:I} {bF:RJ} {a:Option (Nat×Nat)} {Sn:Nat->Prop}
  (ad:I.sub q (s x)=some d0) (bq:b6 w q (s x) (bn (ao x)) none=some (d0,bF,a)) (ab:∀vs,aV≠.tuple vs) (aI:q=[]->aV.tree=true/\b7 aV (ao x))
  (ay:∀k p,q=k::p->(s x).tree=true/\(∀v,eS d0 v->eS aV v)) (hw:aV.wd=d0.wd)
  (az:ah w F aV bF Sn) (cq:∀b,Sn b->b<w.heap.size) (aL:∀b,Sn b->¬F b) (a_:∀u b,Sn b->¬S u b) (bj:∀b,Sn b->X b\/w0.heap.size<=b):
  aZ w0 F0 X F (ew S x (λb=>S x b\/Sn b)) (cd (im x s) x (I.put q aV (s x))) ao w:=by
 have cC:cd ao x (ao x)=ao:=by funext u;simp only[cd];split<;>simp_all
 have main:(I.put q aV (s x)).tree=true/\b7 (I.put q aV (s x)) (ao x)/\ah w F (I.put q aV (s x)) (bn (ao x)) (λb=>S x b\/Sn b):=by
  cases q with
  |nil=>
   simp only[b6,Option.some.injEq,Prod.mk.injEq]at bq;obtain⟨aD,aG,aJ⟩:=bq;obtain⟨g1,g2⟩:=aI rfl;simp only[I.put];refine⟨g1,?_,?_⟩
   .exact g2
   .rw[aG];exact ah.mono (λ_ h=>h) _ _ _ _ (λb J=>.inr J) az
  |cons k p=>
   obtain⟨g1,g2⟩:=ay k p rfl;have ak:=(ar.bx g1).1 (h.b9 x);obtain⟨dG,a2,cr,df,k0,bA,bN,bO,bL,cz⟩:=ctx (k::p) (s x) (bn (ao x)) (S x) none d0 ak.2 ad;rw[bq]at k0;simp only[Option.some.injEq,Prod.mk.injEq,true_and]at k0;obtain⟨rfl,rfl⟩:=k0;refine⟨?_,?_,?_⟩
   .rcases nw k p aV (s x)with⟨al,gs,aD,e⟩|⟨al,gs,aD,e⟩|⟨sz,xs,bM,aD,e⟩|⟨y,z,aD,e⟩|e<;>rw[e]<;>first|rfl|exact g1
   .refine re ak.1 ad g2 (λ_ vs e=>(ab vs e).elim) hw
   .have mono:∀b,(cr b\/Sn b)->(S x b\/Sn b):=λb J=>J.imp (bA b) id;rcases cz with⟨l,r,aD,aG,aJ⟩|⟨b,cur,ty,fr,l,r,aD,aG,aJ,bp,bJ,bk⟩
    .rw[aD];exact ah.mono (λ_ h=>h) _ _ _ _ mono (aJ w aV bF Sn (λ_ _=>rfl) (λ_ _=>rfl) hw az (λb J ae=>a_ x b J (bA b ae)))
    .refine ah.mono (λ_ h=>h) _ _ _ _ mono (bk w aV bF Sn (λ_ _=>rfl) (λ_ _ _=>rfl) ?_ hw az (λb J ae=>a_ x b J (bA b ae)));rw[aJ,<-bJ]
 have:=h.Ac (t:=x) main.1 main.2.1 main.2.2 (by rintro b (J|J);exact h.c1 x b J;exact cq b J) (by rintro b (J|J);exact h.dN x b J;exact aL b J)
  (by rintro u b bT (J|J);exact λhu=>h.du u x b bT hu J;exact a_ u b J) (by rintro b (J|J);exact h.ck x b J;exact bj b J)
 rwa [cC]at this
end
mutual
def I.cK:I->Bool
 | .slice _=>false
 | .ref _=>false
 | .fn _ _=>false
 | .h _ _=>false
 | .af _ _=>false
 | .J _ _=>false
 | .aE _ xs=>I.jR xs
 | .bC d=>d.cK
 | .agg al=>I.jR al
 | .tuple al=>I.jR al
 | .dE _ al=>I.jR al
 |_=>true
def I.jR:RL->Bool
 |[]=>true
 |d::ds=>d.cK&&I.jR ds
end
mutual
theorem ah.cK {w:World} {F a8:Nat->Prop}:∀(d:I) (cs:RJ) (S:Nat->Prop),d.cK=true->ah w F d cs S->ah w a8 d cs S
 | .hole,_,_,_,h=>h
 | .bool _,_,_,_,h=>h
 | .dB,_,_,_,h=>h
 | .int _ _,_,_,_,h=>h
 | .str _,_,_,_,h=>h
 | .cu,_,_,_,h=>h
 | .bz,_,_,_,h=>h
 | .slice xs,cs,S,aT,h=>by simp[I.cK]at aT
 | .ref d,cs,S,aT,h=>by simp[I.cK]at aT
 | .aE sz xs,cs,S,aT,h=>by
   rw[ah]at h⊢;rcases h with h|⟨b,cap,cur,e,fr,aB,U,ab,ay,aQ,bc,bW,b4,cP,fD,fs,il⟩
   .exact .inl h
   .exact .inr ⟨b,cap,cur,e,fr,aB,U,ab,ay,aQ,bc,bW,b4,cP,aH.cK xs _ _ aT fD,fs,il⟩
 | .bC d,cs,S,aT,h=>by
   rw[ah]at h⊢;obtain⟨b,cur,e,fr,aB,U,ab,ay,aQ,bc,bW,b4⟩:=h;exact⟨b,cur,e,fr,aB,U,ab,ay,aQ,ah.cK d _ _ aT bc,bW,b4⟩
 | .agg al,cs,S,aT,h=>by rw[ah]at h⊢;exact aH.cK al _ _ aT h
 | .tuple al,cs,S,aT,h=>by rw[ah]at h⊢;exact aH.cK al _ _ aT h
 | .fn _ _,_,_,aT,h=>by simp[I.cK]at aT
 | .h _ _,_,_,_,h=>h
 | .af _ _,_,_,_,h=>h
 | .J _ _,_,_,_,h=>h
 | .cf _,_,_,_,h=>h
 | .dE _ caps,cs,S,aT,h=>by
   rw[ah]at h⊢;obtain⟨arr,U,ab,ay⟩:=h;exact⟨arr,U,ab,aH.cK caps _ _ aT ay⟩
theorem aH.cK {w:World} {F a8:Nat->Prop}:∀(ds:RL) (cs:RJ) (S:Nat->Prop),I.jR ds=true->aH w F ds cs S->aH w a8 ds cs S
 |[],_,_,_,h=>h
 |d::ds,cs,S,aT,h=>by
  simp only[I.jR,Bool.and_eq_true]at aT;rw[aH]at h⊢;obtain⟨bb,c2,bg,b0,U,ab,ay,aQ,bc,bW⟩:=h;exact⟨bb,c2,bg,b0,U,ah.cK d _ _ aT.1 ab,aH.cK ds _ _ aT.2 ay,aQ,bc,bW⟩
end
theorem Bs:∀(q:RG) (av d e:I),I.sub q av=some d->I.sub q (I.put q e av)=some e:=by
 intro q;induction q with
 |nil=>intro av d e _;simp[I.put,I.sub]
 |cons k q ih=>
  intro av d e h;cases av with
  |agg al=>
   simp only[I.sub]at h;split at h
   .rename_i x ak;have ag:k<al.length:=(List.getElem?_eq_some_iff.1 ak).1;simp only[I.put,ak,I.sub,getElem?_set_self ag];exact ih _ _ _ h
   .cases h
  |tuple al=>
   simp only[I.sub]at h;split at h
   .rename_i x ak;have ag:k<al.length:=(List.getElem?_eq_some_iff.1 ak).1;simp only[I.put,ak,I.sub,getElem?_set_self ag];exact ih _ _ _ h
   .cases h
  |aE sz al=>
   simp only[I.sub]at h;split at h
   .rename_i x ak;have ag:k<al.length:=(List.getElem?_eq_some_iff.1 ak).1;simp only[I.put,ak,I.sub,getElem?_set_self ag];exact ih _ _ _ h
   .cases h
  |bC x=>
   cases k with
   |zero=>simp only[I.sub]at h;simp only[I.put,I.sub];exact ih _ _ _ h
   |succ k=>simp[I.sub]at h
  |_=>simp[I.sub]at h
structure bB where
 a:I
 g:Bool
 d:I
 o:I
def I.own:I->Bool
 | .aE _ _=>true
 | .bC _=>true
 |_=>false
def I.ed:I->Bool
 | .aE _ _=>true
 | .bC _=>true
 | .cf _=>true
 | .dE _ _=>true
 | .agg al=> !I.ee al
 |_=>false
def nH (d o:I):Bool:=match d,o with
 | .agg a,.agg b=>I.cp a==I.cp b
 | .agg _,_=>false
 |_,.agg _=>false
 |_,_=>true
theorem mD {d:I} (h:d.ed=true):d.plain=false/\d.tree=true/\∀vs,d≠.tuple vs:=by
 cases d<;>simp[I.ed]at h<;>first|exact⟨rfl,rfl,λvs e=>by cases e⟩|exact⟨by simp only[I.plain];exact h,rfl,λvs e=>by cases e⟩
theorem Ik {d o:I} (h:d.ed=true) (ba:o.ed=true) (hl:nH d o=true):o.wd=d.wd/\(∀v,b7 d v->b7 o v)/\∀v,eS d.bU v->eS o v:=by
 cases d<;>simp[I.ed]at h<;>cases o<;>simp[I.ed]at ba<;>simp[nH]at hl<;>first
  |exact⟨rfl,λ_ h=>h,λ_ h=>h⟩
  |exact⟨by simp only[I.wd];exact hl.symm,λ_ h=>h,λ_ h=>h⟩
def bB.ok (s:aj) (p:bB):Prop:=
 if p.g then(match p.a with| .h x q=>I.sub q (s x)=some p.d/\p.d.ed=true/\(p.o= .hole\/(p.o.ed=true/\nH p.d p.o=true))|_=>False)
 else view s p.a=some p.d
def fw:List bB->Bool
 |[]=>true
 |p::r=>(r.all λbw=> !(p.g||bw.g)||(p.a.R.all λu=> !bw.a.R.contains u))&&fw r
def bB.take (s:aj) (p:bB):aj:=
 if p.g then(match p.a with| .h x q=>cd (fa x s) x (I.put q p.d.bU (s x))|_=>s)else s
def bB.fv (s:aj) (p:bB):aj:=
 if p.g then(match p.a,p.o with|_,.hole=>s| .h x q,o=>cd (im x s) x (I.put q o (s x))|_,_=>s)else s
def dj (s:aj) (ps:List bB):aj:=ps.foldl bB.take s
def fm (s:aj) (ps:List bB):aj:=ps.foldl bB.fv s
section
variable {w0 w an:World} {F0 X F Fc:Nat->Prop} {S:Nat->Nat->Prop} {s aq:aj} {ao gO:Nat->Value}
def Il (w:World) (F:Nat->Prop) (s1:aj) (ao:Nat->Value) (p:bB) (v:Value) (Sn:Nat->Prop):Prop:=
 ∃x q a0,p.a= .h x q/\I.sub q (s1 x)=some p.d.bU/\b6 w q (s1 x) (bn (ao x)) none=some (p.d.bU,bn v,a0)/\(s1 x).R=[]/\(q=[]->b7 p.d (ao x))/\(q≠[]->(s1 x).tree=true)/\
  b7 p.d v/\ah w F p.d (bn v) Sn
theorem Im {p:bB} {x:Nat} (h:(s x).R=[]) (af:p.g=true->x∉p.a.R):bB.take s p x=s x:=by
 unfold bB.take;split
 .rename_i hg;cases a1:p.a with
  |h y q=>
   have:x≠y:=by
    have:=af hg;rw[a1]at this;simpa [I.R]using this
   simp only;rw[gy _ _ this];exact rM _ (by rw[h];simp)
  |_=>rfl
 .rfl
theorem xl:∀{ps:List bB} {s:aj} {x:Nat},(s x).R=[]->(∀p∈ps,p.g=true->x∉p.a.R)->dj s ps x=s x:=by
 intro ps;induction ps with
 |nil=>intros;rfl
 |cons p ps ih=>
  intro s x h af;have e:=Im (s:=s) (p:=p) h (af p (by simp));show dj (bB.take s p) ps x=s x;rw[ih (by rw[e];exact h) (λbw cD=>af bw (by simp[cD])),e]
theorem tZ {d:I} (h:d.own=true):d.plain=false/\d.tree=true/\d.bU= .hole/\d.one=true/\d.wd=1/\(∀v,b7 d v↔Value.eh v=true):=by
 cases d<;>simp[I.own]at h<;>exact⟨rfl,rfl,rfl,rfl,rfl,λv=>Iff.rfl⟩
theorem Io:∀(ps:List bB) (vs:RJ) (s:aj) (S:Nat->Nat->Prop),aZ w0 F0 X F S s ao w->ps.length=vs.length->
  (∀(i:Nat) (p:bB) (v:Value),ps[i]? =some p->vs[i]? =some v->p.a.plain=true/\ar w F s ao p.a v (λ_=>False)/\(p.g=true->p.ok s))->fw ps=true->
  ∃(Sn bg:Nat->Nat->Prop),aZ w0 F0 X F bg (dj s ps) ao w/\(∀u b,bg u b->S u b)/\
   (∀(i:Nat) (p:bB) (v:Value),ps[i]? =some p->vs[i]? =some v->p.g=true->Il w F (dj s ps) ao p v (Sn i))/\
   (∀i b,Sn i b->∃p,ps[i]? =some p/\p.g=true)/\
   (∀i b,Sn i b->∃u,S u b)/\(∀i u b,Sn i b->¬bg u b)/\(∀i j b,i≠j->Sn i b->¬Sn j b)/\
   (∀(aV:I) (dO:Value) (aB:Nat->Prop),(∀p∈ps,p.g=true->∀u∈p.a.R,u∉aV.R)->ar w F s ao aV dO aB->ar w F (dj s ps) ao aV dO aB):=by
 intro ps;induction ps with
 |nil=>
  intro vs s S h hl _ _;exact⟨λ_ _=>False,S,h,λ_ _ h=>h,λi p v af=>by simp at af,λ_ _ h=>h.elim,λ_ _ h=>h.elim,λ_ _ _ h=>h.elim,λ_ _ _ _ h=>h.elim,λ_ _ _ _ h=>h⟩
 |cons p ps ih=>
  intro vs s S h hl oO gT;cases vs with
  |nil=>simp at hl
  |cons v vs=>
   simp only[length_cons,Nat.add_right_cancel_iff]at hl;simp only[fw,Bool.and_eq_true,List.all_eq_true,Bool.or_eq_true,Bool.not_eq_true']at gT;obtain⟨k5,kn⟩:=gT;have p2:∀bw∈ps,(p.g=true\/bw.g=true)->∀u∈p.a.R,u∉bw.a.R:=by
    intro bw cD hg u hu;rcases k5 bw cD with e|e
    .rcases hg with hg|hg<;>simp[hg]at e
    .simpa using e u hu
   obtain⟨f1,f2,f3⟩:=oO 0 p v rfl rfl;cases hg:p.g with
   |false=>
    have ez:bB.take s p=s:=by simp[bB.take,hg]
    obtain⟨Sn,bg,g1,g2,g3,g4,g5,g6,g7,g8⟩:=ih vs s S h hl (λi bw dO af az=>oO (i+1) bw dO (by simpa using af) (by simpa using az)) kn;have aD:dj s (p::ps)=dj s ps:=by show dj (bB.take s p) ps=_;rw[ez]
    rw[aD];refine⟨λi=>match i with|0=>λ_=>False|i+1=>Sn i,bg,g1,g2,?_,?_,?_,?_,?_,λaV dO aB ad=>g8 aV dO aB λbw cD=>ad bw (by simp[cD])⟩
    .intro i bw dO af az er;cases i with
     |zero=>simp at af;subst af;rw[hg]at er;cases er
     |succ i=>exact g3 i bw dO (by simpa using af) (by simpa using az) er
    .intro i b J;cases i with
     |zero=>exact J.elim
     |succ i=>simpa using g4 i b J
    .intro i b J;cases i with
     |zero=>exact J.elim
     |succ i=>exact g5 i b J
    .intro i u b J;cases i with
     |zero=>exact J.elim
     |succ i=>exact g6 i u b J
    .intro i j b bT aC bE;cases i with
     |zero=>exact aC.elim
     |succ i=>
      cases j with
      |zero=>exact bE.elim
      |succ j=>exact g7 i j b (by omega) aC bE
   |true=>
    have dI:=f3 hg;simp only[bB.ok,hg,if_true]at dI;split at dI
    .rename_i x q a1;obtain⟨cZ,xm,ou⟩:=dI;obtain⟨iy,jm,t_⟩:=mD xm;have Ip:bK s p.a=some (p.d,cd (fa x s) x (I.put q p.d.bU (s x))):=by
      rw[a1];simp only[bK,cZ,iy];rfl
     obtain⟨bg,t1,t2,t3,Iq,t4,t5,t6,t7,t8,t9,t10,t11⟩:=lE h f1 f2 Ip;have ez:bB.take s p=cd (fa x s) x (I.put q p.d.bU (s x)):=by simp[bB.take,hg,a1]
     have lQ:∀bw∈ps,x∉bw.a.R:=λbw cD=>p2 bw cD (.inl hg) x (by rw[a1];simp[I.R]);have xn:bB.take s p x=I.put q p.d.bU (s x):=by rw[ez,jH]
     have ua:(bB.take s p x).R=[]:=by
      rw[xn];exact p0 q _ _ _ cZ (.inl iy) (λ_=>by cases ad:p.d<;>first|rfl|(rw[ad]at xm;simp[I.ed]at xm))
     obtain⟨Sn,b0,g1,g2,g3,g4,g5,g6,g7,g8⟩:=ih vs (bB.take s p) bg (by rw[ez];exact t1) hl (by
      intro i bw dO af az;obtain⟨bA,bN,bO⟩:=oO (i+1) bw dO (by simpa using af) (by simpa using az);have hm:bw∈ps:=mem_of_getElem? af;refine⟨bA,?_,?_⟩
      .have:=t11 _ _ _ bN;rw[a1]at this;rw[ez];simp only[I.owner,hA]at this
       rwa [rM _ (lQ bw hm)]at this
      .intro er;have:=bO er;simp only[bB.ok,er,if_true]at this⊢;split at this
       .rename_i y fu mE;have bT:y≠x:=λe=>lQ bw hm (by rw[mE,e];simp[I.R]);rw[ez,gy _ _ bT];have aI:=eX this.1 (.inl (mD this.2.1).1);simp only[fa,wo aI];exact this
       .exact this.elim) kn
     have aD:dj s (p::ps)=dj (bB.take s p) ps:=rfl;have nI:dj (bB.take s p) ps x=I.put q p.d.bU (s x):=by
      rw[xl ua (λbw cD _=>lQ bw cD),xn]
     rw[aD];refine⟨λi=>match i with|0=>Iq|i+1=>Sn i,b0,g1,λu b J=>t9 u b (g2 u b J),?_,?_,?_,?_,?_,?_⟩
     rotate_left 5
     .intro aV dO aB ad fo;refine g8 aV dO aB (λbw cD=>ad bw (by simp[cD])) ?_;have:=t11 _ _ _ fo;rw[a1]at this;rw[ez];simp only[I.owner,hA]at this
      rwa [rM _ (ad p (by simp) hg x (by rw[a1];simp[I.R]))]at this
     .intro i bw dO af az er;cases i with
      |zero=>
       simp at af az;subst af az;have ub:=f2;rw[a1,ar]at ub;obtain⟨bF,a0,bb,c2,c3⟩:=ub _ cZ iy;refine⟨x,q,a0,a1,?_,?_,?_,?_,?_,t3,t4⟩
       .rw[nI];exact Bs q _ _ _ cZ
       .rw[nI,c2];exact Ii w q _ _ _ _ _ _ _ cZ (I.nv _) bb
       .rw[nI,<-xn];exact ua
       .intro b2;subst b2;simp only[I.sub,Option.some.injEq]at cZ;have:=(ar.bx (by rw[cZ];exact jm)).1 (h.b9 x);rw[cZ]at this;exact this.1
       .intro b2;have aI:=eX cZ (.inl iy);rw[nI];cases q with
        |nil=>exact(b2 rfl).elim
        |cons k q=>rcases nw k q p.d.bU (s x)with⟨al,gs,aD,e⟩|⟨al,gs,aD,e⟩|⟨sz,xs,bM,aD,e⟩|⟨y,z,aD,e⟩|e<;>rw[e]<;>first|rfl|exact aI
      |succ i=>exact g3 i bw dO (by simpa using af) (by simpa using az) er
     .intro i b J;cases i with
      |zero=>exact⟨p,rfl,hg⟩
      |succ i=>simpa using g4 i b J
     .intro i b J;cases i with
      |zero=>exact t10 b J
      |succ i=>obtain⟨u,hu⟩:=g5 i b J;exact⟨u,t9 u b hu⟩
     .intro i u b J;cases i with
      |zero=>exact λhu=>t7 u b J (g2 u b hu)
      |succ i=>exact g6 i u b J
     .intro i j b bT aC bE;cases i with
      |zero=>
       cases j with
       |zero=>exact bT rfl
       |succ j=>obtain⟨u,hu⟩:=g5 j b bE;exact t7 u b aC hu
      |succ i=>
       cases j with
       |zero=>obtain⟨u,hu⟩:=g5 i b aC;exact t7 u b bE hu
       |succ j=>exact g7 i j b (by omega) aC bE
    .exact dI.elim
end
def ko:RL->RL->RL
 |d::ds,.hole::us=>(if d.plain=true then d else .hole)::ko ds us
 |_::ds,u::us=>u::ko ds us
 |_,us=>us
def uc:I->I->I
 | .dE _ ds,.dE g us=>.dE g (ko ds us)
 |_,o=>o
theorem Ir {d o:I} (h:(uc d o).tree=true):o.tree=true:=by
 cases d<;>cases o<;>first|exact h|rfl
theorem Bt {d:I} (h:d.one=true):d.wd=1:=by cases d<;>first|rfl|(simp[I.one]at h)
theorem Bu {w an:World} {F h2:Nat->Prop} (aL:∀b,F b->h2 b) (hw:∀b,F b->an.heap[b]? =w.heap[b]?):∀(ds us:RL) (cs:RJ) (S aB:Nat->Prop),(∀d∈ds,d.one=true)->(∀d∈us,d.one=true)->
  aH w F ds cs S->aH an h2 us cs aB->aH an h2 (ko ds us) cs aB/\∀d∈ko ds us,d.one=true
 |[],us,cs,S,aB,_,U,_,ay=>by
  have e:ko [] us=us:=by cases us<;>rfl
  rw[e];exact⟨ay,U⟩
 |d::ds,[],cs,S,aB,_,_,_,ay=>by
  have e:ko (d::ds) []=[]:=rfl;rw[e];exact⟨ay,λd h=>by cases h⟩
 |d::ds,u::us,cs,S,aB,bj,U,ab,ay=>by
  rw[aH]at ab ay;obtain⟨bb,c2,bg,b0,aD,aw,a2,a3,a4,a5⟩:=ab;obtain⟨e0,dW,Bv,Bw,aG,bA,bN,bO,bL,cz⟩:=ay;have eA:=ah.length _ _ _ aw;have l2:=ah.length _ _ _ bA;rw[Bt (bj d (by simp))]at eA;rw[Bt (U u (by simp))]at l2;have aJ:bb=e0/\c2=dW:=append_inj (aD.symm.trans aG) (by rw[eA,l2]);obtain⟨rfl,rfl⟩:=aJ;obtain⟨ei,b8⟩:=Bu aL hw ds us c2 b0 Bw (λd ad=>bj d (by simp[ad])) (λd ad=>U d (by simp[ad])) a2 bN;have key:∀y:I,ah an h2 y bb Bv->y.one=true->aH an h2 (y::ko ds us) cs aB/\∀d∈y::ko ds us,d.one=true:=by
   intro y hy oC;rw[aH];exact⟨⟨bb,c2,Bv,Bw,aG,hy,ei,bO,bL,cz⟩,λd ad=>by
    rcases mem_cons.1 ad with rfl|ad
    .exact oC
    .exact b8 d ad⟩
  by_cases hu:u= .hole
  .subst hu;simp only[ko];by_cases af:d.plain=true
   .rw[if_pos af];exact key d (ah.plain _ _ _ _ af (ah.mono aL _ _ _ _ (λ_ h=>h) (ah.frame hw _ _ (λ_=>False) (λ_ h=>h.elim) (ah.plain _ _ _ _ af aw)))) (bj d (by simp))
   .rw[if_neg af];exact key .hole bA rfl
  .have e:ko (d::ds) (u::us)=u::ko ds us:=by cases u<;>first|rfl|exact(hu rfl).elim
   rw[e];exact key u bA (U u (by simp))
theorem Is {w an:World} {F h2:Nat->Prop} {d o:I} {cs:RJ} {S aB:Nat->Prop} (aL:∀b,F b->h2 b) (hw:∀b,F b->an.heap[b]? =w.heap[b]?) (U:ah w F d cs S) (ab:ah an h2 o cs aB):ah an h2 (uc d o) cs aB:=by
 cases d with
 |dE f ds=>
  cases o with
  |dE g us=>
   simp only[uc];rw[ah]at U ab⊢;obtain⟨arr,rfl,a2,a3⟩:=U;obtain⟨QY,e,dW,iw⟩:=ab;simp only[cons.injEq,Value.func.injEq,and_true]at e;obtain⟨aD,aG,aJ⟩:=e;subst aJ;obtain⟨ei,b8⟩:=Bu aL hw ds us _ _ _ a2 dW a3 iw;exact⟨arr,by simp_all,b8,ei⟩
  |_=>exact ab
 |_=>cases o<;>exact ab
def cM (l:RL):aj:=λi=>l.getD i .hole
def dJ (l:RJ):Nat->Value:=λi=>l.getD i undef
def jn (P:Program) (f:FuncId) (args:Array Value) (w:World) (h3:Value->World->Prop):Prop:=
 ((callFunc f args).run P w= .ok (.enter f args) w/\Calls P f args w (λe an=>∃v,e= .returned v/\h3 v an))\/
 ∃v an,(callFunc f args).run P w= .ok (.value v) an/\h3 v an
theorem jn.mono {P:Program} {f:FuncId} {args:Array Value} {w:World} {h3 Bx:Value->World->Prop} (h:jn P f args w h3) (ax:∀v an,h3 v an->Bx v an):jn P f args w Bx:=by
 rcases h with⟨U,ab⟩|⟨v,an,U,ab⟩
 .exact .inl ⟨U,Calls.mono ab λe an ⟨v,e,h⟩=>⟨v,e,ax v an h⟩⟩
 .exact .inr ⟨v,an,U,ax v an ab⟩
def bf (C:bl) (f:FuncId) (as:RL) (r:I) (outs:RL):Prop:=
 ∀(w:World) (F X:Nat->Prop) (S:Nat->Nat->Prop) (vs:RJ),vs.length=as.length->aZ w F X F S (cM as) (dJ vs) w->
  jn C.P f vs.toArray w λv an=>∃a8 aB,aZ w F X a8 aB (cM (r::outs)) (dJ (v::vs)) an
def I.res:I->Bool
 | .h _ _=>false
 | .af _ _=>false
 | .J _ _=>false
 | .fn _ _=>false
 |_=>true
theorem xo {d:I} (h:d.tree=true):d.R=[]:=by cases d<;>first|rfl|(simp[I.tree]at h)
mutual
theorem xp {s aq:aj}:∀(a:I) (d:I),(∀u∈a.R,(s u).tree=true->aq u=s u)->view s a=some d->view aq a=some d
 | .h x q,d,hu,h=>by
   have aI:(s x).tree=true:=by
    simp only[view]at h;split at h
    .rename_i e cZ;cases e<;>simp only at h<;>first
      |(cases h;done)
      |(split at h
        .cases h
        .rename_i af;exact eX cZ (.inl (by simpa using af)))
    .cases h
   simp only[view]at h⊢;rw[hu x (by simp[I.R]) aI];exact h
 | .af x q,d,hu,h=>by
   have aI:(s x).tree=true:=by
    simp only[view]at h;split at h
    .rename_i ae;split at h
     .rename_i e cZ;exact eX cZ (.inr ae)
     .cases h
    .cases h
   simp only[view]at h⊢;rw[hu x (by simp[I.R]) aI];exact h
 | .J x q,d,hu,h=>by simp[view]at h
 | .fn f cap,d,hu,h=>by
   simp only[view,Option.map_eq_some_iff]at h⊢;obtain⟨ds,U,ab⟩:=h;exact⟨ds,Bz cap ds (by simpa [I.R]using hu) U,ab⟩
 | .hole,d,hu,h=>h
 | .bool _,d,hu,h=>h
 | .dB,d,hu,h=>h
 | .int _ _,d,hu,h=>h
 | .str _,d,hu,h=>h
 | .cu,d,hu,h=>h
 | .bz,d,hu,h=>h
 | .slice _,d,hu,h=>h
 | .aE _ _,d,hu,h=>h
 | .ref _,d,hu,h=>h
 | .bC _,d,hu,h=>h
 | .agg _,d,hu,h=>h
 | .tuple _,d,hu,h=>h
 | .cf _,d,hu,h=>h
 | .dE _ _,d,hu,h=>h
theorem Bz {s aq:aj}:∀(as:RL) (ds:RL),(∀u∈I.cn as,(s u).tree=true->aq u=s u)->views s as=some ds->views aq as=some ds
 |[],ds,hu,h=>h
 |a::as,ds,hu,h=>by
  simp only[I.cn,mem_append]at hu;simp only[views]at h⊢;split at h
  .rename_i x y U ab;rw[xp a x (λu hm=>hu u (.inl hm)) U,Bz as y (λu hm=>hu u (.inr hm)) ab];exact h
  .cases h
end
section
variable {C:bl} {w0 w an:World} {F0 X F Fc:Nat->Prop} {S:Nat->Nat->Prop} {s aq:aj} {ao gO:Nat->Value}
def It (w:World) (F:Nat->Prop) (s:aj) (ao:Nat->Value) (p:bB) (v:Value) (kp:Nat->Prop):Prop:=
 p.g=true->p.o= .hole\/∃x q a0 d0,p.a= .h x q/\I.sub q (s x)=some d0/\b6 w q (s x) (bn (ao x)) none=some (d0,bn v,a0)/\(s x).R=[]/\
  (q=[]->b7 p.o (ao x))/\(q≠[]->(s x).tree=true)/\p.o.ed=true/\ah w F p.o (bn v) kp/\p.o.wd=d0.wd/\∀v,eS d0 v->eS p.o v
theorem Iu:∀(ps:List bB) (vs:RJ) (s:aj) (S kp:Nat->Nat->Prop),aZ w0 F0 X F S s ao w->ps.length=vs.length->
  (∀(i:Nat) (p:bB) (v:Value),ps[i]? =some p->vs[i]? =some v->It w F s ao p v (kp i))->
  (∀i b,kp i b->b<w.heap.size/\¬F b/\(X b\/w0.heap.size<=b)/\∀u,¬S u b)->(∀i j b,i≠j->kp i b->¬kp j b)->fw ps=true->
  ∃b0,aZ w0 F0 X F b0 (fm s ps) ao w/\∀u b,b0 u b->S u b\/∃i,kp i b:=by
 intro ps;induction ps with
 |nil=>intro vs s S kp h _ _ _ _ _;exact⟨S,h,λu b J=>.inl J⟩
 |cons p ps ih=>
  intro vs s S kp h hl xq J ad gT;cases vs with
  |nil=>simp at hl
  |cons v vs=>
   simp only[length_cons,Nat.add_right_cancel_iff]at hl;simp only[fw,Bool.and_eq_true,List.all_eq_true,Bool.or_eq_true,Bool.not_eq_true']at gT;obtain⟨k5,kn⟩:=gT;have p2:∀bw∈ps,(p.g=true\/bw.g=true)->∀u∈p.a.R,u∉bw.a.R:=by
    intro bw cD hg u hu;rcases k5 bw cD with e|e
    .rcases hg with hg|hg<;>simp[hg]at e
    .simpa using e u hu
   have skip:bB.fv s p=s->∃b0,aZ w0 F0 X F b0 (fm s (p::ps)) ao w/\∀u b,b0 u b->S u b\/∃i,kp i b:=by
    intro ez;obtain⟨b0,g1,g2⟩:=ih vs s S (λi=>kp (i+1)) h hl (λi bw dO af az=>xq (i+1) bw dO (by simpa using af) (by simpa using az)) (λi b h=>J (i+1) b h)
     (λi j b bT=>ad (i+1) (j+1) b (by omega)) kn
    refine⟨b0,?_,λu b hu=>(g2 u b hu).imp id λ⟨i,aC⟩=>⟨i+1,aC⟩⟩;show aZ _ _ _ _ _ (fm (bB.fv s p) ps) _ _;rw[ez];exact g1
   cases hg:p.g with
   |false=>exact skip (by simp[bB.fv,hg])
   |true=>
    rcases xq 0 p v rfl rfl hg with ba|⟨x,q,a0,d0,a1,bb,c2,c3,c4,c5,iX,Iv,rP,c9⟩
    .exact skip (by simp only[bB.fv,hg,ba,if_true])
    .obtain⟨iy,jm,Iw⟩:=mD iX;have ez:bB.fv s p=cd (im x s) x (I.put q p.o (s x)):=by
      simp only[bB.fv,hg,if_true,a1];cases Ix:p.o<;>first|rfl|(rw[Ix]at iX;simp[I.ed]at iX)
     have step:=h.fv (x:=x) (q:=q) (aV:=p.o) bb c2 Iw (λb2=>⟨jm,c4 b2⟩) (λk r b2=>⟨c5 (by rw[b2];simp),c9⟩) rP Iv
      (λb h=>(J 0 b h).1) (λb h=>(J 0 b h).2.1) (λu b h=>(J 0 b h).2.2.2 u) (λb h=>(J 0 b h).2.2.1)
     rw[<-ez]at step;obtain⟨b0,g1,g2⟩:=ih vs (bB.fv s p) _ (λi=>kp (i+1)) step hl (by
      intro i bw dO af az er;have hm:bw∈ps:=mem_of_getElem? af;rcases xq (i+1) bw dO (by simpa using af) (by simpa using az) er with ba|⟨y,fu,aw,d1,bA,bN,bO,bL,cz,db,fV,hd,iU⟩
      .exact .inl ba
      .have bT:y≠x:=λe=>p2 bw hm (.inl hg) x (by rw[a1];simp[I.R]) (by rw[bA,e];simp[I.R]);have nx:bB.fv s p y=s y:=by
        rw[ez,gy _ _ bT];exact w9 _ (by rw[bL];simp)
       exact .inr ⟨y,fu,aw,d1,bA,by rw[nx];exact bN,by rw[nx];exact bO,by rw[nx];exact bL,cz,by rw[nx];exact db,fV,hd,iU⟩)
      (by
       intro i b aC;obtain⟨e0,dW,iw,b3⟩:=J (i+1) b aC;refine⟨e0,dW,iw,λu hu=>?_⟩;simp only[ew]at hu;split at hu
       .rcases hu with hu|hu
        .exact b3 _ hu
        .exact ad 0 (i+1) b (by omega) hu aC
       .exact b3 _ hu)
      (λi j b bT=>ad (i+1) (j+1) b (by omega)) kn
     refine⟨b0,g1,λu b hu=>?_⟩;rcases g2 u b hu with hu|⟨i,aC⟩
     .simp only[ew]at hu;split at hu
      .rename_i e;subst e;exact hu.imp id λh=>⟨0,h⟩
      .exact .inl hu
     .exact .inr ⟨i+1,aC⟩
def hf (ps:List bB):Bool:=ps.any λp=> !p.g&& !p.a.R.isEmpty
theorem Iy (h:aZ w0 F0 X F S s ao w) {ps:List bB} {vs BA:RJ} {os:RL} {f:FuncId} {r:I} (hl:ps.length=vs.length) (BB:∀(i:Nat) (p:bB),ps[i]? =some p->∃o,os[i]? =some o/\(p.o=o\/p.o=uc p.d o))
  (fo:∀(i:Nat) (p:bB) (v:Value),ps[i]? =some p->vs[i]? =some v->p.a.plain=true/\ar w F s ao p.a v (λ_=>False))
  (dI:∀p∈ps,p.ok s) (gT:fw ps=true) (bq:∀(Fc hh:Nat->Prop) (cr:Nat->Nat->Prop),(∀b,F b->Fc b)->(∀b,hh b->∃u,S u b)->aZ w Fc hh Fc cr (cM (ps.map (·.d))) (dJ vs) w->
   jn C.P f BA.toArray w λv an=>∃a8 aB,aZ w Fc hh a8 aB (cM (r::os)) (dJ (v::vs)) an) (ax:r.res=true)
  (aT:hf ps=true->r.cK=true/\∀(i:Nat) (p:bB) (o:I),ps[i]? =some p->os[i]? =some o->p.g=true->o.cK=true):
  jn C.P f BA.toArray w λv an=>∃a8 aB,aZ w0 F0 X a8 aB (fm (dj s ps) ps) ao an/\hz w0 X a8 aB (fm (dj s ps) ps) ao an r v/\∀b,F b->a8 b/\an.heap[b]? =w.heap[b]? :=by
 obtain⟨Sn,bg,g1,g2,g3,g4,g5,g6,g7,g8⟩:=Io ps vs s S h hl (λi p v af az=>⟨(fo i p v af az).1,(fo i p v af az).2,λ_=>dI p (mem_of_getElem? af)⟩) gT;have apart:∀(i j:Nat) (p bw:bB),ps[i]? =some p->ps[j]? =some bw->i≠j->(p.g=true\/bw.g=true)->∀u∈p.a.R,u∉bw.a.R:=by
  clear fo dI bq aT g1 g3 g4 g8 hl BB;induction ps with
  |nil=>intro i j p bw af;simp at af
  |cons eR ps ih=>
   simp only[fw,Bool.and_eq_true,List.all_eq_true,Bool.or_eq_true,Bool.not_eq_true']at gT;obtain⟨k5,kn⟩:=gT;have p2:∀bw∈ps,(eR.g=true\/bw.g=true)->∀u∈eR.a.R,u∉bw.a.R:=by
    intro bw cD hg u hu;rcases k5 bw cD with e|e
    .rcases hg with hg|hg<;>simp[hg]at e
    .simpa using e u hu
   intro i j p bw af cD bT hg u hu;cases i with
   |zero=>
    simp at af;subst af;cases j with
    |zero=>exact(bT rfl).elim
    |succ j=>exact p2 bw (mem_of_getElem? (by simpa using cD)) hg u hu
   |succ i=>
    cases j with
    |zero=>
     simp at cD;subst cD;exact λrQ=>p2 p (mem_of_getElem? (by simpa using af)) hg.symm u rQ hu
    |succ j=>exact ih kn i j p bw (by simpa using af) (by simpa using cD) (by omega) hg u hu
 let Fc:Nat->Prop:=λb=>F b\/(hf ps=true/\∃u,bg u b)
 let hh:Nat->Prop:=λb=>∃i,Sn i b
 have ud:∀b,F b->¬hh b:=λb aL ⟨i,aC⟩=>by obtain⟨u,hu⟩:=g5 i b aC;exact h.dN u b hu aL
 have rR:∀u b,bg u b->¬hh b:=λu b hu ⟨i,aC⟩=>g6 i u b aC hu;have br:∀b,hh b->(X b\/w0.heap.size<=b)/\b<w.heap.size:=λb ⟨i,aC⟩=>by obtain⟨u,hu⟩:=g5 i b aC;exact⟨h.ck u b hu,h.c1 u b hu⟩
 have pre:aZ w Fc hh Fc Sn (cM (ps.map (·.d))) (dJ vs) w:=by
  refine⟨λ_ h=>h,λ_ h=>.inl h,?_,λi b aC=>(br b ⟨i,aC⟩).2,?_,λi j b bT=>g7 i j b bT,λi b aC=>.inl ⟨i,aC⟩,?_,λ_ _ _=>rfl,Nat.le_refl _,rfl,rfl,Out.refl _,h.ef.next h.size h.old λb J=>(br b J).1⟩
  .rintro b (J|⟨_,u,hu⟩)
   .exact h.dk b J
   .exact g1.c1 u b hu
  .rintro i b aC (J|⟨_,u,hu⟩)
   .exact ud b J ⟨i,aC⟩
   .exact g6 i u b aC hu
  .intro t;cases af:ps[t]? with
   |none=>
    have:cM (ps.map (·.d)) t= .hole:=by simp[cM,List.getD,af]
    rw[this,ar];trivial
   |some p=>
    have cq:t<vs.length:=by rw[<-hl];exact(List.getElem?_eq_some_iff.1 af).1
    have az:vs[t]? =some vs[t]:=getElem?_eq_getElem cq;have aD:cM (ps.map (·.d)) t=p.d:=by simp[cM,List.getD,af]
    have aG:dJ vs t=vs[t]:=by simp[dJ,List.getD,az]
    rw[aD,aG];have hm:p∈ps:=mem_of_getElem? af;have ag:=dI p hm;cases hg:p.g with
    |true=>
     obtain⟨x,q,a0,bA,bN,bO,bL,cz,db,fV,hd⟩:=g3 t p _ af az hg;simp only[bB.ok,hg,if_true,bA]at ag;exact(ar.bx (mD ag.2.1).2.1).2 ⟨fV,ah.mono (λb J=>.inl J) _ _ _ _ (λ_ h=>h) hd⟩
    |false=>
     simp only[bB.ok,hg]at ag;obtain⟨f1,f2⟩:=fo t p _ af az;have BC:∀bw∈ps,bw.g=true->∀u∈bw.a.R,u∉p.a.R:=by
      intro bw cD er u hu;obtain⟨j,bE⟩:=getElem?_of_mem cD;refine apart j t bw p bE af (λe=>?_) (.inl er) u hu;subst e;rw[af]at bE;simp only[Option.some.injEq]at bE;rw[bE,er]at hg;cases hg
     have ub:=g8 _ _ _ BC f2;have h0:view (dj s ps) p.a=some p.d:=xp _ _ (λu hu aI=>xl (xo aI) (λbw cD er rQ=>BC bw cD er u rQ hu)) (by simpa using ag);refine ar.nothing (Ih f1 h0) ((Ij g1 (Fc:=Fc) (λb J=>.inl J) (SizeOf.sizeOf p.a)).1 p.a _ p.d (Nat.le_refl _) ?_ h0 ub);intro u hu b J;refine .inr ⟨?_,u,J⟩;simp only[hf,List.any_eq_true];refine⟨p,hm,?_⟩;cases gm:p.a.R with
     |nil=>rw[gm]at hu;cases hu
     |cons _ _=>simp[hg]
 refine jn.mono (bq Fc hh Sn (λb J=>.inl J) (λb ⟨i,aC⟩=>g5 i b aC) pre) ?_;rintro v an ⟨a8,aB,ae⟩;have keep:∀b,b<w.heap.size->¬hh b->an.heap[b]? =w.heap[b]? :=ae.old;let k6:Nat->Prop:=λb=>if hf ps=true then F b else a8 b
 have BD:∀b,F b->a8 b:=λb J=>ae.eK b (.inl J);have oT:∀b,F b->k6 b:=λb J=>by
  simp only[k6];split
  .exact J
  .exact BD b J
 have h2:∀b,k6 b->a8 b:=λb J=>by
  simp only[k6]at J;split at J
  .exact BD b J
  .exact J
 have BE:∀b,k6 b->F b\/hh b\/w.heap.size<=b:=λb J=>by
  simp only[k6]at J;split at J
  .exact .inl J
  .rename_i nC;rcases ae.eY b J with(J|⟨U,_⟩)|J|J
   .exact .inl J
   .exact(nC U).elim
   .exact .inr (.inl J)
   .exact .inr (.inr J)
 have mid:aZ w0 F0 X k6 bg (dj s ps) ao an:=by
  refine⟨λb J=>oT b (g1.eK b J),?_,λb J=>ae.dk b (h2 b J),λt b J=>Nat.lt_of_lt_of_le (g1.c1 t b J) ae.size,?_,g1.du,g1.ck,?_,?_,Nat.le_trans g1.size ae.size,ae.os.trans g1.os,ae.tape.trans g1.tape,ae.output.trans g1.output,g1.ef⟩
  .intro b J;rcases BE b J with J|J|J
   .exact g1.eY b J
   .rcases(br b J).1 with h|h
    .exact .inr (.inl h)
    .exact .inr (.inr h)
   .exact .inr (.inr (Nat.le_trans g1.size J))
  .intro t b aI J;rcases BE b J with J|J|J
   .exact g1.dN t b aI J
   .exact rR t b aI J
   .exact absurd (g1.c1 t b aI) (by omega)
  .intro t;exact ar.frame (Sx:=bg) (λb J=>keep b (h.dk b J) (ud b J)) oT (λx b J=>keep b (g1.c1 x b J) (rR x b J)) g1.b9 _ _ _ (λb J=>keep b (g1.c1 t b J) (rR t b J)) (g1.b9 t)
  .intro b J gQ;refine(keep b (Nat.lt_of_lt_of_le J g1.size) λak=>?_).trans (g1.old b J gQ);rcases(br b ak).1 with h|h
   .exact gQ h
   .omega
 have BF:∀(d:I) (cs:RJ) (ck:Nat->Prop),(hf ps=true->d.cK=true)->ah an a8 d cs ck->ah an k6 d cs ck:=by
  intro d cs ck Iz eC;by_cases hle:hf ps=true
  .exact ah.cK d cs ck (Iz hle) eC
  .exact ah.mono (λb J=>by simp only[k6];rw[if_neg hle];exact J) _ _ _ _ (λ_ h=>h) eC
 have bound:∀i b,aB i b->b<an.heap.size/\¬k6 b/\(X b\/w0.heap.size<=b)/\∀u,¬bg u b:=by
  intro i b J;refine⟨ae.c1 i b J,λaL=>ae.dN i b J (h2 b aL),?_,λu hu=>?_⟩
  .rcases ae.ck i b J with ak|ak
   .exact(br b ak).1
   .exact .inr (Nat.le_trans g1.size ak)
  .rcases ae.ck i b J with ak|ak
   .exact rR u b hu ak
   .exact absurd (g1.c1 u b hu) (by omega)
 obtain⟨b0,bA,bN⟩:=Iu ps vs (dj s ps) bg (λi=>aB (i+1)) mid hl (by
  intro i p dO af az hg;have hm:p∈ps:=mem_of_getElem? af;have ag:=dI p hm;obtain⟨x,q,a0,aD,aG,aJ,bp,bJ,bk,a7,eH⟩:=g3 i p dO af az hg;simp only[bB.ok,hg,if_true,aD]at ag;rcases ag.2.2 with ba|ba
  .exact .inl ba
  .obtain⟨eA,l2,xr⟩:=Ik ag.2.1 ba.1 ba.2;refine .inr ⟨x,q,a0,p.d.bU,aD,aG,?_,bp,λb2=>l2 _ (bJ b2),bk,ba.1,?_,eA.trans (I.nv _).symm,xr⟩
   .cases q with
    |nil=>simpa only[b6]using aJ
    |cons k q=>
     have aI:=bk (by simp);rw[tu (k::q) _ _ (bg x) none _ ((ar.bx aI).1 (g1.b9 x)).2 aG (λb J=>keep b (g1.c1 x b J) (rR x b J))];exact aJ
   .have:=ae.b9 (i+1);obtain⟨o,iy,jm⟩:=BB i p af;have ec:cM (r::os) (i+1)=o:=by simp[cM,List.getD,iy]
    have gd:dJ (v::vs) (i+1)=dO:=by simp[dJ,List.getD,az]
    rw[ec,gd]at this;have IA:o.tree=true:=by
     rcases jm with e|e
     .rw[<-e];exact(mD ba.1).2.1
     .exact Ir (d:=p.d) (by rw[<-e];exact(mD ba.1).2.1)
    have U:=BF _ _ _ (λhle=>(aT hle).2 i p o af iy hg) ((ar.bx IA).1 this).2;rcases jm with e|e
    .rw[e];exact U
    .rw[e];exact Is oT (λb J=>keep b (h.dk b J) (ud b J)) eH U)
  (λi b J=>bound (i+1) b J) (λi j b bT=>ae.du (i+1) (j+1) b (by omega)) gT
 refine⟨k6,b0,bA,?_,λb J=>⟨oT b J,keep b (h.dk b J) (ud b J)⟩⟩;have bj:=ae.b9 0;have ec:cM (r::os) 0=r:=rfl;have gd:dJ (v::vs) 0=v:=rfl;rw[ec,gd]at bj;cases aI:r.tree with
 |false=>
  cases r<;>first
   |(simp[I.tree]at aI;done)
   |(simp[I.res]at ax;done)
   |exact .inl ⟨rfl,by rw[ar];trivial⟩
 |true=>
  obtain⟨s1,s2⟩:=(ar.bx aI).1 bj;have rO:=BF _ _ _ (λhle=>(aT hle).1) s2;refine .inr ⟨aI,s1,aB 0,rO,λb J=>(bound 0 b J).1,λb J=>(bound 0 b J).2.1,λu b J hu=>?_,λb J=>(bound 0 b J).2.2.1⟩;rcases bN u b hu with hu|⟨i,aC⟩
  .exact(bound 0 b J).2.2.2 u hu
  .exact ae.du 0 (i+1) b (by omega) J aC
theorem BG (h:aZ w0 F0 X F S s ao w) {ps:List bB} {vs:RJ} {f:FuncId} {r:I} (hl:ps.length=vs.length)
  (fo:∀(i:Nat) (p:bB) (v:Value),ps[i]? =some p->vs[i]? =some v->p.a.plain=true/\ar w F s ao p.a v (λ_=>False))
  (dI:∀p∈ps,p.ok s) (gT:fw ps=true) (bq:∀(Fc hh:Nat->Prop) (cr:Nat->Nat->Prop),(∀b,F b->Fc b)->(∀b,hh b->∃u,S u b)->aZ w Fc hh Fc cr (cM (ps.map (·.d))) (dJ vs) w->
   jn C.P f vs.toArray w λv an=>∃a8 aB,aZ w Fc hh a8 aB (cM (r::ps.map (·.o))) (dJ (v::vs)) an) (ax:r.res=true)
  (aT:hf ps=true->r.cK=true/\∀p∈ps,p.o.cK=true):
  jn C.P f vs.toArray w λv an=>∃a8 aB,aZ w0 F0 X a8 aB (fm (dj s ps) ps) ao an/\hz w0 X a8 aB (fm (dj s ps) ps) ao an r v/\∀b,F b->a8 b/\an.heap[b]? =w.heap[b]? :=
 Iy h hl (λi p af=>⟨p.o,by simp[af],.inl rfl⟩) fo dI gT bq ax λhle=>⟨(aT hle).1,λi p o af ba _=>by
  rw[getElem?_map,af]at ba;have:=Option.some.inj ba;subst this;exact(aT hle).2 p (mem_of_getElem? af)⟩
theorem IB (h:aZ w0 F0 X F S s ao w) {ps:List bB} {vs:RJ} {f:FuncId} {r:I} (hl:ps.length=vs.length)
  (fo:∀(i:Nat) (p:bB) (v:Value),ps[i]? =some p->vs[i]? =some v->p.a.plain=true/\ar w F s ao p.a v (λ_=>False))
  (dI:∀p∈ps,p.ok s) (gT:fw ps=true) (bq:bf C f (ps.map (·.d)) r (ps.map (·.o))) (ax:r.res=true)
  (aT:hf ps=true->r.cK=true/\∀p∈ps,p.o.cK=true):
  jn C.P f vs.toArray w λv an=>∃a8 aB,aZ w0 F0 X a8 aB (fm (dj s ps) ps) ao an/\hz w0 X a8 aB (fm (dj s ps) ps) ao an r v/\∀b,F b->a8 b/\an.heap[b]? =w.heap[b]? :=
 BG h hl fo dI gT (λFc hh cr _ _ af=>bq w Fc hh cr vs (by simp[hl]) af) ax aT
end
structure bs where
 dst:Option Nat
 a6:cw
 guard:Option (Nat×Bool)
def rS (ops:Array Oper):Option (Nat×Bool)->Option (Option (Nat×Bool))
 |none=>some none
 |some (j,b)=>match(ops[j]?).bind (·.dst)with
  |some t=>some (some (t,b))
  |none=>none
structure Fr where
 n:Nat
 fx:RG
def iY (n:Fr):Option Nat->Bool
 |none=>true
 |some t=>decide (t<n.n)&& !n.fx.contains t
def nJ (op:Op):cw:=match cB op with
 |some a6=>a6
 |none=>.bad
def lR (n:Fr) (ops:Array Oper) (o:Oper):Option bs:=
 if iY n o.dst=true then match rS ops o.guard with
  |some g=>some ⟨o.dst,nJ o.op,g⟩
  |none=>none
 else none
def lS (n:Fr) (ops:Array Oper):List Oper->Option (List bs)
 |[]=>some []
 |o::os=>match lR n ops o,lS n ops os with
  |some r,some rs=>some (r::rs)
  |_,_=>none
def BH (C:bl) (s:aj) (f:aR) (args:List aR) (K:I->aj->Prop):Prop:=
 ∃(g:FuncId) (caps:RL) (ps:List bB) (r:I),aP s f= .fn g caps/\I.ee caps=true/\ps.map (·.a)=args.map (aP s)++caps/\(∀p∈ps,p.ok s)/\fw ps=true/\
   bf C g (ps.map (·.d)) r (ps.map (·.o))/\r.res=true/\(hf ps=true->r.cK=true/\∀p∈ps,p.o.cK=true)/\K r (fm (dj s ps) ps)
def kq (C:bl) (s:aj) (a6:cw) (K:I->aj->Prop):Prop:=
 match a6 with
 | .call f args=>∃(g:FuncId) (caps:RL) (ps:List bB) (r:I),aP s f= .fn g caps/\I.ee caps=true/\ps.map (·.a)=args.map (aP s)++caps/\(∀p∈ps,p.ok s)/\fw ps=true/\
   bf C g (ps.map (·.d)) r (ps.map (·.o))/\r.res=true/\(hf ps=true->r.cK=true/\∀p∈ps,p.o.cK=true)/\K r (fm (dj s ps) ps)
 | .shr a6=>∃av s1,bh C s a6=some (av,s1)/\av.tree=true/\(∀vs,av≠.tuple vs)/\K av.share s1
 |a6=>∃av s1,bh C s a6=some (av,s1)/\K av s1
theorem ue {C:bl} {s:aj} {a6:cw} {K b_:I->aj->Prop} (h:kq C s a6 K) (ag:∀av s,K av s->b_ av s):kq C s a6 b_:=by
 cases a6 with
 |call f args=>
  obtain⟨g,caps,ps,r,U,fK,ab,ay,aQ,bc,bW,b4,cP⟩:=h;exact⟨g,caps,ps,r,U,fK,ab,ay,aQ,bc,bW,b4,ag _ _ cP⟩
 |shr a6=>
  obtain⟨av,s1,U,ab,ay,aQ⟩:=h;exact⟨av,s1,U,ab,ay,ag _ _ aQ⟩
 |_=>
  obtain⟨av,s1,U,ab⟩:=h;exact⟨av,s1,U,ag _ _ ab⟩
def iz (C:bl) (s:aj) (o:bs) (K:aj->Prop):Prop:=
 match o.guard with
 |none=>kq C s o.a6 λav s1=>K (fin s1 o.dst av)
 |some (t,b)=>match s t with
  | .bool dw=>if dw=b then kq C s o.a6 (λav s1=>K (fin s1 o.dst av))else K (fin s o.dst (.tuple []))
  | .tuple []=>K (fin s o.dst (.tuple []))
  |_=>False
def h4 (C:bl) (s:aj):List bs->(aj->Prop)->Prop
 |[],K=>K s
 |o::os,K=>iz C s o λs1=>h4 C s1 os K
def gC (C:bl) (ros:List bs) (s:aj):RG->(aj->Prop)->Prop
 |[],K=>K s
 |i::l,K=>match ros[i]? with
  |none=>gC C ros s l K
  |some o=>iz C s o λs1=>gC C ros s1 l K
theorem IC (C:bl) (K:aj->Prop):∀(rs pre:List bs) (s:aj),h4 C s rs K->gC C (pre++rs) s ((range rs.length).map (·+pre.length)) K:=by
 intro rs;induction rs with
 |nil=>intro pre s h;exact h
 |cons r rs ih=>
  intro pre s h;rw[length_cons,range_succ_eq_map,map_cons,List.map_map];simp only[gC,Nat.zero_add];rw[getElem?_append_right (Nat.le_refl _)];simp only[Nat.sub_self,getElem?_cons_zero];have key:∀s1,h4 C s1 rs K->gC C (pre++r::rs) s1 ((range rs.length).map ((λx=>x+pre.length)∘succ)) K:=by
   intro s1 U;have:=ih (pre++[r]) s1 U;simp only[append_assoc,singleton_append,length_append,length_singleton]at this;have e:((λx=>x+pre.length)∘succ)=λx=>x+(pre.length+1):=by funext x;simp;omega
   rw[e];exact this
  simp only[h4]at h;unfold iz at h⊢;split
  .rename_i hg;rw[hg]at h;exact ue h λav s1=>key _
  .rename_i t b hg;rw[hg]at h;simp only at h;split
   .rename_i dw R;rw[R]at h;simp only at h;split
    .rename_i J;rw[if_pos J]at h;exact ue h λav s1=>key _
    .rename_i J;rw[if_neg J]at h;exact key _ h
   .rename_i R;rw[R]at h;exact key _ h
   .rename_i U ab;split at h
    .exact U _ (by assumption)
    .exact ab (by assumption)
    .exact h
structure Rel (w0:World) (F0 X:Nat->Prop) (n:Fr) (ρ:Nat->Value) (s:aj) (a:Act) (w:World):Prop where
 defers:a.defers=[]
 size:a.tmps.size=n.n
 fixed:∀i∈n.fx,a.tmps.getD i undef=ρ i
 rel:∃F S,aZ w0 F0 X F S s (λt=>a.tmps.getD t undef) w
section
variable {C:bl} {w0 w:World} {F0 X:Nat->Prop} {n:Fr} {ρ:Nat->Value} {s s1:aj} {a:Act} {av:I} {Q:Exit->Act->World->Prop}
theorem xt {dst:Option Nat} (v:Value) (R:a.tmps.size=n.n) (ad:iY n dst=true):
  (λt=>(a.put dst v).tmps.getD t undef)=mu (λt=>a.tmps.getD t undef) dst v/\(a.put dst v).tmps.size=n.n/\(a.put dst v).defers=a.defers:=by
 cases dst with
 |none=>exact⟨rfl,R,rfl⟩
 |some d=>
  simp only[iY,Bool.and_eq_true,decide_eq_true_eq]at ad;refine⟨?_,by simp[Act.put,R],rfl⟩;funext t;simp only[Act.put,mu,cd,Array.getD_eq_getD_getElem?];by_cases h:t=d
  .subst h;rw[if_pos rfl,Array.getElem?_setIfInBounds_self_of_lt (by omega)];rfl
  .rw[if_neg h,Array.getElem?_setIfInBounds_ne (λe=>h e.symm)]
theorem Rel.put {F S} (ad:a.defers=[]) (R:a.tmps.size=n.n) (bq:∀i∈n.fx,a.tmps.getD i undef=ρ i) {an:World} (ax:aZ w0 F0 X F S s (λt=>a.tmps.getD t undef) an) {v:Value} (az:hz w0 X F S s (λt=>a.tmps.getD t undef) an av v)
  {dst:Option Nat} (dI:iY n dst=true):Rel w0 F0 X n ρ (fin s dst av) (a.put dst v) an:=by
 obtain⟨aD,aG,aJ⟩:=xt (n:=n) (dst:=dst) v R dI;obtain⟨aB,aN⟩:=ax.fin az dst;refine⟨aJ.trans ad,aG,λi aC=>?_,F,aB,by rw[aD];exact aN⟩;rw[congrFun aD i];cases dst with
 |none=>exact bq i aC
 |some d=>
  simp only[iY,Bool.and_eq_true,Bool.not_eq_true',contains_eq_mem,decide_eq_false_iff_not]at dI;have bT:i≠d:=λe=>dI.2 (by rw[<-e];exact aC);simp only[mu];rw[gy _ _ bT];exact bq i aC
theorem Rel.skip (h:Rel w0 F0 X n ρ s a w) {dst:Option Nat} (dI:iY n dst=true):Rel w0 F0 X n ρ (fin s dst (.tuple [])) (a.put dst undef) w:=by
 obtain⟨ad,R,bq,F,S,ax⟩:=h;refine Rel.put (av:=.tuple []) ad R bq ax (.inl ⟨rfl,(ar.bx (d:=.tuple []) rfl).2 ⟨?_,?_⟩⟩) dI
 .exact⟨#[],rfl,rfl,λk d x ag=>by simp at ag⟩
 .rw[ah,aH];rfl
theorem BI {F:Nat->Prop} {ao:Nat->Value} {w:World}:∀{ds es:RL} {vs us:RJ},cE w F s ao ds vs->cE w F s ao es us->cE w F s ao (ds++es) (vs++us):=by
 intro ds;induction ds with
 |nil=>intro es vs us U ab;rw[cE]at U;subst U;exact ab
 |cons d ds ih=>
  intro es vs us U ab;rw[cE]at U;obtain⟨v,hV,rfl,g1,g2⟩:=U;rw[cons_append,cons_append,cE];exact⟨v,_,rfl,g1,ih g2 ab⟩
theorem BJ {F:Nat->Prop} {ao:Nat->Value} {w:World}:∀{ds:RL} {vs:RJ},cE w F s ao ds vs->ds.length=vs.length/\∀(i:Nat) (d:I) (v:Value),ds[i]? =some d->vs[i]? =some v->ar w F s ao d v (λ_=>False):=by
 intro ds;induction ds with
 |nil=>intro vs h;rw[cE]at h;subst h;exact⟨rfl,λi d v h=>by simp at h⟩
 |cons d ds ih=>
  intro vs h;rw[cE]at h;obtain⟨v,hV,rfl,g1,g2⟩:=h;obtain⟨bA,bN⟩:=ih g2;refine⟨by simp[bA],λi aV dO ad az=>?_⟩;cases i with
  |zero=>simp at ad az;subst ad az;exact g1
  |succ i=>exact bN i aV dO (by simpa using ad) (by simpa using az)
theorem uf {op:Op} {a6:cw} (h:nJ op=a6):a6= .bad\/cB op=some a6:=by
 unfold nJ at h;split at h
 .subst h;right;assumption
 .exact .inl h.symm
theorem ID {op:Op} {a6:cw}:cB op≠some (.shr a6):=by
 intro h;unfold cB at h;split at h<;>(try split at h)<;>(try split at h)<;>(try split at h)<;>(try simp[Option.map_eq_some_iff]at h)
theorem aZ.alias {F:Nat->Prop} {S:Nat->Nat->Prop} {ao:Nat->Value} {u x:Nat} (h:aZ w0 F0 X F S s ao w) (hu:s u= .hole) (ak:(s x).own=true) (az:bn (ao u)=bn (ao x)) (U:Value.eh (ao u)=true):
  aZ w0 F0 X F (ew S u (λ_=>False)) (cd s u (.h x [])) ao w:=by
 have cC:cd ao u (ao u)=ao:=by funext y;simp only[cd];split<;>simp_all
 have:=h.tz (t:=u) (d:=.h x []) (v:=ao u) rfl (by
  rw[ar];intro d ad af;simp only[I.sub,Option.some.injEq]at ad;subst ad;exact⟨bn (ao x),none,rfl,az,((tZ ak).2.2.2.2.2 _).2 U⟩)
 rwa [cC]at this
theorem hz.less {F:Nat->Prop} {S aB:Nat->Nat->Prop} {ao:Nat->Value} {s1:aj} {v:Value} (a_:∀u b,aB u b->S u b) (ax:av.res=true) (h:hz w0 X F S s ao w av v):hz w0 X F aB s1 ao w av v:=by
 rcases h with⟨U,ab⟩|⟨U,ab,Sn,ay,aQ,bc,bW,b4⟩
 .refine .inl ⟨U,?_⟩;cases av<;>first
   |(simp[I.res]at ax;done)
   |(rw[ar];trivial)
   |(rw[ar]at ab⊢;exact ab)
 .exact .inr ⟨U,ab,Sn,ay,aQ,bc,λu b J hu=>bW u b J (a_ u b hu),b4⟩
theorem IE (aS:C.cS) (h:Rel w0 F0 X n ρ s a w) {o:Oper} {f:aR} {args:List aR} (bD:cB o.op=some (.call f args)) (ad:iY n o.dst=true) {K:I->aj->Prop} {L:aj->Prop} {next:Act->World->Prop}
  (hw:BH C s f args K) (jo:∀F S a8 aB w an av s1 v,aZ w0 F0 X F S s (λt=>a.tmps.getD t undef) w->K av s1->av.res=true->aZ w0 F0 X a8 aB s1 (λt=>a.tmps.getD t undef) an->hz w0 X a8 aB s1 (λt=>a.tmps.getD t undef) an av v->(∀b,F b->a8 b/\an.heap[b]? =w.heap[b]?)->
   ∃s2 b0,L (fin s2 o.dst av)/\aZ w0 F0 X a8 b0 s2 (λt=>a.tmps.getD t undef) an/\hz w0 X a8 b0 s2 (λt=>a.tmps.getD t undef) an av v)
  (aT:∀aq bI an,L aq->Rel w0 F0 X n ρ aq bI an->next bI an):o.wp C.P a w next Q:=by
 have hrel:=h;obtain⟨jq,dm,gU,F,S,ax⟩:=h;obtain⟨g,caps,ps,r,U,fK,ab,ay,aQ,bc,bW,b4,cP⟩:=hw;obtain⟨dst,op,ty,pos,after,guard⟩:=o;simp only at bD ad jo;cases op with
 |call c=>
  obtain⟨callee,k7,argTypes⟩:=c;simp only[cB]at bD;split at bD
  .split at bD
   .rename_i rT _ _ BK xs bq lQ;simp only[Option.some.injEq,cw.call.injEq]at bD;obtain⟨rfl,rfl⟩:=bD;obtain⟨f1,f2⟩:=dC ax (λ_=>rfl) bq;rw[U,ar]at f2;obtain⟨arr,f3,f4⟩:=f2;have rU:execOp a.eval {dst,op:=.call {callee:=.value rT,args:=k7,argTypes},type:=ty,pos,after,guard}=callFunc g ((k7.toList.map a.eval++arr.toList).toArray):=by
     have:a.eval rT= .func (.func g) #[] arr:=f3;simp only[execOp,resolve,this,Deferred.ofValue,pure_bind,invoke];congr 1;apply Array.ext';simp
    unfold Oper.wp;rw[rU];have rV:cE w F s (λt=>a.tmps.getD t undef) (xs.map (aP s)++caps) (k7.toList.map a.eval++arr.toList):=BI (tW ax (λ_=>rfl) _ _ (oP lQ)) f4;rw[<-ab]at rV;obtain⟨eA,l2⟩:=BJ rV;have dZ:∀d∈xs.map (aP s)++caps,d.plain=true:=by
     intro d ad;rcases mem_append.1 ad with ad|ad
     .obtain⟨x,ak,rfl⟩:=mem_map.1 ad;exact Ai s x λav e=>by
       subst e;have hm:=oP lQ;have:some (aR.c av)∈xs.map some:=mem_map.2 ⟨_,ak,rfl⟩;rw[<-hm]at this;obtain⟨o,_,ba⟩:=mem_map.1 this;cases o with
       |const v=>simp only[ch,Option.map_eq_some_iff]at ba;obtain⟨c,ae,e⟩:=ba;cases e;exact wA ae
       |tmp n=>simp[ch]at ba
       |func g=>simp[ch]at ba
       |global g=>simp[ch]at ba
     .obtain⟨k,ag⟩:=getElem?_of_mem ad;exact tt fK ag
    have xu:=IB (C:=C) ax (ps:=ps) (vs:=k7.toList.map a.eval++arr.toList) (f:=g) (r:=r) (by simpa using eA)
     (λi p v af az=>⟨dZ p.a (by rw[<-ab];exact mem_map.2 ⟨p,mem_of_getElem? af,rfl⟩),l2 i p.a v (by simp[af]) az⟩) ay aQ bc bW b4
    rcases xu with⟨ei,b8⟩|⟨v,an,ei,a8,aB,b8,ga,dy⟩
    .rw[ei,Oper.upon_enter];refine Calls.mono b8 ?_;rintro e an ⟨v,rfl,a8,aB,bA,bN,bO⟩;obtain⟨s2,b0,m1,m2,m3⟩:=jo _ _ _ _ _ _ _ _ _ ax cP bW bA bN bO;exact aT _ _ _ m1 (Rel.put jq dm gU m2 m3 ad)
    .rw[ei,Oper.upon_value];obtain⟨s2,b0,m1,m2,m3⟩:=jo _ _ _ _ _ _ _ _ _ ax cP bW b8 ga dy;exact aT _ _ _ m1 (Rel.put jq dm gU m2 m3 ad)
   .cases bD
  .split at bD
   .simp only[Option.map_eq_some_iff]at bD;obtain⟨_,_,bD⟩:=bD;cases bD
   .cases bD
  .split at bD
   .simp only[Option.map_eq_some_iff]at bD;obtain⟨_,_,bD⟩:=bD;cases bD
   .cases bD
  iterate 3
   .split at bD
    .split at bD<;>cases bD
    .cases bD
  .cases bD
 |makeFunc fn first cs=>
  cases fn<;>simp only[cB]at bD<;>first|(cases bD;done)|(split at bD<;>simp at bD)
 |slice T x di aC cY=>
  cases cY<;>simp only[cB]at bD<;>first|(cases bD;done)|(split at bD<;>simp at bD)
 |makeMap T r=>cases r<;>simp only[cB]at bD<;>simp at bD
 |lookup T x i c=>cases c<;>simp only[cB]at bD<;>first|(cases bD;done)|(split at bD<;>simp at bD)
 |_=>simp only[cB]at bD<;>first|(cases bD;done)|(simp at bD;done)|(split at bD<;>simp at bD)
theorem IF (aS:C.cS) (h:Rel w0 F0 X n ρ s a w) {o:Oper} {a6:cw} (bD:cB o.op=some a6) (ad:iY n o.dst=true) {K:aj->Prop} {next:Act->World->Prop}
  (hw:kq C s a6 λav s1=>K (fin s1 o.dst av)) (aT:∀aq bI an,K aq->Rel w0 F0 X n ρ aq bI an->next bI an):o.wp C.P a w next Q:=by
 have hrel:=h;obtain⟨jq,dm,gU,F,S,ax⟩:=h;have plain:∀av s1,bh C s a6=some (av,s1)->K (fin s1 o.dst av)->o.wp C.P a w next Q:=by
  intro av s1 he ag;obtain⟨r,an,v,a8,aB,U,ab,ay,aQ⟩:=A9 (a:=a) aS ax (λ_=>rfl) bD he;unfold Oper.wp;rw[U];rcases ab with rfl|⟨rfl,rfl⟩
  .exact aT _ _ _ ag (Rel.put jq dm gU ay aQ ad)
  .exact aT _ _ _ ag (Rel.put jq dm gU ay aQ ad)
 cases a6 with
 |shr a6=>exact(ID bD).elim
 |call f args=>exact IE aS ⟨jq,dm,gU,F,S,ax⟩ bD ad (K:=λav s1=>K (fin s1 o.dst av)) hw (λ_ _ _ aB _ _ _ s1 _ _ ab _ ay aQ _=>⟨s1,aB,ab,ay,aQ⟩) aT
 |_=>
  obtain⟨av,s1,he,ag⟩:=hw;exact plain av s1 he ag
theorem hz.share {F:Nat->Prop} {S:Nat->Nat->Prop} {ao:Nat->Value} {v:Value} (h:aZ w0 F0 X F S s ao w) (az:hz w0 X F S s ao w av v) (aI:av.tree=true) (aT:∀vs,av≠.tuple vs):
  ∃a8,aZ w0 F0 X a8 S s ao w/\hz w0 X a8 S s ao w av.share v:=by
 obtain⟨Sn,ek,dx,fU,hF,tI,xv⟩:∃Sn:Nat->Prop,b7 av v/\ah w F av (bn v) Sn/\(∀b,Sn b->b<w.heap.size)/\(∀b,Sn b->¬F b)/\(∀u b,Sn b->¬S u b)/\(∀b,Sn b->X b\/w0.heap.size<=b):=by
  rcases az with⟨U,ab⟩|⟨_,ab,Sn,ay,aQ,bc,bW,b4⟩
  .rw[ar.bx aI]at ab;exact⟨λ_=>False,ab.1,ab.2,λ_ h=>h.elim,λ_ h=>h.elim,λ_ _ h=>h.elim,λ_ h=>h.elim⟩
  .exact⟨Sn,ab,ay,aQ,bc,bW,b4⟩
 refine⟨λb=>F b\/Sn b,?_,.inl ⟨xh av,?_⟩⟩
 .exact {
   eK:=λb J=>.inl (h.eK b J)
   eY:=λb J=>by
    rcases J with J|J
    .exact h.eY b J
    .exact .inr (xv b J)
   dk:=λb J=>J.elim (h.dk b) (fU b)
   c1:=h.c1
   dN:=λt b J bq=>bq.elim (h.dN t b J) (λR=>tI t b R J)
   du:=h.du
   ck:=h.ck
   b9:=λt=>ar.frame (λ_ _=>rfl) (λb J=>.inl J) (λ_ _ _=>rfl) h.b9 _ _ _ (λ_ _=>rfl) (h.b9 t)
   old:=h.old
   size:=h.size
   os:=h.os
   tape:=h.tape
   output:=h.output
   ef:=h.ef}
 .by_cases ba:∃o,av= .cf o
  .obtain⟨o,rfl⟩:=ba;rw[I.share,ar];trivial
  by_cases ug:∃f c,av= .dE f c
  .obtain⟨f,c,rfl⟩:=ug;rw[I.share,ar];trivial
  have IG:av.share.tree=true:=by cases av<;>first|exact aI|rfl|exact(ba ⟨_,rfl⟩).elim|exact(ug ⟨_,_,rfl⟩).elim
  rw[ar.bx IG];exact⟨xj aT ek,ah.shared (λb J=>.inl J) av _ Sn (λb J=>.inr J) dx⟩
theorem IH (aS:C.cS) (h:Rel w0 F0 X n ρ s a w) {o:Oper} {a6:cw} (bD:nJ o.op=a6.base) (ad:iY n o.dst=true) {K:aj->Prop} {next:Act->World->Prop}
  (hw:kq C s a6 λav s1=>K (fin s1 o.dst av)) (aT:∀aq bI an,K aq->Rel w0 F0 X n ρ aq bI an->next bI an):o.wp C.P a w next Q:=by
 cases a6 with
 |shr a6=>
  obtain⟨av,s1,he,aI,jl,ag⟩:=hw;rcases uf bD with bD|bD
  .change a6= .bad at bD;subst bD;cases he
  obtain⟨jq,dm,gU,F,S,ax⟩:=h;obtain⟨r,an,v,a8,aB,U,ab,ay,aQ⟩:=A9 (a:=a) aS ax (λ_=>rfl) bD he;obtain⟨h2,g3,g4⟩:=hz.share ay aQ aI jl;unfold Oper.wp;rw[U];rcases ab with rfl|⟨rfl,rfl⟩
  .exact aT _ _ _ ag (Rel.put jq dm gU g3 g4 ad)
  .exact aT _ _ _ ag (Rel.put jq dm gU g3 g4 ad)
 |bad=>obtain⟨av,s1,he,_⟩:=hw;cases he
 |_=>
  rcases uf bD with J|J
  .cases J
  .exact IF aS h J ad hw aT
end
end Go.ca
