/- Part of a proof that a law returns true for every input. No condition. -/
import Derived.Test.YtmaepbgkcmjcjagGreatDoorFwD
import Derived.Laws.Tables
namespace Go.ef
open List Go.IntKind Nat
section
variable {C:cj} {w0 w:World} {F0 X F:Nat->Prop} {S:Nat->Nat->Prop} {s s1:ak} {aG:Nat->Value} {av:I}
theorem LW (z:axg):∀n,(range (n*z.length)).map (λi=>z[i%z.length]!)=(replicate n z).flatten
 |0=>by simp
 |n+1=>by
  rw[Nat.add_mul,Nat.one_mul,range_add,map_append,LW z n,replicate_succ',flatten_append];congr 1;simp only[List.map_map,flatten_cons,flatten_nil,append_nil];apply ext_getElem
  .simp
  .intro i ad ae;have ag:i<z.length:=ae;simp[mod_eq_of_lt ag,ag]
theorem bx.replicate {d:I} {cs:axg} (h:∀aX,aA w F d cs aX):∀n aX,bx w F (replicate n d) (replicate n cs).flatten aX
 |0,aX=>by simp only[replicate_zero,flatten_nil];rw[bx]
 |n+1,aX=>by
  rw[replicate_succ,replicate_succ,flatten_cons,bx];exact⟨cs,_,λ_=>False,λ_=>False,rfl,h _,bx.replicate h n _,λ_ h=>h.elim,λ_ h=>h.elim,λ_ h=>h.elim⟩
def fv (C:cj) (T:TypeId) (l c:I):Option I:=
 match(C.T T).k,l,c with
 | .slice e,.int .i64 n,.int .i64 m=>if n=m/\0<=n/\(C.T e).ok=true/\(C.T e).zero.wd=(C.T e).sz/\(flat (C.T e).zero).isSome=true/\(C.T e).sz≠0/\(C.T e).bytes*n<=140737488355328/\n<=9223372036854775807 then
   some (.aj (C.T e).sz (replicate n.toNat (C.T e).zero))else none
 |_,_,_=>none
theorem acb (bK:C.fz) (h:b8 w0 F0 X F S s aG w) {T:TypeId} {l c:I} {Ta Tb:Value} (aC:aO w F s aG l Ta (λ_=>False)) (ar:aO w F s aG c Tb (λ_=>False)) (he:fv C T l c=some av):
  Good C w0 F0 X aG w (Instr.makeSlice T Ta Tb) av s:=by
 unfold fv at he;split at he
 .rename_i e n m au;have:=p4 aC;subst this;have:=p4 ar;subst this;obtain⟨S0,d,S1,aN,aU,aR,bW,cM,cg,b3⟩:=bK.info (hr au (by simp));rw[au]at b3;have:=oq b3;subst this;split at he
  .rename_i Dx;obtain⟨rfl,aS,uZ,yq,yr,fg,at4,yt⟩:=Dx;simp only[Option.some.injEq]at he;subst he;obtain⟨i,S2,z,f1,f2,f3,f4,f5,f6,f7⟩:=bK.info uZ;obtain⟨hR,p6⟩:=Option.isSome_iff_exists.1 yr;have ys:=f5 hR p6;have hQ:∀aX,aA w F (C.T e).zero hR aX:=λaX=>(aA.flat _).1 _ hR aX (Nat.le_refl _) p6;have wO:hR.length=(C.T e).sz:=by rw[aA.length _ _ _ (hQ (λ_=>False)),yq]
   obtain⟨n,rfl⟩:=Int.eq_ofNat_of_zero_le aS;simp only[Int.toNat_natCast];have Tc:i64.wrap (n:Int)=n:=by
    rw[wrap_i64];omega
   have Hp:∀k (w:World),(askRoom k).run C.P w= .ok () w:=by
    intro k w;unfold askRoom;split<;>rfl
   have yi:((Array.range (n*(C.T e).sz)).map (hR.toArray[·%hR.toArray.size]!)).toList=(replicate n hR).flatten:=by
    have:=LW hR n;rw[wO]at this;simpa [wO]using this
   have eB:¬(281474976710656<(i.bytes:Int)*n):=by
    rw[f3];omega
   have Td:¬((n:Int)<0):=by omega
   have run:(Instr.makeSlice T (.int .i64 n) (.int .i64 n)).run C.P w= .ok (.slice (some ⟨w.heap.size,0,none⟩) n n)
     (w.alloc (.cells (if n*(C.T e).sz=0 then(Array.range (n*(C.T e).sz)).map (λ_=>default)else(Array.range (n*(C.T e).sz)).map (hR.toArray[·%hR.toArray.size]!)) e)):=by
    by_cases bb:n*(C.T e).sz=0
    .simp[Instr.makeSlice,run_underlying cg,asInt,asIntOf,Dv f1,Tc,eB,Td,Hp,nb f1,f2,bb,newRow]
    .simp only[bb,if_false];simp[Instr.makeSlice,run_underlying cg,asInt,asIntOf,Dv f1,Tc,eB,Td,Hp,nb f1,f2,bb,newRow,yf f1 f4,ys]
   have pr:(if n*(C.T e).sz=0 then(Array.range (n*(C.T e).sz)).map (λ_=>(default:Value))else(Array.range (n*(C.T e).sz)).map (hR.toArray[·%hR.toArray.size]!)).toList=(replicate n hR).flatten:=by
    split
    .rename_i bb;have:n=0:=by
      rcases mul_eq_zero.1 bb with h|h
      .exact h
      .exact(fg h).elim
     subst this;simp
    .exact yi
   generalize DI:(if n*(C.T e).sz=0 then(Array.range (n*(C.T e).sz)).map (λ_=>(default:Value))else(Array.range (n*(C.T e).sz)).map (hR.toArray[·%hR.toArray.size]!))=cur at run pr;have j5:(replicate n hR).flatten.length=n*(C.T e).sz:=by simp[wO]
   have iX:cur.size=n*(C.T e).sz:=by
    have:cur.size=cur.toList.length:=by simp
    rw[this,pr,j5]
   have ou:=h.Hl (aL:=w.alloc (.cells cur e)) (sz:=(C.T e).sz) (cap:=n) (xs:=replicate n (C.T e).zero) (cur:=cur) (e:=e) (fr:=(0,0)) (Sn:=λ_=>False) rfl rfl rfl ⟨rfl,λ_=>Nat.le_refl _⟩
    (λo _ ⟨_,ae⟩=>absurd ae (not_lt_zero _)) (by simp) (by unfold maxLen;omega) iX (by intro d al;rw[eq_of_mem_replicate al];exact yq)
    (by rw[pr,length_replicate,take_of_length_le (by rw[j5];exact Nat.le_refl _)];exact bx.replicate hQ n _) (λ_ h=>h.elim) (λ_ h=>h.elim) (λ_ _ h=>h.elim) (λ_ h=>h.elim)
   rw[length_replicate]at ou;exact⟨_,_,F,S,run,ou.1,ou.2⟩
  .cases he
 .cases he
def pv (s:ak) (f:FuncId) (cs:List bC):Option I:=some (.fn f (cs.map (bw s)))
theorem Hv {a:Act} (h:b8 w0 F0 X F S s aG w) (e_:∀t,aG t=a.tmps.getD t undef):∀(os:List Operand) (xs:List bC),os.map eC=xs.map some->fm w F s aG (xs.map (bw s)) (os.map a.eval)
 |[],[],_=>by simp only[map_nil];rw[fm]
 |[],x::xs,h=>by simp at h
 |o::os,[],h=>by simp at h
 |o::os,x::xs,bB=>by
  simp only[map_cons,cons.injEq]at bB⊢;rw[fm];exact⟨_,_,rfl,(gF h e_ bB.1).2,Hv h e_ os xs bB.2⟩
theorem Te:∀(vs:axg) (k off:Nat) (A:Array Value) (l m r:axg),A.toList=l++(m++r)->l.length=off+k->m.length=vs.length->
  ((vs.zipIdx k).foldl (λcs (x:Value×Nat)=>cs.setIfInBounds (off+x.2) x.1) A).toList=l++(vs++r)
 |[],k,off,A,l,m,r,iL,aC,hm=>by
  have:m=[]:=by simpa using hm
  subst this;simpa using iL
 |v::vs,k,off,A,l,m,r,iL,aC,hm=>by
  obtain⟨x,m,rfl⟩:∃x js,m=x::js:=by
   cases m with
   |nil=>simp at hm
   |cons x m=>exact⟨x,m,rfl⟩
  rw[zipIdx_cons,foldl_cons];have:=Te vs (k+1) off (A.setIfInBounds (off+k) v) (l++[v]) m r (by
   rw[Array.toList_setIfInBounds,iL,<-aC,set_append_right _ _ (Nat.le_refl _)];simp) (by simp;omega) (by simpa using hm)
  simpa using this
def nw (os:List (Option Nat)) (a:I):I:=os.foldl (λa o=>na o a) a
def ey (place:Nat->Option (Nat×Nat)):ak->axi->List (Option Nat)->axh->Option (axi×ak)
 |s,fc,_,[]=>some (fc,s)
 |s,fc,os,(k,a)::r=>match dw s (nw os a),place k,fc[k]? with
  |some (d,s1),some (off,n),some z=>match d with
   | .tuple _=>none
   |d=>if d.wd=n/\z.wd=n/\I.eY (fc.take k)=off then ey place s1 (fc.set k d) (os++[(nw os a).owner]) r else none
  |_,_,_=>none
def qP (w:World) (F:Nat->Prop) (s:ak) (aG:Nat->Value):axh->List (Nat×Value)->Prop
 |[],[]=>True
 |(k,a)::r,(c_,v)::me=>k=c_/\a.plain=true/\aO w F s aG a v (λ_=>False)/\qP w F s aG r me
 |_,_=>False
theorem acd (x:Nat):∀d:I,d.plain=true->(cK x d).plain=true
 | .h y q,_=>by simp only[cK];split<;>(try split)<;>rfl
 | .ax y q,_=>by simp only[cK];split<;>rfl
 | .ab y q,_=>rfl
 | .fn f c,_=>by simp only[cK];rfl
 | .hole,h=>h
 | .bool _,h=>h
 | .gw,h=>h
 | .int _ _,h=>h
 | .str _,h=>h
 | .en,h=>h
 | .a8,h=>h
 | .slice _,h=>h
 | .aj _ _,h=>h
 | .ref _,h=>h
 | .aM _,h=>h
 | .agg _,h=>h
 | .tuple _,h=>h
theorem ace (o:Option Nat) (d:I) (h:d.plain=true):(na o d).plain=true:=by
 cases o with
 |none=>exact h
 |some x=>exact acd x d h
theorem qP.cK {w:World} {F:Nat->Prop} {s s1:ak} {aG:Nat->Value} {o:Option Nat} (ax:∀(bI:I) (hi:Value) (aX:Nat->Prop),aO w F s aG bI hi aX->aO w F s1 aG (na o bI) hi aX):
  ∀(r:axh) (me:List (Nat×Value)),qP w F s aG r me->qP w F s1 aG (r.map λp=>(p.1,na o p.2)) me
 |[],[],_=>trivial
 |(k,a)::r,(c_,v)::me,h=>by
  obtain⟨ad,ae,aI,bc⟩:=h;exact⟨ad,ace _ _ ae,ax _ _ _ aI,qP.cK ax r me bc⟩
 |[],_::_,h=>h.elim
 |_::_,[],h=>h.elim
theorem LX {place:Nat->Option (Nat×Nat)}:∀(ps:axh) (vs:List (Nat×Value)) (os:List (Option Nat)) (s:ak) (S:Nat->Nat->Prop) (fc:axi) (A:Array Value) (iT:Nat->Prop),
  b8 w0 F0 X F S s aG w->qP w F s aG (ps.map λp=>(p.1,nw os p.2)) vs->bx w F fc A.toList iT->(∀b,iT b->b<w.heap.size)->(∀b,iT b->¬F b)->(∀u b,iT b->¬S u b)->(∀b,iT b->X b\/w0.heap.size<=b)->
  ∀ds s1,ey place s fc os ps=some (ds,s1)->∃oY cA hO,Instr.fill place A vs=some oY/\b8 w0 F0 X F cA s1 aG w/\bx w F ds oY.toList hO/\(∀b,hO b->b<w.heap.size)/\(∀b,hO b->¬F b)/\(∀u b,hO b->¬cA u b)/\
   (∀b,hO b->X b\/w0.heap.size<=b)/\ds.length=fc.length/\I.eY ds=I.eY fc/\(∀n,(∀d∈fc,d.wd=n)->∀d∈ds,d.wd=n)
 |[],[],os,s,S,fc,A,iT,h,_,ad,ae,aI,bc,bY,ds,s1,he=>by
  simp only[ey,Option.some.injEq,Prod.mk.injEq]at he;obtain⟨rfl,rfl⟩:=he;exact⟨A,S,iT,rfl,h,ad,ae,aI,bc,bY,rfl,rfl,λ_ h=>h⟩
 |(k,a)::ps,(c_,v)::vs,os,s,S,fc,A,iT,h,ax,ad,ae,aI,bc,bY,ds,s1,he=>by
  obtain⟨rfl,nx,rV,DJ⟩:=ax;simp only[ey]at he;split at he
  .rename_i d AD off n z aZ fA b9;have key:∀d:I,(∀aD,d≠.tuple aD)->dw s (nw os a)=some (d,AD)->(if d.wd=n/\z.wd=n/\I.eY (fc.take k)=off then ey place AD (fc.set k d) (os++[(nw os a).owner]) ps else none)=some (ds,s1)->
     ∃oY cA hO,Instr.fill place A ((k,v)::vs)=some oY/\b8 w0 F0 X F cA s1 aG w/\bx w F ds oY.toList hO/\(∀b,hO b->b<w.heap.size)/\(∀b,hO b->¬F b)/\(∀u b,hO b->¬cA u b)/\
     (∀b,hO b->X b\/w0.heap.size<=b)/\ds.length=fc.length/\I.eY ds=I.eY fc/\(∀n,(∀d∈fc,d.wd=n)->∀d∈ds,d.wd=n):=by
    intro d uV aZ he;split at he
    .rename_i ar;obtain⟨nd,k4,Tf⟩:=ar;obtain⟨cA,g0,g1,g2,Sn,g3,g4,g5,g6,g7,g8,g9,g10⟩:=rW h nx rV aZ;obtain⟨cz,gZ,c2,Sx,jd,iL,iU,hp,iV,kq,hc,oN⟩:=bx.pick fc _ _ k z ad b9;have yi:=LC g2 uV;have r3:=aA.length _ _ _ g3;have Tg:=aA.length _ _ _ hc;have wJ:=oN w d (c8 v) Sn (λ_ _=>rfl) (λ_ _=>rfl) g3 (λb acf acg=>by obtain⟨u,hu⟩:=g9 b acf;exact bc u b (hp b acg) hu);have Th:=Te (c8 v) 0 off A cz gZ c2 iL (by rw[iU,Tf];rfl) (by rw[Tg,r3,nd,k4]);generalize DK:((c8 v).zipIdx 0).foldl (λcs (x:Value×Nat)=>cs.setIfInBounds (off+x.2) x.1) A=oU at Th;obtain⟨oY,eI,hO,m1,m2,m3,m4,m5,m6,m7,m8,m9,m10⟩:=LX (place:=place) ps vs (os++[(nw os a).owner]) AD cA (fc.set k d) oU (λb=>Sx b\/Sn b) g0 (by have:=qP.cK g10 _ _ DJ;simpa [nw,foldl_append,Function.comp_def]using this) (by rw[Th];exact wJ)
      (by rintro b (ab|ab);exact ae b (hp b ab);exact g4 b ab) (by rintro b (ab|ab);exact aI b (hp b ab);exact g5 b ab)
      (by rintro u b (ab|ab);exact λhu=>bc u b (hp b ab) (g8 u b hu);exact g6 u b ab) (by rintro b (ab|ab);exact bY b (hp b ab);exact g7 b ab) ds s1 he
     refine⟨oY,eI,hO,?_,m2,m3,m4,m5,m6,m7,by rw[m8];simp,by rw[m9];exact Lb _ _ _ _ b9 (by rw[nd,k4]),?_⟩
     .have LY:off+n<=A.size:=by
       have:A.size=A.toList.length:=by simp
       rw[this,iL];simp[iU,Tf,Tg,k4]
      simp only[Instr.fill,fA,yi,List.size_toArray,r3,nd];have ns:¬(n≠n\/A.size<off+n):=by omega
      have ach:(c8 v).toArray.zipIdx.foldl (λcs (x:Value×Nat)=>cs.setIfInBounds (off+x.2) x.1) A=oU:=by
       rw[<-DK,<-Array.foldl_toList];simp
      simp only[ne_eq,not_true_eq_false,decide_false,Bool.false_or,decide_eq_true_eq,gt_iff_lt];rw[if_neg (by simp;omega)];rw[show(c8 v).toArray.zipIdx.foldl (λcs x=>match x with|(c,j)=>cs.setIfInBounds (off+j) c) A=oU from ach];exact m1
     .intro LZ wT;refine m10 LZ (Lc wT ?_);rw[nd,<-k4];exact wT z (mem_of_getElem? b9)
    .cases he
   split at he
   .cases he
   .rename_i uV;exact key _ (λaD e=>uV aD e) aZ he
  .cases he
 |[],_::_,_,_,_,_,_,_,_,ax,_,_,_,_,_,_,_,_=>ax.elim
 |_::_,[],_,_,_,_,_,_,_,ax,_,_,_,_,_,_,_,_=>ax.elim
def gx (C:cj) (s:ak) (T:TypeId) (ps:axh):Option (I×ak):=
 match(C.T T).k,(C.T T).zero with
 | .struct aD,.agg fc=>if(flat (.agg fc)).isSome=true/\(∀f∈aD,(C.T f.1).ok=true)then
   (match ey (λk=>(aD[k]?).map λf=>(f.2,(C.T f.1).sz)) s fc [] ps with
   |some (ds,s1)=>some (.agg ds,s1)
   |none=>none)else none
 |_,_=>none
def dO (C:cj) (s:ak) (T:TypeId) (n:Nat) (ps:axh):Option (I×ak):=
 match(C.T T).k with
 | .slice e=>if(C.T e).ok=true/\(C.T e).zero.wd=(C.T e).sz/\(flat (C.T e).zero).isSome=true/\(C.T e).sz≠0/\n*(C.T e).sz<=16777216 then
   (match ey (λk=>some (k*(C.T e).sz,(C.T e).sz)) s (replicate n (C.T e).zero) [] ps with
   |some (ds,s1)=>some (.aj (C.T e).sz ds,s1)
   |none=>none)else none
 |_=>none
theorem aci (bK:C.fz):∀(gs:List Field),(∀g∈gs,(C.T g.type).ok=true)->
  gs.mapM (λf=>(C.P.info? f.type).map λi=>(f.offset,i.size))=some (gs.map λg=>(g.offset,(C.T g.type).sz)):=by
 intro gs;induction gs with
 |nil=>intro _;simp
 |cons g gs ih=>
  intro hg;obtain⟨i,d,z,f1,f2,f3,f4,f5,f6,f7⟩:=bK.info (hg g (by simp));have:=ih (λg iy=>hg g (by simp[iy]));simp[mapM_cons,f1,f2,this]
theorem acj (bK:C.fz) (h:b8 w0 F0 X F S s aG w) {T:TypeId} {ps:axh} {vs:List (Nat×Value)} (ax:qP w F s aG ps vs) (he:gx C s T ps=some (av,s1)):
  Good C w0 F0 X aG w (Instr.build T vs.toArray) av s1:=by
 unfold gx at he;split at he
 .rename_i aD fc au b9;split at he
  .rename_i ar;obtain⟨yr,ack⟩:=ar;split at he
   .rename_i ds s2 j5;simp only[Option.some.injEq,Prod.mk.injEq]at he;obtain⟨rfl,rfl⟩:=he;obtain⟨i,d,z,aN,aU,aR,bW,cM,cg,b3⟩:=bK.info (hr au (by simp));rw[au]at b3;obtain⟨gs,rfl,Ti⟩:=Du b3;obtain⟨hR,p6⟩:=Option.isSome_iff_exists.1 yr;have ys:=cM hR (by rw[b9];exact p6);have hQ:bx w F fc hR.toArray.toList (λ_=>False):=by
     have:=(aA.flat (w:=w) (F:=F) _).1 (.agg fc) hR (λ_=>False) (Nat.le_refl _) p6;rw[aA]at this;simpa using this
    have fj:qP w F s aG (ps.map λp=>(p.1,nw [] p.2)) vs:=by simpa [nw]using ax
    obtain⟨oY,cA,hO,m1,m2,m3,m4,m5,m6,m7,m8,m9,m10⟩:=LX ps vs [] s S fc hR.toArray (λ_=>False) h fj hQ (λ_ h=>h.elim) (λ_ h=>h.elim) (λ_ _ h=>h.elim) (λ_ h=>h.elim) ds s2 j5;have fA:=aci bK gs.toList (λg hg=>ack (g.type,g.offset) (by rw[<-Ti];exact List.mem_map_of_mem hg));have acm:(λ(k:Nat)=>(aD[k]?).map λ(f:TypeId×Nat)=>(f.2,(C.T f.1).sz))=λ(k:Nat)=>((gs.toList.map λg=>(g.offset,(C.T g.type).sz)).toArray)[k]? :=by
     funext k;rw[<-Ti];simp only[getElem?_map,getElem?_toArray,Option.map_map];rfl
    rw[acm]at m1;refine⟨.agg oY,w,F,cA,run_build w T vs.toArray oY ?_,m2,.inr ⟨rfl,⟨_,rfl⟩,hO,by simp only[c8,je];rw[aA];exact m3,m4,m5,m6,m7⟩⟩;unfold Program.built;simp only[aN,cg,bW,fA,ys];exact m1
   .cases he
  .cases he
 .cases he
theorem acn (bK:C.fz) (h:b8 w0 F0 X F S s aG w) {T:TypeId} {n:Nat} {ps:axh} {vs:List (Nat×Value)} (ax:qP w F s aG ps vs) (he:dO C s T n ps=some (av,s1)):
  Good C w0 F0 X aG w (Instr.buildSlice T n vs.toArray) av s1:=by
 unfold dO at he;split at he
 .rename_i e au;split at he
  .rename_i ar;obtain⟨uZ,yq,yr,fg,at5⟩:=ar;split at he
   .rename_i ds s2 j5;simp only[Option.some.injEq,Prod.mk.injEq]at he;obtain⟨rfl,rfl⟩:=he;obtain⟨S0,d,S1,aN,aU,aR,bW,cM,cg,b3⟩:=bK.info (hr au (by simp));rw[au]at b3;have:=oq b3;subst this;obtain⟨i,S2,z,f1,f2,f3,f4,f5,f6,f7⟩:=bK.info uZ;obtain⟨hR,p6⟩:=Option.isSome_iff_exists.1 yr;have ys:=f5 hR p6;have hQ:∀aX,aA w F (C.T e).zero hR aX:=λaX=>(aA.flat _).1 _ hR aX (Nat.le_refl _) p6;have wO:hR.length=(C.T e).sz:=by rw[aA.length _ _ _ (hQ (λ_=>False)),yq]
    generalize iL:((Array.range (n*(C.T e).sz)).map ((if n*(C.T e).sz=0 then #[]else hR.toArray)[·%(if n*(C.T e).sz=0 then(#[]:Array Value)else hR.toArray).size]!))=A;have LY:A.toList=(replicate n hR).flatten:=by
     rw[<-iL];by_cases bb:n*(C.T e).sz=0
     .have:n=0:=by
       rcases mul_eq_zero.1 bb with h|h
       .exact h
       .exact(fg h).elim
      subst this;simp
     .simp only[bb,if_false];have:=LW hR n;rw[wO]at this;simpa [wO]using this
    have fj:qP w F s aG (ps.map λp=>(p.1,nw [] p.2)) vs:=by simpa [nw]using ax
    obtain⟨oY,cA,hO,m1,m2,m3,m4,m5,m6,m7,m8,m9,m10⟩:=LX ps vs [] s S (replicate n (C.T e).zero) A (λ_=>False) h fj (by rw[LY];exact bx.replicate hQ n _) (λ_ h=>h.elim) (λ_ h=>h.elim) (λ_ _ h=>h.elim) (λ_ h=>h.elim) ds s2 j5;have hlen:ds.length=n:=by rw[m8];simp
    have Tj:=m10 (C.T e).sz (by intro d al;rw[eq_of_mem_replicate al];exact yq);have aco:oY.toList.length=n*(C.T e).sz:=by rw[bx.yp m3 Tj,hlen]
    have acp:oY.size=n*(C.T e).sz:=by rw[<-aco];simp
    have at6:n<=16777216:=by
     have:n*1<=n*(C.T e).sz:=mul_le_mul_left _ (by omega);omega
    have ou:=m2.Hl (aL:=w.alloc (.cells oY e)) (sz:=(C.T e).sz) (cap:=n) (xs:=ds) (cur:=oY) (e:=e) (fr:=(0,0)) (Sn:=hO) rfl rfl rfl ⟨rfl,λ_=>Nat.le_refl _⟩
     (λo _ ⟨_,ae⟩=>absurd ae (not_lt_zero _)) (by omega) (by unfold maxLen;omega) acp Tj (by rw[hlen,take_of_length_le (by omega)];exact m3) m4 m5 m6 m7
    rw[hlen]at ou;refine⟨_,_,F,cA,?_,ou.1,ou.2⟩;by_cases bb:n*(C.T e).sz=0
    .simp only[bb,if_true]at iL;have AE:(Array.map (λ_=>(default:Value)) (Array.range 0))=A:=by
      have:n=0:=by
       rcases mul_eq_zero.1 bb with h|h
       .exact h
       .exact(fg h).elim
      apply Array.ext';rw[LY,this];simp
     simp[Instr.buildSlice,run_underlying cg,nb f1,f2,bb,newRow];rw[AE,m1];simp
    .simp only[bb,if_false]at iL;have ns:¬(16777216<n*(C.T e).sz):=by omega
     simp[Instr.buildSlice,run_underlying cg,nb f1,f2,bb,ns,yf f1 f4,ys,newRow];have AE:(Array.map (λx=>hR[x%hR.length]?.getD default) (Array.range (n*(C.T e).sz)))=A:=by
      rw[<-iL];simp
     rw[AE,m1];simp
   .cases he
  .cases he
 .cases he
end
inductive eT where
 |hS (x:bC)
 |h2 (x:bC)
 |pick (c a b:bC)
 |mE (T:TypeId)
 |iY (T:TypeId) (x:bC)
 |gx (T:TypeId) (ps:List (Nat×bC))
 |dO (T:TypeId) (n:Nat) (ps:List (Nat×bC))
 |fO (T:TypeId) (x:bC)
 |kI (T:TypeId) (x y:bC)
 |mf (x:bC)
 |eN (op:BinOp) (T:TypeId) (x y:bC)
 |un (op:UnOp) (x:bC)
 |kL (A B:TypeId) (x:bC)
 |pv (f:FuncId) (cs:List bC)
 |fv (T:TypeId) (l c:bC)
 |ix (T:TypeId) (x:bC) (fF ag:Option bC)
 |hK (T:TypeId) (x:bC) (k:Nat)
 |ks (T:TypeId) (x i:bC)
 |idx (T:TypeId) (x i:bC)
 |ex (x:bC) (k:Nat)
 |oV (T:TypeId) (x:bC) (k:Nat)
 |call (f:bC) (args:List bC)
 |len (T:TypeId) (x:bC)
 |app (T dI:TypeId) (x y:bC)
 |shr (bS:eT)
 |cap (T:TypeId) (x:bC)
 |ku (fb:Bool) (x y:bC)
 |bad
 |pw (x:bC)
 |oZ (x:bC)
 |r4
 |jt (T:TypeId) (x i:bC)
 |kM (T:TypeId) (x i v:bC)
def eT.base:eT->eT
 | .shr bS=>bS
 | .pw x=>.h2 x
 | .oZ x=>.hS x
 |bS=>bS
def r5:List Operand->Option (List bC)
 |[]=>some []
 |o::os=>match eC o,r5 os with
  |some x,some xs=>some (x::xs)
  |_,_=>none
def AF:List (Nat×Operand)->Option (List (Nat×bC))
 |[]=>some []
 |(k,o)::os=>match eC o,AF os with
  |some x,some xs=>some ((k,x)::xs)
  |_,_=>none
def DL:Option Operand->Option (Option bC)
 |none=>some none
 |some o=>(eC o).map some
def dz:Op->Option eT
 | .move x=>(eC x).map .hS
 | .assign x=>(eC x).map .h2
 | .pick c a b=>match eC c,eC a,eC b with
   |some c,some a,some b=>some (.pick c a b)
   |_,_,_=>none
 | .alloc T=>some (.mE T)
 | .box T x=>(eC x).map (.iY T)
 | .build T ps=>(AF ps.toList).map (.gx T)
 | .buildSlice T n ps=>(AF ps.toList).map (.dO T n)
 | .load T x=>(eC x).map (.fO T)
 | .store T x y=>match eC x,eC y with
   |some x,some y=>some (.kI T x y)
   |_,_=>none
 | .nilCheck x=>(eC x).map .mf
 | .binOp op T x y _=>match eC x,eC y with
   |some x,some y=>some (.eN op T x y)
   |_,_=>none
 | .unOp op _ x=>(eC x).map (.un op)
 | .convert A B x=>(eC x).map (.kL A B)
 | .makeFunc (.func f) first cs=>if first.isEmpty then(r5 cs.toList).map (.pv f)else none
 | .makeSlice T l c=>match eC l,eC c with
   |some l,some c=>some (.fv T l c)
   |_,_=>none
 | .slice T x fF ag none=>match eC x,DL fF,DL ag with
   |some x,some fF,some ag=>some (.ix T x fF ag)
   |_,_,_=>none
 | .fieldAddr T x k=>(eC x).map λx=>.hK T x k
 | .indexAddr T x i=>match eC x,eC i with
   |some x,some i=>some (.ks T x i)
   |_,_=>none
 | .index T x i=>match eC x,eC i with
   |some x,some i=>some (.idx T x i)
   |_,_=>none
 | .extract x k=>(eC x).map λx=>.ex x k
 | .field T x k=>(eC x).map λx=>.oV T x k
 | .makeMap _ none=>some .r4
 | .lookup T x i false=>match eC x,eC i with
   |some x,some i=>some (.jt T x i)
   |_,_=>none
 | .mapUpdate T x i v=>match eC x,eC i,eC v with
   |some x,some i,some v=>some (.kM T x i v)
   |_,_,_=>none
 | .call c=>match c.callee with
   | .value f=>match eC f,r5 c.args.toList with
     |some f,some xs=>some (.call f xs)
     |_,_=>none
   | .builtin .len=>match c.args.toList,c.argTypes.toList with
     |[x],[T]=>(eC x).map (.len T)
     |_,_=>none
   | .builtin .cap=>match c.args.toList,c.argTypes.toList with
     |[x],[T]=>(eC x).map (.cap T)
     |_,_=>none
   | .builtin .min=>match c.args.toList with
     |[x,y]=>match eC x,eC y with
      |some x,some y=>some (.ku false x y)
      |_,_=>none
     |_=>none
   | .builtin .max=>match c.args.toList with
     |[x,y]=>match eC x,eC y with
      |some x,some y=>some (.ku true x y)
      |_,_=>none
     |_=>none
   | .builtin .append=>match c.args.toList,c.argTypes.toList with
     |[x,y],[T,dI]=>match eC x,eC y with
      |some x,some y=>some (.app T dI x y)
      |_,_=>none
     |_,_=>none
   |_=>none
 |_=>none
def ku (fb:Bool):I->I->Option I
 | .str a,.str b=>some (.str (hJ fb a b))
 | .int k a,.int c_ b=>if k=c_ then some (.int k (kH fb a b))else none
 |_,_=>none
def tv (s:ak):I->Option (I×ak)
 | .h y q=>dw s (.h y q)
 |d=>some (d,s)
def b7 (C:cj) (s:ak):eT->Option (I×ak)
 | .hS x=>some (bw s x,s)
 | .h2 x=>match bw s x with
   | .h y q=>dw s (.h y q)
   |d=>some (d,s)
 | .pick c a b=>match bw s c with
   | .bool gM=>some (if gM then bw s a else bw s b,s)
   |_=>none
 | .mE T=>(mE C T).map λd=>(d,s)
 | .iY _ x=>iY s (bw s x)
 | .gx T ps=>gx C s T (ps.map λp=>(p.1,bw s p.2))
 | .dO T n ps=>dO C s T n (ps.map λp=>(p.1,bw s p.2))
 | .fO T x=>(fO C s T (bw s x)).map λd=>(d,s)
 | .kI T x y=>(kI C s T (bw s x) (bw s y)).map λs1=>(.hole,s1)
 | .mf x=>(mf s (bw s x)).map λd=>(d,s)
 | .eN op T x y=>(eN C s op T (bw s x) (bw s y)).map λd=>(d,s)
 | .un op x=>(un op (bw s x)).map λd=>(d,s)
 | .kL A B x=>(kL C s A B (bw s x)).map λd=>(d,s)
 | .pv f cs=>some (.fn f (cs.map (bw s)),s)
 | .fv T l c=>(fv C T (bw s l) (bw s c)).map λd=>(d,s)
 | .ix T x fF ag=>ix C s T (bw s x) (fF.map (bw s)) (ag.map (bw s))
 | .hK T x k=>(hK C s T (bw s x) k).map λd=>(d,s)
 | .ks T x i=>(ks C s T (bw s x) (bw s i)).map λd=>(d,s)
 | .idx T x i=>(idx C T (bw s x) (bw s i)).map λd=>(d,s)
 | .ex x k=>(ex s (bw s x) k).map λd=>(d,s)
 | .oV T x k=>(oV C s T (bw s x) k).bind (tv s)
 | .call _ _=>none
 | .len T x=>(uX C s T (bw s x)).map λd=>(d,s)
 | .app T dI x y=>u1 C s T dI (bw s x) (bw s y)
 | .shr _=>none
 | .pw x=>some (bw s x,s)
 | .oZ x=>tv s (bw s x)
 | .r4=>some (.b4 (.mp []),s)
 | .jt T x i=>(jt C s T (bw s x) (bw s i)).map λd=>(d,s)
 | .kM T x i v=>(kM C s T (bw s x) (bw s i) (bw s v)).map λs1=>(.hole,s1)
 | .cap T x=>match(C.T T).k,bw s x with
   | .slice _,.a8=>some (.int .i64 0,s)
   |_,_=>none
 | .ku fb x y=>(ku fb (bw s x) (bw s y)).map λd=>(d,s)
 | .bad=>none
section
variable {C:cj} {w0 w:World} {F0 X F:Nat->Prop} {S:Nat->Nat->Prop} {s s1:ak} {a:Act} {av:I}
theorem yw:∀{os:List Operand} {xs:List bC},r5 os=some xs->os.map eC=xs.map some
 |[],xs,h=>by simp[r5]at h;subst h;rfl
 |o::os,xs,h=>by
  simp only[r5]at h;split at h
  .rename_i x Tk ad ae;simp at h;subst h;simp[ad,yw ae]
  .cases h
theorem L0 {aG:Nat->Value} (h:b8 w0 F0 X F S s aG w) (e_:∀t,aG t=a.tmps.getD t undef):∀{ps:List (Nat×Operand)} {xs:List (Nat×bC)},AF ps=some xs->
  qP w F s aG (xs.map λp=>(p.1,bw s p.2)) (ps.map λp=>(p.1,a.eval p.2))
 |[],xs,h=>by simp[AF]at h;subst h;trivial
 |(k,o)::ps,xs,bB=>by
  simp only[AF]at bB;split at bB
  .rename_i x Tk ad ae;simp at bB;subst bB;obtain⟨g1,g2⟩:=gF h e_ ad;exact⟨rfl,g1,g2,L0 h e_ ae⟩
  .cases bB
def Next (C:cj) (w0:World) (F0 X:Nat->Prop) (aG:Nat->Value) (w:World) (m:Sem Go.Next) (av:I) (s1:ak):Prop:=
 ∃r aL v cl aX,m.run C.P w= .ok r aL/\(r= .value v\/r= .skip/\v=undef)/\b8 w0 F0 X cl aX s1 aG aL/\nQ w0 X cl aX s1 aG aL av v
theorem Good.next {aG:Nat->Value} {m:Sem Value} (h:Good C w0 F0 X aG w m av s1):Next C w0 F0 X aG w (do pure (.value (<-m))) av s1:=by
 obtain⟨v,aL,cl,aX,ad,ae,aI⟩:=h;exact⟨.value v,aL,v,cl,aX,by simp[ad],.inl rfl,ae,aI⟩
theorem Tl {aG:Nat->Value} (h:b8 w0 F0 X F S s aG w) {fb:Bool} {x y:I} {j6 lr:Value} {m:Sem Go.Next} (ad:aO w F s aG x j6 (λ_=>False)) (ae:aO w F s aG y lr (λ_=>False))
  (he:(ku fb x y).map (λd=>(d,s))=some (av,s1)) (hm:m=(do pure (.value (<-if fb then Builtin.max2 j6 lr else Builtin.min2 j6 lr)))):Next C w0 F0 X aG w m av s1:=by
 simp only[Option.map_eq_some_iff,Prod.mk.injEq]at he;obtain⟨d,al,rfl,rfl⟩:=he;unfold ku at al;split at al
 .rename_i a b;simp only[Option.some.injEq]at al;subst al;have aN:=oT ad;have aU:=oT ae;subst aN aU;subst hm;refine⟨.value (.string ⟨⟨hJ fb a b⟩⟩),w,_,F,S,?_,.inl rfl,h,.inl ⟨rfl,rZ _⟩⟩;cases fb
  .simp only[Builtin.min2,Op.stringOp,Dy,hJ,Bool.false_eq_true,if_false];cases ab:(Op.bytesLess a b||a==b)<;>simp[asBool]
  .simp only[Builtin.max2,Op.stringOp,Dy,hJ,if_true];cases ab:Op.bytesLess a b<;>simp[asBool]
 .rename_i k a c_ b;split at al
  .rename_i au;subst au;simp only[Option.some.injEq]at al;subst al;have aN:=p4 ad;have aU:=p4 ae;subst aN aU;subst hm;refine⟨.value (.int k (kH fb a b)),w,_,F,S,?_,.inl rfl,h,.inl ⟨rfl,of_int _ _⟩⟩;cases fb<;>simp[Builtin.min2,Builtin.max2,kH]
  .cases al
 .cases al
theorem Tm (bK:C.fz) {aG:Nat->Value} (h:b8 w0 F0 X F S s aG w) (e_:∀t,aG t=a.tmps.getD t undef) {o:Oper} {bS:eT} (aa:dz o.op=some bS) (he:b7 C s bS=some (av,s1)):
  Next C w0 F0 X aG w (execOp a.eval o) av s1:=by
 obtain⟨dst,op,ty,pos,after,guard⟩:=o;simp only at aa;cases op with
 |move x=>
  simp only[dz,Option.map_eq_some_iff]at aa;obtain⟨e2,an,rfl⟩:=aa;obtain⟨g1,g2⟩:=gF h e_ an;simp only[b7,Option.some.injEq,Prod.mk.injEq]at he;obtain⟨rfl,rfl⟩:=he;exact⟨_,w,_,F,S,rfl,.inl rfl,h,.inl ⟨g1,g2⟩⟩
 |assign x=>
  simp only[dz,Option.map_eq_some_iff]at aa;obtain⟨e2,an,rfl⟩:=aa;obtain⟨g1,g2⟩:=gF h e_ an;simp only[b7]at he;split at he
  .rename_i y q hy;rw[hy]at g1 g2;obtain⟨cA,k0,bX,cN,Sn,dH,dT,eG,eg,kt,_⟩:=rW h g1 g2 he;exact⟨_,w,_,F,cA,rfl,.inl rfl,k0,.inr ⟨bX,cN,Sn,dH,dT,eG,eg,kt⟩⟩
  .simp only[Option.some.injEq,Prod.mk.injEq]at he;obtain⟨rfl,rfl⟩:=he;exact⟨_,w,_,F,S,rfl,.inl rfl,h,.inl ⟨g1,g2⟩⟩
 |pick c x y=>
  simp only[dz]at aa;split at aa
  .rename_i Hw e2 oo ar an hy;simp only[Option.some.injEq]at aa;subst aa;simp only[b7]at he;split at he
   .rename_i b ab;simp only[Option.some.injEq,Prod.mk.injEq]at he;obtain⟨rfl,rfl⟩:=he;have DI:=(gF h e_ ar).2;rw[ab]at DI;have DI:=wK DI;obtain⟨U,af⟩:=gF h e_ an;obtain⟨fG,ie⟩:=gF h e_ hy;refine⟨.value (if b then a.eval x else a.eval y),w,_,F,S,?_,.inl rfl,h,.inl ?_⟩
    .simp[execOp,DI,asBool]
    .cases b
     .exact⟨fG,ie⟩
     .exact⟨U,af⟩
   .cases he
  .cases aa
 |alloc T=>
  simp only[dz,Option.some.injEq]at aa;subst aa;simp only[b7,Option.map_eq_some_iff,Prod.mk.injEq]at he;obtain⟨d,al,rfl,rfl⟩:=he;exact(abp bK h al).next
 |box T x=>
  simp only[dz,Option.map_eq_some_iff]at aa;obtain⟨e2,an,rfl⟩:=aa;obtain⟨g1,g2⟩:=gF h e_ an;exact(abq h g1 g2 he).next
 |build T ps=>
  simp only[dz,Option.map_eq_some_iff]at aa;obtain⟨acq,ax,rfl⟩:=aa;obtain⟨ps⟩:=ps;have:=(acj bK h (L0 h e_ ax) he).next;simpa [execOp]using this
 |buildSlice T n ps=>
  simp only[dz,Option.map_eq_some_iff]at aa;obtain⟨acq,ax,rfl⟩:=aa;obtain⟨ps⟩:=ps;have:=(acn bK h (L0 h e_ ax) he).next;simpa [execOp]using this
 |load T x=>
  simp only[dz,Option.map_eq_some_iff]at aa;obtain⟨e2,an,rfl⟩:=aa;obtain⟨g1,g2⟩:=gF h e_ an;simp only[b7,Option.map_eq_some_iff,Prod.mk.injEq]at he;obtain⟨d,al,rfl,rfl⟩:=he;exact(abj bK h g2 al).next
 |store T x y=>
  simp only[dz]at aa;split at aa
  .rename_i e2 oo an hy;simp only[Option.some.injEq]at aa;subst aa;simp only[b7,Option.map_eq_some_iff,Prod.mk.injEq]at he;obtain⟨s2,al,rfl,rfl⟩:=he;obtain⟨aL,aX,ad,ae⟩:=abn bK h (gF h e_ an).2 (gF h e_ hy).1 (gF h e_ hy).2 al;exact⟨.skip,aL,undef,F,aX,by simp[execOp,ad],.inr ⟨rfl,rfl⟩,ae,.inl ⟨rfl,by rw[aO];trivial⟩⟩
  .cases aa
 |nilCheck x=>
  simp only[dz,Option.map_eq_some_iff]at aa;obtain⟨e2,an,rfl⟩:=aa;obtain⟨g1,g2⟩:=gF h e_ an;simp only[b7,Option.map_eq_some_iff,Prod.mk.injEq]at he;obtain⟨d,al,rfl,rfl⟩:=he;obtain⟨rfl,ax,aE⟩:=abD h g2 al;refine⟨.value (a.eval x),w,_,F,S,?_,.inl rfl,h,.inl ⟨ax,g2⟩⟩;rcases aE with⟨b,ab⟩|⟨f,c,ab⟩<;>simp[execOp,ab]
 |binOp op T x y at7=>
  simp only[dz]at aa;split at aa
  .rename_i e2 oo an hy;simp only[Option.some.injEq]at aa;subst aa;simp only[b7,Option.map_eq_some_iff,Prod.mk.injEq]at he;obtain⟨d,al,rfl,rfl⟩:=he;exact(abA bK h x y (gF h e_ an).2 (gF h e_ hy).2 al).next
  .cases aa
 |unOp op T x=>
  simp only[dz,Option.map_eq_some_iff]at aa;obtain⟨e2,an,rfl⟩:=aa;simp only[b7,Option.map_eq_some_iff,Prod.mk.injEq]at he;obtain⟨d,al,rfl,rfl⟩:=he;exact(abB h (gF h e_ an).2 al).next
 |convert A B x=>
  simp only[dz,Option.map_eq_some_iff]at aa;obtain⟨e2,an,rfl⟩:=aa;simp only[b7,Option.map_eq_some_iff,Prod.mk.injEq]at he;obtain⟨d,al,rfl,rfl⟩:=he;exact(abM bK h (gF h e_ an).2 al).next
 |makeFunc fn first cs=>
  cases fn with
  |func f=>
   simp only[dz]at aa;split at aa
   .rename_i L1;simp only[Option.map_eq_some_iff]at aa;obtain⟨qQ,iX,rfl⟩:=aa;simp only[b7,Option.some.injEq,Prod.mk.injEq]at he;obtain⟨rfl,rfl⟩:=he;have L2:first= #[]:=by simpa using L1
    subst L2;refine⟨_,w,_,F,S,rfl,.inl rfl,h,.inl ⟨rfl,?_⟩⟩;rw[aO];refine⟨cs.map a.eval,by simp,?_⟩;simpa using Hv h e_ _ _ (yw iX)
   .cases aa
  |_=>simp[dz]at aa
 |makeSlice T l c=>
  simp only[dz]at aa;split at aa
  .rename_i e2 oo an hy;simp only[Option.some.injEq]at aa;subst aa;simp only[b7,Option.map_eq_some_iff,Prod.mk.injEq]at he;obtain⟨d,al,rfl,rfl⟩:=he;exact(acb bK h (gF h e_ an).2 (gF h e_ hy).2 al).next
  .cases aa
 |slice T x fF ag fb=>
  cases fb with
  |some m=>simp[dz]at aa
  |none=>
   simp only[dz]at aa;split at aa
   .rename_i e2 aua DM an qJ qK;simp only[Option.some.injEq]at aa;subst aa;obtain⟨g1,g2⟩:=gF h e_ an;have opt:∀{o:Option Operand} {p9:Option bC},DL o=some p9->uY w F s aG (p9.map (bw s)) (o.map a.eval):=by
     intro o p9 bH;cases o with
     |none=>simp[DL]at bH;subst bH;trivial
     |some o=>
      simp only[DL,Option.map_eq_some_iff]at bH;obtain⟨x,an,rfl⟩:=bH;exact(gF h e_ an).2
    exact(abP bK h g1 g2 (opt qJ) (opt qK) he).next
   .cases aa
 |fieldAddr T x k=>
  simp only[dz,Option.map_eq_some_iff]at aa;obtain⟨e2,an,rfl⟩:=aa;obtain⟨g1,g2⟩:=gF h e_ an;simp only[b7,Option.map_eq_some_iff,Prod.mk.injEq]at he;obtain⟨d,al,rfl,rfl⟩:=he;exact(abc bK h g1 g2 al).next
 |indexAddr T x i=>
  simp only[dz]at aa;split at aa
  .rename_i e2 oo an hy;simp only[Option.some.injEq]at aa;subst aa;simp only[b7,Option.map_eq_some_iff,Prod.mk.injEq]at he;obtain⟨d,al,rfl,rfl⟩:=he;exact(abd bK h (gF h e_ an).2 (gF h e_ hy).2 al).next
  .cases aa
 |index T x i=>
  simp only[dz]at aa;split at aa
  .rename_i e2 oo an hy;simp only[Option.some.injEq]at aa;subst aa;simp only[b7,Option.map_eq_some_iff,Prod.mk.injEq]at he;obtain⟨d,al,rfl,rfl⟩:=he;exact(abJ bK h (gF h e_ an).2 (gF h e_ hy).2 al).next
  .cases aa
 |makeMap t r=>
  cases r with
  |none=>
   simp only[dz,Option.some.injEq]at aa;subst aa;simp only[b7,Option.some.injEq,Prod.mk.injEq]at he;obtain⟨rfl,rfl⟩:=he;exact(aca h t).next
  |some r=>simp[dz]at aa
 |lookup T x i c=>
  cases c with
  |true=>simp[dz]at aa
  |false=>
   simp only[dz]at aa;split at aa
   .rename_i e2 tm an ag;simp only[Option.some.injEq]at aa;subst aa;simp only[b7,Option.map_eq_some_iff,Prod.mk.injEq]at he;obtain⟨d,al,rfl,rfl⟩:=he;exact(ab8 bK h (gF h e_ an).2 (gF h e_ ag).2 al).next
   .cases aa
 |mapUpdate T x i v=>
  simp only[dz]at aa;split at aa
  .rename_i e2 tm hi an ag aE;simp only[Option.some.injEq]at aa;subst aa;simp only[b7,Option.map_eq_some_iff,Prod.mk.injEq]at he;obtain⟨s2,al,rfl,rfl⟩:=he;obtain⟨aL,aX,ad,ae⟩:=ab9 bK h (gF h e_ an).2 (gF h e_ ag).2 (gF h e_ aE).2 al;exact⟨.skip,aL,undef,F,aX,by simp[execOp,ad],.inr ⟨rfl,rfl⟩,ae,.inl ⟨rfl,by rw[aO];trivial⟩⟩
  .cases aa
 |extract x k=>
  simp only[dz,Option.map_eq_some_iff]at aa;obtain⟨e2,an,rfl⟩:=aa;simp only[b7,Option.map_eq_some_iff,Prod.mk.injEq]at he;obtain⟨d,al,rfl,rfl⟩:=he;exact(abG h (gF h e_ an).2 al).next
 |field T x k=>
  simp only[dz,Option.map_eq_some_iff]at aa;obtain⟨e2,an,rfl⟩:=aa;simp only[b7,Option.bind_eq_some_iff]at he;obtain⟨d,al,he⟩:=he;obtain⟨v,aL,cl,aX,aQ,oQ,rU⟩:=abH bK h (gF h e_ an).2 al;unfold tv at he;split at he
  .rename_i y q;have acr:aO aL cl s aG (.h y q) v (λ_=>False):=by
    rcases rU with⟨_,g2⟩|⟨g1,_⟩
    .exact g2
    .cases g1
   obtain⟨cA,k0,bX,cN,Sn,dH,dT,eG,eg,kt,_⟩:=rW oQ rfl acr he;exact⟨.value v,aL,v,cl,cA,by simp[execOp,aQ],.inl rfl,k0,.inr ⟨bX,cN,Sn,dH,dT,eG,eg,kt⟩⟩
  .simp only[Option.some.injEq,Prod.mk.injEq]at he;obtain⟨rfl,rfl⟩:=he;exact⟨.value v,aL,v,cl,aX,by simp[execOp,aQ],.inl rfl,oQ,rU⟩
 |call c=>
  obtain⟨callee,args,argTypes⟩:=c;simp only[dz]at aa;split at aa
  .split at aa
   .simp only[Option.some.injEq]at aa;subst aa;simp[b7]at he
   .cases aa
  .split at aa
   .rename_i x T qR DN;simp only[Option.map_eq_some_iff]at aa;obtain⟨e2,an,rfl⟩:=aa;simp only[b7,Option.map_eq_some_iff,Prod.mk.injEq]at he;obtain⟨d,al,rfl,rfl⟩:=he;have:=(abK (ty:=ty) bK h (gF h e_ an).2 al).next;have aN:args= #[x]:=by apply Array.ext';exact qR
    have aU:argTypes= #[T]:=by apply Array.ext';exact DN
    subst aN aU;simpa [execOp,resolve,invoke,builtin]using this
   .cases aa
  .split at aa
   .rename_i x T qR DN;simp only[Option.map_eq_some_iff]at aa;obtain⟨e2,an,rfl⟩:=aa;simp only[b7]at he;split at he
    .rename_i e au acs;simp only[Option.some.injEq,Prod.mk.injEq]at he;obtain⟨rfl,rfl⟩:=he;have aE:=(gF h e_ an).2;rw[acs]at aE;have:=wL aE;obtain⟨i,d,z,aN,aU,aR,bW,cM,cg,b3⟩:=bK.info (hr au (by simp));rw[au]at b3;have al:=oq b3;subst al;have acu:args= #[x]:=by apply Array.ext';exact qR
     have acv:argTypes= #[T]:=by apply Array.ext';exact DN
     subst acu acv;have aQ:(Builtin.cap_ #[T] ty #[a.eval x]).run C.P w= .ok (.int .i64 0) w:=by
      rw[this];simp[Builtin.cap_,run_underlying cg,goInt]
     have:=(Good.same (av:=.int .i64 0) h aQ rfl (of_int _ _)).next;simpa [execOp,resolve,invoke,builtin]using this
    .cases he
   .cases aa
  .split at aa
   .rename_i x y qR;split at aa
    .rename_i e2 oo an hy;simp only[Option.some.injEq]at aa;subst aa;have aN:args= #[x,y]:=by apply Array.ext';exact qR
     subst aN;exact Tl h (gF h e_ an).2 (gF h e_ hy).2 he (by simp[execOp,resolve,invoke,builtin,Builtin.min_])
    .cases aa
   .cases aa
  .split at aa
   .rename_i x y qR;split at aa
    .rename_i e2 oo an hy;simp only[Option.some.injEq]at aa;subst aa;have aN:args= #[x,y]:=by apply Array.ext';exact qR
     subst aN;exact Tl h (gF h e_ an).2 (gF h e_ hy).2 he (by simp[execOp,resolve,invoke,builtin,Builtin.max_])
    .cases aa
   .cases aa
  .split at aa
   .rename_i x y T dI qR DN;split at aa
    .rename_i e2 oo an hy;simp only[Option.some.injEq]at aa;subst aa;have:=(ab0 (ty:=ty) bK h (gF h e_ an).2 (gF h e_ hy).2 he).next;have aN:args= #[x,y]:=by apply Array.ext';exact qR
     have aU:argTypes= #[T,dI]:=by apply Array.ext';exact DN
     subst aN aU;simpa [execOp,resolve,invoke,builtin]using this
    .cases aa
   .cases aa
  .cases aa
 |_=>simp[dz]at aa
end
mutual
def I.aa:I->axd
 | .h x _=>[x]
 | .ax x _=>[x]
 | .ab x _=>[x]
 | .fn _ cap=>I.fo cap
 |_=>[]
def I.fo:axi->axd
 |[]=>[]
 |d::ds=>d.aa++I.fo ds
end
inductive tw where
 |no
 |cK
 |dq
structure hT where
 k:tw
 x:Nat
 d:I
def tw.app (k:tw) (x:Nat) (a:I):I:=match k with
 | .no=>a
 | .cK=>ef.cK x a
 | .dq=>ef.dq x a
def hT.at (m:hT) (u:Nat) (a:I):I:=if u=m.x then m.d else m.k.app m.x a
def mg:List hT->Nat->I->I
 |[],_,a=>a
 |m::ms,u,a=>mg ms u (m.at u a)
def eO (ms:List hT) (s:ak):ak:=λu=>mg ms u (s u)
theorem Tn:∀(ms lT:List hT) (u:Nat) (a:I),mg (ms++lT) u a=mg lT u (mg ms u a)
 |[],_,_,_=>rfl
 |m::ms,lT,u,a=>by simp only[cons_append,mg];exact Tn ms lT u _
theorem p_ (ms lT:List hT) (s:ak):eO (ms++lT) s=eO lT (eO ms s):=by
 funext u;simp[eO,Tn]
theorem acw {ms:List hT} {s aH:ak} {u:Nat} (h:aH u=s u):eO ms aH u=eO ms s u:=by simp[eO,h]
theorem yx (s:ak) (x:Nat) (d:I):et (iW x s) x d=eO [⟨.cK,x,d⟩] s:=by
 funext u;simp only[eO,mg,hT.at,et,iW,tw.app]
theorem To (s:ak) (x:Nat) (d:I):et (om x s) x d=eO [⟨.dq,x,d⟩] s:=by
 funext u;simp only[eO,mg,hT.at,et,om,tw.app]
theorem acx (s:ak) (x:Nat) (d:I):et s x d=eO [⟨.no,x,d⟩] s:=by
 funext u;simp only[eO,mg,hT.at,et,tw.app]
mutual
theorem DO {x:Nat}:∀a:I,x∉a.aa->cK x a=a
 | .h y q,h=>by
   simp only[I.aa,mem_singleton]at h;simp only[cK];rw[if_neg (λe=>h e.symm)]
 | .ax y q,h=>by
   simp only[I.aa,mem_singleton]at h;simp only[cK];rw[if_neg (λe=>h e.symm)]
 | .ab y q,h=>rfl
 | .fn f cap,h=>by simp only[cK];rw[Tp cap (by simpa [I.aa]using h)]
 | .hole,_=>rfl
 | .bool _,_=>rfl
 | .gw,_=>rfl
 | .int _ _,_=>rfl
 | .str _,_=>rfl
 | .en,_=>rfl
 | .a8,_=>rfl
 | .slice _,_=>rfl
 | .aj _ _,_=>rfl
 | .ref _,_=>rfl
 | .aM _,_=>rfl
 | .agg _,_=>rfl
 | .tuple _,_=>rfl
 | .b4 _,_=>rfl
theorem Tp {x:Nat}:∀ds:axi,x∉I.fo ds->kr x ds=ds
 |[],_=>rfl
 |d::ds,h=>by
  simp only[I.fo,mem_append,not_or]at h;simp only[kr];rw[DO d h.1,Tp ds h.2]
end
mutual
theorem L3 {x:Nat}:∀a:I,x∉a.aa->dq x a=a
 | .h y q,h=>by
   simp only[I.aa,mem_singleton]at h;simp only[dq];rw[if_neg (λe=>h e.symm)]
 | .ax y q,h=>by
   simp only[I.aa,mem_singleton]at h;simp only[dq];rw[if_neg (λe=>h e.symm)]
 | .ab y q,h=>by
   simp only[I.aa,mem_singleton]at h;simp only[dq];rw[if_neg (λe=>h e.symm)]
 | .fn f cap,h=>by simp only[dq];rw[Tq cap (by simpa [I.aa]using h)]
 | .hole,_=>rfl
 | .bool _,_=>rfl
 | .gw,_=>rfl
 | .int _ _,_=>rfl
 | .str _,_=>rfl
 | .en,_=>rfl
 | .a8,_=>rfl
 | .slice _,_=>rfl
 | .aj _ _,_=>rfl
 | .ref _,_=>rfl
 | .aM _,_=>rfl
 | .agg _,_=>rfl
 | .tuple _,_=>rfl
 | .b4 _,_=>rfl
theorem Tq {x:Nat}:∀ds:axi,x∉I.fo ds->k2 x ds=ds
 |[],_=>rfl
 |d::ds,h=>by
  simp only[I.fo,mem_append,not_or]at h;simp only[k2];rw[L3 d h.1,Tq ds h.2]
end
theorem DP {k:tw} {x:Nat} {a:I} (h:k= .no\/x∉a.aa):k.app x a=a:=by
 cases k with
 |no=>rfl
 |cK=>exact DO a (by simpa using h)
 |dq=>exact L3 a (by simpa using h)
mutual
theorem Tr (x y:Nat):∀a:I,cK x (cK y a)=cK y (cK x a)
 | .h z q=>by simp only[cK];by_cases ad:z=x<;>by_cases ae:z=y<;>by_cases aI:q=[]<;>simp[ad,ae,aI,cK]<;>(subst_vars;simp_all [cK])
 | .ax z q=>by simp only[cK];by_cases ad:z=x<;>by_cases ae:z=y<;>simp[ad,ae,cK]<;>(subst_vars;simp_all [cK])
 | .ab z q=>rfl
 | .fn f cap=>by simp only[cK];rw[Ts x y cap]
 | .hole=>rfl
 | .bool _=>rfl
 | .gw=>rfl
 | .int _ _=>rfl
 | .str _=>rfl
 | .en=>rfl
 | .a8=>rfl
 | .slice _=>rfl
 | .aj _ _=>rfl
 | .ref _=>rfl
 | .aM _=>rfl
 | .agg _=>rfl
 | .tuple _=>rfl
 | .b4 _=>rfl
theorem Ts (x y:Nat):∀ds:axi,kr x (kr y ds)=kr y (kr x ds)
 |[]=>rfl
 |d::ds=>by simp only[kr];rw[Tr x y d,Ts x y ds]
end
mutual
theorem Tt (x y:Nat):∀a:I,dq x (dq y a)=dq y (dq x a)
 | .h z q=>by simp only[dq];by_cases ad:z=x<;>by_cases ae:z=y<;>simp[ad,ae,dq]<;>(subst_vars;simp_all [dq])
 | .ax z q=>by simp only[dq];by_cases ad:z=x<;>by_cases ae:z=y<;>simp[ad,ae,dq]<;>(subst_vars;simp_all [dq])
 | .ab z q=>by simp only[dq];by_cases ad:z=x<;>by_cases ae:z=y<;>simp[ad,ae,dq]<;>(subst_vars;simp_all [dq])
 | .fn f cap=>by simp only[dq];rw[Tu x y cap]
 | .hole=>rfl
 | .bool _=>rfl
 | .gw=>rfl
 | .int _ _=>rfl
 | .str _=>rfl
 | .en=>rfl
 | .a8=>rfl
 | .slice _=>rfl
 | .aj _ _=>rfl
 | .ref _=>rfl
 | .aM _=>rfl
 | .agg _=>rfl
 | .tuple _=>rfl
 | .b4 _=>rfl
theorem Tu (x y:Nat):∀ds:axi,k2 x (k2 y ds)=k2 y (k2 x ds)
 |[]=>rfl
 |d::ds=>by simp only[k2];rw[Tt x y d,Tu x y ds]
end
mutual
theorem L4 (x y:Nat):∀a:I,cK x (dq y a)=dq y (cK x a)
 | .h z q=>by simp only[dq,cK];by_cases ad:z=x<;>by_cases ae:z=y<;>by_cases aI:q=[]<;>simp[ad,ae,aI,dq,cK]<;>(subst_vars;simp_all [dq,cK])
 | .ax z q=>by simp only[dq,cK];by_cases ad:z=x<;>by_cases ae:z=y<;>simp[ad,ae,dq,cK]<;>(subst_vars;simp_all [dq,cK])
 | .ab z q=>by simp only[dq,cK];by_cases ae:z=y<;>simp[ae,cK]
 | .fn f cap=>by simp only[dq,cK];rw[Tv x y cap]
 | .hole=>rfl
 | .bool _=>rfl
 | .gw=>rfl
 | .int _ _=>rfl
 | .str _=>rfl
 | .en=>rfl
 | .a8=>rfl
 | .slice _=>rfl
 | .aj _ _=>rfl
 | .ref _=>rfl
 | .aM _=>rfl
 | .agg _=>rfl
 | .tuple _=>rfl
 | .b4 _=>rfl
theorem Tv (x y:Nat):∀ds:axi,kr x (k2 y ds)=k2 y (kr x ds)
 |[]=>rfl
 |d::ds=>by simp only[k2,kr];rw[L4 x y d,Tv x y ds]
end
theorem acy (k l:tw) (x y:Nat) (a:I):k.app x (l.app y a)=l.app y (k.app x a):=by
 cases k<;>cases l<;>simp only[tw.app]<;>first|rfl|exact Tr .. |exact Tt .. |exact L4 .. |exact(L4 ..).symm
def bC.use (s:ak):bC->axd
 | .t n=>n::(s n).aa
 | .c av=>av.aa
 | .f _=>[]
def bC.tx (s:ak):List bC->axd
 |[]=>[]
 |x::xs=>x.use s++bC.tx s xs
def L5 (s:ak):Option bC->axd
 |none=>[]
 |some x=>x.use s
def use (s:ak):eT->axd
 | .hS x=>x.use s
 | .h2 x=>x.use s
 | .pick c a b=>c.use s++(a.use s++b.use s)
 | .mE _=>[]
 | .iY _ x=>x.use s
 | .gx _ ps=>bC.tx s (ps.map (·.2))
 | .dO _ _ ps=>bC.tx s (ps.map (·.2))
 | .fO _ x=>x.use s
 | .kI _ x y=>x.use s++y.use s
 | .mf x=>x.use s
 | .eN _ _ x y=>x.use s++y.use s
 | .un _ x=>x.use s
 | .kL _ _ x=>x.use s
 | .pv _ cs=>bC.tx s cs
 | .fv _ l c=>l.use s++c.use s
 | .ix _ x fF ag=>x.use s++(L5 s fF++L5 s ag)
 | .hK _ x _=>x.use s
 | .ks _ x i=>x.use s++i.use s
 | .idx _ x i=>x.use s++i.use s
 | .ex x _=>x.use s
 | .oV _ x _=>x.use s
 | .call f args=>f.use s++bC.tx s args
 | .len _ x=>x.use s
 | .app _ _ x y=>x.use s++y.use s
 | .shr bS=>use s bS
 | .pw x=>x.use s
 | .oZ x=>x.use s
 | .r4=>[]
 | .jt _ x i=>x.use s++i.use s
 | .kM _ x i v=>x.use s++(i.use s++v.use s)
 | .cap _ x=>x.use s
 | .ku _ x y=>x.use s++y.use s
 | .bad=>[]
def lU (s:ak):eT->axd
 | .h2 x=>(bw s x).aa
 | .iY _ x=>(bw s x).aa
 | .gx _ ps=>I.fo (ps.map λp=>bw s p.2)
 | .dO _ _ ps=>I.fo (ps.map λp=>bw s p.2)
 | .kI _ x y=>(bw s x).aa++(bw s y).aa
 | .oV _ x _=>(bw s x).aa
 | .oZ x=>(bw s x).aa
 | .kM _ x _ _=>(bw s x).aa
 | .ix _ x _ _=>(bw s x).aa
 | .app _ _ x y=>(bw s x).aa++(bw s y).aa
 | .shr bS=>lU s bS
 |_=>[]
def eP (dI:axd) (aH s:ak):Prop:=∀u∈dI,aH u=s u
theorem eP.left {dI V:axd} {aH s:ak} (h:eP (dI++V) aH s):eP dI aH s:=λu hu=>h u (mem_append_left _ hu)
theorem eP.right {dI V:axd} {aH s:ak} (h:eP (dI++V) aH s):eP V aH s:=λu hu=>h u (mem_append_right _ hu)
theorem eP.eO {dI:axd} {aH s:ak} (h:eP dI aH s) (ms:List hT):eP dI (eO ms aH) (eO ms s):=λu hu=>acw (h u hu)
theorem eP.sub {dI V:axd} {aH s:ak} (h:eP dI aH s) (aa:∀u∈V,u∈dI):eP V aH s:=λu hu=>h u (aa u hu)
theorem bC.yy {s:ak} {x:bC}:∀u∈(bw s x).aa,u∈x.use s:=by
 intro u hu;cases x with
 |t n=>
  simp only[bw,uT]at hu;split at hu
  .simp[bC.use,hu]
  .simp only[I.aa,mem_singleton]at hu;simp[bC.use,hu]
 |c av=>exact hu
 |f g=>simp[bw,I.aa,I.fo]at hu
theorem bC.gP {s aH:ak} {x:bC} (h:eP (x.use s) aH s):bw aH x=bw s x:=by
 cases x with
 |t n=>simp only[bw];rw[h n (by simp[bC.use])]
 |c av=>rfl
 |f g=>rfl
theorem eP.bw {s aH:ak} {x:bC} (h:eP (x.use s) aH s):eP (bw s x).aa aH s:=h.sub bC.yy
theorem Tw {s aH:ak} {x:Option bC} (h:eP (L5 s x) aH s):x.map (bw aH)=x.map (bw s):=by
 cases x with
 |none=>rfl
 |some x=>simp only[Option.map_some];rw[bC.gP h]
theorem bC.L6 {s aH:ak}:∀{xs:List bC},eP (bC.tx s xs) aH s->xs.map (bw aH)=xs.map (bw s)
 |[],_=>rfl
 |x::xs,h=>by
  simp only[map_cons];rw[bC.gP (h.left),bC.L6 (h.right)]
theorem bC.L7 {s aH:ak}:∀{ps:List (Nat×bC)},eP (bC.tx s (ps.map (·.2))) aH s->(ps.map λp=>(p.1,bw aH p.2))=ps.map λp=>(p.1,bw s p.2)
 |[],_=>rfl
 |x::xs,h=>by
  simp only[map_cons]at h⊢;rw[bC.gP (h.left),bC.L7 (h.right)]
theorem bC.Hx {s:ak}:∀{xs:List bC},∀u∈I.fo (xs.map (bw s)),u∈bC.tx s xs
 |[],u,h=>by simp[I.fo]at h
 |x::xs,u,h=>by
  simp only[map_cons,I.fo,mem_append]at h;simp only[bC.tx,mem_append];exact h.imp (bC.yy u) (bC.Hx u)
section
variable {C:cj} {s aH:ak} {x y i:I} {T A B:TypeId}
theorem L8 (h:eP x.aa aH s):loc aH x=loc s x:=by
 cases x<;>first
  |rfl
  |(simp only[loc];rw[h _ (by simp[I.aa])])
theorem L9 {z:Nat} {q:axd} (h:loc s x=some (z,q)):z∈x.aa:=by
 cases x with
 |h y p=>
  simp only[loc]at h;split at h
  .simp only[Option.some.injEq,Prod.mk.injEq]at h;simp[I.aa,h.1]
  .cases h
 |ax y p=>
  simp only[loc]at h;split at h
  .simp only[Option.some.injEq,Prod.mk.injEq]at h;simp[I.aa,h.1]
  .cases h
 |_=>simp[loc]at h
theorem acz (h:eP x.aa aH s):fO C aH T x=fO C s T x:=by
 have aC:=L8 h;unfold fO;split
 .rfl
 .rw[h _ (by simp[I.aa])]
 .rw[aC];split
  .rename_i e;rw[h _ (L9 e)]
  .rfl
theorem acA {k:Nat} (h:eP x.aa aH s):hK C aH T x k=hK C s T x k:=by
 have aC:=L8 h;unfold hK;split
 .split
  .split
   .split
    .rfl
    .rw[h _ (by simp[I.aa])]
    .rw[aC];split
     .rename_i e;rw[h _ (L9 e)]
     .rfl
   .rfl
  .rfl
 .rfl
theorem acB (h:eP x.aa aH s):ks C aH T x i=ks C s T x i:=by
 cases x<;>first
  |rfl
  |(simp only[ks];rw[h _ (by simp[I.aa])])
theorem acC (h:eP x.aa aH s):uX C aH T x=uX C s T x:=by
 unfold uX;cases(C.T T).k<;>cases x<;>first
  |rfl
  |(simp only;rw[h _ (by simp[I.aa])])
theorem acD (h:eP x.aa aH s):kL C aH A B x=kL C s A B x:=by
 unfold kL;cases(C.T B).k<;>cases x<;>first
  |rfl
  |(simp only;rw[h _ (by simp[I.aa])])
theorem acE (h:eP x.aa aH s):lS aH x=lS s x:=by
 cases x<;>first
  |rfl
  |(simp only[lS];rw[h _ (by simp[I.aa])])
theorem acF (h:eP x.aa aH s):nS aH x=nS s x:=by
 cases x<;>first
  |rfl
  |(simp only[nS];rw[h _ (by simp[I.aa])])
theorem acG {op:BinOp} (h:eP x.aa aH s):eN C aH op T x y=eN C s op T x y:=by
 have ad:=acE h;have ae:=acF h;unfold eN;split<;>first|rfl|simp only[ad,ae]
theorem acH (h:eP x.aa aH s):mf aH x=mf s x:=by
 cases x<;>first
  |rfl
  |(simp only[mf];rw[h _ (by simp[I.aa])])
theorem acI {k y:Nat} {q:axd} (h:oV C s T x k=some (.h y q)):x.aa=[y]:=by
 unfold oV at h;split at h<;>try (cases h;done)
 split at h<;>try (cases h;done)
 split at h
 .split at h<;>try (cases h;done)
  split at h
  .rename_i ar;simp only[Option.some.injEq]at h;rw[h]at ar;exact absurd ar.2.2.2 (by simp[I.tree])
  .cases h
 .split at h<;>try (cases h;done)
  split at h<;>try (cases h;done)
  split at h<;>try (cases h;done)
  rename_i d al ar;by_cases ax:d.plain=true
  .simp only[ax,if_true,Option.some.injEq]at h;rw[h]at ar;exact absurd ar.2.2.2 (by simp[I.tree])
  .simp only[ax,Option.some.injEq]at h;injection h with ad ae;subst ad;rfl
 .cases h
theorem Tx {k:Nat} (h:eP x.aa aH s):oV C aH T x k=oV C s T x k:=by
 unfold oV;split<;>try rfl
 split<;>try rfl
 cases x<;>first
  |rfl
  |(simp only[];rw[h _ (by simp[I.aa])])
theorem acJ {k:Nat} (h:eP x.aa aH s):ex aH x k=ex s x k:=by
 cases x<;>first
  |rfl
  |(simp only[ex];rw[h _ (by simp[I.aa])])
theorem AG:∀(q:axd) (a d e:I),I.sub q a=some d->(d.plain=false\/q≠[])->(q=[]->e.aa=[])->(I.put q e a).aa=[]:=by
 intro q a d e h ax he;cases q with
 |nil=>rw[I.put];exact he rfl
 |cons k q=>
  cases a<;>first
   |(simp[I.sub]at h;done)
   |skip
  all_goals
   unfold I.put
   repeat' split
   all_goals first|rfl|(simp_all;done)
end
def Loc {α:Type} (dI AH:axd) (f:ak->Option (α×ak)) (s:ak) (av:α) (s1:ak):Prop:=
 ∃ms,s1=eO ms s/\(∀m∈ms,m.x∈AH/\m.d.aa=[])/\∀aH,eP dI aH s->f aH=some (av,eO ms aH)
theorem Loc.pure {α:Type} {dI AH:axd} {f:ak->Option (α×ak)} {s:ak} {av:α} (h:∀aH,eP dI aH s->f aH=some (av,aH)):Loc dI AH f s av s:=
 ⟨[],rfl,by simp,λaH aa=>h aH aa⟩
theorem Loc.mono {α:Type} {dI AH Ty Tz:axd} {f:ak->Option (α×ak)} {s s1:ak} {av:α} (h:Loc dI AH f s av s1) (tt:∀u∈dI,u∈Ty) (k3:∀u∈AH,u∈Tz):Loc Ty Tz f s av s1:=by
 obtain⟨ms,ad,ae,aI⟩:=h;exact⟨ms,ad,λm hm=>⟨k3 _ (ae m hm).1,(ae m hm).2⟩,λaH aa=>aI aH (aa.sub tt)⟩
section
variable {C:cj} {s s1:ak} {x y d:I} {T A B:TypeId}
theorem u2 (h:dw s x=some (d,s1)):Loc x.aa x.aa (λs=>dw s x) s d s1:=by
 cases x with
 |h y q=>
  simp only[dw]at h;split at h
  .rename_i e he;split at h
   .cases h
   .rename_i ax;simp only[Option.some.injEq,Prod.mk.injEq]at h;obtain⟨rfl,rfl⟩:=h;have ax:e.plain=false:=by simpa using ax
    refine⟨[⟨.cK,y,I.put q e.dN (s y)⟩],yx _ _ _,?_,?_⟩
    .intro m hm;simp only[mem_singleton]at hm;subst hm;refine⟨by simp[I.aa],AG q _ _ _ he (.inl ax) λcx=>?_⟩;subst cx;cases e<;>first|(simp[I.plain]at ax;done)|rfl
    .intro aH aa;have aN:aH y=s y:=aa y (by simp[I.aa]);simp only[dw,aN,he,ax];rw[<-yx];rfl
  .cases h
 |ax y q=>simp[dw]at h
 |ab y q=>simp[dw]at h
 |fn f c=>simp[dw]at h
 |hole=>simp[dw]at h
 |_=>
  simp only[dw,Option.some.injEq,Prod.mk.injEq]at h;obtain⟨rfl,rfl⟩:=h;exact .pure λaH _=>rfl
mutual
theorem TA (x:Nat):∀a:I,∀u∈(cK x a).aa,u∈a.aa
 | .h y q,u,h=>by
   simp only[cK]at h;split at h
   .split at h
    .exact h
    .simp[I.aa]at h
   .exact h
 | .ax y q,u,h=>by
   simp only[cK]at h;split at h
   .simp[I.aa]at h
   .exact h
 | .ab y q,u,h=>h
 | .fn f cap,u,h=>by simp only[cK,I.aa]at h⊢;exact TB x cap u h
 | .hole,u,h=>h
 | .bool _,u,h=>h
 | .gw,u,h=>h
 | .int _ _,u,h=>h
 | .str _,u,h=>h
 | .en,u,h=>h
 | .a8,u,h=>h
 | .slice _,u,h=>h
 | .aj _ _,u,h=>h
 | .ref _,u,h=>h
 | .aM _,u,h=>h
 | .agg _,u,h=>h
 | .tuple _,u,h=>h
theorem TB (x:Nat):∀ds:axi,∀u∈I.fo (kr x ds),u∈I.fo ds
 |[],u,h=>h
 |d::ds,u,h=>by
  simp only[kr,I.fo,mem_append]at h⊢;exact h.imp (TA x d u) (TB x ds u)
end
theorem L_ (o:Option Nat) (a:I):∀u∈(na o a).aa,u∈a.aa:=by
 intro u h;cases o with
 |none=>exact h
 |some x=>exact TA x a u h
theorem TC:∀(os:List (Option Nat)) (a:I),∀u∈(nw os a).aa,u∈a.aa:=by
 intro os;induction os with
 |nil=>intro a u h;exact h
 |cons o os ih=>intro a u h;exact L_ o a u (ih (na o a) u h)
theorem TD {place:Nat->Option (Nat×Nat)}:∀{ps:axh} {s s1:ak} {fc ds:axi} {os:List (Option Nat)},ey place s fc os ps=some (ds,s1)->
  Loc (I.fo (ps.map (·.2))) (I.fo (ps.map (·.2))) (λs=>ey place s fc os ps) s ds s1:=by
 intro ps;induction ps with
 |nil=>
  intro s s1 fc ds os h;simp only[ey,Option.some.injEq,Prod.mk.injEq]at h;obtain⟨rfl,rfl⟩:=h;exact .pure λaH _=>rfl
 |cons p ps ih=>
  intro s s1 fc ds os h;obtain⟨k,a⟩:=p;simp only[ey]at h;split at h
  .rename_i d s2 off n z aZ fA b9;split at h
   .cases h
   .rename_i bI ny;split at h
    .rename_i ar;obtain⟨r6,rfl,ae,aI⟩:=u2 aZ;obtain⟨wS,rfl,bY,dt⟩:=ih h;refine⟨r6++wS,(p_ _ _ _).symm,?_,?_⟩
     .intro m hm;simp only[map_cons,I.fo,mem_append]at hm⊢;rcases hm with hm|hm
      .exact⟨.inl (TC _ _ _ (ae m hm).1),(ae m hm).2⟩
      .exact⟨.inr (bY m hm).1,(bY m hm).2⟩
     .intro aH aa;simp only[map_cons,I.fo]at aa;have aN:=aI aH (aa.left.sub (TC _ _));have aU:=dt (eO r6 aH) (aa.right.eO r6);simp only at aN aU;simp only[ey,aN,fA,b9,p_];rw[if_pos ar];exact aU
    .cases h
  .cases h
theorem acK {ps:axh} {av:I} (h:gx C s T ps=some (av,s1)):Loc (I.fo (ps.map (·.2))) (I.fo (ps.map (·.2))) (λs=>gx C s T ps) s av s1:=by
 unfold gx at h;split at h
 .rename_i aD fc au b9;split at h
  .rename_i ar;split at h
   .rename_i ds s2 bF;simp only[Option.some.injEq,Prod.mk.injEq]at h;obtain⟨rfl,rfl⟩:=h;obtain⟨ms,ad,ae,aI⟩:=TD bF;refine⟨ms,ad,ae,λaH aa=>?_⟩;have:=aI aH aa;simp only at this;simp only[gx,au,b9,if_pos ar,this]
   .cases h
  .cases h
 .cases h
theorem acL {n:Nat} {ps:axh} {av:I} (h:dO C s T n ps=some (av,s1)):Loc (I.fo (ps.map (·.2))) (I.fo (ps.map (·.2))) (λs=>dO C s T n ps) s av s1:=by
 unfold dO at h;split at h
 .rename_i e au;split at h
  .rename_i ar;split at h
   .rename_i ds s2 bF;simp only[Option.some.injEq,Prod.mk.injEq]at h;obtain⟨rfl,rfl⟩:=h;obtain⟨ms,ad,ae,aI⟩:=TD bF;refine⟨ms,ad,ae,λaH aa=>?_⟩;have:=aI aH aa;simp only at this;simp only[dO,au,if_pos ar,this]
   .cases h
  .cases h
 .cases h
theorem acM {av:I} (h:iY s x=some (av,s1)):Loc x.aa x.aa (λs=>iY s x) s av s1:=by
 unfold iY at h;split at h
 .cases h
 .rename_i d s2 ny aZ;simp only[Option.some.injEq,Prod.mk.injEq]at h;obtain⟨rfl,rfl⟩:=h;obtain⟨ms,ad,ae,aI⟩:=u2 aZ;refine⟨ms,ad,ae,λaH aa=>?_⟩;have:=aI aH aa;simp only at this;simp only[iY,this]
 .cases h
theorem acN {s2:ak} (h:kI C s T x y=some s2):Loc (x.aa++y.aa) (x.aa++y.aa) (λs=>(kI C s T x y).map λs1=>(I.hole,s1)) s .hole s2:=by
 unfold kI at h;split at h
 .rename_i d s1 z q aZ aC;obtain⟨ms,ad,ae,aI⟩:=u2 aZ;have b9:=L9 aC;have cx:q≠[]:=by
   cases x with
   |h y p=>
    simp only[loc]at aC;split at aC
    .simp only[Option.some.injEq,Prod.mk.injEq]at aC;simp[<-aC.2]
    .cases aC
   |ax y p=>
    simp only[loc]at aC;split at aC
    .rename_i rY;simp only[Option.some.injEq,Prod.mk.injEq]at aC;obtain⟨rfl,rfl⟩:=aC;intro e;subst e;simp[I.gD]at rY
    .cases aC
   |_=>simp[loc]at aC
  split at h
  .cases h
  .rename_i bI ny;split at h
   .rename_i d0 nt;split at h
    .rename_i ar;simp only[Option.some.injEq]at h;subst h;refine⟨ms++[⟨.cK,z,I.put q d (s z)⟩],?_,?_,?_⟩
     .rw[p_,<-ad,yx]
     .intro m hm;simp only[mem_append,mem_singleton]at hm⊢;rcases hm with hm|rfl
      .exact⟨.inr (ae m hm).1,(ae m hm).2⟩
      .exact⟨.inl b9,AG q _ _ _ nt (.inr cx) λe=>(cx e).elim⟩
     .intro aH aa;have aN:=aI aH aa.right;simp only at aN;simp only[kI,aN,L8 aa.left,aC,aa.left z b9,nt];cases d<;>first|(simp only[if_pos ar,Option.map_some,p_,yx];done)|exact(ny _ rfl).elim
    .cases h
   .cases h
 .cases h
theorem acO {fF ag:Option I} {av:I} (h:ix C s T x fF ag=some (av,s1)):Loc x.aa x.aa (λs=>ix C s T x fF ag) s av s1:=by
 cases x with
 |h y q=>
  unfold ix at h;split at h<;>first|(cases h;done)|skip
  all_goals (rename_i an;try cases an)
  rename_i e au;split at h
  .rename_i sz xs fS;split at h
   .rename_i b qJ qK;split at h
    .rename_i ar;split at h
     .rename_i d s2 aZ;simp only[Option.some.injEq,Prod.mk.injEq]at h;obtain⟨rfl,rfl⟩:=h;obtain⟨ms,ad,ae,aI⟩:=u2 aZ;refine⟨ms,ad,ae,λaH aa=>?_⟩;have:=aI aH aa;simp only at this;have aN:aH y=s y:=aa y (by simp[I.aa]);simp only[ix,au,aN,fS,qJ,qK,if_pos ar,this]
     .cases h
    .cases h
   .cases h
  .cases h
 |_=>
  have u3:s1=s:=by
   unfold ix at h
   repeat' split at h
   all_goals first|(cases h;done)|(simp only[Option.some.injEq,Prod.mk.injEq]at h;exact h.2.symm)|simp_all
  subst u3;refine .pure λaH _=>?_;unfold ix at h⊢
  repeat' split at h
  all_goals first
   |(cases h;done)
   |(simp only[Option.some.injEq,Prod.mk.injEq]at h
     obtain⟨rfl,_⟩:=h;simp_all)
def tz (C:cj) (e:TypeId) (s:ak):I->Option (I×ak)
 | .a8=>some (I.aj (C.T e).sz [],s)
 | .h a q=>dw s (.h a q)
 |_=>none
def nT (s1:ak):I->Option (axi×ak)
 | .a8=>some ([],s1)
 | .slice cL=>some (cL,s1)
 | .str l=>some (l.map iK,s1)
 | .h a q=>match dw s1 (.h a q)with
   |some (.aj _ cL,s2)=>some (cL,s2)
   |_=>none
 |_=>none
theorem Ma (C:cj) (s:ak) (T dI:TypeId) (x y:I):u1 C s T dI x y=(match(C.T T).k with
 | .slice e=>if(C.T e).ok=true/\(C.T e).zero.wd=(C.T e).sz/\(flat (C.T e).zero).isSome=true/\Hq C e dI=true then
   match tz C e s x with
   |some (.aj sz xs,s1)=>if sz=(C.T e).sz then
     match nT s1 (na x.owner y)with
     |some (cL,s2)=>if(∀d∈cL,d.wd=(C.T e).sz)/\(xs.length+cL.length)*(C.T e).bytes<=140737488355328/\xs.length+cL.length<=9223372036854775807 then some (.aj sz (xs++cL),s2)else none
     |none=>none
    else none
   |_=>none
   else none
 |_=>none):=by
 unfold u1;generalize na x.owner y=oo;cases(C.T T).k<;>first
  |rfl
  |(cases x<;>cases oo<;>rfl)
theorem acP {e:TypeId} {d:I} (ad:tz C e s x=some (d,s1)):Loc x.aa x.aa (λs=>tz C e s x) s d s1:=by
 cases x with
 |a8=>
  simp only[tz,Option.some.injEq,Prod.mk.injEq]at ad;obtain⟨ad,rfl⟩:=ad;exact .pure λaH _=>by simp only[tz,ad]
 |h a q=>exact u2 ad
 |_=>simp[tz]at ad
theorem acQ {cL:axi} (ae:nT s y=some (cL,s1)):Loc y.aa y.aa (λs=>nT s y) s cL s1:=by
 cases y with
 |a8=>
  simp only[nT,Option.some.injEq,Prod.mk.injEq]at ae;obtain⟨rfl,rfl⟩:=ae;exact .pure λaH _=>rfl
 |slice cL=>
  simp only[nT,Option.some.injEq,Prod.mk.injEq]at ae;obtain⟨rfl,rfl⟩:=ae;exact .pure λaH _=>rfl
 |str l=>
  simp only[nT,Option.some.injEq,Prod.mk.injEq]at ae;obtain⟨rfl,rfl⟩:=ae;exact .pure λaH _=>rfl
 |h a q=>
  simp only[nT]at ae;split at ae
  .rename_i ab2 aub mF aZ;simp only[Option.some.injEq,Prod.mk.injEq]at ae;obtain⟨rfl,rfl⟩:=ae;obtain⟨ms,g1,g2,g3⟩:=u2 aZ;refine⟨ms,g1,g2,λaH aa=>?_⟩;have:=g3 aH aa;simp only at this;simp only[nT,this]
  .cases ae
 |_=>simp[nT]at ae
theorem acR {av:I} (h:u1 C s T A x y=some (av,s1)):Loc (x.aa++y.aa) (x.aa++y.aa) (λs=>u1 C s T A x y) s av s1:=by
 rw[Ma]at h;split at h
 .rename_i e au;split at h
  .rename_i ar;split at h
   .rename_i sz xs s2 ad;split at h
    .rename_i fg;split at h
     .rename_i cL r7 ae;split at h
      .rename_i k4;simp only[Option.some.injEq,Prod.mk.injEq]at h;obtain⟨rfl,rfl⟩:=h;obtain⟨r6,rfl,a2,a3⟩:=acP ad;obtain⟨wS,rfl,fT,fU⟩:=(acQ ae).mono (L_ _ _) (L_ _ _);refine⟨r6++wS,(p_ _ _ _).symm,?_,?_⟩
       .intro m hm;simp only[mem_append]at hm⊢;rcases hm with hm|hm
        .exact⟨.inl (a2 m hm).1,(a2 m hm).2⟩
        .exact⟨.inr (fT m hm).1,(fT m hm).2⟩
       .intro aH aa;have aN:=a3 aH aa.left;have aU:=fU (eO r6 aH) (aa.right.eO r6);simp only at aN aU;simp only[Ma,au,if_pos ar,aN,if_pos fg,aU,if_pos k4,p_]
      .cases h
     .cases h
    .cases h
   .cases h
  .cases h
 .cases h
theorem acS {aH:ak} {i:I} (h:eP x.aa aH s):jt C aH T x i=jt C s T x i:=by
 cases x with
 |h y q=>cases i<;>simp only[jt,h y (by simp[I.aa])]
 |_=>rfl
theorem acT {i v:I} {s2:ak} (h:kM C s T x i v=some s2):Loc x.aa x.aa (λs=>(kM C s T x i v).map λs1=>(I.hole,s1)) s .hole s2:=by
 unfold kM at h;split at h
 .rename_i y q k b;split at h
  .rename_i m al;split at h
   .rename_i k3;simp only[Option.some.injEq]at h;subst h;refine⟨[⟨.cK,y,I.put q (.b4 (.mp (j1 k b m))) (s y)⟩],yx _ _ _,?_,λaH aa=>?_⟩
    .intro n aS;simp only[mem_singleton]at aS;subst aS;exact⟨by simp[I.aa],AG q _ _ _ al (.inl rfl) λ_=>rfl⟩
    .have aN:aH y=s y:=aa y (by simp[I.aa]);simp only[kM,aN,al,k3,if_true,Option.map_some];rw[<-yx]
   .cases h
  .cases h
 .cases h
theorem TE {bS:eT} {av:I} (h:b7 C s bS=some (av,s1)):Loc (use s bS) (lU s bS) (λs=>b7 C s bS) s av s1:=by
 cases bS with
 |shr bS=>simp[b7]at h
 |oZ x=>
  simp only[b7]at h;unfold tv at h;split at h
  .rename_i y q an;obtain⟨ms,ad,ae,aI⟩:=u2 h;refine⟨ms,ad,by simpa only[lU,an]using ae,λaH aa=>?_⟩;have e:=bC.gP (x:=x) aa;have aU:=aI aH (by rw[<-an];exact eP.bw aa);simp only[b7,e,an,tv];exact aU
  .rename_i TF;simp only[Option.some.injEq,Prod.mk.injEq]at h;obtain⟨rfl,rfl⟩:=h;refine .pure λaH aa=>?_;have e:=bC.gP (x:=x) aa;simp only[b7,e,tv]
 |pw x=>
  simp only[b7,Option.some.injEq,Prod.mk.injEq]at h;obtain⟨rfl,rfl⟩:=h;exact .pure λaH aa=>by simp only[b7,bC.gP (x:=x) aa]
 |bad=>simp[b7]at h
 |ku fb x y=>
  simp only[b7,Option.map_eq_some_iff,Prod.mk.injEq]at h;obtain⟨d,al,rfl,rfl⟩:=h;exact .pure λaH aa=>by
   simp only[use]at aa;simp only[b7,bC.gP (x:=x) aa.left,bC.gP (x:=y) aa.right,al,Option.map_some]
 |cap T x=>
  simp only[b7]at h;split at h
  .rename_i e au an;simp only[Option.some.injEq,Prod.mk.injEq]at h;obtain⟨rfl,rfl⟩:=h;exact .pure λaH aa=>by simp only[b7,bC.gP (x:=x) aa,au,an]
  .cases h
 |hS x=>
  simp only[b7,Option.some.injEq,Prod.mk.injEq]at h;obtain⟨rfl,rfl⟩:=h;exact .pure λaH aa=>by simp only[b7,bC.gP (x:=x) aa]
 |h2 x=>
  simp only[b7]at h;split at h
  .rename_i y q an;obtain⟨ms,ad,ae,aI⟩:=u2 h;refine⟨ms,ad,by simpa only[lU,an]using ae,λaH aa=>?_⟩;have e:=bC.gP (x:=x) aa;have aU:=aI aH (by rw[<-an];exact eP.bw aa);simp only[b7,e,an];exact aU
  .rename_i TF;simp only[Option.some.injEq,Prod.mk.injEq]at h;obtain⟨rfl,rfl⟩:=h;refine .pure λaH aa=>?_;have e:=bC.gP (x:=x) aa;simp only[b7,e]
 |pick c a b=>
  simp only[b7]at h;split at h
  .rename_i gM ab;simp only[Option.some.injEq,Prod.mk.injEq]at h;obtain⟨rfl,rfl⟩:=h;refine .pure λaH aa=>?_;simp only[use]at aa;simp only[b7,bC.gP (x:=c) aa.left,bC.gP (x:=a) aa.right.left,bC.gP (x:=b) aa.right.right,ab]
  .cases h
 |mE T=>
  simp only[b7,Option.map_eq_some_iff,Prod.mk.injEq]at h;obtain⟨d,al,rfl,rfl⟩:=h;exact .pure λaH aa=>by simp only[b7,al,Option.map_some]
 |iY T x=>
  obtain⟨ms,ad,ae,aI⟩:=acM h;refine⟨ms,ad,ae,λaH aa=>?_⟩;simp only[b7,bC.gP (x:=x) aa];exact aI aH (eP.bw aa)
 |gx T ps=>
  obtain⟨ms,ad,ae,aI⟩:=acK h;simp only[List.map_map,Function.comp_def]at ae aI;refine⟨ms,ad,ae,λaH aa=>?_⟩;simp only[b7,bC.L7 (ps:=ps) aa];refine aI aH (aa.sub λu hu=>?_);simp only[use];exact bC.Hx u (by simpa [List.map_map,Function.comp_def]using hu)
 |dO T n ps=>
  obtain⟨ms,ad,ae,aI⟩:=acL h;simp only[List.map_map,Function.comp_def]at ae aI;refine⟨ms,ad,ae,λaH aa=>?_⟩;simp only[b7,bC.L7 (ps:=ps) aa];refine aI aH (aa.sub λu hu=>?_);simp only[use];exact bC.Hx u (by simpa [List.map_map,Function.comp_def]using hu)
 |fO T x=>
  simp only[b7,Option.map_eq_some_iff,Prod.mk.injEq]at h;obtain⟨d,al,rfl,rfl⟩:=h;exact .pure λaH aa=>by simp only[b7,bC.gP (x:=x) aa,acz (eP.bw aa),al,Option.map_some]
 |kI T x y=>
  simp only[b7,Option.map_eq_some_iff,Prod.mk.injEq]at h;obtain⟨s2,al,rfl,rfl⟩:=h;obtain⟨ms,ad,ae,aI⟩:=acN al;refine⟨ms,ad,ae,λaH aa=>?_⟩;simp only[use]at aa;simp only[b7,bC.gP (x:=x) aa.left,bC.gP (x:=y) aa.right];exact aI aH (aa.sub λu hu=>by simp only[mem_append]at hu⊢;exact hu.imp (bC.yy u) (bC.yy u))
 |mf x=>
  simp only[b7,Option.map_eq_some_iff,Prod.mk.injEq]at h;obtain⟨d,al,rfl,rfl⟩:=h;exact .pure λaH aa=>by simp only[b7,bC.gP (x:=x) aa,acH (eP.bw aa),al,Option.map_some]
 |eN op T x y=>
  simp only[b7,Option.map_eq_some_iff,Prod.mk.injEq]at h;obtain⟨d,al,rfl,rfl⟩:=h;refine .pure λaH aa=>?_;simp only[use]at aa;simp only[b7,bC.gP (x:=x) aa.left,bC.gP (x:=y) aa.right,acG (eP.bw aa.left),al,Option.map_some]
 |un op x=>
  simp only[b7,Option.map_eq_some_iff,Prod.mk.injEq]at h;obtain⟨d,al,rfl,rfl⟩:=h;exact .pure λaH aa=>by simp only[b7,bC.gP (x:=x) aa,al,Option.map_some]
 |kL A B x=>
  simp only[b7,Option.map_eq_some_iff,Prod.mk.injEq]at h;obtain⟨d,al,rfl,rfl⟩:=h;exact .pure λaH aa=>by simp only[b7,bC.gP (x:=x) aa,acD (eP.bw aa),al,Option.map_some]
 |pv f cs=>
  simp only[b7,Option.some.injEq,Prod.mk.injEq]at h;obtain⟨rfl,rfl⟩:=h;exact .pure λaH aa=>by simp only[b7,bC.L6 (xs:=cs) aa]
 |fv T l c=>
  simp only[b7,Option.map_eq_some_iff,Prod.mk.injEq]at h;obtain⟨d,al,rfl,rfl⟩:=h;refine .pure λaH aa=>?_;simp only[use]at aa;simp only[b7,bC.gP (x:=l) aa.left,bC.gP (x:=c) aa.right,al,Option.map_some]
 |ix T x fF ag=>
  simp only[b7]at h;obtain⟨ms,ad,ae,aI⟩:=acO h;refine⟨ms,ad,ae,λaH aa=>?_⟩;simp only[use]at aa;simp only[b7,bC.gP (x:=x) aa.left,Tw aa.right.left,Tw aa.right.right];exact aI aH (eP.bw aa.left)
 |hK T x k=>
  simp only[b7,Option.map_eq_some_iff,Prod.mk.injEq]at h;obtain⟨d,al,rfl,rfl⟩:=h;exact .pure λaH aa=>by simp only[b7,bC.gP (x:=x) aa,acA (eP.bw aa),al,Option.map_some]
 |ks T x i=>
  simp only[b7,Option.map_eq_some_iff,Prod.mk.injEq]at h;obtain⟨d,al,rfl,rfl⟩:=h;refine .pure λaH aa=>?_;simp only[use]at aa;simp only[b7,bC.gP (x:=x) aa.left,bC.gP (x:=i) aa.right,acB (eP.bw aa.left),al,Option.map_some]
 |idx T x i=>
  simp only[b7,Option.map_eq_some_iff,Prod.mk.injEq]at h;obtain⟨d,al,rfl,rfl⟩:=h;refine .pure λaH aa=>?_;simp only[use]at aa;simp only[b7,bC.gP (x:=x) aa.left,bC.gP (x:=i) aa.right,al,Option.map_some]
 |ex x k=>
  simp only[b7,Option.map_eq_some_iff,Prod.mk.injEq]at h;obtain⟨d,al,rfl,rfl⟩:=h;exact .pure λaH aa=>by simp only[b7,bC.gP (x:=x) aa,acJ (eP.bw aa),al,Option.map_some]
 |r4=>
  simp only[b7,Option.some.injEq,Prod.mk.injEq]at h;obtain⟨rfl,rfl⟩:=h;exact .pure λaH aa=>rfl
 |jt T x i=>
  simp only[b7,Option.map_eq_some_iff,Prod.mk.injEq]at h;obtain⟨d,al,rfl,rfl⟩:=h;refine .pure λaH aa=>?_;simp only[use]at aa;simp only[b7,bC.gP (x:=x) aa.left,bC.gP (x:=i) aa.right,acS (eP.bw aa.left),al,Option.map_some]
 |kM T x i v=>
  simp only[b7,Option.map_eq_some_iff,Prod.mk.injEq]at h;obtain⟨s2,al,rfl,rfl⟩:=h;obtain⟨ms,ad,ae,aI⟩:=acT al;refine⟨ms,ad,ae,λaH aa=>?_⟩;simp only[use]at aa;simp only[b7,bC.gP (x:=x) aa.left,bC.gP (x:=i) aa.right.left,bC.gP (x:=v) aa.right.right];exact aI aH (eP.bw aa.left)
 |oV T x k=>
  simp only[b7,Option.bind_eq_some_iff]at h;obtain⟨d,al,h⟩:=h;unfold tv at h;split at h
  .rename_i y q;have an:=acI al;obtain⟨ms,ad,ae,aI⟩:=u2 h;refine⟨ms,ad,by simpa only[lU,an,I.aa]using ae,λaH aa=>?_⟩;have aU:=aI aH (by rw[show(I.h y q).aa=(bw s x).aa from an.symm];exact eP.bw aa);simp only[b7,bC.gP (x:=x) aa,Tx (eP.bw aa),al,Option.bind_some,tv];exact aU
  .rename_i TF;simp only[Option.some.injEq,Prod.mk.injEq]at h;obtain⟨rfl,rfl⟩:=h;refine .pure λaH aa=>?_;simp only[b7,bC.gP (x:=x) aa,Tx (eP.bw aa),al,Option.bind_some,tv]
 |call f args=>simp[b7]at h
 |len T x=>
  simp only[b7,Option.map_eq_some_iff,Prod.mk.injEq]at h;obtain⟨d,al,rfl,rfl⟩:=h;exact .pure λaH aa=>by simp only[b7,bC.gP (x:=x) aa,acC (eP.bw aa),al,Option.map_some]
 |app T dI x y=>
  obtain⟨ms,ad,ae,aI⟩:=acR h;refine⟨ms,ad,ae,λaH aa=>?_⟩;simp only[use]at aa;simp only[b7,bC.gP (x:=x) aa.left,bC.gP (x:=y) aa.right];exact aI aH (aa.sub λu hu=>by simp only[mem_append]at hu⊢;exact hu.imp (bC.yy u) (bC.yy u))
end
def I.one:I->Bool
 | .agg _=>false
 | .tuple _=>false
 |_=>true
mutual
def view (s:ak):I->Option I
 | .h x q=>match I.sub q (s x)with
   |some d=>(match d with| .tuple _=>none| .b4 _=>none|d=>if d.plain then none else some d.share)
   |none=>none
 | .ax x q=>if I.gD q (s x)then(match I.sub q (s x)with
   |some d=>(match d with| .tuple _=>none|d=>some (.ref d.share))
   |none=>none)else none
 | .ab _ _=>none
 | .fn f cap=>(views s cap).map (.fn f)
 | .hole=>none
 |d=>some d
def views (s:ak):axi->Option axi
 |[]=>some []
 |d::ds=>match view s d,views s ds with
  |some a,some b=>some (a::b)
  |_,_=>none
end
mutual
theorem Mb:∀d:I,d.share.plain=true
 | .hole=>rfl
 | .bool _=>rfl
 | .gw=>rfl
 | .int _ _=>rfl
 | .str _=>rfl
 | .en=>rfl
 | .a8=>rfl
 | .slice _=>rfl
 | .aj _ _=>rfl
 | .ref _=>rfl
 | .aM _=>rfl
 | .agg aD=>by simp only[I.share,I.plain];exact Mc aD
 | .tuple aD=>by simp only[I.share,I.plain];exact Mc aD
 | .fn _ _=>rfl
 | .h _ _=>rfl
 | .ax _ _=>rfl
 | .ab _ _=>rfl
 | .b4 _=>rfl
theorem Mc:∀ds:axi,I.hz (I.shares ds)=true
 |[]=>rfl
 |d::ds=>by simp only[I.shares,I.hz];rw[Mb d,Mc ds];rfl
end
theorem acU {s:ak} {a d:I} (h:a.plain=true) (he:view s a=some d):d.plain=true:=by
 cases a with
 |h x q=>
  simp only[view]at he;split at he
  .rename_i e fS;cases e<;>simp only at he<;>first
    |(cases he;done)
    |(split at he
      .cases he
      .simp only[Option.some.injEq]at he;subst he;exact Mb _)
  .cases he
 |ax x q=>
  simp only[view]at he;split at he
  .split at he
   .rename_i e fS;cases e<;>simp only at he<;>first
     |(cases he;done)
     |(simp only[Option.some.injEq]at he;subst he;rfl)
   .cases he
  .cases he
 |fn f cap=>
  simp only[view,Option.map_eq_some_iff]at he;obtain⟨ds,_,rfl⟩:=he;rfl
 |hole=>simp[view]at he
 |ab y q=>simp[view]at he
 |_=>simp only[view,Option.some.injEq]at he;subst he;exact h
theorem Md {d:I} {v:Value} (ad:∀vs,d≠.tuple vs) (h:eM d v):eM d.share v:=by
 cases d<;>first|exact h|exact(ad _ rfl).elim
theorem acV (w:World):∀(q:axd) (av d bI:I) (cs dp:axg) (a dC:Option (Nat×Nat)),I.sub q av=some d->bI.wd=d.wd->er w q av cs a=some (d,dp,dC)->
  er w q (I.put q bI av) cs a=some (bI,dp,dC):=by
 intro q;induction q with
 |nil=>
  intro av d bI cs dp a dC al hw h;simp only[er,Option.some.injEq,Prod.mk.injEq]at h;obtain⟨rfl,rfl,rfl⟩:=h;simp only[I.put,er]
 |cons k q ih=>
  intro av d bI cs dp a dC al hw h;cases av with
  |agg aD=>
   simp only[I.sub]at al;split at al
   .rename_i x an;have au:k<aD.length:=(List.getElem?_eq_some_iff.1 an).1;simp only[er,an]at h;simp only[I.put,an,er];rw[getElem?_set_self au];simp only[take_set_of_le (Nat.le_refl k),I.Ap q x d bI al hw];exact ih _ _ _ _ _ _ _ al hw h
   .cases al
  |tuple aD=>
   simp only[I.sub]at al;split at al
   .rename_i x an;have au:k<aD.length:=(List.getElem?_eq_some_iff.1 an).1;simp only[er,an]at h;simp only[I.put,an,er];rw[getElem?_set_self au];simp only[take_set_of_le (Nat.le_refl k),I.Ap q x d bI al hw];exact ih _ _ _ _ _ _ _ al hw h
   .cases al
  |aj sz aD=>
   simp only[I.sub]at al;split at al
   .rename_i x an;have au:k<aD.length:=(List.getElem?_eq_some_iff.1 an).1;have nv:(aD.set k (I.put q bI x))[k]? =some (I.put q bI x):=getElem?_set_self au;simp only[I.put,an];rw[er.eq_def]at h⊢;simp only[an]at h;simp only;rw[nv];split at h
    .rename_i aN;simp only[Option.some.injEq]at aN;subst aN;exact ih _ _ _ _ _ _ _ al hw h
    .cases h
   .cases al
  |aM x=>
   cases k with
   |zero=>
    simp only[I.sub]at al;rw[er.eq_def]at h⊢;simp only at h;simp only[I.put];split at h
    .rw[I.Ap q x d bI al hw];exact ih _ _ _ _ _ _ _ al hw h
    .cases h
   |succ k=>simp[I.sub]at al
  |_=>simp[I.sub]at al
section
variable {w0 w aL:World} {F0 X F Fc:Nat->Prop} {S:Nat->Nat->Prop} {s aH:ak} {aG mB:Nat->Value}
theorem acW (h:b8 w0 F0 X F S s aG w) (bG:∀b,F b->Fc b):∀n,
  (∀(a:I) (v:Value) (d:I),SizeOf.sizeOf a<=n->(∀t∈a.aa,∀b,S t b->Fc b)->view s a=some d->aO w F s aG a v (λ_=>False)->aO w Fc aH mB d v (λ_=>False))/\
  (∀(as:axi) (vs:axg) (ds:axi),SizeOf.sizeOf as<=n->(∀t∈I.fo as,∀b,S t b->Fc b)->views s as=some ds->fm w F s aG as vs->fm w Fc aH mB ds vs):=by
 intro n;induction n with
 |zero=>exact⟨λa _ _ b9=>by cases a<;>simp at b9<;>omega,λas _ _ b9=>by cases as<;>simp at b9<;>omega⟩
 |succ n ih=>
  refine⟨λa v d b9 ca he aE=>?_,λas vs ds b9 ca he aE=>?_⟩
  .cases a with
   |h x q=>
    simp only[view]at he;split at he
    .rename_i e fS;have key:(∀aD,e≠.tuple aD)/\e.plain=false/\d=e.share/\∀o,e≠.b4 o:=by
      cases e<;>simp only at he<;>first
       |(cases he;done)
       |(split at he
         .cases he
         .rename_i fA;simp only[Option.some.injEq]at he;exact⟨(λ_ h=>by cases h),by simpa using fA,he.symm,λ_ h=>by cases h⟩)
     obtain⟨ny,fA,rfl,ns⟩:=key;rw[aO]at aE;obtain⟨dp,dC,g1,g2,g3⟩:=aE e fS fA;have aZ:=jf fS (.inl fA);have an:=(aO.dk aZ).1 (h.ew x);obtain⟨g_,a2,e5,gm,k0,bX,cN,dH,dT,eG⟩:=ctx q (s x) (c8 (aG x)) (S x) none e an.2 fS;rw[g1]at k0;simp only[Option.some.injEq,Prod.mk.injEq,true_and]at k0;obtain⟨rfl,rfl⟩:=k0;have Dr:e.share.tree=true:=by cases e<;>first|rfl|(simp[I.plain]at fA;done)|exact(ns _ rfl).elim
     have aQ:=aA.shared bG e dp gm (λb ab=>ca x (by simp[I.aa]) b (cN b ab)) dT;exact(aO.dk Dr).2 ⟨Md ny g3,by rw[g2];exact aQ⟩
    .cases he
   |ax x q=>
    simp only[view]at he;split at he
    .rename_i rY;split at he
     .rename_i e fS;have key:(∀aD,e≠.tuple aD)/\d= .ref e.share:=by
       cases e<;>simp only at he<;>first
        |(cases he;done)
        |(simp only[Option.some.injEq]at he;exact⟨(λ_ h=>by cases h),he.symm⟩)
      obtain⟨ny,rfl⟩:=key;rw[aO]at aE;obtain⟨dp,b,o,g1,rfl⟩:=aE e fS rY;have aZ:=jf fS (.inr rY);have an:=(aO.dk aZ).1 (h.ew x);obtain⟨g_,a2,e5,gm,k0,bX,cN,dH,dT,eG⟩:=ctx q (s x) (c8 (aG x)) (S x) none e an.2 fS;rw[g1]at k0;simp only[Option.some.injEq,Prod.mk.injEq,true_and]at k0;obtain⟨rfl,rfl⟩:=k0;have aQ:=aA.shared bG e dp gm (λb ab=>ca x (by simp[I.aa]) b (cN b ab)) dT;rcases eG with⟨l,r,_,aU,_⟩|⟨gM,cur,ty,fr,l,r,aN,aU,aR,bW,cM,_⟩
      .simp at aU
      .simp only[Option.some.injEq,Prod.mk.injEq]at aN;obtain⟨rfl,rfl⟩:=aN;refine(aO.dk rfl).2 ⟨rfl,?_⟩;rw[aA];refine⟨b,l.length,dp,rfl,ca x (by simp[I.aa]) b (bX b aU),?_,aQ⟩;intro j c bE;simp only[World.cell?,aR];have ar:cur[l.length+j]? =some c:=by
        rw[<-Array.getElem?_toList,cM,getElem?_append_right (by omega),getElem?_append_left (by
         have:=(List.getElem?_eq_some_iff.1 bE).1;omega)]
        rw[<-bE];congr 1;omega
       simpa using ar
     .cases he
    .cases he
   |fn f cap=>
    simp only[view,Option.map_eq_some_iff]at he;obtain⟨ds,lv,rfl⟩:=he;rw[aO]at aE;obtain⟨arr,rfl,ar⟩:=aE;rw[aO];exact⟨arr,rfl,ih.2 cap _ _ (by simp at b9;omega) (by simpa [I.aa]using ca) lv ar⟩
   |hole=>simp[view]at he
   |ab y q=>simp[view]at he
   |_=>
    simp only[view,Option.some.injEq]at he;subst he;have oR:=(aO.dk rfl).1 aE;exact(aO.dk rfl).2 ⟨oR.1,aA.mono bG _ _ _ _ (λ_ h=>h) oR.2⟩
  .cases as with
   |nil=>
    simp only[views,Option.some.injEq]at he;subst he;rw[fm]at aE⊢;exact aE
   |cons a as=>
    simp only[views]at he;split at he
    .rename_i d ds ad ae;simp only[Option.some.injEq]at he;subst he;rw[fm]at aE⊢;obtain⟨v,nO,rfl,g1,g2⟩:=aE;simp at b9;simp only[I.fo,mem_append]at ca;exact⟨v,nO,rfl,ih.1 a v d (by omega) (λt aZ=>ca t (.inl aZ)) ad g1,ih.2 as nO ds (by omega) (λt aZ=>ca t (.inr aZ)) ae g2⟩
    .cases he
theorem b8.kv (h:b8 w0 F0 X F S s aG w) {x:Nat} {q:axd} {d0 bI:I} {dp:axg} {a:Option (Nat×Nat)} {Sn:Nat->Prop}
  (al:I.sub q (s x)=some d0) (bF:er w q (s x) (c8 (aG x)) none=some (d0,dp,a)) (ae:∀vs,bI≠.tuple vs) (aZ:q=[]->bI.tree=true/\eM bI (aG x))
  (aI:∀k p,q=k::p->(s x).tree=true/\(∀v,jM d0 v->jM bI v)) (hw:bI.wd=d0.wd)
  (aE:aA w F bI dp Sn) (eB:∀b,Sn b->b<w.heap.size) (bG:∀b,Sn b->¬F b) (ca:∀u b,Sn b->¬S u b) (bb:∀b,Sn b->X b\/w0.heap.size<=b):
  b8 w0 F0 X F (hh S x (λb=>S x b\/Sn b)) (et (om x s) x (I.put q bI (s x))) aG w:=by
 have e_:et aG x (aG x)=aG:=by funext u;simp only[et];split<;>simp_all
 have main:(I.put q bI (s x)).tree=true/\eM (I.put q bI (s x)) (aG x)/\aA w F (I.put q bI (s x)) (c8 (aG x)) (λb=>S x b\/Sn b):=by
  cases q with
  |nil=>
   simp only[er,Option.some.injEq,Prod.mk.injEq]at bF;obtain⟨aN,aU,aR⟩:=bF;obtain⟨g1,g2⟩:=aZ rfl;simp only[I.put];refine⟨g1,?_,?_⟩
   .exact g2
   .rw[aU];exact aA.mono (λ_ h=>h) _ _ _ _ (λb ab=>.inr ab) aE
  |cons k p=>
   obtain⟨g1,g2⟩:=aI k p rfl;have an:=(aO.dk g1).1 (h.ew x);obtain⟨g_,a2,e5,gm,k0,bX,cN,dH,dT,eG⟩:=ctx (k::p) (s x) (c8 (aG x)) (S x) none d0 an.2 al;rw[bF]at k0;simp only[Option.some.injEq,Prod.mk.injEq,true_and]at k0;obtain⟨rfl,rfl⟩:=k0;refine⟨?_,?_,?_⟩
   .rcases wH k p bI (s x)with⟨aD,gs,aN,e⟩|⟨aD,gs,aN,e⟩|⟨sz,xs,cL,aN,e⟩|⟨y,z,aN,e⟩|e<;>rw[e]<;>first|rfl|exact g1
   .refine Dm an.1 al g2 (λ_ vs e=>(ae vs e).elim) hw
   .have mono:∀b,(e5 b\/Sn b)->(S x b\/Sn b):=λb ab=>ab.imp (bX b) id;rcases eG with⟨l,r,aN,aU,aR⟩|⟨b,cur,ty,fr,l,r,aN,aU,aR,bW,cM,cg⟩
    .rw[aN];exact aA.mono (λ_ h=>h) _ _ _ _ mono (aR w bI dp Sn (λ_ _=>rfl) (λ_ _=>rfl) hw aE (λb ab ar=>ca x b ab (bX b ar)))
    .refine aA.mono (λ_ h=>h) _ _ _ _ mono (cg w bI dp Sn (λ_ _=>rfl) (λ_ _ _=>rfl) ?_ hw aE (λb ab ar=>ca x b ab (bX b ar)));rw[aR,<-cM]
 have:=h.Sm (t:=x) main.1 main.2.1 main.2.2 (by rintro b (ab|ab);exact h.fN x b ab;exact eB b ab) (by rintro b (ab|ab);exact h.hf x b ab;exact bG b ab)
  (by rintro u b dQ (ab|ab);exact λhu=>h.gE u x b dQ hu ab;exact ca u b ab) (by rintro b (ab|ab);exact h.eS x b ab;exact bb b ab)
 rwa [e_]at this
end
mutual
def I.cZ:I->Bool
 | .slice _=>false
 | .ref _=>false
 | .fn _ _=>false
 | .h _ _=>false
 | .ax _ _=>false
 | .ab _ _=>false
 | .aj _ xs=>I.ht xs
 | .aM d=>d.cZ
 | .agg aD=>I.ht aD
 | .tuple aD=>I.ht aD
 |_=>true
def I.ht:axi->Bool
 |[]=>true
 |d::ds=>d.cZ&&I.ht ds
end
mutual
theorem aA.cZ {w:World} {F cl:Nat->Prop}:∀(d:I) (cs:axg) (S:Nat->Prop),d.cZ=true->aA w F d cs S->aA w cl d cs S
 | .hole,_,_,_,h=>h
 | .bool _,_,_,_,h=>h
 | .gw,_,_,_,h=>h
 | .int _ _,_,_,_,h=>h
 | .str _,_,_,_,h=>h
 | .en,_,_,_,h=>h
 | .a8,_,_,_,h=>h
 | .slice xs,cs,S,aS,h=>by simp[I.cZ]at aS
 | .ref d,cs,S,aS,h=>by simp[I.cZ]at aS
 | .aj sz xs,cs,S,aS,h=>by
   rw[aA]at h⊢;rcases h with h|⟨b,cap,cur,e,fr,aX,ad,ae,aI,bc,bY,dt,dv,hN,j3,kZ,oj⟩
   .exact .inl h
   .exact .inr ⟨b,cap,cur,e,fr,aX,ad,ae,aI,bc,bY,dt,dv,hN,bx.cZ xs _ _ aS j3,kZ,oj⟩
 | .aM d,cs,S,aS,h=>by
   rw[aA]at h⊢;obtain⟨b,cur,e,fr,aX,ad,ae,aI,bc,bY,dt,dv⟩:=h;exact⟨b,cur,e,fr,aX,ad,ae,aI,bc,aA.cZ d _ _ aS bY,dt,dv⟩
 | .agg aD,cs,S,aS,h=>by rw[aA]at h⊢;exact bx.cZ aD _ _ aS h
 | .tuple aD,cs,S,aS,h=>by rw[aA]at h⊢;exact bx.cZ aD _ _ aS h
 | .fn _ _,_,_,aS,h=>by simp[I.cZ]at aS
 | .h _ _,_,_,_,h=>h
 | .ax _ _,_,_,_,h=>h
 | .ab _ _,_,_,_,h=>h
 | .b4 _,_,_,_,h=>h
theorem bx.cZ {w:World} {F cl:Nat->Prop}:∀(ds:axi) (cs:axg) (S:Nat->Prop),I.ht ds=true->bx w F ds cs S->bx w cl ds cs S
 |[],_,_,_,h=>h
 |d::ds,cs,S,aS,h=>by
  simp only[I.ht,Bool.and_eq_true]at aS;rw[bx]at h⊢;obtain⟨cz,c2,cA,eI,ad,ae,aI,bc,bY,dt⟩:=h;exact⟨cz,c2,cA,eI,ad,aA.cZ d _ _ aS.1 ae,bx.cZ ds _ _ aS.2 aI,bc,bY,dt⟩
end
theorem TG:∀(q:axd) (av d e:I),I.sub q av=some d->I.sub q (I.put q e av)=some e:=by
 intro q;induction q with
 |nil=>intro av d e _;simp[I.put,I.sub]
 |cons k q ih=>
  intro av d e h;cases av with
  |agg aD=>
   simp only[I.sub]at h;split at h
   .rename_i x an;have au:k<aD.length:=(List.getElem?_eq_some_iff.1 an).1;simp only[I.put,an,I.sub,getElem?_set_self au];exact ih _ _ _ h
   .cases h
  |tuple aD=>
   simp only[I.sub]at h;split at h
   .rename_i x an;have au:k<aD.length:=(List.getElem?_eq_some_iff.1 an).1;simp only[I.put,an,I.sub,getElem?_set_self au];exact ih _ _ _ h
   .cases h
  |aj sz aD=>
   simp only[I.sub]at h;split at h
   .rename_i x an;have au:k<aD.length:=(List.getElem?_eq_some_iff.1 an).1;simp only[I.put,an,I.sub,getElem?_set_self au];exact ih _ _ _ h
   .cases h
  |aM x=>
   cases k with
   |zero=>simp only[I.sub]at h;simp only[I.put,I.sub];exact ih _ _ _ h
   |succ k=>simp[I.sub]at h
  |_=>simp[I.sub]at h
structure dm where
 a:I
 g:Bool
 d:I
 o:I
def I.own:I->Bool
 | .aj _ _=>true
 | .aM _=>true
 |_=>false
def I.hB:I->Bool
 | .aj _ _=>true
 | .aM _=>true
 | .b4 _=>true
 | .agg aD=> !I.hz aD
 |_=>false
def wU (d o:I):Bool:=match d,o with
 | .agg a,.agg b=>I.eY a==I.eY b
 | .agg _,_=>false
 |_,.agg _=>false
 |_,_=>true
theorem wV {d:I} (h:d.hB=true):d.plain=false/\d.tree=true/\∀vs,d≠.tuple vs:=by
 cases d<;>simp[I.hB]at h<;>first|exact⟨rfl,rfl,λvs e=>by cases e⟩|exact⟨by simp only[I.plain];exact h,rfl,λvs e=>by cases e⟩
theorem acX {d o:I} (h:d.hB=true) (bH:o.hB=true) (aC:wU d o=true):o.wd=d.wd/\(∀v,eM d v->eM o v)/\∀v,jM d.dN v->jM o v:=by
 cases d<;>simp[I.hB]at h<;>cases o<;>simp[I.hB]at bH<;>simp[wU]at aC<;>first
  |exact⟨rfl,λ_ h=>h,λ_ h=>h⟩
  |exact⟨by simp only[I.wd];exact aC.symm,λ_ h=>h,λ_ h=>h⟩
def dm.ok (s:ak) (p:dm):Prop:=
 if p.g then(match p.a with| .h x q=>I.sub q (s x)=some p.d/\p.d.hB=true/\(p.o= .hole\/(p.o.hB=true/\wU p.d p.o=true))|_=>False)
 else view s p.a=some p.d
def j9:List dm->Bool
 |[]=>true
 |p::r=>(r.all λda=> !(p.g||da.g)||(p.a.aa.all λu=> !da.a.aa.contains u))&&j9 r
def dm.take (s:ak) (p:dm):ak:=
 if p.g then(match p.a with| .h x q=>et (iW x s) x (I.put q p.d.dN (s x))|_=>s)else s
def dm.kv (s:ak) (p:dm):ak:=
 if p.g then(match p.a,p.o with|_,.hole=>s| .h x q,o=>et (om x s) x (I.put q o (s x))|_,_=>s)else s
def gn (s:ak) (ps:List dm):ak:=ps.foldl dm.take s
def jO (s:ak) (ps:List dm):ak:=ps.foldl dm.kv s
section
variable {w0 w aL:World} {F0 X F Fc:Nat->Prop} {S:Nat->Nat->Prop} {s aH:ak} {aG mB:Nat->Value}
def acY (w:World) (F:Nat->Prop) (s1:ak) (aG:Nat->Value) (p:dm) (v:Value) (Sn:Nat->Prop):Prop:=
 ∃x q a0,p.a= .h x q/\I.sub q (s1 x)=some p.d.dN/\er w q (s1 x) (c8 (aG x)) none=some (p.d.dN,c8 v,a0)/\(s1 x).aa=[]/\(q=[]->eM p.d (aG x))/\(q≠[]->(s1 x).tree=true)/\
  eM p.d v/\aA w F p.d (c8 v) Sn
theorem acZ {p:dm} {x:Nat} (h:(s x).aa=[]) (ax:p.g=true->x∉p.a.aa):dm.take s p x=s x:=by
 unfold dm.take;split
 .rename_i hg;cases bl:p.a with
  |h y q=>
   have:x≠y:=by
    have:=ax hg;rw[bl]at this;simpa [I.aa]using this
   simp only;rw[lp _ _ this];exact DO _ (by rw[h];simp)
  |_=>rfl
 .rfl
theorem Me:∀{ps:List dm} {s:ak} {x:Nat},(s x).aa=[]->(∀p∈ps,p.g=true->x∉p.a.aa)->gn s ps x=s x:=by
 intro ps;induction ps with
 |nil=>intros;rfl
 |cons p ps ih=>
  intro s x h ax;have e:=acZ (s:=s) (p:=p) h (ax p (by simp));show gn (dm.take s p) ps x=s x;rw[ih (by rw[e];exact h) (λda fj=>ax da (by simp[fj])),e]
theorem Hy {d:I} (h:d.own=true):d.plain=false/\d.tree=true/\d.dN= .hole/\d.one=true/\d.wd=1/\(∀v,eM d v↔Value.hE v=true):=by
 cases d<;>simp[I.own]at h<;>exact⟨rfl,rfl,rfl,rfl,rfl,λv=>Iff.rfl⟩
theorem ac0:∀(ps:List dm) (vs:axg) (s:ak) (S:Nat->Nat->Prop),b8 w0 F0 X F S s aG w->ps.length=vs.length->
  (∀(i:Nat) (p:dm) (v:Value),ps[i]? =some p->vs[i]? =some v->p.a.plain=true/\aO w F s aG p.a v (λ_=>False)/\(p.g=true->p.ok s))->j9 ps=true->
  ∃(Sn cA:Nat->Nat->Prop),b8 w0 F0 X F cA (gn s ps) aG w/\(∀u b,cA u b->S u b)/\
   (∀(i:Nat) (p:dm) (v:Value),ps[i]? =some p->vs[i]? =some v->p.g=true->acY w F (gn s ps) aG p v (Sn i))/\
   (∀i b,Sn i b->∃p,ps[i]? =some p/\p.g=true)/\
   (∀i b,Sn i b->∃u,S u b)/\(∀i u b,Sn i b->¬cA u b)/\(∀i j b,i≠j->Sn i b->¬Sn j b)/\
   (∀(bI:I) (hi:Value) (aX:Nat->Prop),(∀p∈ps,p.g=true->∀u∈p.a.aa,u∉bI.aa)->aO w F s aG bI hi aX->aO w F (gn s ps) aG bI hi aX):=by
 intro ps;induction ps with
 |nil=>
  intro vs s S h aC _ _;exact⟨λ_ _=>False,S,h,λ_ _ h=>h,λi p v ax=>by simp at ax,λ_ _ h=>h.elim,λ_ _ h=>h.elim,λ_ _ _ h=>h.elim,λ_ _ _ _ h=>h.elim,λ_ _ _ _ h=>h⟩
 |cons p ps ih=>
  intro vs s S h aC DJ nx;cases vs with
  |nil=>simp at aC
  |cons v vs=>
   simp only[length_cons,Nat.add_right_cancel_iff]at aC;simp only[j9,Bool.and_eq_true,List.all_eq_true,Bool.or_eq_true,Bool.not_eq_true']at nx;obtain⟨r8,qS⟩:=nx;have AJ:∀da∈ps,(p.g=true\/da.g=true)->∀u∈p.a.aa,u∉da.a.aa:=by
    intro da fj hg u hu;rcases r8 da fj with e|e
    .rcases hg with hg|hg<;>simp[hg]at e
    .simpa using e u hu
   obtain⟨f1,f2,f3⟩:=DJ 0 p v rfl rfl;cases hg:p.g with
   |false=>
    have ga:dm.take s p=s:=by simp[dm.take,hg]
    obtain⟨Sn,cA,g1,g2,g3,g4,g5,g6,g7,g8⟩:=ih vs s S h aC (λi da hi ax aE=>DJ (i+1) da hi (by simpa using ax) (by simpa using aE)) qS;have aN:gn s (p::ps)=gn s ps:=by show gn (dm.take s p) ps=_;rw[ga]
    rw[aN];refine⟨λi=>match i with|0=>λ_=>False|i+1=>Sn i,cA,g1,g2,?_,?_,?_,?_,?_,λbI hi aX al=>g8 bI hi aX λda fj=>al da (by simp[fj])⟩
    .intro i da hi ax aE iy;cases i with
     |zero=>simp at ax;subst ax;rw[hg]at iy;cases iy
     |succ i=>exact g3 i da hi (by simpa using ax) (by simpa using aE) iy
    .intro i b ab;cases i with
     |zero=>exact ab.elim
     |succ i=>simpa using g4 i b ab
    .intro i b ab;cases i with
     |zero=>exact ab.elim
     |succ i=>exact g5 i b ab
    .intro i u b ab;cases i with
     |zero=>exact ab.elim
     |succ i=>exact g6 i u b ab
    .intro i j b dQ ag bE;cases i with
     |zero=>exact ag.elim
     |succ i=>
      cases j with
      |zero=>exact bE.elim
      |succ j=>exact g7 i j b (by omega) ag bE
   |true=>
    have gG:=f3 hg;simp only[dm.ok,hg,if_true]at gG;split at gG
    .rename_i x q bl;obtain⟨fS,Mf,yc⟩:=gG;obtain⟨qa,nz,r9⟩:=wV Mf;have u4:dw s p.a=some (p.d,et (iW x s) x (I.put q p.d.dN (s x))):=by
      rw[bl];simp only[dw,fS,qa];rfl
     obtain⟨cA,t1,t2,t3,ac1,t4,t5,t6,t7,t8,t9,t10,t11⟩:=rW h f1 f2 u4;have ga:dm.take s p=et (iW x s) x (I.put q p.d.dN (s x)):=by simp[dm.take,hg,bl]
     have tA:∀da∈ps,x∉da.a.aa:=λda fj=>AJ da fj (.inl hg) x (by rw[bl];simp[I.aa]);have Mg:dm.take s p x=I.put q p.d.dN (s x):=by rw[ga,oP]
     have TH:(dm.take s p x).aa=[]:=by
      rw[Mg];exact AG q _ _ _ fS (.inl qa) (λ_=>by cases al:p.d<;>first|rfl|(rw[al]at Mf;simp[I.hB]at Mf))
     obtain⟨Sn,eI,g1,g2,g3,g4,g5,g6,g7,g8⟩:=ih vs (dm.take s p) cA (by rw[ga];exact t1) aC (by
      intro i da hi ax aE;obtain⟨bX,cN,dH⟩:=DJ (i+1) da hi (by simpa using ax) (by simpa using aE);have hm:da∈ps:=mem_of_getElem? ax;refine⟨bX,?_,?_⟩
      .have:=t11 _ _ _ cN;rw[bl]at this;rw[ga];simp only[I.owner,na]at this
       rwa [DO _ (tA da hm)]at this
      .intro iy;have:=dH iy;simp only[dm.ok,iy,if_true]at this⊢;split at this
       .rename_i y lq yz;have dQ:y≠x:=λe=>tA da hm (by rw[yz,e];simp[I.aa]);rw[ga,lp _ _ dQ];have aZ:=jf this.1 (.inl (wV this.2.1).1);simp only[iW,Ll aZ];exact this
       .exact this.elim) qS
     have aN:gn s (p::ps)=gn (dm.take s p) ps:=rfl;have wW:gn (dm.take s p) ps x=I.put q p.d.dN (s x):=by
      rw[Me TH (λda fj _=>tA da fj),Mg]
     rw[aN];refine⟨λi=>match i with|0=>ac1|i+1=>Sn i,eI,g1,λu b ab=>t9 u b (g2 u b ab),?_,?_,?_,?_,?_,?_⟩
     rotate_left 5
     .intro bI hi aX al k5;refine g8 bI hi aX (λda fj=>al da (by simp[fj])) ?_;have:=t11 _ _ _ k5;rw[bl]at this;rw[ga];simp only[I.owner,na]at this
      rwa [DO _ (al p (by simp) hg x (by rw[bl];simp[I.aa]))]at this
     .intro i da hi ax aE iy;cases i with
      |zero=>
       simp at ax aE;subst ax aE;have Hz:=f2;rw[bl,aO]at Hz;obtain⟨dp,a0,cz,c2,c3⟩:=Hz _ fS qa;refine⟨x,q,a0,bl,?_,?_,?_,?_,?_,t3,t4⟩
       .rw[wW];exact TG q _ _ _ fS
       .rw[wW,c2];exact acV w q _ _ _ _ _ _ _ fS (I.wG _) cz
       .rw[wW,<-Mg];exact TH
       .intro cx;subst cx;simp only[I.sub,Option.some.injEq]at fS;have:=(aO.dk (by rw[fS];exact nz)).1 (h.ew x);rw[fS]at this;exact this.1
       .intro cx;have aZ:=jf fS (.inl qa);rw[wW];cases q with
        |nil=>exact(cx rfl).elim
        |cons k q=>rcases wH k q p.d.dN (s x)with⟨aD,gs,aN,e⟩|⟨aD,gs,aN,e⟩|⟨sz,xs,cL,aN,e⟩|⟨y,z,aN,e⟩|e<;>rw[e]<;>first|rfl|exact aZ
      |succ i=>exact g3 i da hi (by simpa using ax) (by simpa using aE) iy
     .intro i b ab;cases i with
      |zero=>exact⟨p,rfl,hg⟩
      |succ i=>simpa using g4 i b ab
     .intro i b ab;cases i with
      |zero=>exact t10 b ab
      |succ i=>obtain⟨u,hu⟩:=g5 i b ab;exact⟨u,t9 u b hu⟩
     .intro i u b ab;cases i with
      |zero=>exact λhu=>t7 u b ab (g2 u b hu)
      |succ i=>exact g6 i u b ab
     .intro i j b dQ ag bE;cases i with
      |zero=>
       cases j with
       |zero=>exact dQ rfl
       |succ j=>obtain⟨u,hu⟩:=g5 j b bE;exact t7 u b ag hu
      |succ i=>
       cases j with
       |zero=>obtain⟨u,hu⟩:=g5 i b ag;exact t7 u b bE hu
       |succ j=>exact g7 i j b (by omega) ag bE
    .exact gG.elim
end
def gp (l:axi):ak:=λi=>l.getD i .hole
def h3 (l:axg):Nat->Value:=λi=>l.getD i undef
def r_ (P:Program) (f:FuncId) (args:Array Value) (w:World) (jP:Value->World->Prop):Prop:=
 ((callFunc f args).run P w= .ok (.enter f args) w/\Calls P f args w (λe aL=>∃v,e= .returned v/\jP v aL))\/
 ∃v aL,(callFunc f args).run P w= .ok (.value v) aL/\jP v aL
theorem r_.mono {P:Program} {f:FuncId} {args:Array Value} {w:World} {jP TI:Value->World->Prop} (h:r_ P f args w jP) (aQ:∀v aL,jP v aL->TI v aL):r_ P f args w TI:=by
 rcases h with⟨ad,ae⟩|⟨v,aL,ad,ae⟩
 .exact .inl ⟨ad,Calls.mono ae λe aL ⟨v,e,h⟩=>⟨v,e,aQ v aL h⟩⟩
 .exact .inr ⟨v,aL,ad,aQ v aL ae⟩
def aV (C:cj) (f:FuncId) (as:axi) (r:I) (outs:axi):Prop:=
 ∀(w:World) (F X:Nat->Prop) (S:Nat->Nat->Prop) (vs:axg),vs.length=as.length->b8 w F X F S (gp as) (h3 vs) w->
  r_ C.P f vs.toArray w λv aL=>∃cl aX,b8 w F X cl aX (gp (r::outs)) (h3 (v::vs)) aL
def I.res:I->Bool
 | .h _ _=>false
 | .ax _ _=>false
 | .ab _ _=>false
 | .fn _ _=>false
 |_=>true
theorem TJ {d:I} (h:d.tree=true):d.aa=[]:=by cases d<;>first|rfl|(simp[I.tree]at h)
mutual
theorem Mh {s aH:ak}:∀(a:I) (d:I),(∀u∈a.aa,(s u).tree=true->aH u=s u)->view s a=some d->view aH a=some d
 | .h x q,d,hu,h=>by
   have aZ:(s x).tree=true:=by
    simp only[view]at h;split at h
    .rename_i e fS;cases e<;>simp only at h<;>first
      |(cases h;done)
      |(split at h
        .cases h
        .rename_i ax;exact jf fS (.inl (by simpa using ax)))
    .cases h
   simp only[view]at h⊢;rw[hu x (by simp[I.aa]) aZ];exact h
 | .ax x q,d,hu,h=>by
   have aZ:(s x).tree=true:=by
    simp only[view]at h;split at h
    .rename_i ar;split at h
     .rename_i e fS;exact jf fS (.inr ar)
     .cases h
    .cases h
   simp only[view]at h⊢;rw[hu x (by simp[I.aa]) aZ];exact h
 | .ab x q,d,hu,h=>by simp[view]at h
 | .fn f cap,d,hu,h=>by
   simp only[view,Option.map_eq_some_iff]at h⊢;obtain⟨ds,ad,ae⟩:=h;exact⟨ds,TK cap ds (by simpa [I.aa]using hu) ad,ae⟩
 | .hole,d,hu,h=>h
 | .bool _,d,hu,h=>h
 | .gw,d,hu,h=>h
 | .int _ _,d,hu,h=>h
 | .str _,d,hu,h=>h
 | .en,d,hu,h=>h
 | .a8,d,hu,h=>h
 | .slice _,d,hu,h=>h
 | .aj _ _,d,hu,h=>h
 | .ref _,d,hu,h=>h
 | .aM _,d,hu,h=>h
 | .agg _,d,hu,h=>h
 | .tuple _,d,hu,h=>h
 | .b4 _,d,hu,h=>h
theorem TK {s aH:ak}:∀(as:axi) (ds:axi),(∀u∈I.fo as,(s u).tree=true->aH u=s u)->views s as=some ds->views aH as=some ds
 |[],ds,hu,h=>h
 |a::as,ds,hu,h=>by
  simp only[I.fo,mem_append]at hu;simp only[views]at h⊢;split at h
  .rename_i x y ad ae;rw[Mh a x (λu hm=>hu u (.inl hm)) ad,TK as y (λu hm=>hu u (.inr hm)) ae];exact h
  .cases h
end
section
variable {C:cj} {w0 w aL:World} {F0 X F Fc:Nat->Prop} {S:Nat->Nat->Prop} {s aH:ak} {aG mB:Nat->Value}
def ac2 (w:World) (F:Nat->Prop) (s:ak) (aG:Nat->Value) (p:dm) (v:Value) (qT:Nat->Prop):Prop:=
 p.g=true->p.o= .hole\/∃x q a0 d0,p.a= .h x q/\I.sub q (s x)=some d0/\er w q (s x) (c8 (aG x)) none=some (d0,c8 v,a0)/\(s x).aa=[]/\
  (q=[]->eM p.o (aG x))/\(q≠[]->(s x).tree=true)/\p.o.hB=true/\aA w F p.o (c8 v) qT/\p.o.wd=d0.wd/\∀v,jM d0 v->jM p.o v
theorem ac3:∀(ps:List dm) (vs:axg) (s:ak) (S qT:Nat->Nat->Prop),b8 w0 F0 X F S s aG w->ps.length=vs.length->
  (∀(i:Nat) (p:dm) (v:Value),ps[i]? =some p->vs[i]? =some v->ac2 w F s aG p v (qT i))->
  (∀i b,qT i b->b<w.heap.size/\¬F b/\(X b\/w0.heap.size<=b)/\∀u,¬S u b)->(∀i j b,i≠j->qT i b->¬qT j b)->j9 ps=true->
  ∃eI,b8 w0 F0 X F eI (jO s ps) aG w/\∀u b,eI u b->S u b\/∃i,qT i b:=by
 intro ps;induction ps with
 |nil=>intro vs s S qT h _ _ _ _ _;exact⟨S,h,λu b ab=>.inl ab⟩
 |cons p ps ih=>
  intro vs s S qT h aC Mi ab al nx;cases vs with
  |nil=>simp at aC
  |cons v vs=>
   simp only[length_cons,Nat.add_right_cancel_iff]at aC;simp only[j9,Bool.and_eq_true,List.all_eq_true,Bool.or_eq_true,Bool.not_eq_true']at nx;obtain⟨r8,qS⟩:=nx;have AJ:∀da∈ps,(p.g=true\/da.g=true)->∀u∈p.a.aa,u∉da.a.aa:=by
    intro da fj hg u hu;rcases r8 da fj with e|e
    .rcases hg with hg|hg<;>simp[hg]at e
    .simpa using e u hu
   have skip:dm.kv s p=s->∃eI,b8 w0 F0 X F eI (jO s (p::ps)) aG w/\∀u b,eI u b->S u b\/∃i,qT i b:=by
    intro ga;obtain⟨eI,g1,g2⟩:=ih vs s S (λi=>qT (i+1)) h aC (λi da hi ax aE=>Mi (i+1) da hi (by simpa using ax) (by simpa using aE)) (λi b h=>ab (i+1) b h)
     (λi j b dQ=>al (i+1) (j+1) b (by omega)) qS
    refine⟨eI,?_,λu b hu=>(g2 u b hu).imp id λ⟨i,ag⟩=>⟨i+1,ag⟩⟩;show b8 _ _ _ _ _ (jO (dm.kv s p) ps) _ _;rw[ga];exact g1
   cases hg:p.g with
   |false=>exact skip (by simp[dm.kv,hg])
   |true=>
    rcases Mi 0 p v rfl rfl hg with bH|⟨x,q,a0,d0,bl,cz,c2,c3,c4,c5,fP,Mj,h4,c9⟩
    .exact skip (by simp only[dm.kv,hg,bH,if_true])
    .obtain⟨qa,nz,wX⟩:=wV fP;have ga:dm.kv s p=et (om x s) x (I.put q p.o (s x)):=by
      simp only[dm.kv,hg,if_true,bl];cases ac4:p.o<;>first|rfl|(rw[ac4]at fP;simp[I.hB]at fP)
     have step:=h.kv (x:=x) (q:=q) (bI:=p.o) cz c2 wX (λcx=>⟨nz,c4 cx⟩) (λk r cx=>⟨c5 (by rw[cx];simp),c9⟩) h4 Mj
      (λb h=>(ab 0 b h).1) (λb h=>(ab 0 b h).2.1) (λu b h=>(ab 0 b h).2.2.2 u) (λb h=>(ab 0 b h).2.2.1)
     rw[<-ga]at step;obtain⟨eI,g1,g2⟩:=ih vs (dm.kv s p) _ (λi=>qT (i+1)) step aC (by
      intro i da hi ax aE iy;have hm:da∈ps:=mem_of_getElem? ax;rcases Mi (i+1) da hi (by simpa using ax) (by simpa using aE) iy with bH|⟨y,lq,J,d1,bX,cN,dH,dT,eG,eg,kt,fB,oX⟩
      .exact .inl bH
      .have dQ:y≠x:=λe=>AJ da hm (.inl hg) x (by rw[bl];simp[I.aa]) (by rw[bX,e];simp[I.aa]);have wI:dm.kv s p y=s y:=by
        rw[ga,lp _ _ dQ];exact L3 _ (by rw[dT];simp)
       exact .inr ⟨y,lq,J,d1,bX,by rw[wI];exact cN,by rw[wI];exact dH,by rw[wI];exact dT,eG,by rw[wI];exact eg,kt,fB,oX⟩)
      (by
       intro i b ag;obtain⟨hs,fT,fU,bU⟩:=ab (i+1) b ag;refine⟨hs,fT,fU,λu hu=>?_⟩;simp only[hh]at hu;split at hu
       .rcases hu with hu|hu
        .exact bU _ hu
        .exact al 0 (i+1) b (by omega) hu ag
       .exact bU _ hu)
      (λi j b dQ=>al (i+1) (j+1) b (by omega)) qS
     refine⟨eI,g1,λu b hu=>?_⟩;rcases g2 u b hu with hu|⟨i,ag⟩
     .simp only[hh]at hu;split at hu
      .rename_i e;subst e;exact hu.imp id λh=>⟨0,h⟩
      .exact .inl hu
     .exact .inr ⟨i+1,ag⟩
def mG (ps:List dm):Bool:=ps.any λp=> !p.g&& !p.a.aa.isEmpty
theorem TL (h:b8 w0 F0 X F S s aG w) {ps:List dm} {vs:axg} {f:FuncId} {r:I} (aC:ps.length=vs.length)
  (k5:∀(i:Nat) (p:dm) (v:Value),ps[i]? =some p->vs[i]? =some v->p.a.plain=true/\aO w F s aG p.a v (λ_=>False))
  (gG:∀p∈ps,p.ok s) (nx:j9 ps=true) (bF:∀(Fc o0:Nat->Prop) (e5:Nat->Nat->Prop),(∀b,F b->Fc b)->(∀b,o0 b->∃u,S u b)->b8 w Fc o0 Fc e5 (gp (ps.map (·.d))) (h3 vs) w->
   r_ C.P f vs.toArray w λv aL=>∃cl aX,b8 w Fc o0 cl aX (gp (r::ps.map (·.o))) (h3 (v::vs)) aL) (aQ:r.res=true)
  (aS:mG ps=true->r.cZ=true/\∀p∈ps,p.o.cZ=true):
  r_ C.P f vs.toArray w λv aL=>∃cl aX,b8 w0 F0 X cl aX (jO (gn s ps) ps) aG aL/\nQ w0 X cl aX (jO (gn s ps) ps) aG aL r v/\∀b,F b->cl b/\aL.heap[b]? =w.heap[b]? :=by
 obtain⟨Sn,cA,g1,g2,g3,g4,g5,g6,g7,g8⟩:=ac0 ps vs s S h aC (λi p v ax aE=>⟨(k5 i p v ax aE).1,(k5 i p v ax aE).2,λ_=>gG p (mem_of_getElem? ax)⟩) nx;have apart:∀(i j:Nat) (p da:dm),ps[i]? =some p->ps[j]? =some da->i≠j->(p.g=true\/da.g=true)->∀u∈p.a.aa,u∉da.a.aa:=by
  clear k5 gG bF aS g1 g3 g4 g8 aC;induction ps with
  |nil=>intro i j p da ax;simp at ax
  |cons iU ps ih=>
   simp only[j9,Bool.and_eq_true,List.all_eq_true,Bool.or_eq_true,Bool.not_eq_true']at nx;obtain⟨r8,qS⟩:=nx;have AJ:∀da∈ps,(iU.g=true\/da.g=true)->∀u∈iU.a.aa,u∉da.a.aa:=by
    intro da fj hg u hu;rcases r8 da fj with e|e
    .rcases hg with hg|hg<;>simp[hg]at e
    .simpa using e u hu
   intro i j p da ax fj dQ hg u hu;cases i with
   |zero=>
    simp at ax;subst ax;cases j with
    |zero=>exact(dQ rfl).elim
    |succ j=>exact AJ da (mem_of_getElem? (by simpa using fj)) hg u hu
   |succ i=>
    cases j with
    |zero=>
     simp at fj;subst fj;exact λDQ=>AJ p (mem_of_getElem? (by simpa using ax)) hg.symm u DQ hu
    |succ j=>exact ih qS i j p da (by simpa using ax) (by simpa using fj) (by omega) hg u hu
 let Fc:Nat->Prop:=λb=>F b\/(mG ps=true/\∃u,cA u b)
 let o0:Nat->Prop:=λb=>∃i,Sn i b
 have Mk:∀b,F b->¬o0 b:=λb bG ⟨i,ag⟩=>by obtain⟨u,hu⟩:=g5 i b ag;exact h.hf u b hu bG
 have DR:∀u b,cA u b->¬o0 b:=λu b hu ⟨i,ag⟩=>g6 i u b ag hu;have aT:∀b,o0 b->(X b\/w0.heap.size<=b)/\b<w.heap.size:=λb ⟨i,ag⟩=>by obtain⟨u,hu⟩:=g5 i b ag;exact⟨h.eS u b hu,h.fN u b hu⟩
 have pre:b8 w Fc o0 Fc Sn (gp (ps.map (·.d))) (h3 vs) w:=by
  refine⟨λ_ h=>h,λ_ h=>.inl h,?_,λi b ag=>(aT b ⟨i,ag⟩).2,?_,λi j b dQ=>g7 i j b dQ,λi b ag=>.inl ⟨i,ag⟩,?_,λ_ _ _=>rfl,Nat.le_refl _,rfl,rfl,Out.refl _,h.gS.next h.size h.old λb ab=>(aT b ab).1⟩
  .rintro b (ab|⟨_,u,hu⟩)
   .exact h.gN b ab
   .exact g1.fN u b hu
  .rintro i b ag (ab|⟨_,u,hu⟩)
   .exact Mk b ab ⟨i,ag⟩
   .exact g6 i u b ag hu
  .intro t;cases ax:ps[t]? with
   |none=>
    have:gp (ps.map (·.d)) t= .hole:=by simp[gp,List.getD,ax]
    rw[this,aO];trivial
   |some p=>
    have eB:t<vs.length:=by rw[<-aC];exact(List.getElem?_eq_some_iff.1 ax).1
    have aE:vs[t]? =some vs[t]:=getElem?_eq_getElem eB;have aN:gp (ps.map (·.d)) t=p.d:=by simp[gp,List.getD,ax]
    have aU:h3 vs t=vs[t]:=by simp[h3,List.getD,aE]
    rw[aN,aU];have hm:p∈ps:=mem_of_getElem? ax;have au:=gG p hm;cases hg:p.g with
    |true=>
     obtain⟨x,q,a0,bX,cN,dH,dT,eG,eg,kt,fB⟩:=g3 t p _ ax aE hg;simp only[dm.ok,hg,if_true,bX]at au;exact(aO.dk (wV au.2.1).2.1).2 ⟨kt,aA.mono (λb ab=>.inl ab) _ _ _ _ (λ_ h=>h) fB⟩
    |false=>
     simp only[dm.ok,hg]at au;obtain⟨f1,f2⟩:=k5 t p _ ax aE;have TM:∀da∈ps,da.g=true->∀u∈da.a.aa,u∉p.a.aa:=by
      intro da fj iy u hu;obtain⟨j,bE⟩:=getElem?_of_mem fj;refine apart j t da p bE ax (λe=>?_) (.inl iy) u hu;subst e;rw[ax]at bE;simp only[Option.some.injEq]at bE;rw[bE,iy]at hg;cases hg
     have Hz:=g8 _ _ _ TM f2;have nv:view (gn s ps) p.a=some p.d:=Mh _ _ (λu hu aZ=>Me (TJ aZ) (λda fj iy DQ=>TM da fj iy u DQ hu)) (by simpa using au);refine aO.nothing (acU f1 nv) ((acW g1 (Fc:=Fc) (λb ab=>.inl ab) (SizeOf.sizeOf p.a)).1 p.a _ p.d (Nat.le_refl _) ?_ nv Hz);intro u hu b ab;refine .inr ⟨?_,u,ab⟩;simp only[mG,List.any_eq_true];refine⟨p,hm,?_⟩;cases lQ:p.a.aa with
     |nil=>rw[lQ]at hu;cases hu
     |cons _ _=>simp[hg]
 refine r_.mono (bF Fc o0 Sn (λb ab=>.inl ab) (λb ⟨i,ag⟩=>g5 i b ag) pre) ?_;rintro v aL ⟨cl,aX,ar⟩;have keep:∀b,b<w.heap.size->¬o0 b->aL.heap[b]? =w.heap[b]? :=ar.old;let sa:Nat->Prop:=λb=>if mG ps=true then F b else cl b
 have TN:∀b,F b->cl b:=λb ab=>ar.iI b (.inl ab);have AK:∀b,F b->sa b:=λb ab=>by
  simp only[sa];split
  .exact ab
  .exact TN b ab
 have yA:∀b,sa b->cl b:=λb ab=>by
  simp only[sa]at ab;split at ab
  .exact TN b ab
  .exact ab
 have TO:∀b,sa b->F b\/o0 b\/w.heap.size<=b:=λb ab=>by
  simp only[sa]at ab;split at ab
  .exact .inl ab
  .rename_i wQ;rcases ar.jg b ab with(ab|⟨ad,_⟩)|ab|ab
   .exact .inl ab
   .exact(wQ ad).elim
   .exact .inr (.inl ab)
   .exact .inr (.inr ab)
 have mid:b8 w0 F0 X sa cA (gn s ps) aG aL:=by
  refine⟨λb ab=>AK b (g1.iI b ab),?_,λb ab=>ar.gN b (yA b ab),λt b ab=>Nat.lt_of_lt_of_le (g1.fN t b ab) ar.size,?_,g1.gE,g1.eS,?_,?_,Nat.le_trans g1.size ar.size,ar.os.trans g1.os,ar.tape.trans g1.tape,ar.output.trans g1.output,g1.gS⟩
  .intro b ab;rcases TO b ab with ab|ab|ab
   .exact g1.jg b ab
   .rcases(aT b ab).1 with h|h
    .exact .inr (.inl h)
    .exact .inr (.inr h)
   .exact .inr (.inr (Nat.le_trans g1.size ab))
  .intro t b aZ ab;rcases TO b ab with ab|ab|ab
   .exact g1.hf t b aZ ab
   .exact DR t b aZ ab
   .exact absurd (g1.fN t b aZ) (by omega)
  .intro t;exact aO.frame (Sx:=cA) (λb ab=>keep b (h.gN b ab) (Mk b ab)) AK (λx b ab=>keep b (g1.fN x b ab) (DR x b ab)) g1.ew _ _ _ (λb ab=>keep b (g1.fN t b ab) (DR t b ab)) (g1.ew t)
  .intro b ab mC;refine(keep b (Nat.lt_of_lt_of_le ab g1.size) λan=>?_).trans (g1.old b ab mC);rcases(aT b an).1 with h|h
   .exact mC h
   .omega
 have TP:∀(d:I) (cs:axg) (eS:Nat->Prop),(mG ps=true->d.cZ=true)->aA aL cl d cs eS->aA aL sa d cs eS:=by
  intro d cs eS ac5 hQ;by_cases hle:mG ps=true
  .exact aA.cZ d cs eS (ac5 hle) hQ
  .exact aA.mono (λb ab=>by simp only[sa];rw[if_neg hle];exact ab) _ _ _ _ (λ_ h=>h) hQ
 have bound:∀i b,aX i b->b<aL.heap.size/\¬sa b/\(X b\/w0.heap.size<=b)/\∀u,¬cA u b:=by
  intro i b ab;refine⟨ar.fN i b ab,λbG=>ar.hf i b ab (yA b bG),?_,λu hu=>?_⟩
  .rcases ar.eS i b ab with an|an
   .exact(aT b an).1
   .exact .inr (Nat.le_trans g1.size an)
  .rcases ar.eS i b ab with an|an
   .exact DR u b hu an
   .exact absurd (g1.fN u b hu) (by omega)
 obtain⟨eI,bX,cN⟩:=ac3 ps vs (gn s ps) cA (λi=>aX (i+1)) mid aC (by
  intro i p hi ax aE hg;have hm:p∈ps:=mem_of_getElem? ax;have au:=gG p hm;obtain⟨x,q,a0,aN,aU,aR,bW,cM,cg,b3,fu⟩:=g3 i p hi ax aE hg;simp only[dm.ok,hg,if_true,aN]at au;rcases au.2.2 with bH|bH
  .exact .inl bH
  .obtain⟨hP,l2,DS⟩:=acX au.2.1 bH.1 bH.2;refine .inr ⟨x,q,a0,p.d.dN,aN,aU,?_,bW,λcx=>l2 _ (cM cx),cg,bH.1,?_,hP.trans (I.wG _).symm,DS⟩
   .cases q with
    |nil=>simpa only[er]using aR
    |cons k q=>
     have aZ:=cg (by simp);rw[G9 (k::q) _ _ (cA x) none _ ((aO.dk aZ).1 (g1.ew x)).2 aU (λb ab=>keep b (g1.fN x b ab) (DR x b ab))];exact aR
   .have:=ar.ew (i+1);have j7:gp (r::ps.map (·.o)) (i+1)=p.o:=by simp[gp,List.getD,ax]
    have ic:h3 (v::vs) (i+1)=hi:=by simp[h3,List.getD,aE]
    rw[j7,ic]at this;exact TP _ _ _ (λhle=>(aS hle).2 p hm) ((aO.dk (wV bH.1).2.1).1 this).2)
  (λi b ab=>bound (i+1) b ab) (λi j b dQ=>ar.gE (i+1) (j+1) b (by omega)) nx
 refine⟨sa,eI,bX,?_,λb ab=>⟨AK b ab,keep b (h.gN b ab) (Mk b ab)⟩⟩;have bb:=ar.ew 0;have j7:gp (r::ps.map (·.o)) 0=r:=rfl;have ic:h3 (v::vs) 0=v:=rfl;rw[j7,ic]at bb;cases aZ:r.tree with
 |false=>
  cases r<;>first
   |(simp[I.tree]at aZ;done)
   |(simp[I.res]at aQ;done)
   |exact .inl ⟨rfl,by rw[aO];trivial⟩
 |true=>
  obtain⟨s1,s2⟩:=(aO.dk aZ).1 bb;have r7:=TP _ _ _ (λhle=>(aS hle).1) s2;refine .inr ⟨aZ,s1,aX 0,r7,λb ab=>(bound 0 b ab).1,λb ab=>(bound 0 b ab).2.1,λu b ab hu=>?_,λb ab=>(bound 0 b ab).2.2.1⟩;rcases cN u b hu with hu|⟨i,ag⟩
  .exact(bound 0 b ab).2.2.2 u hu
  .exact ar.gE 0 (i+1) b (by omega) ab ag
theorem ac6 (h:b8 w0 F0 X F S s aG w) {ps:List dm} {vs:axg} {f:FuncId} {r:I} (aC:ps.length=vs.length)
  (k5:∀(i:Nat) (p:dm) (v:Value),ps[i]? =some p->vs[i]? =some v->p.a.plain=true/\aO w F s aG p.a v (λ_=>False))
  (gG:∀p∈ps,p.ok s) (nx:j9 ps=true) (bF:aV C f (ps.map (·.d)) r (ps.map (·.o))) (aQ:r.res=true)
  (aS:mG ps=true->r.cZ=true/\∀p∈ps,p.o.cZ=true):
  r_ C.P f vs.toArray w λv aL=>∃cl aX,b8 w0 F0 X cl aX (jO (gn s ps) ps) aG aL/\nQ w0 X cl aX (jO (gn s ps) ps) aG aL r v/\∀b,F b->cl b/\aL.heap[b]? =w.heap[b]? :=
 TL h aC k5 gG nx (λFc o0 e5 _ _ ax=>bF w Fc o0 e5 vs (by simp[aC]) ax) aQ aS
end
structure cm where
 dst:Option Nat
 bS:eT
 guard:Option (Nat×Bool)
def DT (ops:Array Oper):Option (Nat×Bool)->Option (Option (Nat×Bool))
 |none=>some none
 |some (j,b)=>match(ops[j]?).bind (·.dst)with
  |some t=>some (some (t,b))
  |none=>none
structure Fr where
 n:Nat
 fx:axd
def nU (n:Fr):Option Nat->Bool
 |none=>true
 |some t=>decide (t<n.n)&& !n.fx.contains t
def sb (op:Op):eT:=match dz op with
 |some bS=>bS
 |none=>.bad
def tB (n:Fr) (ops:Array Oper) (o:Oper):Option cm:=
 if nU n o.dst=true then match DT ops o.guard with
  |some g=>some ⟨o.dst,sb o.op,g⟩
  |none=>none
 else none
def tC (n:Fr) (ops:Array Oper):List Oper->Option (List cm)
 |[]=>some []
 |o::os=>match tB n ops o,tC n ops os with
  |some r,some rs=>some (r::rs)
  |_,_=>none
def TQ (C:cj) (s:ak) (f:bC) (args:List bC) (K:I->ak->Prop):Prop:=
 ∃(g:FuncId) (caps:axi) (ps:List dm) (r:I),bw s f= .fn g caps/\I.hz caps=true/\ps.map (·.a)=args.map (bw s)++caps/\(∀p∈ps,p.ok s)/\j9 ps=true/\
   aV C g (ps.map (·.d)) r (ps.map (·.o))/\r.res=true/\(mG ps=true->r.cZ=true/\∀p∈ps,p.o.cZ=true)/\K r (jO (gn s ps) ps)
def qU (C:cj) (s:ak) (bS:eT) (K:I->ak->Prop):Prop:=
 match bS with
 | .call f args=>∃(g:FuncId) (caps:axi) (ps:List dm) (r:I),bw s f= .fn g caps/\I.hz caps=true/\ps.map (·.a)=args.map (bw s)++caps/\(∀p∈ps,p.ok s)/\j9 ps=true/\
   aV C g (ps.map (·.d)) r (ps.map (·.o))/\r.res=true/\(mG ps=true->r.cZ=true/\∀p∈ps,p.o.cZ=true)/\K r (jO (gn s ps) ps)
 | .shr bS=>∃av s1,b7 C s bS=some (av,s1)/\av.tree=true/\(∀vs,av≠.tuple vs)/\K av.share s1
 |bS=>∃av s1,b7 C s bS=some (av,s1)/\K av s1
theorem HA {C:cj} {s:ak} {bS:eT} {K ev:I->ak->Prop} (h:qU C s bS K) (au:∀av s,K av s->ev av s):qU C s bS ev:=by
 cases bS with
 |call f args=>
  obtain⟨g,caps,ps,r,ad,j_,ae,aI,bc,bY,dt,dv,hN⟩:=h;exact⟨g,caps,ps,r,ad,j_,ae,aI,bc,bY,dt,dv,au _ _ hN⟩
 |shr bS=>
  obtain⟨av,s1,ad,ae,aI,bc⟩:=h;exact⟨av,s1,ad,ae,aI,au _ _ bc⟩
 |_=>
  obtain⟨av,s1,ad,ae⟩:=h;exact⟨av,s1,ad,au _ _ ae⟩
def ov (C:cj) (s:ak) (o:cm) (K:ak->Prop):Prop:=
 match o.guard with
 |none=>qU C s o.bS λav s1=>K (fin s1 o.dst av)
 |some (t,b)=>match s t with
  | .bool gM=>if gM=b then qU C s o.bS (λav s1=>K (fin s1 o.dst av))else K (fin s o.dst (.tuple []))
  | .tuple []=>K (fin s o.dst (.tuple []))
  |_=>False
def nV (C:cj) (s:ak):List cm->(ak->Prop)->Prop
 |[],K=>K s
 |o::os,K=>ov C s o λs1=>nV C s1 os K
def kx (C:cj) (ros:List cm) (s:ak):axd->(ak->Prop)->Prop
 |[],K=>K s
 |i::l,K=>match ros[i]? with
  |none=>kx C ros s l K
  |some o=>ov C s o λs1=>kx C ros s1 l K
theorem ac7 (C:cj) (K:ak->Prop):∀(rs pre:List cm) (s:ak),nV C s rs K->kx C (pre++rs) s ((range rs.length).map (·+pre.length)) K:=by
 intro rs;induction rs with
 |nil=>intro pre s h;exact h
 |cons r rs ih=>
  intro pre s h;rw[length_cons,range_succ_eq_map,map_cons,List.map_map];simp only[kx,Nat.zero_add];rw[getElem?_append_right (Nat.le_refl _)];simp only[Nat.sub_self,getElem?_cons_zero];have key:∀s1,nV C s1 rs K->kx C (pre++r::rs) s1 ((range rs.length).map ((λx=>x+pre.length)∘succ)) K:=by
   intro s1 ad;have:=ih (pre++[r]) s1 ad;simp only[append_assoc,singleton_append,length_append,length_singleton]at this;have e:((λx=>x+pre.length)∘succ)=λx=>x+(pre.length+1):=by funext x;simp;omega
   rw[e];exact this
  simp only[nV]at h;unfold ov at h⊢;split
  .rename_i hg;rw[hg]at h;exact HA h λav s1=>key _
  .rename_i t b hg;rw[hg]at h;simp only at h;split
   .rename_i gM aa;rw[aa]at h;simp only at h;split
    .rename_i ab;rw[if_pos ab]at h;exact HA h λav s1=>key _
    .rename_i ab;rw[if_neg ab]at h;exact key _ h
   .rename_i aa;rw[aa]at h;exact key _ h
   .rename_i ad ae;split at h
    .exact ad _ (by assumption)
    .exact ae (by assumption)
    .exact h
structure Rel (w0:World) (F0 X:Nat->Prop) (n:Fr) (ρ:Nat->Value) (s:ak) (a:Act) (w:World):Prop where
 defers:a.defers=[]
 size:a.tmps.size=n.n
 fixed:∀i∈n.fx,a.tmps.getD i undef=ρ i
 rel:∃F S,b8 w0 F0 X F S s (λt=>a.tmps.getD t undef) w
section
variable {C:cj} {w0 w:World} {F0 X:Nat->Prop} {n:Fr} {ρ:Nat->Value} {s s1:ak} {a:Act} {av:I} {Q:Exit->Act->World->Prop}
theorem DU {dst:Option Nat} (v:Value) (aa:a.tmps.size=n.n) (al:nU n dst=true):
  (λt=>(a.put dst v).tmps.getD t undef)=p3 (λt=>a.tmps.getD t undef) dst v/\(a.put dst v).tmps.size=n.n/\(a.put dst v).defers=a.defers:=by
 cases dst with
 |none=>exact⟨rfl,aa,rfl⟩
 |some d=>
  simp only[nU,Bool.and_eq_true,decide_eq_true_eq]at al;refine⟨?_,by simp[Act.put,aa],rfl⟩;funext t;simp only[Act.put,p3,et,Array.getD_eq_getD_getElem?];by_cases h:t=d
  .subst h;rw[if_pos rfl,Array.getElem?_setIfInBounds_self_of_lt (by omega)];rfl
  .rw[if_neg h,Array.getElem?_setIfInBounds_ne (λe=>h e.symm)]
theorem Rel.put {F S} (al:a.defers=[]) (aa:a.tmps.size=n.n) (bF:∀i∈n.fx,a.tmps.getD i undef=ρ i) {aL:World} (aQ:b8 w0 F0 X F S s (λt=>a.tmps.getD t undef) aL) {v:Value} (aE:nQ w0 X F S s (λt=>a.tmps.getD t undef) aL av v)
  {dst:Option Nat} (gG:nU n dst=true):Rel w0 F0 X n ρ (fin s dst av) (a.put dst v) aL:=by
 obtain⟨aN,aU,aR⟩:=DU (n:=n) (dst:=dst) v aa gG;obtain⟨aX,bB⟩:=aQ.fin aE dst;refine⟨aR.trans al,aU,λi ag=>?_,F,aX,by rw[aN];exact bB⟩;rw[congrFun aN i];cases dst with
 |none=>exact bF i ag
 |some d=>
  simp only[nU,Bool.and_eq_true,Bool.not_eq_true',contains_eq_mem,decide_eq_false_iff_not]at gG;have dQ:i≠d:=λe=>gG.2 (by rw[<-e];exact ag);simp only[p3];rw[lp _ _ dQ];exact bF i ag
theorem Rel.skip (h:Rel w0 F0 X n ρ s a w) {dst:Option Nat} (gG:nU n dst=true):Rel w0 F0 X n ρ (fin s dst (.tuple [])) (a.put dst undef) w:=by
 obtain⟨al,aa,bF,F,S,aQ⟩:=h;refine Rel.put (av:=.tuple []) al aa bF aQ (.inl ⟨rfl,(aO.dk (d:=.tuple []) rfl).2 ⟨?_,?_⟩⟩) gG
 .exact⟨#[],rfl,rfl,λk d x au=>by simp at au⟩
 .rw[aA,bx];rfl
theorem TR {F:Nat->Prop} {aG:Nat->Value} {w:World}:∀{ds es:axi} {vs us:axg},fm w F s aG ds vs->fm w F s aG es us->fm w F s aG (ds++es) (vs++us):=by
 intro ds;induction ds with
 |nil=>intro es vs us ad ae;rw[fm]at ad;subst ad;exact ae
 |cons d ds ih=>
  intro es vs us ad ae;rw[fm]at ad;obtain⟨v,nO,rfl,g1,g2⟩:=ad;rw[cons_append,cons_append,fm];exact⟨v,_,rfl,g1,ih g2 ae⟩
theorem TS {F:Nat->Prop} {aG:Nat->Value} {w:World}:∀{ds:axi} {vs:axg},fm w F s aG ds vs->ds.length=vs.length/\∀(i:Nat) (d:I) (v:Value),ds[i]? =some d->vs[i]? =some v->aO w F s aG d v (λ_=>False):=by
 intro ds;induction ds with
 |nil=>intro vs h;rw[fm]at h;subst h;exact⟨rfl,λi d v h=>by simp at h⟩
 |cons d ds ih=>
  intro vs h;rw[fm]at h;obtain⟨v,nO,rfl,g1,g2⟩:=h;obtain⟨bX,cN⟩:=ih g2;refine⟨by simp[bX],λi bI hi al aE=>?_⟩;cases i with
  |zero=>simp at al aE;subst al aE;exact g1
  |succ i=>exact cN i bI hi (by simpa using al) (by simpa using aE)
theorem u5 {op:Op} {bS:eT} (h:sb op=bS):bS= .bad\/dz op=some bS:=by
 unfold sb at h;split at h
 .subst h;right;assumption
 .exact .inl h.symm
theorem ac8 {op:Op} {bS:eT}:dz op≠some (.shr bS):=by
 intro h;unfold dz at h;split at h<;>(try split at h)<;>(try split at h)<;>(try split at h)<;>(try simp[Option.map_eq_some_iff]at h)
theorem ac9 {op:Op} {x:bC}:dz op≠some (.pw x):=by
 intro h;unfold dz at h;split at h<;>(try split at h)<;>(try split at h)<;>(try split at h)<;>(try simp[Option.map_eq_some_iff]at h)
theorem ac_ {op:Op} {x:bC}:dz op≠some (.oZ x):=by
 intro h;unfold dz at h;split at h<;>(try split at h)<;>(try split at h)<;>(try split at h)<;>(try simp[Option.map_eq_some_iff]at h)
theorem ada {op:Op} {x:bC} (h:dz op=some (.hS x)):∃e2,op= .move e2/\eC e2=some x:=by
 unfold dz at h;split at h<;>(try split at h)<;>(try split at h)<;>(try split at h)<;>(try simp[Option.map_eq_some_iff]at h)
 exact⟨_,rfl,h⟩
theorem adb {op:Op} {x:bC} (h:dz op=some (.h2 x)):∃e2,op= .assign e2/\eC e2=some x:=by
 unfold dz at h;split at h<;>(try split at h)<;>(try split at h)<;>(try split at h)<;>(try simp[Option.map_eq_some_iff]at h)
 exact⟨_,rfl,h⟩
theorem b8.alias {F:Nat->Prop} {S:Nat->Nat->Prop} {aG:Nat->Value} {u x:Nat} (h:b8 w0 F0 X F S s aG w) (hu:s u= .hole) (an:(s x).own=true) (aE:c8 (aG u)=c8 (aG x)) (ad:Value.hE (aG u)=true):
  b8 w0 F0 X F (hh S u (λ_=>False)) (et s u (.h x [])) aG w:=by
 have e_:et aG u (aG u)=aG:=by funext y;simp only[et];split<;>simp_all
 have:=h.Dl (t:=u) (d:=.h x []) (v:=aG u) rfl (by
  rw[aO];intro d al ax;simp only[I.sub,Option.some.injEq]at al;subst al;exact⟨c8 (aG x),none,rfl,aE,((Hy an).2.2.2.2.2 _).2 ad⟩)
 rwa [e_]at this
theorem nQ.less {F:Nat->Prop} {S aX:Nat->Nat->Prop} {aG:Nat->Value} {s1:ak} {v:Value} (ca:∀u b,aX u b->S u b) (aQ:av.res=true) (h:nQ w0 X F S s aG w av v):nQ w0 X F aX s1 aG w av v:=by
 rcases h with⟨ad,ae⟩|⟨ad,ae,Sn,aI,bc,bY,dt,dv⟩
 .refine .inl ⟨ad,?_⟩;cases av<;>first
   |(simp[I.res]at aQ;done)
   |(rw[aO];trivial)
   |(rw[aO]at ae⊢;exact ae)
 .exact .inr ⟨ad,ae,Sn,aI,bc,bY,λu b ab hu=>dt u b ab (ca u b hu),dv⟩
theorem ade (bK:C.fz) (h:Rel w0 F0 X n ρ s a w) {o:Oper} {f:bC} {args:List bC} (c6:dz o.op=some (.call f args)) (al:nU n o.dst=true) {K:I->ak->Prop} {L:ak->Prop} {next:Act->World->Prop}
  (hw:TQ C s f args K) (o1:∀F S cl aX w aL av s1 v,b8 w0 F0 X F S s (λt=>a.tmps.getD t undef) w->K av s1->av.res=true->b8 w0 F0 X cl aX s1 (λt=>a.tmps.getD t undef) aL->nQ w0 X cl aX s1 (λt=>a.tmps.getD t undef) aL av v->(∀b,F b->cl b/\aL.heap[b]? =w.heap[b]?)->
   ∃s2 eI,L (fin s2 o.dst av)/\b8 w0 F0 X cl eI s2 (λt=>a.tmps.getD t undef) aL/\nQ w0 X cl eI s2 (λt=>a.tmps.getD t undef) aL av v)
  (aS:∀aH dC aL,L aH->Rel w0 F0 X n ρ aH dC aL->next dC aL):o.wp C.P a w next Q:=by
 have sc:=h;obtain⟨lV,fg,jQ,F,S,aQ⟩:=h;obtain⟨g,caps,ps,r,ad,j_,ae,aI,bc,bY,dt,dv,hN⟩:=hw;obtain⟨dst,op,ty,pos,after,guard⟩:=o;simp only at c6 al o1;cases op with
 |call c=>
  obtain⟨callee,px,argTypes⟩:=c;simp only[dz]at c6;split at c6
  .split at c6
   .rename_i DV _ _ adf xs bF tA;simp only[Option.some.injEq,eT.call.injEq]at c6;obtain⟨rfl,rfl⟩:=c6;obtain⟨f1,f2⟩:=gF aQ (λ_=>rfl) bF;rw[ad,aO]at f2;obtain⟨arr,f3,f4⟩:=f2;have DW:execOp a.eval {dst,op:=.call {callee:=.value DV,args:=px,argTypes},type:=ty,pos,after,guard}=callFunc g ((px.toList.map a.eval++arr.toList).toArray):=by
     have:a.eval DV= .func (.func g) #[] arr:=f3;simp only[execOp,resolve,this,Deferred.ofValue,pure_bind,invoke];congr 1;apply Array.ext';simp
    unfold Oper.wp;rw[DW];have DX:fm w F s (λt=>a.tmps.getD t undef) (xs.map (bw s)++caps) (px.toList.map a.eval++arr.toList):=TR (Hv aQ (λ_=>rfl) _ _ (yw tA)) f4;rw[<-ae]at DX;obtain⟨hP,l2⟩:=TS DX;have fA:∀d∈xs.map (bw s)++caps,d.plain=true:=by
     intro d al;rcases mem_append.1 al with al|al
     .obtain⟨x,an,rfl⟩:=mem_map.1 al;exact St s x λav e=>by
       subst e;have hm:=yw tA;have:some (bC.c av)∈xs.map some:=mem_map.2 ⟨_,an,rfl⟩;rw[<-hm]at this;obtain⟨o,_,bH⟩:=mem_map.1 this;cases o with
       |const v=>simp only[eC,Option.map_eq_some_iff]at bH;obtain⟨c,ar,e⟩:=bH;cases e;exact Lu ar
       |tmp n=>simp[eC]at bH
       |func g=>simp[eC]at bH
       |global g=>simp[eC]at bH
     .obtain⟨k,au⟩:=getElem?_of_mem al;exact G8 j_ au
    have Ml:=ac6 (C:=C) aQ (ps:=ps) (vs:=px.toList.map a.eval++arr.toList) (f:=g) (r:=r) (by simpa using hP)
     (λi p v ax aE=>⟨fA p.a (by rw[<-ae];exact mem_map.2 ⟨p,mem_of_getElem? ax,rfl⟩),l2 i p.a v (by simp[ax]) aE⟩) aI bc bY dt dv
    rcases Ml with⟨ea,bf⟩|⟨v,aL,ea,cl,aX,bf,de,bR⟩
    .rw[ea,Oper.upon_enter];refine Calls.mono bf ?_;rintro e aL ⟨v,rfl,cl,aX,bX,cN,dH⟩;obtain⟨s2,eI,m1,m2,m3⟩:=o1 _ _ _ _ _ _ _ _ _ aQ hN dt bX cN dH;exact aS _ _ _ m1 (Rel.put lV fg jQ m2 m3 al)
    .rw[ea,Oper.upon_value];obtain⟨s2,eI,m1,m2,m3⟩:=o1 _ _ _ _ _ _ _ _ _ aQ hN dt bf de bR;exact aS _ _ _ m1 (Rel.put lV fg jQ m2 m3 al)
   .cases c6
  .split at c6
   .simp only[Option.map_eq_some_iff]at c6;obtain⟨_,_,c6⟩:=c6;cases c6
   .cases c6
  .split at c6
   .simp only[Option.map_eq_some_iff]at c6;obtain⟨_,_,c6⟩:=c6;cases c6
   .cases c6
  iterate 3
   .split at c6
    .split at c6<;>cases c6
    .cases c6
  .cases c6
 |makeFunc fn first cs=>
  cases fn<;>simp only[dz]at c6<;>first|(cases c6;done)|(split at c6<;>simp at c6)
 |slice T x fF ag fb=>
  cases fb<;>simp only[dz]at c6<;>first|(cases c6;done)|(split at c6<;>simp at c6)
 |makeMap T r=>cases r<;>simp only[dz]at c6<;>simp at c6
 |lookup T x i c=>cases c<;>simp only[dz]at c6<;>first|(cases c6;done)|(split at c6<;>simp at c6)
 |_=>simp only[dz]at c6<;>first|(cases c6;done)|(simp at c6;done)|(split at c6<;>simp at c6)
theorem adg (bK:C.fz) (h:Rel w0 F0 X n ρ s a w) {o:Oper} {bS:eT} (c6:dz o.op=some bS) (al:nU n o.dst=true) {K:ak->Prop} {next:Act->World->Prop}
  (hw:qU C s bS λav s1=>K (fin s1 o.dst av)) (aS:∀aH dC aL,K aH->Rel w0 F0 X n ρ aH dC aL->next dC aL):o.wp C.P a w next Q:=by
 have sc:=h;obtain⟨lV,fg,jQ,F,S,aQ⟩:=h;have plain:∀av s1,b7 C s bS=some (av,s1)->K (fin s1 o.dst av)->o.wp C.P a w next Q:=by
  intro av s1 he au;obtain⟨r,aL,v,cl,aX,ad,ae,aI,bc⟩:=Tm (a:=a) bK aQ (λ_=>rfl) c6 he;unfold Oper.wp;rw[ad];rcases ae with rfl|⟨rfl,rfl⟩
  .exact aS _ _ _ au (Rel.put lV fg jQ aI bc al)
  .exact aS _ _ _ au (Rel.put lV fg jQ aI bc al)
 cases bS with
 |shr bS=>exact(ac8 c6).elim
 |call f args=>exact ade bK ⟨lV,fg,jQ,F,S,aQ⟩ c6 al (K:=λav s1=>K (fin s1 o.dst av)) hw (λ_ _ _ aX _ _ _ s1 _ _ ae _ aI bc _=>⟨s1,aX,ae,aI,bc⟩) aS
 |pw x=>exact(ac9 c6).elim
 |oZ x=>exact(ac_ c6).elim
 |_=>
  obtain⟨av,s1,he,au⟩:=hw;exact plain av s1 he au
theorem nQ.share {F:Nat->Prop} {S:Nat->Nat->Prop} {aG:Nat->Value} {v:Value} (h:b8 w0 F0 X F S s aG w) (aE:nQ w0 X F S s aG w av v) (aZ:av.tree=true) (aS:∀vs,av≠.tuple vs):
  ∃cl,b8 w0 F0 X cl S s aG w/\nQ w0 X cl S s aG w av.share v:=by
 obtain⟨Sn,hj,gO,iJ,jN,tq,Mm⟩:∃Sn:Nat->Prop,eM av v/\aA w F av (c8 v) Sn/\(∀b,Sn b->b<w.heap.size)/\(∀b,Sn b->¬F b)/\(∀u b,Sn b->¬S u b)/\(∀b,Sn b->X b\/w0.heap.size<=b):=by
  rcases aE with⟨ad,ae⟩|⟨_,ae,Sn,aI,bc,bY,dt,dv⟩
  .rw[aO.dk aZ]at ae;exact⟨λ_=>False,ae.1,ae.2,λ_ h=>h.elim,λ_ h=>h.elim,λ_ _ h=>h.elim,λ_ h=>h.elim⟩
  .exact⟨Sn,ae,aI,bc,bY,dt,dv⟩
 refine⟨λb=>F b\/Sn b,?_,.inl ⟨Mb av,?_⟩⟩
 .exact {
   iI:=λb ab=>.inl (h.iI b ab)
   jg:=λb ab=>by
    rcases ab with ab|ab
    .exact h.jg b ab
    .exact .inr (Mm b ab)
   gN:=λb ab=>ab.elim (h.gN b) (iJ b)
   fN:=h.fN
   hf:=λt b ab bF=>bF.elim (h.hf t b ab) (λaa=>tq t b aa ab)
   gE:=h.gE
   eS:=h.eS
   ew:=λt=>aO.frame (λ_ _=>rfl) (λb ab=>.inl ab) (λ_ _ _=>rfl) h.ew _ _ _ (λ_ _=>rfl) (h.ew t)
   old:=h.old
   size:=h.size
   os:=h.os
   tape:=h.tape
   output:=h.output
   gS:=h.gS}
 .by_cases bH:∃o,av= .b4 o
  .obtain⟨o,rfl⟩:=bH;rw[I.share,aO];trivial
  have Mn:av.share.tree=true:=by cases av<;>first|exact aZ|rfl|exact(bH ⟨_,rfl⟩).elim
  rw[aO.dk Mn];exact⟨Md aS hj,aA.shared (λb ab=>.inl ab) av _ Sn (λb ab=>.inr ab) gO⟩
theorem adh (bK:C.fz) (h:Rel w0 F0 X n ρ s a w) {o:Oper} {bS:eT} (c6:sb o.op=bS.base) (al:nU n o.dst=true) {K:ak->Prop} {next:Act->World->Prop}
  (hw:qU C s bS λav s1=>K (fin s1 o.dst av)) (aS:∀aH dC aL,K aH->Rel w0 F0 X n ρ aH dC aL->next dC aL):o.wp C.P a w next Q:=by
 cases bS with
 |shr bS=>
  obtain⟨av,s1,he,aZ,ny,au⟩:=hw;rcases u5 c6 with c6|c6
  .change bS= .bad at c6;subst c6;cases he
  obtain⟨lV,fg,jQ,F,S,aQ⟩:=h;obtain⟨r,aL,v,cl,aX,ad,ae,aI,bc⟩:=Tm (a:=a) bK aQ (λ_=>rfl) c6 he;obtain⟨yA,g3,g4⟩:=nQ.share aI bc aZ ny;unfold Oper.wp;rw[ad];rcases ae with rfl|⟨rfl,rfl⟩
  .exact aS _ _ _ au (Rel.put lV fg jQ g3 g4 al)
  .exact aS _ _ _ au (Rel.put lV fg jQ g3 g4 al)
 |bad=>obtain⟨av,s1,he,_⟩:=hw;cases he
 |oZ x=>
  obtain⟨av,s1,he,au⟩:=hw;rcases u5 c6 with ab|ab
  .cases ab
  .obtain⟨e2,DY,an⟩:=ada ab;obtain⟨lV,fg,jQ,F,S,aQ⟩:=h;obtain⟨dst,op,ty,pos,after,guard⟩:=o;simp only at DY al au;subst DY;simp only[b7]at he;obtain⟨g1,g2⟩:=gF aQ (λ_=>rfl) an;obtain⟨r,aL,v,cl,aX,ad,ae,aI,bc⟩:Next C w0 F0 X (λt=>a.tmps.getD t undef) w (execOp a.eval ⟨dst,.move e2,ty,pos,after,guard⟩) av s1:=by
    unfold tv at he;split at he
    .rename_i y q hy;rw[hy]at g1 g2;obtain⟨cA,k0,bX,cN,Sn,dH,dT,eG,eg,kt,_⟩:=rW aQ g1 g2 he;exact⟨_,w,_,F,cA,rfl,.inl rfl,k0,.inr ⟨bX,cN,Sn,dH,dT,eG,eg,kt⟩⟩
    .simp only[Option.some.injEq,Prod.mk.injEq]at he;obtain⟨rfl,rfl⟩:=he;exact⟨_,w,_,F,S,rfl,.inl rfl,aQ,.inl ⟨g1,g2⟩⟩
   unfold Oper.wp;rw[ad];rcases ae with rfl|⟨rfl,rfl⟩
   .exact aS _ _ _ au (Rel.put lV fg jQ aI bc al)
   .exact aS _ _ _ au (Rel.put lV fg jQ aI bc al)
 |pw x=>
  obtain⟨av,s1,he,au⟩:=hw;rcases u5 c6 with ab|ab
  .cases ab
  .obtain⟨e2,DY,an⟩:=adb ab;obtain⟨lV,fg,jQ,F,S,aQ⟩:=h;obtain⟨dst,op,ty,pos,after,guard⟩:=o;simp only at DY al au;subst DY;simp only[b7,Option.some.injEq,Prod.mk.injEq]at he;obtain⟨rfl,rfl⟩:=he;obtain⟨g1,g2⟩:=gF aQ (λ_=>rfl) an;obtain⟨r,aL,v,cl,aX,ad,ae,aI,bc⟩:Next C w0 F0 X (λt=>a.tmps.getD t undef) w (execOp a.eval ⟨dst,.assign e2,ty,pos,after,guard⟩) (bw s x) s:=⟨_,w,_,F,S,rfl,.inl rfl,aQ,.inl ⟨g1,g2⟩⟩
   unfold Oper.wp;rw[ad];rcases ae with rfl|⟨rfl,rfl⟩
   .exact aS _ _ _ au (Rel.put lV fg jQ aI bc al)
   .exact aS _ _ _ au (Rel.put lV fg jQ aI bc al)
 |_=>
  rcases u5 c6 with ab|ab
  .cases ab
  .exact adg bK h ab al hw aS
end
end Go.ef
