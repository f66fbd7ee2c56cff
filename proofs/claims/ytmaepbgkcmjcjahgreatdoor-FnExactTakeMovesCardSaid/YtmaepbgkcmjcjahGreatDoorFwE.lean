/- Part of a proof that a law returns true for every input. No condition. -/
import Derived.Test.YtmaepbgkcmjcjahGreatDoorFwD
import Derived.Laws.Tables
namespace Go.ei
open List Go.IntKind Nat Or
section
variable {C:cy} {w0 w:World} {F0 X F:Nat->Prop} {S:Nat->Nat->Prop} {s s1:al} {aH:Nat->Value} {av:I}
theorem Nj (z:azi):∀n,(range (n*z.length)).map (λi=>z[i%z.length]!)=(replicate n z).flatten
 |0=>by simp
 |n+1=>by
  rw[Nat.add_mul,Nat.one_mul,range_add,map_append,Nj z n,replicate_succ',flatten_append];congr 1;simp only[List.map_map,flatten_cons,flatten_nil,append_nil];apply ext_getElem
  .simp
  .intro i ad ag;have ai:i<z.length:=ag;simp[mod_eq_of_lt ai,ai]
theorem bA.replicate {d:I} {cs:azi} (h:∀a_,az w F d cs a_):∀n a_,bA w F (replicate n d) (replicate n cs).flatten a_
 |0,a_=>by simp only[replicate_zero,flatten_nil];rw[bA]
 |n+1,a_=>by
  rw[replicate_succ,replicate_succ,flatten_cons,bA];exact⟨cs,_,λ_=>False,λ_=>False,rfl,h _,bA.replicate h n _,λ_ h=>h.elim,λ_ h=>h.elim,λ_ h=>h.elim⟩
def fk (C:cy) (T:TypeId) (l c:I):Option I:=
 match(C.T T).k,l,c with
 | .slice e,.int .i64 n,.int .i64 m=>if n=m/\0<=n/\(C.T e).ok=true/\(C.T e).zero.wd=(C.T e).sz/\(flat (C.T e).zero).isSome=true/\(C.T e).sz≠0/\(C.T e).bytes*n<=140737488355328/\n<=9223372036854775807 then
   some (.ae (C.T e).sz (replicate n.toNat (C.T e).zero))else none
 |_,_,_=>none
theorem ad8 (bU:C.fK) (h:cj w0 F0 X F S s aH w) {T:TypeId} {l c:I} {Vg Vh:Value} (hl:aQ w F s aH l Vg (λ_=>False)) (au:aQ w F s aH c Vh (λ_=>False)) (he:fk C T l c=some av):
  Good C w0 F0 X aH w (Instr.makeSlice T Vg Vh) av s:=by
 unfold fk at he;split at he
 .rename_i e n m aw;have:=qH hl;subst this;have:=qH au;subst this;obtain⟨U6,d,U7,aR,aW,aU,cc,cZ,cv,cd⟩:=bU.info (hF aw (by simp));rw[aw]at cd;have:=oX cd;subst this;split at he
  .rename_i EL;obtain⟨rfl,aV,vS,zn,zo,fa,axa,zq⟩:=EL;simp only[Option.some.injEq]at he;subst he;obtain⟨i,U8,z,f1,f2,f3,f4,f5,f6,f7⟩:=bU.info vS;obtain⟨ig,qJ⟩:=Option.isSome_iff_exists.1 zo;have zp:=f5 ig qJ;have ie:∀a_,az w F (C.T e).zero ig a_:=λa_=>(az.flat _).1 _ ig a_ (Nat.le_refl _) qJ;have xH:ig.length=(C.T e).sz:=by rw[az.length _ _ _ (ie (λ_=>False)),zn]
   obtain⟨n,rfl⟩:=Int.eq_ofNat_of_zero_le aV;simp only[Int.toNat_natCast];have Vi:i64.wrap (n:Int)=n:=by
    rw[wrap_i64];omega
   have IW:∀k (w:World),(askRoom k).run C.P w= .ok () w:=by
    intro k w;unfold askRoom;split<;>rfl
   have sR:((Array.range (n*(C.T e).sz)).map (ig.toArray[·%ig.toArray.size]!)).toList=(replicate n ig).flatten:=by
    have:=Nj ig n;rw[xH]at this;simpa [xH]using this
   have eN:¬(281474976710656<(i.bytes:Int)*n):=by
    rw[f3];omega
   have Vj:¬((n:Int)<0):=by omega
   have run:(Instr.makeSlice T (.int .i64 n) (.int .i64 n)).run C.P w= .ok (.slice (some ⟨w.heap.size,0,none⟩) n n)
     (w.alloc (.cells (if n*(C.T e).sz=0 then(Array.range (n*(C.T e).sz)).map (λ_=>default)else(Array.range (n*(C.T e).sz)).map (ig.toArray[·%ig.toArray.size]!)) e)):=by
    by_cases bc:n*(C.T e).sz=0
    .simp[Instr.makeSlice,run_underlying cv,asInt,asIntOf,EH f1,Vi,eN,Vj,IW,ny f1,f2,bc,newRow]
    .simp only[bc,if_false];simp[Instr.makeSlice,run_underlying cv,asInt,asIntOf,EH f1,Vi,eN,Vj,IW,ny f1,f2,bc,newRow,zd f1 f4,zp]
   have p1:(if n*(C.T e).sz=0 then(Array.range (n*(C.T e).sz)).map (λ_=>(default:Value))else(Array.range (n*(C.T e).sz)).map (ig.toArray[·%ig.toArray.size]!)).toList=(replicate n ig).flatten:=by
    split
    .rename_i bc;have:n=0:=by
      rcases mul_eq_zero.1 bc with h|h
      .exact h
      .exact(fa h).elim
     subst this;simp
    .exact sR
   generalize EY:(if n*(C.T e).sz=0 then(Array.range (n*(C.T e).sz)).map (λ_=>(default:Value))else(Array.range (n*(C.T e).sz)).map (ig.toArray[·%ig.toArray.size]!))=cur at run p1;have jg:(replicate n ig).flatten.length=n*(C.T e).sz:=by simp[xH]
   have ib:cur.size=n*(C.T e).sz:=by
    have:cur.size=cur.toList.length:=by simp
    rw[this,p1,jg]
   have oY:=h.IQ (aP:=w.alloc (.cells cur e)) (sz:=(C.T e).sz) (cap:=n) (xs:=replicate n (C.T e).zero) (cur:=cur) (e:=e) (fr:=(0,0)) (Sn:=λ_=>False) rfl rfl rfl ⟨rfl,λ_=>Nat.le_refl _⟩
    (λo _ ⟨_,ag⟩=>absurd ag (not_lt_zero _)) (by simp) (by unfold maxLen;omega) ib (by intro d ao;rw[eq_of_mem_replicate ao];exact zn)
    (by rw[p1,length_replicate,take_of_length_le (by rw[jg];exact Nat.le_refl _)];exact bA.replicate ie n _) (λ_ h=>h.elim) (λ_ h=>h.elim) (λ_ _ h=>h.elim) (λ_ h=>h.elim)
   rw[length_replicate]at oY;exact⟨_,_,F,S,run,oY.1,oY.2⟩
  .cases he
 .cases he
def p3 (s:al) (f:FuncId) (cs:List bB):Option I:=some (.fn f (cs.map (bx s)))
theorem I2 {a:Act} (h:cj w0 F0 X F S s aH w) (ff:∀t,aH t=a.tmps.getD t undef):∀(os:List Operand) (xs:List bB),os.map eK=xs.map some->e_ w F s aH (xs.map (bx s)) (os.map a.eval)
 |[],[],_=>by simp only[map_nil];rw[e_]
 |[],x::xs,h=>by simp at h
 |o::os,[],h=>by simp at h
 |o::os,x::xs,bF=>by
  simp only[map_cons,cons.injEq]at bF⊢;rw[e_];exact⟨_,_,rfl,(gy h ff bF.1).2,I2 h ff os xs bF.2⟩
theorem Vk:∀(vs:azi) (k off:Nat) (A:Array Value) (l m r:azi),A.toList=l++(m++r)->l.length=off+k->m.length=vs.length->
  ((vs.zipIdx k).foldl (λcs (x:Value×Nat)=>cs.setIfInBounds (off+x.2) x.1) A).toList=l++(vs++r)
 |[],k,off,A,l,m,r,jj,hl,hm=>by
  have:m=[]:=by simpa using hm
  subst this;simpa using jj
 |v::vs,k,off,A,l,m,r,jj,hl,hm=>by
  obtain⟨x,m,rfl⟩:∃x jS,m=x::jS:=by
   cases m with
   |nil=>simp at hm
   |cons x m=>exact⟨x,m,rfl⟩
  rw[zipIdx_cons,foldl_cons];have:=Vk vs (k+1) off (A.setIfInBounds (off+k) v) (l++[v]) m r (by
   rw[Array.toList_setIfInBounds,jj,<-hl,set_append_right _ _ (Nat.le_refl _)];simp) (by simp;omega) (by simpa using hm)
  simpa using this
def nX (os:List (Option Nat)) (a:I):I:=os.foldl (λa o=>nx o a) a
def en (place:Nat->Option (Nat×Nat)):al->azk->List (Option Nat)->azj->Option (azk×al)
 |s,fw,_,[]=>some (fw,s)
 |s,fw,os,(k,a)::r=>match dJ s (nX os a),place k,fw[k]? with
  |some (d,s1),some (off,n),some z=>match d with
   | .tuple _=>none
   |d=>if d.wd=n/\z.wd=n/\I.e9 (fw.take k)=off then en place s1 (fw.set k d) (os++[(nX os a).owner]) r else none
  |_,_,_=>none
def rH (w:World) (F:Nat->Prop) (s:al) (aH:Nat->Value):azj->List (Nat×Value)->Prop
 |[],[]=>True
 |(k,a)::r,(dv,v)::hW=>k=dv/\a.plain=true/\aQ w F s aH a v (λ_=>False)/\rH w F s aH r hW
 |_,_=>False
theorem ad9 (x:Nat):∀d:I,d.plain=true->(cW x d).plain=true
 | .h y q,_=>by simp only[cW];split<;>(try split)<;>rfl
 | .ax y q,_=>by simp only[cW];split<;>rfl
 | .ab y q,_=>rfl
 | .fn f c,_=>by simp only[cW];rfl
 | .hole,h=>h
 | .bool _,h=>h
 | .gu,h=>h
 | .int _ _,h=>h
 | .str _,h=>h
 | .ez,h=>h
 | .bd,h=>h
 | .slice _,h=>h
 | .ae _ _,h=>h
 | .ref _,h=>h
 | .aM _,h=>h
 | .agg _,h=>h
 | .tuple _,h=>h
theorem ad_ (o:Option Nat) (d:I) (h:d.plain=true):(nx o d).plain=true:=by
 cases o with
 |none=>exact h
 |some x=>exact ad9 x d h
theorem rH.cW {w:World} {F:Nat->Prop} {s s1:al} {aH:Nat->Value} {o:Option Nat} (ax:∀(bM:I) (ht:Value) (a_:Nat->Prop),aQ w F s aH bM ht a_->aQ w F s1 aH (nx o bM) ht a_):
  ∀(r:azj) (hW:List (Nat×Value)),rH w F s aH r hW->rH w F s1 aH (r.map λp=>(p.1,nx o p.2)) hW
 |[],[],_=>trivial
 |(k,a)::r,(dv,v)::hW,h=>by
  obtain⟨ad,ag,aD,bh⟩:=h;exact⟨ad,ad_ _ _ ag,ax _ _ _ aD,rH.cW ax r hW bh⟩
 |[],_::_,h=>h.elim
 |_::_,[],h=>h.elim
theorem Nk {place:Nat->Option (Nat×Nat)}:∀(ps:azj) (vs:List (Nat×Value)) (os:List (Option Nat)) (s:al) (S:Nat->Nat->Prop) (fw:azk) (A:Array Value) (jq:Nat->Prop),
  cj w0 F0 X F S s aH w->rH w F s aH (ps.map λp=>(p.1,nX os p.2)) vs->bA w F fw A.toList jq->(∀b,jq b->b<w.heap.size)->(∀b,jq b->¬F b)->(∀u b,jq b->¬S u b)->(∀b,jq b->X b\/w0.heap.size<=b)->
  ∀ds s1,en place s fw os ps=some (ds,s1)->∃pz cO h9,Instr.fill place A vs=some pz/\cj w0 F0 X F cO s1 aH w/\bA w F ds pz.toList h9/\(∀b,h9 b->b<w.heap.size)/\(∀b,h9 b->¬F b)/\(∀u b,h9 b->¬cO u b)/\
   (∀b,h9 b->X b\/w0.heap.size<=b)/\ds.length=fw.length/\I.e9 ds=I.e9 fw/\(∀n,(∀d∈fw,d.wd=n)->∀d∈ds,d.wd=n)
 |[],[],os,s,S,fw,A,jq,h,_,ad,ag,aD,bh,b1,ds,s1,he=>by
  simp only[en,Option.some.injEq,Prod.mk.injEq]at he;obtain⟨rfl,rfl⟩:=he;exact⟨A,S,jq,rfl,h,ad,ag,aD,bh,b1,rfl,rfl,λ_ h=>h⟩
 |(k,a)::ps,(dv,v)::vs,os,s,S,fw,A,jq,h,ax,ad,ag,aD,bh,b1,ds,s1,he=>by
  obtain⟨rfl,nY,sO,EZ⟩:=ax;simp only[en]at he;split at he
  .rename_i d BK off n z bb fO cf;have key:∀d:I,(∀aG,d≠.tuple aG)->dJ s (nX os a)=some (d,BK)->(if d.wd=n/\z.wd=n/\I.e9 (fw.take k)=off then en place BK (fw.set k d) (os++[(nX os a).owner]) ps else none)=some (ds,s1)->
     ∃pz cO h9,Instr.fill place A ((k,v)::vs)=some pz/\cj w0 F0 X F cO s1 aH w/\bA w F ds pz.toList h9/\(∀b,h9 b->b<w.heap.size)/\(∀b,h9 b->¬F b)/\(∀u b,h9 b->¬cO u b)/\
     (∀b,h9 b->X b\/w0.heap.size<=b)/\ds.length=fw.length/\I.e9 ds=I.e9 fw/\(∀n,(∀d∈fw,d.wd=n)->∀d∈ds,d.wd=n):=by
    intro d vO bb he;split at he
    .rename_i au;obtain⟨nB,lo,Vl⟩:=au;obtain⟨cO,g0,g1,g2,Sn,g3,g4,g5,g6,g7,g8,g9,g10⟩:=rv h nY sO bb;obtain⟨cx,hj,c2,Sx,jE,jj,jr,gY,ix,kh,hr,pn⟩:=bA.pick fw _ _ k z ad cf;have sR:=EK g2 vO;have p4:=az.length _ _ _ g3;have Vm:=az.length _ _ _ hr;have xC:=pn w d (c_ v) Sn (λ_ _=>rfl) (λ_ _=>rfl) g3 (λb aea aeb=>by obtain⟨u,hu⟩:=g9 b aea;exact bh u b (gY b aeb) hu);have Vn:=Vk (c_ v) 0 off A cx hj c2 jj (by rw[jr,Vl];rfl) (by rw[Vm,p4,nB,lo]);generalize E0:((c_ v).zipIdx 0).foldl (λcs (x:Value×Nat)=>cs.setIfInBounds (off+x.2) x.1) A=pv at Vn;obtain⟨pz,eJ,h9,m1,m2,m3,m4,m5,m6,m7,m8,m9,m10⟩:=Nk (place:=place) ps vs (os++[(nX os a).owner]) BK cO (fw.set k d) pv (λb=>Sx b\/Sn b) g0 (by have:=rH.cW g10 _ _ EZ;simpa [nX,foldl_append,Function.comp_def]using this) (by rw[Vn];exact xC)
      (by rintro b (ab|ab);exact ag b (gY b ab);exact g4 b ab) (by rintro b (ab|ab);exact aD b (gY b ab);exact g5 b ab)
      (by rintro u b (ab|ab);exact λhu=>bh u b (gY b ab) (g8 u b hu);exact g6 u b ab) (by rintro b (ab|ab);exact b1 b (gY b ab);exact g7 b ab) ds s1 he
     refine⟨pz,eJ,h9,?_,m2,m3,m4,m5,m6,m7,by rw[m8];simp,by rw[m9];exact Mz _ _ _ _ cf (by rw[nB,lo]),?_⟩
     .have Nl:off+n<=A.size:=by
       have:A.size=A.toList.length:=by simp
       rw[this,jj];simp[jr,Vl,Vm,lo]
      simp only[Instr.fill,fO,sR,List.size_toArray,p4,nB];have nS:¬(n≠n\/A.size<off+n):=by omega
      have aec:(c_ v).toArray.zipIdx.foldl (λcs (x:Value×Nat)=>cs.setIfInBounds (off+x.2) x.1) A=pv:=by
       rw[<-E0,<-Array.foldl_toList];simp
      simp only[ne_eq,not_true_eq_false,decide_false,Bool.false_or,decide_eq_true_eq,gt_iff_lt];rw[if_neg (by simp;omega)];rw[show(c_ v).toArray.zipIdx.foldl (λcs x=>match x with|(c,j)=>cs.setIfInBounds (off+j) c) A=pv from aec];exact m1
     .intro Nn xM;refine m10 Nn (MA xM ?_);rw[nB,<-lo];exact xM z (mem_of_getElem? cf)
    .cases he
   split at he
   .cases he
   .rename_i vO;exact key _ (λaG e=>vO aG e) bb he
  .cases he
 |[],_::_,_,_,_,_,_,_,_,ax,_,_,_,_,_,_,_,_=>ax.elim
 |_::_,[],_,_,_,_,_,_,_,ax,_,_,_,_,_,_,_,_=>ax.elim
def gH (C:cy) (s:al) (T:TypeId) (ps:azj):Option (I×al):=
 match(C.T T).k,(C.T T).zero with
 | .struct aG,.agg fw=>if(flat (.agg fw)).isSome=true/\(∀f∈aG,(C.T f.1).ok=true)then
   (match en (λk=>(aG[k]?).map λf=>(f.2,(C.T f.1).sz)) s fw [] ps with
   |some (ds,s1)=>some (.agg ds,s1)
   |none=>none)else none
 |_,_=>none
def d_ (C:cy) (s:al) (T:TypeId) (n:Nat) (ps:azj):Option (I×al):=
 match(C.T T).k with
 | .slice e=>if(C.T e).ok=true/\(C.T e).zero.wd=(C.T e).sz/\(flat (C.T e).zero).isSome=true/\(C.T e).sz≠0/\n*(C.T e).sz<=16777216 then
   (match en (λk=>some (k*(C.T e).sz,(C.T e).sz)) s (replicate n (C.T e).zero) [] ps with
   |some (ds,s1)=>some (.ae (C.T e).sz ds,s1)
   |none=>none)else none
 |_=>none
theorem aed (bU:C.fK):∀(gs:List Field),(∀g∈gs,(C.T g.type).ok=true)->
  gs.mapM (λf=>(C.P.info? f.type).map λi=>(f.offset,i.size))=some (gs.map λg=>(g.offset,(C.T g.type).sz)):=by
 intro gs;induction gs with
 |nil=>intro _;simp
 |cons g gs ih=>
  intro hg;obtain⟨i,d,z,f1,f2,f3,f4,f5,f6,f7⟩:=bU.info (hg g (by simp));have:=ih (λg iX=>hg g (by simp[iX]));simp[mapM_cons,f1,f2,this]
theorem aee (bU:C.fK) (h:cj w0 F0 X F S s aH w) {T:TypeId} {ps:azj} {vs:List (Nat×Value)} (ax:rH w F s aH ps vs) (he:gH C s T ps=some (av,s1)):
  Good C w0 F0 X aH w (Instr.build T vs.toArray) av s1:=by
 unfold gH at he;split at he
 .rename_i aG fw aw cf;split at he
  .rename_i au;obtain⟨zo,aef⟩:=au;split at he
   .rename_i ds s2 jg;simp only[Option.some.injEq,Prod.mk.injEq]at he;obtain⟨rfl,rfl⟩:=he;obtain⟨i,d,z,aR,aW,aU,cc,cZ,cv,cd⟩:=bU.info (hF aw (by simp));rw[aw]at cd;obtain⟨gs,rfl,Vo⟩:=EG cd;obtain⟨ig,qJ⟩:=Option.isSome_iff_exists.1 zo;have zp:=cZ ig (by rw[cf];exact qJ);have ie:bA w F fw ig.toArray.toList (λ_=>False):=by
     have:=(az.flat (w:=w) (F:=F) _).1 (.agg fw) ig (λ_=>False) (Nat.le_refl _) qJ;rw[az]at this;simpa using this
    have fq:rH w F s aH (ps.map λp=>(p.1,nX [] p.2)) vs:=by simpa [nX]using ax
    obtain⟨pz,cO,h9,m1,m2,m3,m4,m5,m6,m7,m8,m9,m10⟩:=Nk ps vs [] s S fw ig.toArray (λ_=>False) h fq ie (λ_ h=>h.elim) (λ_ h=>h.elim) (λ_ _ h=>h.elim) (λ_ h=>h.elim) ds s2 jg;have fO:=aed bU gs.toList (λg hg=>aef (g.type,g.offset) (by rw[<-Vo];exact List.mem_map_of_mem hg));have aeg:(λ(k:Nat)=>(aG[k]?).map λ(f:TypeId×Nat)=>(f.2,(C.T f.1).sz))=λ(k:Nat)=>((gs.toList.map λg=>(g.offset,(C.T g.type).sz)).toArray)[k]? :=by
     funext k;rw[<-Vo];simp only[getElem?_map,getElem?_toArray,Option.map_map];rfl
    rw[aeg]at m1;refine⟨.agg pz,w,F,cO,run_build w T vs.toArray pz ?_,m2,.inr ⟨rfl,⟨_,rfl⟩,h9,by simp only[c_,jF];rw[az];exact m3,m4,m5,m6,m7⟩⟩;unfold Program.built;simp only[aR,cv,cc,fO,zp];exact m1
   .cases he
  .cases he
 .cases he
theorem aeh (bU:C.fK) (h:cj w0 F0 X F S s aH w) {T:TypeId} {n:Nat} {ps:azj} {vs:List (Nat×Value)} (ax:rH w F s aH ps vs) (he:d_ C s T n ps=some (av,s1)):
  Good C w0 F0 X aH w (Instr.buildSlice T n vs.toArray) av s1:=by
 unfold d_ at he;split at he
 .rename_i e aw;split at he
  .rename_i au;obtain⟨vS,zn,zo,fa,axb⟩:=au;split at he
   .rename_i ds s2 jg;simp only[Option.some.injEq,Prod.mk.injEq]at he;obtain⟨rfl,rfl⟩:=he;obtain⟨U6,d,U7,aR,aW,aU,cc,cZ,cv,cd⟩:=bU.info (hF aw (by simp));rw[aw]at cd;have:=oX cd;subst this;obtain⟨i,U8,z,f1,f2,f3,f4,f5,f6,f7⟩:=bU.info vS;obtain⟨ig,qJ⟩:=Option.isSome_iff_exists.1 zo;have zp:=f5 ig qJ;have ie:∀a_,az w F (C.T e).zero ig a_:=λa_=>(az.flat _).1 _ ig a_ (Nat.le_refl _) qJ;have xH:ig.length=(C.T e).sz:=by rw[az.length _ _ _ (ie (λ_=>False)),zn]
    generalize jj:((Array.range (n*(C.T e).sz)).map ((if n*(C.T e).sz=0 then #[]else ig.toArray)[·%(if n*(C.T e).sz=0 then(#[]:Array Value)else ig.toArray).size]!))=A;have Nl:A.toList=(replicate n ig).flatten:=by
     rw[<-jj];by_cases bc:n*(C.T e).sz=0
     .have:n=0:=by
       rcases mul_eq_zero.1 bc with h|h
       .exact h
       .exact(fa h).elim
      subst this;simp
     .simp only[bc,if_false];have:=Nj ig n;rw[xH]at this;simpa [xH]using this
    have fq:rH w F s aH (ps.map λp=>(p.1,nX [] p.2)) vs:=by simpa [nX]using ax
    obtain⟨pz,cO,h9,m1,m2,m3,m4,m5,m6,m7,m8,m9,m10⟩:=Nk ps vs [] s S (replicate n (C.T e).zero) A (λ_=>False) h fq (by rw[Nl];exact bA.replicate ie n _) (λ_ h=>h.elim) (λ_ h=>h.elim) (λ_ _ h=>h.elim) (λ_ h=>h.elim) ds s2 jg;have hlen:ds.length=n:=by rw[m8];simp
    have Vp:=m10 (C.T e).sz (by intro d ao;rw[eq_of_mem_replicate ao];exact zn);have aei:pz.toList.length=n*(C.T e).sz:=by rw[bA.zm m3 Vp,hlen]
    have aej:pz.size=n*(C.T e).sz:=by rw[<-aei];simp
    have axc:n<=16777216:=by
     have:n*1<=n*(C.T e).sz:=mul_le_mul_left _ (by omega);omega
    have oY:=m2.IQ (aP:=w.alloc (.cells pz e)) (sz:=(C.T e).sz) (cap:=n) (xs:=ds) (cur:=pz) (e:=e) (fr:=(0,0)) (Sn:=h9) rfl rfl rfl ⟨rfl,λ_=>Nat.le_refl _⟩
     (λo _ ⟨_,ag⟩=>absurd ag (not_lt_zero _)) (by omega) (by unfold maxLen;omega) aej Vp (by rw[hlen,take_of_length_le (by omega)];exact m3) m4 m5 m6 m7
    rw[hlen]at oY;refine⟨_,_,F,cO,?_,oY.1,oY.2⟩;by_cases bc:n*(C.T e).sz=0
    .simp only[bc,if_true]at jj;have BL:(Array.map (λ_=>(default:Value)) (Array.range 0))=A:=by
      have:n=0:=by
       rcases mul_eq_zero.1 bc with h|h
       .exact h
       .exact(fa h).elim
      apply Array.ext';rw[Nl,this];simp
     simp[Instr.buildSlice,run_underlying cv,ny f1,f2,bc,newRow];rw[BL,m1];simp
    .simp only[bc,if_false]at jj;have nS:¬(16777216<n*(C.T e).sz):=by omega
     simp[Instr.buildSlice,run_underlying cv,ny f1,f2,bc,nS,zd f1 f4,zp,newRow];have BL:(Array.map (λx=>ig[x%ig.length]?.getD default) (Array.range (n*(C.T e).sz)))=A:=by
      rw[<-jj];simp
     rw[BL,m1];simp
   .cases he
  .cases he
 .cases he
end
inductive e0 where
 |ga (x:bB)
 |hX (x:bB)
 |pick (c a b:bB)
 |mU (T:TypeId)
 |iy (T:TypeId) (x:bB)
 |gH (T:TypeId) (ps:List (Nat×bB))
 |d_ (T:TypeId) (n:Nat) (ps:List (Nat×bB))
 |fV (T:TypeId) (x:bB)
 |k1 (T:TypeId) (x y:bB)
 |mC (x:bB)
 |eP (op:BinOp) (T:TypeId) (x y:bB)
 |un (op:UnOp) (x:bB)
 |k3 (A B:TypeId) (x:bB)
 |p3 (f:FuncId) (cs:List bB)
 |fk (T:TypeId) (l c:bB)
 |iW (T:TypeId) (x:bB) (fT ai:Option bB)
 |h2 (T:TypeId) (x:bB) (k:Nat)
 |kM (T:TypeId) (x i:bB)
 |idx (T:TypeId) (x i:bB)
 |ex (x:bB) (k:Nat)
 |pw (T:TypeId) (x:bB) (k:Nat)
 |call (f:bB) (args:List bB)
 |len (T:TypeId) (x:bB)
 |app (T ea:TypeId) (x y:bB)
 |shr (b3:e0)
 |cap (T:TypeId) (x:bB)
 |kN (fv:Bool) (x y:bB)
 |bad
 |mV (f:bB) (args:List bB) (us:azf)
 |mc (T:TypeId) (x:bB)
 |p5 (x:bB)
 |pA (x:bB)
 |ext (x:bB) (k:Nat)
 |sX
 |jT (T:TypeId) (x i:bB)
 |k4 (T:TypeId) (x i v:bB)
def e0.base:e0->e0
 | .shr b3=>b3
 | .mV f args _=>.call f args
 | .mc T x=>.iy T x
 | .p5 x=>.hX x
 | .pA x=>.ga x
 | .ext x k=>.ex x k
 |b3=>b3
def sY:List Operand->Option (List bB)
 |[]=>some []
 |o::os=>match eK o,sY os with
  |some x,some xs=>some (x::xs)
  |_,_=>none
def BM:List (Nat×Operand)->Option (List (Nat×bB))
 |[]=>some []
 |(k,o)::os=>match eK o,BM os with
  |some x,some xs=>some ((k,x)::xs)
  |_,_=>none
def E1:Option Operand->Option (Option bB)
 |none=>some none
 |some o=>(eK o).map some
def dy:Op->Option e0
 | .move x=>(eK x).map .ga
 | .assign x=>(eK x).map .hX
 | .pick c a b=>match eK c,eK a,eK b with
   |some c,some a,some b=>some (.pick c a b)
   |_,_,_=>none
 | .alloc T=>some (.mU T)
 | .box T x=>(eK x).map (.iy T)
 | .build T ps=>(BM ps.toList).map (.gH T)
 | .buildSlice T n ps=>(BM ps.toList).map (.d_ T n)
 | .load T x=>(eK x).map (.fV T)
 | .store T x y=>match eK x,eK y with
   |some x,some y=>some (.k1 T x y)
   |_,_=>none
 | .nilCheck x=>(eK x).map .mC
 | .binOp op T x y _=>match eK x,eK y with
   |some x,some y=>some (.eP op T x y)
   |_,_=>none
 | .unOp op _ x=>(eK x).map (.un op)
 | .convert A B x=>(eK x).map (.k3 A B)
 | .makeFunc (.func f) first cs=>if first.isEmpty then(sY cs.toList).map (.p3 f)else none
 | .makeSlice T l c=>match eK l,eK c with
   |some l,some c=>some (.fk T l c)
   |_,_=>none
 | .slice T x fT ai none=>match eK x,E1 fT,E1 ai with
   |some x,some fT,some ai=>some (.iW T x fT ai)
   |_,_,_=>none
 | .fieldAddr T x k=>(eK x).map λx=>.h2 T x k
 | .indexAddr T x i=>match eK x,eK i with
   |some x,some i=>some (.kM T x i)
   |_,_=>none
 | .index T x i=>match eK x,eK i with
   |some x,some i=>some (.idx T x i)
   |_,_=>none
 | .extract x k=>(eK x).map λx=>.ex x k
 | .field T x k=>(eK x).map λx=>.pw T x k
 | .makeMap _ none=>some .sX
 | .lookup T x i false=>match eK x,eK i with
   |some x,some i=>some (.jT T x i)
   |_,_=>none
 | .mapUpdate T x i v=>match eK x,eK i,eK v with
   |some x,some i,some v=>some (.k4 T x i v)
   |_,_,_=>none
 | .call c=>match c.callee with
   | .value f=>match eK f,sY c.args.toList with
     |some f,some xs=>some (.call f xs)
     |_,_=>none
   | .builtin .len=>match c.args.toList,c.argTypes.toList with
     |[x],[T]=>(eK x).map (.len T)
     |_,_=>none
   | .builtin .cap=>match c.args.toList,c.argTypes.toList with
     |[x],[T]=>(eK x).map (.cap T)
     |_,_=>none
   | .builtin .min=>match c.args.toList with
     |[x,y]=>match eK x,eK y with
      |some x,some y=>some (.kN false x y)
      |_,_=>none
     |_=>none
   | .builtin .max=>match c.args.toList with
     |[x,y]=>match eK x,eK y with
      |some x,some y=>some (.kN true x y)
      |_,_=>none
     |_=>none
   | .builtin .append=>match c.args.toList,c.argTypes.toList with
     |[x,y],[T,ea]=>match eK x,eK y with
      |some x,some y=>some (.app T ea x y)
      |_,_=>none
     |_,_=>none
   |_=>none
 |_=>none
def kN (fv:Bool):I->I->Option I
 | .str a,.str b=>some (.str (h1 fv a b))
 | .int k a,.int dv b=>if k=dv then some (.int k (kZ fv a b))else none
 |_,_=>none
def uw (s:al):I->Option (I×al)
 | .h y q=>dJ s (.h y q)
 |d=>some (d,s)
def xN (s:al) (x:I) (k:Nat):Option (I×al):=
 match x,ex s x k with
 | .h y _,some (.h z p)=>if z=y then dJ s (.h z p)else none
 |_,_=>none
theorem Vq {s s1:al} {x av:I} {k:Nat} (h:xN s x k=some (av,s1)):∃y q p,x= .h y q/\ex s x k=some (.h y p)/\dJ s (.h y p)=some (av,s1):=by
 unfold xN at h;split at h
 .rename_i y q z p he;split at h
  .rename_i e;subst e;exact⟨z,q,p,rfl,he,h⟩
  .cases h
 .cases h
def cg (C:cy) (s:al):e0->Option (I×al)
 | .ga x=>some (bx s x,s)
 | .hX x=>match bx s x with
   | .h y q=>dJ s (.h y q)
   |d=>some (d,s)
 | .pick c a b=>match bx s c with
   | .bool gV=>some (if gV then bx s a else bx s b,s)
   |_=>none
 | .mU T=>(mU C T).map λd=>(d,s)
 | .iy _ x=>iy s (bx s x)
 | .gH T ps=>gH C s T (ps.map λp=>(p.1,bx s p.2))
 | .d_ T n ps=>d_ C s T n (ps.map λp=>(p.1,bx s p.2))
 | .fV T x=>(fV C s T (bx s x)).map λd=>(d,s)
 | .k1 T x y=>(k1 C s T (bx s x) (bx s y)).map λs1=>(.hole,s1)
 | .mC x=>(mC s (bx s x)).map λd=>(d,s)
 | .eP op T x y=>(eP C s op T (bx s x) (bx s y)).map λd=>(d,s)
 | .un op x=>(un op (bx s x)).map λd=>(d,s)
 | .k3 A B x=>(k3 C s A B (bx s x)).map λd=>(d,s)
 | .p3 f cs=>some (.fn f (cs.map (bx s)),s)
 | .fk T l c=>(fk C T (bx s l) (bx s c)).map λd=>(d,s)
 | .iW T x fT ai=>iW C s T (bx s x) (fT.map (bx s)) (ai.map (bx s))
 | .h2 T x k=>(h2 C s T (bx s x) k).map λd=>(d,s)
 | .kM T x i=>(kM C s T (bx s x) (bx s i)).map λd=>(d,s)
 | .idx T x i=>(idx C T (bx s x) (bx s i)).map λd=>(d,s)
 | .ex x k=>(ex s (bx s x) k).map λd=>(d,s)
 | .pw T x k=>(pw C s T (bx s x) k).bind (uw s)
 | .call _ _=>none
 | .len T x=>(vQ C s T (bx s x)).map λd=>(d,s)
 | .app T ea x y=>vU C s T ea (bx s x) (bx s y)
 | .shr _=>none
 | .mV _ _ _=>none
 | .mc _ x=>mc s (bx s x)
 | .p5 x=>some (bx s x,s)
 | .pA x=>uw s (bx s x)
 | .ext x k=>xN s (bx s x) k
 | .sX=>some (.ck (.mp []),s)
 | .jT T x i=>(jT C s T (bx s x) (bx s i)).map λd=>(d,s)
 | .k4 T x i v=>(k4 C s T (bx s x) (bx s i) (bx s v)).map λs1=>(.hole,s1)
 | .cap T x=>match(C.T T).k,bx s x with
   | .slice _,.bd=>some (.int .i64 0,s)
   |_,_=>none
 | .kN fv x y=>(kN fv (bx s x) (bx s y)).map λd=>(d,s)
 | .bad=>none
section
variable {C:cy} {w0 w:World} {F0 X F:Nat->Prop} {S:Nat->Nat->Prop} {s s1:al} {a:Act} {av:I}
theorem zt:∀{os:List Operand} {xs:List bB},sY os=some xs->os.map eK=xs.map some
 |[],xs,h=>by simp[sY]at h;subst h;rfl
 |o::os,xs,h=>by
  simp only[sY]at h;split at h
  .rename_i x Vr ad ag;simp at h;subst h;simp[ad,zt ag]
  .cases h
theorem Np {aH:Nat->Value} (h:cj w0 F0 X F S s aH w) (ff:∀t,aH t=a.tmps.getD t undef):∀{ps:List (Nat×Operand)} {xs:List (Nat×bB)},BM ps=some xs->
  rH w F s aH (xs.map λp=>(p.1,bx s p.2)) (ps.map λp=>(p.1,a.eval p.2))
 |[],xs,h=>by simp[BM]at h;subst h;trivial
 |(k,o)::ps,xs,bF=>by
  simp only[BM]at bF;split at bF
  .rename_i x Vr ad ag;simp at bF;subst bF;obtain⟨g1,g2⟩:=gy h ff ad;exact⟨rfl,g1,g2,Np h ff ag⟩
  .cases bF
def Next (C:cy) (w0:World) (F0 X:Nat->Prop) (aH:Nat->Value) (w:World) (m:Sem Go.Next) (av:I) (s1:al):Prop:=
 ∃r aP v cn a_,m.run C.P w= .ok r aP/\(r= .value v\/r= .skip/\v=undef)/\cj w0 F0 X cn a_ s1 aH aP/\oh w0 X cn a_ s1 aH aP av v
theorem Good.next {aH:Nat->Value} {m:Sem Value} (h:Good C w0 F0 X aH w m av s1):Next C w0 F0 X aH w (do pure (.value (<-m))) av s1:=by
 obtain⟨v,aP,cn,a_,ad,ag,aD⟩:=h;exact⟨.value v,aP,v,cn,a_,by simp[ad],.inl rfl,ag,aD⟩
theorem Vs {aH:Nat->Value} (h:cj w0 F0 X F S s aH w) {fv:Bool} {x y:I} {kC lQ:Value} {m:Sem Go.Next} (ad:aQ w F s aH x kC (λ_=>False)) (ag:aQ w F s aH y lQ (λ_=>False))
  (he:(kN fv x y).map (λd=>(d,s))=some (av,s1)) (hm:m=(do pure (.value (<-if fv then Builtin.max2 kC lQ else Builtin.min2 kC lQ)))):Next C w0 F0 X aH w m av s1:=by
 simp only[Option.map_eq_some_iff,Prod.mk.injEq]at he;obtain⟨d,ao,rfl,rfl⟩:=he;unfold kN at ao;split at ao
 .rename_i a b;simp only[Option.some.injEq]at ao;subst ao;have aR:=pt ad;have aW:=pt ag;subst aR aW;subst hm;refine⟨.value (.string ⟨⟨h1 fv a b⟩⟩),w,_,F,S,?_,.inl rfl,h,.inl ⟨rfl,sS _⟩⟩;cases fv
  .simp only[Builtin.min2,Op.stringOp,EM,h1,Bool.false_eq_true,if_false];cases ab:(Op.bytesLess a b||a==b)<;>simp[asBool]
  .simp only[Builtin.max2,Op.stringOp,EM,h1,if_true];cases ab:Op.bytesLess a b<;>simp[asBool]
 .rename_i k a dv b;split at ao
  .rename_i aw;subst aw;simp only[Option.some.injEq]at ao;subst ao;have aR:=qH ad;have aW:=qH ag;subst aR aW;subst hm;refine⟨.value (.int k (kZ fv a b)),w,_,F,S,?_,.inl rfl,h,.inl ⟨rfl,of_int _ _⟩⟩;cases fv<;>simp[Builtin.min2,Builtin.max2,kZ]
  .cases ao
 .cases ao
theorem Vt (bU:C.fK) {aH:Nat->Value} (h:cj w0 F0 X F S s aH w) (ff:∀t,aH t=a.tmps.getD t undef) {o:Oper} {b3:e0} (aa:dy o.op=some b3) (he:cg C s b3=some (av,s1)):
  Next C w0 F0 X aH w (execOp a.eval o) av s1:=by
 obtain⟨dst,op,ty,pos,after,guard⟩:=o;simp only at aa;cases op with
 |move x=>
  simp only[dy,Option.map_eq_some_iff]at aa;obtain⟨cU,aq,rfl⟩:=aa;obtain⟨g1,g2⟩:=gy h ff aq;simp only[cg,Option.some.injEq,Prod.mk.injEq]at he;obtain⟨rfl,rfl⟩:=he;exact⟨_,w,_,F,S,rfl,.inl rfl,h,.inl ⟨g1,g2⟩⟩
 |assign x=>
  simp only[dy,Option.map_eq_some_iff]at aa;obtain⟨cU,aq,rfl⟩:=aa;obtain⟨g1,g2⟩:=gy h ff aq;simp only[cg]at he;split at he
  .rename_i y q hy;rw[hy]at g1 g2;obtain⟨cO,k0,bX,cu,Sn,dS,dW,eB,dw,kj,_⟩:=rv h g1 g2 he;exact⟨_,w,_,F,cO,rfl,.inl rfl,k0,.inr ⟨bX,cu,Sn,dS,dW,eB,dw,kj⟩⟩
  .simp only[Option.some.injEq,Prod.mk.injEq]at he;obtain⟨rfl,rfl⟩:=he;exact⟨_,w,_,F,S,rfl,.inl rfl,h,.inl ⟨g1,g2⟩⟩
 |pick c x y=>
  simp only[dy]at aa;split at aa
  .rename_i xO cU oW au aq hy;simp only[Option.some.injEq]at aa;subst aa;simp only[cg]at he;split at he
   .rename_i b ab;simp only[Option.some.injEq,Prod.mk.injEq]at he;obtain⟨rfl,rfl⟩:=he;have EY:=(gy h ff au).2;rw[ab]at EY;have EY:=xD EY;obtain⟨U,af⟩:=gy h ff aq;obtain⟨fy,gk⟩:=gy h ff hy;refine⟨.value (if b then a.eval x else a.eval y),w,_,F,S,?_,.inl rfl,h,.inl ?_⟩
    .simp[execOp,EY,asBool]
    .cases b
     .exact⟨fy,gk⟩
     .exact⟨U,af⟩
   .cases he
  .cases aa
 |alloc T=>
  simp only[dy,Option.some.injEq]at aa;subst aa;simp only[cg,Option.map_eq_some_iff,Prod.mk.injEq]at he;obtain⟨d,ao,rfl,rfl⟩:=he;exact(adm bU h ao).next
 |box T x=>
  simp only[dy,Option.map_eq_some_iff]at aa;obtain⟨cU,aq,rfl⟩:=aa;obtain⟨g1,g2⟩:=gy h ff aq;exact(adp h g1 g2 he).next
 |build T ps=>
  simp only[dy,Option.map_eq_some_iff]at aa;obtain⟨aek,ax,rfl⟩:=aa;obtain⟨ps⟩:=ps;have:=(aee bU h (Np h ff ax) he).next;simpa [execOp]using this
 |buildSlice T n ps=>
  simp only[dy,Option.map_eq_some_iff]at aa;obtain⟨aek,ax,rfl⟩:=aa;obtain⟨ps⟩:=ps;have:=(aeh bU h (Np h ff ax) he).next;simpa [execOp]using this
 |load T x=>
  simp only[dy,Option.map_eq_some_iff]at aa;obtain⟨cU,aq,rfl⟩:=aa;obtain⟨g1,g2⟩:=gy h ff aq;simp only[cg,Option.map_eq_some_iff,Prod.mk.injEq]at he;obtain⟨d,ao,rfl,rfl⟩:=he;exact(adh bU h g2 ao).next
 |store T x y=>
  simp only[dy]at aa;split at aa
  .rename_i cU oW aq hy;simp only[Option.some.injEq]at aa;subst aa;simp only[cg,Option.map_eq_some_iff,Prod.mk.injEq]at he;obtain⟨s2,ao,rfl,rfl⟩:=he;obtain⟨aP,a_,ad,ag⟩:=adk bU h (gy h ff aq).2 (gy h ff hy).1 (gy h ff hy).2 ao;exact⟨.skip,aP,undef,F,a_,by simp[execOp,ad],.inr ⟨rfl,rfl⟩,ag,.inl ⟨rfl,by rw[aQ];trivial⟩⟩
  .cases aa
 |nilCheck x=>
  simp only[dy,Option.map_eq_some_iff]at aa;obtain⟨cU,aq,rfl⟩:=aa;obtain⟨g1,g2⟩:=gy h ff aq;simp only[cg,Option.map_eq_some_iff,Prod.mk.injEq]at he;obtain⟨d,ao,rfl,rfl⟩:=he;obtain⟨rfl,ax,aF⟩:=adA h g2 ao;refine⟨.value (a.eval x),w,_,F,S,?_,.inl rfl,h,.inl ⟨ax,g2⟩⟩;rcases aF with⟨b,ab⟩|⟨f,c,ab⟩<;>simp[execOp,ab]
 |binOp op T x y axd=>
  simp only[dy]at aa;split at aa
  .rename_i cU oW aq hy;simp only[Option.some.injEq]at aa;subst aa;simp only[cg,Option.map_eq_some_iff,Prod.mk.injEq]at he;obtain⟨d,ao,rfl,rfl⟩:=he;exact(adx bU h x y (gy h ff aq).2 (gy h ff hy).2 ao).next
  .cases aa
 |unOp op T x=>
  simp only[dy,Option.map_eq_some_iff]at aa;obtain⟨cU,aq,rfl⟩:=aa;simp only[cg,Option.map_eq_some_iff,Prod.mk.injEq]at he;obtain⟨d,ao,rfl,rfl⟩:=he;exact(ady h (gy h ff aq).2 ao).next
 |convert A B x=>
  simp only[dy,Option.map_eq_some_iff]at aa;obtain⟨cU,aq,rfl⟩:=aa;simp only[cg,Option.map_eq_some_iff,Prod.mk.injEq]at he;obtain⟨d,ao,rfl,rfl⟩:=he;exact(adI bU h (gy h ff aq).2 ao).next
 |makeFunc fn first cs=>
  cases fn with
  |func f=>
   simp only[dy]at aa;split at aa
   .rename_i Nq;simp only[Option.map_eq_some_iff]at aa;obtain⟨rI,ib,rfl⟩:=aa;simp only[cg,Option.some.injEq,Prod.mk.injEq]at he;obtain⟨rfl,rfl⟩:=he;have Nr:first= #[]:=by simpa using Nq
    subst Nr;refine⟨_,w,_,F,S,rfl,.inl rfl,h,.inl ⟨rfl,?_⟩⟩;rw[aQ];refine⟨cs.map a.eval,by simp,?_⟩;simpa using I2 h ff _ _ (zt ib)
   .cases aa
  |_=>simp[dy]at aa
 |makeSlice T l c=>
  simp only[dy]at aa;split at aa
  .rename_i cU oW aq hy;simp only[Option.some.injEq]at aa;subst aa;simp only[cg,Option.map_eq_some_iff,Prod.mk.injEq]at he;obtain⟨d,ao,rfl,rfl⟩:=he;exact(ad8 bU h (gy h ff aq).2 (gy h ff hy).2 ao).next
  .cases aa
 |slice T x fT ai fv=>
  cases fv with
  |some m=>simp[dy]at aa
  |none=>
   simp only[dy]at aa;split at aa
   .rename_i cU axe E2 aq rB rC;simp only[Option.some.injEq]at aa;subst aa;obtain⟨g1,g2⟩:=gy h ff aq;have opt:∀{o:Option Operand} {qL:Option bB},E1 o=some qL->vR w F s aH (qL.map (bx s)) (o.map a.eval):=by
     intro o qL bO;cases o with
     |none=>simp[E1]at bO;subst bO;trivial
     |some o=>
      simp only[E1,Option.map_eq_some_iff]at bO;obtain⟨x,aq,rfl⟩:=bO;exact(gy h ff aq).2
    exact(adL bU h g1 g2 (opt rB) (opt rC) he).next
   .cases aa
 |fieldAddr T x k=>
  simp only[dy,Option.map_eq_some_iff]at aa;obtain⟨cU,aq,rfl⟩:=aa;obtain⟨g1,g2⟩:=gy h ff aq;simp only[cg,Option.map_eq_some_iff,Prod.mk.injEq]at he;obtain⟨d,ao,rfl,rfl⟩:=he;exact(ac_ bU h g1 g2 ao).next
 |indexAddr T x i=>
  simp only[dy]at aa;split at aa
  .rename_i cU oW aq hy;simp only[Option.some.injEq]at aa;subst aa;simp only[cg,Option.map_eq_some_iff,Prod.mk.injEq]at he;obtain⟨d,ao,rfl,rfl⟩:=he;exact(ada bU h (gy h ff aq).2 (gy h ff hy).2 ao).next
  .cases aa
 |index T x i=>
  simp only[dy]at aa;split at aa
  .rename_i cU oW aq hy;simp only[Option.some.injEq]at aa;subst aa;simp only[cg,Option.map_eq_some_iff,Prod.mk.injEq]at he;obtain⟨d,ao,rfl,rfl⟩:=he;exact(adF bU h (gy h ff aq).2 (gy h ff hy).2 ao).next
  .cases aa
 |makeMap t r=>
  cases r with
  |none=>
   simp only[dy,Option.some.injEq]at aa;subst aa;simp only[cg,Option.some.injEq,Prod.mk.injEq]at he;obtain⟨rfl,rfl⟩:=he;exact(ad7 h t).next
  |some r=>simp[dy]at aa
 |lookup T x i c=>
  cases c with
  |true=>simp[dy]at aa
  |false=>
   simp only[dy]at aa;split at aa
   .rename_i cU uk aq ai;simp only[Option.some.injEq]at aa;subst aa;simp only[cg,Option.map_eq_some_iff,Prod.mk.injEq]at he;obtain⟨d,ao,rfl,rfl⟩:=he;exact(ad4 bU h (gy h ff aq).2 (gy h ff ai).2 ao).next
   .cases aa
 |mapUpdate T x i v=>
  simp only[dy]at aa;split at aa
  .rename_i cU uk ht aq ai aF;simp only[Option.some.injEq]at aa;subst aa;simp only[cg,Option.map_eq_some_iff,Prod.mk.injEq]at he;obtain⟨s2,ao,rfl,rfl⟩:=he;obtain⟨aP,a_,ad,ag⟩:=ad5 bU h (gy h ff aq).2 (gy h ff ai).2 (gy h ff aF).2 ao;exact⟨.skip,aP,undef,F,a_,by simp[execOp,ad],.inr ⟨rfl,rfl⟩,ag,.inl ⟨rfl,by rw[aQ];trivial⟩⟩
  .cases aa
 |extract x k=>
  simp only[dy,Option.map_eq_some_iff]at aa;obtain⟨cU,aq,rfl⟩:=aa;simp only[cg,Option.map_eq_some_iff,Prod.mk.injEq]at he;obtain⟨d,ao,rfl,rfl⟩:=he;exact(UW h (gy h ff aq).2 ao).next
 |field T x k=>
  simp only[dy,Option.map_eq_some_iff]at aa;obtain⟨cU,aq,rfl⟩:=aa;simp only[cg,Option.bind_eq_some_iff]at he;obtain⟨d,ao,he⟩:=he;obtain⟨v,aP,cn,a_,aS,oe,qD⟩:=adD bU h (gy h ff aq).2 ao;unfold uw at he;split at he
  .rename_i y q;have Ns:aQ aP cn s aH (.h y q) v (λ_=>False):=by
    rcases qD with⟨_,g2⟩|⟨g1,_⟩
    .exact g2
    .cases g1
   obtain⟨cO,k0,bX,cu,Sn,dS,dW,eB,dw,kj,_⟩:=rv oe rfl Ns he;exact⟨.value v,aP,v,cn,cO,by simp[execOp,aS],.inl rfl,k0,.inr ⟨bX,cu,Sn,dS,dW,eB,dw,kj⟩⟩
  .simp only[Option.some.injEq,Prod.mk.injEq]at he;obtain⟨rfl,rfl⟩:=he;exact⟨.value v,aP,v,cn,a_,by simp[execOp,aS],.inl rfl,oe,qD⟩
 |call c=>
  obtain⟨callee,args,argTypes⟩:=c;simp only[dy]at aa;split at aa
  .split at aa
   .simp only[Option.some.injEq]at aa;subst aa;simp[cg]at he
   .cases aa
  .split at aa
   .rename_i x T rJ E3;simp only[Option.map_eq_some_iff]at aa;obtain⟨cU,aq,rfl⟩:=aa;simp only[cg,Option.map_eq_some_iff,Prod.mk.injEq]at he;obtain⟨d,ao,rfl,rfl⟩:=he;have:=(adG (ty:=ty) bU h (gy h ff aq).2 ao).next;have aR:args= #[x]:=by apply Array.ext';exact rJ
    have aW:argTypes= #[T]:=by apply Array.ext';exact E3
    subst aR aW;simpa [execOp,resolve,invoke,builtin]using this
   .cases aa
  .split at aa
   .rename_i x T rJ E3;simp only[Option.map_eq_some_iff]at aa;obtain⟨cU,aq,rfl⟩:=aa;simp only[cg]at he;split at he
    .rename_i e aw ael;simp only[Option.some.injEq,Prod.mk.injEq]at he;obtain⟨rfl,rfl⟩:=he;have aF:=(gy h ff aq).2;rw[ael]at aF;have:=xE aF;obtain⟨i,d,z,aR,aW,aU,cc,cZ,cv,cd⟩:=bU.info (hF aw (by simp));rw[aw]at cd;have ao:=oX cd;subst ao;have aem:args= #[x]:=by apply Array.ext';exact rJ
     have aen:argTypes= #[T]:=by apply Array.ext';exact E3
     subst aem aen;have aS:(Builtin.cap_ #[T] ty #[a.eval x]).run C.P w= .ok (.int .i64 0) w:=by
      rw[this];simp[Builtin.cap_,run_underlying cv,goInt]
     have:=(Good.same (av:=.int .i64 0) h aS rfl (of_int _ _)).next;simpa [execOp,resolve,invoke,builtin]using this
    .cases he
   .cases aa
  .split at aa
   .rename_i x y rJ;split at aa
    .rename_i cU oW aq hy;simp only[Option.some.injEq]at aa;subst aa;have aR:args= #[x,y]:=by apply Array.ext';exact rJ
     subst aR;exact Vs h (gy h ff aq).2 (gy h ff hy).2 he (by simp[execOp,resolve,invoke,builtin,Builtin.min_])
    .cases aa
   .cases aa
  .split at aa
   .rename_i x y rJ;split at aa
    .rename_i cU oW aq hy;simp only[Option.some.injEq]at aa;subst aa;have aR:args= #[x,y]:=by apply Array.ext';exact rJ
     subst aR;exact Vs h (gy h ff aq).2 (gy h ff hy).2 he (by simp[execOp,resolve,invoke,builtin,Builtin.max_])
    .cases aa
   .cases aa
  .split at aa
   .rename_i x y T ea rJ E3;split at aa
    .rename_i cU oW aq hy;simp only[Option.some.injEq]at aa;subst aa;have:=(adW (ty:=ty) bU h (gy h ff aq).2 (gy h ff hy).2 he).next;have aR:args= #[x,y]:=by apply Array.ext';exact rJ
     have aW:argTypes= #[T,ea]:=by apply Array.ext';exact E3
     subst aR aW;simpa [execOp,resolve,invoke,builtin]using this
    .cases aa
   .cases aa
  .cases aa
 |_=>simp[dy]at aa
end
mutual
def I.aa:I->azf
 | .h x _=>[x]
 | .ax x _=>[x]
 | .ab x _=>[x]
 | .fn _ cap=>I.e3 cap
 |_=>[]
def I.e3:azk->azf
 |[]=>[]
 |d::ds=>d.aa++I.e3 ds
end
inductive ux where
 |no
 |cW
 |dL
structure ij where
 k:ux
 x:Nat
 d:I
def ux.app (k:ux) (x:Nat) (a:I):I:=match k with
 | .no=>a
 | .cW=>ei.cW x a
 | .dL=>ei.dL x a
def ij.at (m:ij) (u:Nat) (a:I):I:=if u=m.x then m.d else m.k.app m.x a
def mD:List ij->Nat->I->I
 |[],_,a=>a
 |m::ms,u,a=>mD ms u (m.at u a)
def eV (ms:List ij) (s:al):al:=λu=>mD ms u (s u)
theorem Vu:∀(ms mf:List ij) (u:Nat) (a:I),mD (ms++mf) u a=mD mf u (mD ms u a)
 |[],_,_,_=>rfl
 |m::ms,mf,u,a=>by simp only[cons_append,mD];exact Vu ms mf u _
theorem pB (ms mf:List ij) (s:al):eV (ms++mf) s=eV mf (eV ms s):=by
 funext u;simp[eV,Vu]
theorem aeo {ms:List ij} {s aE:al} {u:Nat} (h:aE u=s u):eV ms aE u=eV ms s u:=by simp[eV,h]
theorem zu (s:al) (x:Nat) (d:I):el (js x s) x d=eV [⟨.cW,x,d⟩] s:=by
 funext u;simp only[eV,mD,ij.at,el,js,ux.app]
theorem Vv (s:al) (x:Nat) (d:I):el (oU x s) x d=eV [⟨.dL,x,d⟩] s:=by
 funext u;simp only[eV,mD,ij.at,el,oU,ux.app]
theorem Vw (s:al) (x:Nat) (d:I):el s x d=eV [⟨.no,x,d⟩] s:=by
 funext u;simp only[eV,mD,ij.at,el,ux.app]
mutual
theorem E4 {x:Nat}:∀a:I,x∉a.aa->cW x a=a
 | .h y q,h=>by
   simp only[I.aa,mem_singleton]at h;simp only[cW];rw[if_neg (λe=>h e.symm)]
 | .ax y q,h=>by
   simp only[I.aa,mem_singleton]at h;simp only[cW];rw[if_neg (λe=>h e.symm)]
 | .ab y q,h=>rfl
 | .fn f cap,h=>by simp only[cW];rw[Vx cap (by simpa [I.aa]using h)]
 | .hole,_=>rfl
 | .bool _,_=>rfl
 | .gu,_=>rfl
 | .int _ _,_=>rfl
 | .str _,_=>rfl
 | .ez,_=>rfl
 | .bd,_=>rfl
 | .slice _,_=>rfl
 | .ae _ _,_=>rfl
 | .ref _,_=>rfl
 | .aM _,_=>rfl
 | .agg _,_=>rfl
 | .tuple _,_=>rfl
 | .ck _,_=>rfl
theorem Vx {x:Nat}:∀ds:azk,x∉I.e3 ds->kL x ds=ds
 |[],_=>rfl
 |d::ds,h=>by
  simp only[I.e3,mem_append,not_or]at h;simp only[kL];rw[E4 d h.1,Vx ds h.2]
end
mutual
theorem Nt {x:Nat}:∀a:I,x∉a.aa->dL x a=a
 | .h y q,h=>by
   simp only[I.aa,mem_singleton]at h;simp only[dL];rw[if_neg (λe=>h e.symm)]
 | .ax y q,h=>by
   simp only[I.aa,mem_singleton]at h;simp only[dL];rw[if_neg (λe=>h e.symm)]
 | .ab y q,h=>by
   simp only[I.aa,mem_singleton]at h;simp only[dL];rw[if_neg (λe=>h e.symm)]
 | .fn f cap,h=>by simp only[dL];rw[Vy cap (by simpa [I.aa]using h)]
 | .hole,_=>rfl
 | .bool _,_=>rfl
 | .gu,_=>rfl
 | .int _ _,_=>rfl
 | .str _,_=>rfl
 | .ez,_=>rfl
 | .bd,_=>rfl
 | .slice _,_=>rfl
 | .ae _ _,_=>rfl
 | .ref _,_=>rfl
 | .aM _,_=>rfl
 | .agg _,_=>rfl
 | .tuple _,_=>rfl
 | .ck _,_=>rfl
theorem Vy {x:Nat}:∀ds:azk,x∉I.e3 ds->lk x ds=ds
 |[],_=>rfl
 |d::ds,h=>by
  simp only[I.e3,mem_append,not_or]at h;simp only[lk];rw[Nt d h.1,Vy ds h.2]
end
theorem E5 {k:ux} {x:Nat} {a:I} (h:k= .no\/x∉a.aa):k.app x a=a:=by
 cases k with
 |no=>rfl
 |cW=>exact E4 a (by simpa using h)
 |dL=>exact Nt a (by simpa using h)
mutual
theorem Vz (x y:Nat):∀a:I,cW x (cW y a)=cW y (cW x a)
 | .h z q=>by simp only[cW];by_cases ad:z=x<;>by_cases ag:z=y<;>by_cases aD:q=[]<;>simp[ad,ag,aD,cW]<;>(subst_vars;simp_all [cW])
 | .ax z q=>by simp only[cW];by_cases ad:z=x<;>by_cases ag:z=y<;>simp[ad,ag,cW]<;>(subst_vars;simp_all [cW])
 | .ab z q=>rfl
 | .fn f cap=>by simp only[cW];rw[VA x y cap]
 | .hole=>rfl
 | .bool _=>rfl
 | .gu=>rfl
 | .int _ _=>rfl
 | .str _=>rfl
 | .ez=>rfl
 | .bd=>rfl
 | .slice _=>rfl
 | .ae _ _=>rfl
 | .ref _=>rfl
 | .aM _=>rfl
 | .agg _=>rfl
 | .tuple _=>rfl
 | .ck _=>rfl
theorem VA (x y:Nat):∀ds:azk,kL x (kL y ds)=kL y (kL x ds)
 |[]=>rfl
 |d::ds=>by simp only[kL];rw[Vz x y d,VA x y ds]
end
mutual
theorem VB (x y:Nat):∀a:I,dL x (dL y a)=dL y (dL x a)
 | .h z q=>by simp only[dL];by_cases ad:z=x<;>by_cases ag:z=y<;>simp[ad,ag,dL]<;>(subst_vars;simp_all [dL])
 | .ax z q=>by simp only[dL];by_cases ad:z=x<;>by_cases ag:z=y<;>simp[ad,ag,dL]<;>(subst_vars;simp_all [dL])
 | .ab z q=>by simp only[dL];by_cases ad:z=x<;>by_cases ag:z=y<;>simp[ad,ag,dL]<;>(subst_vars;simp_all [dL])
 | .fn f cap=>by simp only[dL];rw[VC x y cap]
 | .hole=>rfl
 | .bool _=>rfl
 | .gu=>rfl
 | .int _ _=>rfl
 | .str _=>rfl
 | .ez=>rfl
 | .bd=>rfl
 | .slice _=>rfl
 | .ae _ _=>rfl
 | .ref _=>rfl
 | .aM _=>rfl
 | .agg _=>rfl
 | .tuple _=>rfl
 | .ck _=>rfl
theorem VC (x y:Nat):∀ds:azk,lk x (lk y ds)=lk y (lk x ds)
 |[]=>rfl
 |d::ds=>by simp only[lk];rw[VB x y d,VC x y ds]
end
mutual
theorem Nu (x y:Nat):∀a:I,cW x (dL y a)=dL y (cW x a)
 | .h z q=>by simp only[dL,cW];by_cases ad:z=x<;>by_cases ag:z=y<;>by_cases aD:q=[]<;>simp[ad,ag,aD,dL,cW]<;>(subst_vars;simp_all [dL,cW])
 | .ax z q=>by simp only[dL,cW];by_cases ad:z=x<;>by_cases ag:z=y<;>simp[ad,ag,dL,cW]<;>(subst_vars;simp_all [dL,cW])
 | .ab z q=>by simp only[dL,cW];by_cases ag:z=y<;>simp[ag,cW]
 | .fn f cap=>by simp only[dL,cW];rw[VD x y cap]
 | .hole=>rfl
 | .bool _=>rfl
 | .gu=>rfl
 | .int _ _=>rfl
 | .str _=>rfl
 | .ez=>rfl
 | .bd=>rfl
 | .slice _=>rfl
 | .ae _ _=>rfl
 | .ref _=>rfl
 | .aM _=>rfl
 | .agg _=>rfl
 | .tuple _=>rfl
 | .ck _=>rfl
theorem VD (x y:Nat):∀ds:azk,kL x (lk y ds)=lk y (kL x ds)
 |[]=>rfl
 |d::ds=>by simp only[lk,kL];rw[Nu x y d,VD x y ds]
end
theorem aep (k l:ux) (x y:Nat) (a:I):k.app x (l.app y a)=l.app y (k.app x a):=by
 cases k<;>cases l<;>simp only[ux.app]<;>first|rfl|exact Vz .. |exact VB .. |exact Nu .. |exact(Nu ..).symm
def bB.use (s:al):bB->azf
 | .t n=>n::(s n).aa
 | .c av=>av.aa
 | .f _=>[]
def bB.sZ (s:al):List bB->azf
 |[]=>[]
 |x::xs=>x.use s++bB.sZ s xs
def Nv (s:al):Option bB->azf
 |none=>[]
 |some x=>x.use s
def use (s:al):e0->azf
 | .ga x=>x.use s
 | .hX x=>x.use s
 | .pick c a b=>c.use s++(a.use s++b.use s)
 | .mU _=>[]
 | .iy _ x=>x.use s
 | .gH _ ps=>bB.sZ s (ps.map (·.2))
 | .d_ _ _ ps=>bB.sZ s (ps.map (·.2))
 | .fV _ x=>x.use s
 | .k1 _ x y=>x.use s++y.use s
 | .mC x=>x.use s
 | .eP _ _ x y=>x.use s++y.use s
 | .un _ x=>x.use s
 | .k3 _ _ x=>x.use s
 | .p3 _ cs=>bB.sZ s cs
 | .fk _ l c=>l.use s++c.use s
 | .iW _ x fT ai=>x.use s++(Nv s fT++Nv s ai)
 | .h2 _ x _=>x.use s
 | .kM _ x i=>x.use s++i.use s
 | .idx _ x i=>x.use s++i.use s
 | .ex x _=>x.use s
 | .pw _ x _=>x.use s
 | .call f args=>f.use s++bB.sZ s args
 | .len _ x=>x.use s
 | .app _ _ x y=>x.use s++y.use s
 | .shr b3=>use s b3
 | .mV f args us=>us.flatMap (λu=>u::(s u).aa)++(f.use s++bB.sZ s args)
 | .mc _ x=>x.use s
 | .p5 x=>x.use s
 | .pA x=>x.use s
 | .ext x _=>x.use s
 | .sX=>[]
 | .jT _ x i=>x.use s++i.use s
 | .k4 _ x i v=>x.use s++(i.use s++v.use s)
 | .cap _ x=>x.use s
 | .kN _ x y=>x.use s++y.use s
 | .bad=>[]
def lp (s:al):e0->azf
 | .hX x=>(bx s x).aa
 | .iy _ x=>(bx s x).aa
 | .gH _ ps=>I.e3 (ps.map λp=>bx s p.2)
 | .d_ _ _ ps=>I.e3 (ps.map λp=>bx s p.2)
 | .k1 _ x y=>(bx s x).aa++(bx s y).aa
 | .pw _ x _=>(bx s x).aa
 | .pA x=>(bx s x).aa
 | .ext x _=>(bx s x).aa
 | .k4 _ x _ _=>(bx s x).aa
 | .iW _ x _ _=>(bx s x).aa
 | .app _ _ x y=>(bx s x).aa++(bx s y).aa
 | .shr b3=>lp s b3
 |_=>[]
def eF (ea:azf) (aE s:al):Prop:=∀u∈ea,aE u=s u
theorem eF.left {ea V:azf} {aE s:al} (h:eF (ea++V) aE s):eF ea aE s:=λu hu=>h u (mem_append_left _ hu)
theorem eF.right {ea V:azf} {aE s:al} (h:eF (ea++V) aE s):eF V aE s:=λu hu=>h u (mem_append_right _ hu)
theorem eF.eV {ea:azf} {aE s:al} (h:eF ea aE s) (ms:List ij):eF ea (eV ms aE) (eV ms s):=λu hu=>aeo (h u hu)
theorem eF.sub {ea V:azf} {aE s:al} (h:eF ea aE s) (aa:∀u∈V,u∈ea):eF V aE s:=λu hu=>h u (aa u hu)
theorem bB.zv {s:al} {x:bB}:∀u∈(bx s x).aa,u∈x.use s:=by
 intro u hu;cases x with
 |t n=>
  simp only[bx,uh]at hu;split at hu
  .simp[bB.use,hu]
  .simp only[I.aa,mem_singleton]at hu;simp[bB.use,hu]
 |c av=>exact hu
 |f g=>simp[bx,I.aa,I.e3]at hu
theorem bB.gI {s aE:al} {x:bB} (h:eF (x.use s) aE s):bx aE x=bx s x:=by
 cases x with
 |t n=>simp only[bx];rw[h n (by simp[bB.use])]
 |c av=>rfl
 |f g=>rfl
theorem eF.bx {s aE:al} {x:bB} (h:eF (x.use s) aE s):eF (bx s x).aa aE s:=h.sub bB.zv
theorem VE {s aE:al} {x:Option bB} (h:eF (Nv s x) aE s):x.map (bx aE)=x.map (bx s):=by
 cases x with
 |none=>rfl
 |some x=>simp only[Option.map_some];rw[bB.gI h]
theorem bB.Nw {s aE:al}:∀{xs:List bB},eF (bB.sZ s xs) aE s->xs.map (bx aE)=xs.map (bx s)
 |[],_=>rfl
 |x::xs,h=>by
  simp only[map_cons];rw[bB.gI (h.left),bB.Nw (h.right)]
theorem bB.Nx {s aE:al}:∀{ps:List (Nat×bB)},eF (bB.sZ s (ps.map (·.2))) aE s->(ps.map λp=>(p.1,bx aE p.2))=ps.map λp=>(p.1,bx s p.2)
 |[],_=>rfl
 |x::xs,h=>by
  simp only[map_cons]at h⊢;rw[bB.gI (h.left),bB.Nx (h.right)]
theorem bB.I3 {s:al}:∀{xs:List bB},∀u∈I.e3 (xs.map (bx s)),u∈bB.sZ s xs
 |[],u,h=>by simp[I.e3]at h
 |x::xs,u,h=>by
  simp only[map_cons,I.e3,mem_append]at h;simp only[bB.sZ,mem_append];exact h.imp (bB.zv u) (bB.I3 u)
section
variable {C:cy} {s aE:al} {x y i:I} {T A B:TypeId}
theorem Ny (h:eF x.aa aE s):loc aE x=loc s x:=by
 cases x<;>first
  |rfl
  |(simp only[loc];rw[h _ (by simp[I.aa])])
theorem Nz {z:Nat} {q:azf} (h:loc s x=some (z,q)):z∈x.aa:=by
 cases x with
 |h y p=>
  simp only[loc]at h;split at h
  .simp only[Option.some.injEq,Prod.mk.injEq]at h;simp[I.aa,h.1]
  .cases h
 |ax y p=>
  simp only[loc]at h;split at h
  .simp only[Option.some.injEq,Prod.mk.injEq]at h;simp[I.aa,h.1]
  .cases h
 |_=>simp[loc]at h
theorem aeq (h:eF x.aa aE s):fV C aE T x=fV C s T x:=by
 have hl:=Ny h;unfold fV;split
 .rfl
 .rw[h _ (by simp[I.aa])]
 .rw[hl];split
  .rename_i e;rw[h _ (Nz e)]
  .rfl
theorem aer {k:Nat} (h:eF x.aa aE s):h2 C aE T x k=h2 C s T x k:=by
 have hl:=Ny h;unfold h2;split
 .split
  .split
   .split
    .rfl
    .rw[h _ (by simp[I.aa])]
    .rw[hl];split
     .rename_i e;rw[h _ (Nz e)]
     .rfl
   .rfl
  .rfl
 .rfl
theorem aes (h:eF x.aa aE s):kM C aE T x i=kM C s T x i:=by
 cases x<;>first
  |rfl
  |(simp only[kM];rw[h _ (by simp[I.aa])])
theorem aet (h:eF x.aa aE s):vQ C aE T x=vQ C s T x:=by
 unfold vQ;cases(C.T T).k<;>cases x<;>first
  |rfl
  |(simp only;rw[h _ (by simp[I.aa])])
theorem aeu (h:eF x.aa aE s):k3 C aE A B x=k3 C s A B x:=by
 unfold k3;cases(C.T B).k<;>cases x<;>first
  |rfl
  |(simp only;rw[h _ (by simp[I.aa])])
theorem aev (h:eF x.aa aE s):me aE x=me s x:=by
 cases x<;>first
  |rfl
  |(simp only[me];rw[h _ (by simp[I.aa])])
theorem aew (h:eF x.aa aE s):oi aE x=oi s x:=by
 cases x<;>first
  |rfl
  |(simp only[oi];rw[h _ (by simp[I.aa])])
theorem aex {op:BinOp} (h:eF x.aa aE s):eP C aE op T x y=eP C s op T x y:=by
 have ad:=aev h;have ag:=aew h;unfold eP;split<;>first|rfl|simp only[ad,ag]
theorem aey (h:eF x.aa aE s):mC aE x=mC s x:=by
 cases x<;>first
  |rfl
  |(simp only[mC];rw[h _ (by simp[I.aa])])
theorem aez {k y:Nat} {q:azf} (h:pw C s T x k=some (.h y q)):x.aa=[y]:=by
 unfold pw at h;split at h<;>try (cases h;done)
 split at h<;>try (cases h;done)
 split at h
 .split at h<;>try (cases h;done)
  split at h
  .rename_i au;simp only[Option.some.injEq]at h;rw[h]at au;exact absurd au.2.2.2 (by simp[I.tree])
  .cases h
 .split at h<;>try (cases h;done)
  split at h<;>try (cases h;done)
  split at h<;>try (cases h;done)
  rename_i d ao au;by_cases ax:d.plain=true
  .simp only[ax,if_true,Option.some.injEq]at h;rw[h]at au;exact absurd au.2.2.2 (by simp[I.tree])
  .simp only[ax,Option.some.injEq]at h;injection h with ad ag;subst ad;rfl
 .cases h
theorem VF {k:Nat} (h:eF x.aa aE s):pw C aE T x k=pw C s T x k:=by
 unfold pw;split<;>try rfl
 split<;>try rfl
 cases x<;>first
  |rfl
  |(simp only[];rw[h _ (by simp[I.aa])])
theorem VG {k:Nat} (h:eF x.aa aE s):ex aE x k=ex s x k:=by
 cases x<;>first
  |rfl
  |(simp only[ex];rw[h _ (by simp[I.aa])])
theorem BN:∀(q:azf) (a d e:I),I.sub q a=some d->(d.plain=false\/q≠[])->(q=[]->e.aa=[])->(I.put q e a).aa=[]:=by
 intro q a d e h ax he;cases q with
 |nil=>rw[I.put];exact he rfl
 |cons k q=>
  cases a<;>first
   |(simp[I.sub]at h;done)
   |skip
  all_goals
   unfold I.put
   repeat' split
   all_goals first|rfl|(simp_all;done)
end
def Loc {α:Type} (ea BO:azf) (f:al->Option (α×al)) (s:al) (av:α) (s1:al):Prop:=
 ∃ms,s1=eV ms s/\(∀m∈ms,m.x∈BO/\m.d.aa=[])/\∀aE,eF ea aE s->f aE=some (av,eV ms aE)
theorem Loc.pure {α:Type} {ea BO:azf} {f:al->Option (α×al)} {s:al} {av:α} (h:∀aE,eF ea aE s->f aE=some (av,aE)):Loc ea BO f s av s:=
 ⟨[],rfl,by simp,λaE aa=>h aE aa⟩
theorem Loc.mono {α:Type} {ea BO VH VI:azf} {f:al->Option (α×al)} {s s1:al} {av:α} (h:Loc ea BO f s av s1) (uu:∀u∈ea,u∈VH) (ln:∀u∈BO,u∈VI):Loc VH VI f s av s1:=by
 obtain⟨ms,ad,ag,aD⟩:=h;exact⟨ms,ad,λm hm=>⟨ln _ (ag m hm).1,(ag m hm).2⟩,λaE aa=>aD aE (aa.sub uu)⟩
section
variable {C:cy} {s s1:al} {x y d:I} {T A B:TypeId}
theorem uy (h:dJ s x=some (d,s1)):Loc x.aa x.aa (λs=>dJ s x) s d s1:=by
 cases x with
 |h y q=>
  simp only[dJ]at h;split at h
  .rename_i e he;split at h
   .cases h
   .rename_i ax;simp only[Option.some.injEq,Prod.mk.injEq]at h;obtain⟨rfl,rfl⟩:=h;have ax:e.plain=false:=by simpa using ax
    refine⟨[⟨.cW,y,I.put q e.ee (s y)⟩],zu _ _ _,?_,?_⟩
    .intro m hm;simp only[mem_singleton]at hm;subst hm;refine⟨by simp[I.aa],BN q _ _ _ he (.inl ax) λcE=>?_⟩;subst cE;cases e<;>first|(simp[I.plain]at ax;done)|rfl
    .intro aE aa;have aR:aE y=s y:=aa y (by simp[I.aa]);simp only[dJ,aR,he,ax];rw[<-zu];rfl
  .cases h
 |ax y q=>simp[dJ]at h
 |ab y q=>simp[dJ]at h
 |fn f c=>simp[dJ]at h
 |hole=>simp[dJ]at h
 |_=>
  simp only[dJ,Option.some.injEq,Prod.mk.injEq]at h;obtain⟨rfl,rfl⟩:=h;exact .pure λaE _=>rfl
mutual
theorem VJ (x:Nat):∀a:I,∀u∈(cW x a).aa,u∈a.aa
 | .h y q,u,h=>by
   simp only[cW]at h;split at h
   .split at h
    .exact h
    .simp[I.aa]at h
   .exact h
 | .ax y q,u,h=>by
   simp only[cW]at h;split at h
   .simp[I.aa]at h
   .exact h
 | .ab y q,u,h=>h
 | .fn f cap,u,h=>by simp only[cW,I.aa]at h⊢;exact VK x cap u h
 | .hole,u,h=>h
 | .bool _,u,h=>h
 | .gu,u,h=>h
 | .int _ _,u,h=>h
 | .str _,u,h=>h
 | .ez,u,h=>h
 | .bd,u,h=>h
 | .slice _,u,h=>h
 | .ae _ _,u,h=>h
 | .ref _,u,h=>h
 | .aM _,u,h=>h
 | .agg _,u,h=>h
 | .tuple _,u,h=>h
theorem VK (x:Nat):∀ds:azk,∀u∈I.e3 (kL x ds),u∈I.e3 ds
 |[],u,h=>h
 |d::ds,u,h=>by
  simp only[kL,I.e3,mem_append]at h⊢;exact h.imp (VJ x d u) (VK x ds u)
end
theorem NA (o:Option Nat) (a:I):∀u∈(nx o a).aa,u∈a.aa:=by
 intro u h;cases o with
 |none=>exact h
 |some x=>exact VJ x a u h
theorem VL:∀(os:List (Option Nat)) (a:I),∀u∈(nX os a).aa,u∈a.aa:=by
 intro os;induction os with
 |nil=>intro a u h;exact h
 |cons o os ih=>intro a u h;exact NA o a u (ih (nx o a) u h)
theorem VM {place:Nat->Option (Nat×Nat)}:∀{ps:azj} {s s1:al} {fw ds:azk} {os:List (Option Nat)},en place s fw os ps=some (ds,s1)->
  Loc (I.e3 (ps.map (·.2))) (I.e3 (ps.map (·.2))) (λs=>en place s fw os ps) s ds s1:=by
 intro ps;induction ps with
 |nil=>
  intro s s1 fw ds os h;simp only[en,Option.some.injEq,Prod.mk.injEq]at h;obtain⟨rfl,rfl⟩:=h;exact .pure λaE _=>rfl
 |cons p ps ih=>
  intro s s1 fw ds os h;obtain⟨k,a⟩:=p;simp only[en]at h;split at h
  .rename_i d s2 off n z bb fO cf;split at h
   .cases h
   .rename_i bM nZ;split at h
    .rename_i au;obtain⟨s0,rfl,ag,aD⟩:=uy bb;obtain⟨xL,rfl,b1,du⟩:=ih h;refine⟨s0++xL,(pB _ _ _).symm,?_,?_⟩
     .intro m hm;simp only[map_cons,I.e3,mem_append]at hm⊢;rcases hm with hm|hm
      .exact⟨.inl (VL _ _ _ (ag m hm).1),(ag m hm).2⟩
      .exact⟨.inr (b1 m hm).1,(b1 m hm).2⟩
     .intro aE aa;simp only[map_cons,I.e3]at aa;have aR:=aD aE (aa.left.sub (VL _ _));have aW:=du (eV s0 aE) (aa.right.eV s0);simp only at aR aW;simp only[en,aR,fO,cf,pB];rw[if_pos au];exact aW
    .cases h
  .cases h
theorem aeA {ps:azj} {av:I} (h:gH C s T ps=some (av,s1)):Loc (I.e3 (ps.map (·.2))) (I.e3 (ps.map (·.2))) (λs=>gH C s T ps) s av s1:=by
 unfold gH at h;split at h
 .rename_i aG fw aw cf;split at h
  .rename_i au;split at h
   .rename_i ds s2 bH;simp only[Option.some.injEq,Prod.mk.injEq]at h;obtain⟨rfl,rfl⟩:=h;obtain⟨ms,ad,ag,aD⟩:=VM bH;refine⟨ms,ad,ag,λaE aa=>?_⟩;have:=aD aE aa;simp only at this;simp only[gH,aw,cf,if_pos au,this]
   .cases h
  .cases h
 .cases h
theorem aeB {n:Nat} {ps:azj} {av:I} (h:d_ C s T n ps=some (av,s1)):Loc (I.e3 (ps.map (·.2))) (I.e3 (ps.map (·.2))) (λs=>d_ C s T n ps) s av s1:=by
 unfold d_ at h;split at h
 .rename_i e aw;split at h
  .rename_i au;split at h
   .rename_i ds s2 bH;simp only[Option.some.injEq,Prod.mk.injEq]at h;obtain⟨rfl,rfl⟩:=h;obtain⟨ms,ad,ag,aD⟩:=VM bH;refine⟨ms,ad,ag,λaE aa=>?_⟩;have:=aD aE aa;simp only at this;simp only[d_,aw,if_pos au,this]
   .cases h
  .cases h
 .cases h
theorem aeC {av:I} (h:iy s x=some (av,s1)):Loc x.aa x.aa (λs=>iy s x) s av s1:=by
 unfold iy at h;split at h
 .cases h
 .rename_i d s2 nZ bb;simp only[Option.some.injEq,Prod.mk.injEq]at h;obtain⟨rfl,rfl⟩:=h;obtain⟨ms,ad,ag,aD⟩:=uy bb;refine⟨ms,ad,ag,λaE aa=>?_⟩;have:=aD aE aa;simp only at this;simp only[iy,this]
 .cases h
theorem aeD {av:I} (h:mc s x=some (av,s1)):Loc x.aa [] (λs=>mc s x) s av s1:=by
 unfold mc at h;split at h
 .rename_i y q;split at h
  .rename_i ds qG;split at h
   .cases h
   .rename_i EJ;simp only[Option.some.injEq,Prod.mk.injEq]at h;obtain⟨rfl,rfl⟩:=h;refine .pure λaE aa=>?_;have e:aE y=s y:=aa y (by simp[I.aa]);simp only[mc,e,qG,if_neg EJ]
  .cases h
 .split at h
  .rename_i au;simp only[Option.some.injEq,Prod.mk.injEq]at h;obtain⟨rfl,rfl⟩:=h;exact .pure λaE aa=>by simp only[mc,au,if_true]
  .cases h
 .cases h
theorem aeE {s2:al} (h:k1 C s T x y=some s2):Loc (x.aa++y.aa) (x.aa++y.aa) (λs=>(k1 C s T x y).map λs1=>(I.hole,s1)) s .hole s2:=by
 unfold k1 at h;split at h
 .rename_i d s1 z q bb hl;obtain⟨ms,ad,ag,aD⟩:=uy bb;have cf:=Nz hl;have cE:q≠[]:=by
   cases x with
   |h y p=>
    simp only[loc]at hl;split at hl
    .simp only[Option.some.injEq,Prod.mk.injEq]at hl;simp[<-hl.2]
    .cases hl
   |ax y p=>
    simp only[loc]at hl;split at hl
    .rename_i sQ;simp only[Option.some.injEq,Prod.mk.injEq]at hl;obtain⟨rfl,rfl⟩:=hl;intro e;subst e;simp[I.gM]at sQ
    .cases hl
   |_=>simp[loc]at hl
  split at h
  .cases h
  .rename_i bM nZ;split at h
   .rename_i d0 nU;split at h
    .rename_i au;simp only[Option.some.injEq]at h;subst h;refine⟨ms++[⟨.cW,z,I.put q d (s z)⟩],?_,?_,?_⟩
     .rw[pB,<-ad,zu]
     .intro m hm;simp only[mem_append,mem_singleton]at hm⊢;rcases hm with hm|rfl
      .exact⟨.inr (ag m hm).1,(ag m hm).2⟩
      .exact⟨.inl cf,BN q _ _ _ nU (.inr cE) λe=>(cE e).elim⟩
     .intro aE aa;have aR:=aD aE aa.right;simp only at aR;simp only[k1,aR,Ny aa.left,hl,aa.left z cf,nU];cases d<;>first|(simp only[if_pos au,Option.map_some,pB,zu];done)|exact(nZ _ rfl).elim
    .cases h
   .cases h
 .cases h
theorem aeF {fT ai:Option I} {av:I} (h:iW C s T x fT ai=some (av,s1)):Loc x.aa x.aa (λs=>iW C s T x fT ai) s av s1:=by
 cases x with
 |h y q=>
  unfold iW at h;split at h<;>first|(cases h;done)|skip
  all_goals (rename_i aq;try cases aq)
  rename_i e aw;split at h
  .rename_i sz xs f_;split at h
   .rename_i b rB rC;split at h
    .rename_i au;split at h
     .rename_i d s2 bb;simp only[Option.some.injEq,Prod.mk.injEq]at h;obtain⟨rfl,rfl⟩:=h;obtain⟨ms,ad,ag,aD⟩:=uy bb;refine⟨ms,ad,ag,λaE aa=>?_⟩;have:=aD aE aa;simp only at this;have aR:aE y=s y:=aa y (by simp[I.aa]);simp only[iW,aw,aR,f_,rB,rC,if_pos au,this]
     .cases h
    .cases h
   .cases h
  .cases h
 |_=>
  have qM:s1=s:=by
   unfold iW at h
   repeat' split at h
   all_goals first|(cases h;done)|(simp only[Option.some.injEq,Prod.mk.injEq]at h;exact h.2.symm)|simp_all
  subst qM;refine .pure λaE _=>?_;unfold iW at h⊢
  repeat' split at h
  all_goals first
   |(cases h;done)
   |(simp only[Option.some.injEq,Prod.mk.injEq]at h
     obtain⟨rfl,_⟩:=h;simp_all)
def uz (C:cy) (e:TypeId) (s:al):I->Option (I×al)
 | .bd=>some (I.ae (C.T e).sz [],s)
 | .h a q=>dJ s (.h a q)
 |_=>none
def oj (s1:al):I->Option (azk×al)
 | .bd=>some ([],s1)
 | .slice c1=>some (c1,s1)
 | .str l=>some (l.map ji,s1)
 | .h a q=>match dJ s1 (.h a q)with
   |some (.ae _ c1,s2)=>some (c1,s2)
   |_=>none
 |_=>none
theorem NB (C:cy) (s:al) (T ea:TypeId) (x y:I):vU C s T ea x y=(match(C.T T).k with
 | .slice e=>if(C.T e).ok=true/\(C.T e).zero.wd=(C.T e).sz/\(flat (C.T e).zero).isSome=true/\IX C e ea=true then
   match uz C e s x with
   |some (.ae sz xs,s1)=>if sz=(C.T e).sz then
     match oj s1 (nx x.owner y)with
     |some (c1,s2)=>if(∀d∈c1,d.wd=(C.T e).sz)/\(xs.length+c1.length)*(C.T e).bytes<=140737488355328/\xs.length+c1.length<=9223372036854775807 then some (.ae sz (xs++c1),s2)else none
     |none=>none
    else none
   |_=>none
   else none
 |_=>none):=by
 unfold vU;generalize nx x.owner y=oW;cases(C.T T).k<;>first
  |rfl
  |(cases x<;>cases oW<;>rfl)
theorem aeG {e:TypeId} {d:I} (ad:uz C e s x=some (d,s1)):Loc x.aa x.aa (λs=>uz C e s x) s d s1:=by
 cases x with
 |bd=>
  simp only[uz,Option.some.injEq,Prod.mk.injEq]at ad;obtain⟨ad,rfl⟩:=ad;exact .pure λaE _=>by simp only[uz,ad]
 |h a q=>exact uy ad
 |_=>simp[uz]at ad
theorem aeH {c1:azk} (ag:oj s y=some (c1,s1)):Loc y.aa y.aa (λs=>oj s y) s c1 s1:=by
 cases y with
 |bd=>
  simp only[oj,Option.some.injEq,Prod.mk.injEq]at ag;obtain⟨rfl,rfl⟩:=ag;exact .pure λaE _=>rfl
 |slice c1=>
  simp only[oj,Option.some.injEq,Prod.mk.injEq]at ag;obtain⟨rfl,rfl⟩:=ag;exact .pure λaE _=>rfl
 |str l=>
  simp only[oj,Option.some.injEq,Prod.mk.injEq]at ag;obtain⟨rfl,rfl⟩:=ag;exact .pure λaE _=>rfl
 |h a q=>
  simp only[oj]at ag;split at ag
  .rename_i adY axf mW bb;simp only[Option.some.injEq,Prod.mk.injEq]at ag;obtain⟨rfl,rfl⟩:=ag;obtain⟨ms,g1,g2,g3⟩:=uy bb;refine⟨ms,g1,g2,λaE aa=>?_⟩;have:=g3 aE aa;simp only at this;simp only[oj,this]
  .cases ag
 |_=>simp[oj]at ag
theorem aeI {av:I} (h:vU C s T A x y=some (av,s1)):Loc (x.aa++y.aa) (x.aa++y.aa) (λs=>vU C s T A x y) s av s1:=by
 rw[NB]at h;split at h
 .rename_i e aw;split at h
  .rename_i au;split at h
   .rename_i sz xs s2 ad;split at h
    .rename_i fa;split at h
     .rename_i c1 oZ ag;split at h
      .rename_i lo;simp only[Option.some.injEq,Prod.mk.injEq]at h;obtain⟨rfl,rfl⟩:=h;obtain⟨s0,rfl,a2,a3⟩:=aeG ad;obtain⟨xL,rfl,fP,gj⟩:=(aeH ag).mono (NA _ _) (NA _ _);refine⟨s0++xL,(pB _ _ _).symm,?_,?_⟩
       .intro m hm;simp only[mem_append]at hm⊢;rcases hm with hm|hm
        .exact⟨.inl (a2 m hm).1,(a2 m hm).2⟩
        .exact⟨.inr (fP m hm).1,(fP m hm).2⟩
       .intro aE aa;have aR:=a3 aE aa.left;have aW:=gj (eV s0 aE) (aa.right.eV s0);simp only at aR aW;simp only[NB,aw,if_pos au,aR,if_pos fa,aW,if_pos lo,pB]
      .cases h
     .cases h
    .cases h
   .cases h
  .cases h
 .cases h
theorem aeJ {aE:al} {i:I} (h:eF x.aa aE s):jT C aE T x i=jT C s T x i:=by
 cases x with
 |h y q=>cases i<;>simp only[jT,h y (by simp[I.aa])]
 |_=>rfl
theorem aeK {i v:I} {s2:al} (h:k4 C s T x i v=some s2):Loc x.aa x.aa (λs=>(k4 C s T x i v).map λs1=>(I.hole,s1)) s .hole s2:=by
 unfold k4 at h;split at h
 .rename_i y q k b;split at h
  .rename_i m ao;split at h
   .rename_i ln;simp only[Option.some.injEq]at h;subst h;refine⟨[⟨.cW,y,I.put q (.ck (.mp (kx k b m))) (s y)⟩],zu _ _ _,?_,λaE aa=>?_⟩
    .intro n aV;simp only[mem_singleton]at aV;subst aV;exact⟨by simp[I.aa],BN q _ _ _ ao (.inl rfl) λ_=>rfl⟩
    .have aR:aE y=s y:=aa y (by simp[I.aa]);simp only[k4,aR,ao,ln,if_true,Option.map_some];rw[<-zu]
   .cases h
  .cases h
 .cases h
theorem VN {b3:e0} {av:I} (h:cg C s b3=some (av,s1)):Loc (use s b3) (lp s b3) (λs=>cg C s b3) s av s1:=by
 cases b3 with
 |shr b3=>simp[cg]at h
 |mV f args L=>simp[cg]at h
 |pA x=>
  simp only[cg]at h;unfold uw at h;split at h
  .rename_i y q aq;obtain⟨ms,ad,ag,aD⟩:=uy h;refine⟨ms,ad,by simpa only[lp,aq]using ag,λaE aa=>?_⟩;have e:=bB.gI (x:=x) aa;have aW:=aD aE (by rw[<-aq];exact eF.bx aa);simp only[cg,e,aq,uw];exact aW
  .rename_i VO;simp only[Option.some.injEq,Prod.mk.injEq]at h;obtain⟨rfl,rfl⟩:=h;refine .pure λaE aa=>?_;have e:=bB.gI (x:=x) aa;simp only[cg,e,uw]
 |p5 x=>
  simp only[cg,Option.some.injEq,Prod.mk.injEq]at h;obtain⟨rfl,rfl⟩:=h;exact .pure λaE aa=>by simp only[cg,bB.gI (x:=x) aa]
 |mc T x=>
  obtain⟨ms,ad,ag,aD⟩:=aeD h;refine⟨ms,ad,ag,λaE aa=>?_⟩;simp only[cg,bB.gI (x:=x) aa];exact aD aE (eF.bx aa)
 |bad=>simp[cg]at h
 |kN fv x y=>
  simp only[cg,Option.map_eq_some_iff,Prod.mk.injEq]at h;obtain⟨d,ao,rfl,rfl⟩:=h;exact .pure λaE aa=>by
   simp only[use]at aa;simp only[cg,bB.gI (x:=x) aa.left,bB.gI (x:=y) aa.right,ao,Option.map_some]
 |cap T x=>
  simp only[cg]at h;split at h
  .rename_i e aw aq;simp only[Option.some.injEq,Prod.mk.injEq]at h;obtain⟨rfl,rfl⟩:=h;exact .pure λaE aa=>by simp only[cg,bB.gI (x:=x) aa,aw,aq]
  .cases h
 |ga x=>
  simp only[cg,Option.some.injEq,Prod.mk.injEq]at h;obtain⟨rfl,rfl⟩:=h;exact .pure λaE aa=>by simp only[cg,bB.gI (x:=x) aa]
 |hX x=>
  simp only[cg]at h;split at h
  .rename_i y q aq;obtain⟨ms,ad,ag,aD⟩:=uy h;refine⟨ms,ad,by simpa only[lp,aq]using ag,λaE aa=>?_⟩;have e:=bB.gI (x:=x) aa;have aW:=aD aE (by rw[<-aq];exact eF.bx aa);simp only[cg,e,aq];exact aW
  .rename_i VO;simp only[Option.some.injEq,Prod.mk.injEq]at h;obtain⟨rfl,rfl⟩:=h;refine .pure λaE aa=>?_;have e:=bB.gI (x:=x) aa;simp only[cg,e]
 |pick c a b=>
  simp only[cg]at h;split at h
  .rename_i gV ab;simp only[Option.some.injEq,Prod.mk.injEq]at h;obtain⟨rfl,rfl⟩:=h;refine .pure λaE aa=>?_;simp only[use]at aa;simp only[cg,bB.gI (x:=c) aa.left,bB.gI (x:=a) aa.right.left,bB.gI (x:=b) aa.right.right,ab]
  .cases h
 |mU T=>
  simp only[cg,Option.map_eq_some_iff,Prod.mk.injEq]at h;obtain⟨d,ao,rfl,rfl⟩:=h;exact .pure λaE aa=>by simp only[cg,ao,Option.map_some]
 |iy T x=>
  obtain⟨ms,ad,ag,aD⟩:=aeC h;refine⟨ms,ad,ag,λaE aa=>?_⟩;simp only[cg,bB.gI (x:=x) aa];exact aD aE (eF.bx aa)
 |gH T ps=>
  obtain⟨ms,ad,ag,aD⟩:=aeA h;simp only[List.map_map,Function.comp_def]at ag aD;refine⟨ms,ad,ag,λaE aa=>?_⟩;simp only[cg,bB.Nx (ps:=ps) aa];refine aD aE (aa.sub λu hu=>?_);simp only[use];exact bB.I3 u (by simpa [List.map_map,Function.comp_def]using hu)
 |d_ T n ps=>
  obtain⟨ms,ad,ag,aD⟩:=aeB h;simp only[List.map_map,Function.comp_def]at ag aD;refine⟨ms,ad,ag,λaE aa=>?_⟩;simp only[cg,bB.Nx (ps:=ps) aa];refine aD aE (aa.sub λu hu=>?_);simp only[use];exact bB.I3 u (by simpa [List.map_map,Function.comp_def]using hu)
 |fV T x=>
  simp only[cg,Option.map_eq_some_iff,Prod.mk.injEq]at h;obtain⟨d,ao,rfl,rfl⟩:=h;exact .pure λaE aa=>by simp only[cg,bB.gI (x:=x) aa,aeq (eF.bx aa),ao,Option.map_some]
 |k1 T x y=>
  simp only[cg,Option.map_eq_some_iff,Prod.mk.injEq]at h;obtain⟨s2,ao,rfl,rfl⟩:=h;obtain⟨ms,ad,ag,aD⟩:=aeE ao;refine⟨ms,ad,ag,λaE aa=>?_⟩;simp only[use]at aa;simp only[cg,bB.gI (x:=x) aa.left,bB.gI (x:=y) aa.right];exact aD aE (aa.sub λu hu=>by simp only[mem_append]at hu⊢;exact hu.imp (bB.zv u) (bB.zv u))
 |mC x=>
  simp only[cg,Option.map_eq_some_iff,Prod.mk.injEq]at h;obtain⟨d,ao,rfl,rfl⟩:=h;exact .pure λaE aa=>by simp only[cg,bB.gI (x:=x) aa,aey (eF.bx aa),ao,Option.map_some]
 |eP op T x y=>
  simp only[cg,Option.map_eq_some_iff,Prod.mk.injEq]at h;obtain⟨d,ao,rfl,rfl⟩:=h;refine .pure λaE aa=>?_;simp only[use]at aa;simp only[cg,bB.gI (x:=x) aa.left,bB.gI (x:=y) aa.right,aex (eF.bx aa.left),ao,Option.map_some]
 |un op x=>
  simp only[cg,Option.map_eq_some_iff,Prod.mk.injEq]at h;obtain⟨d,ao,rfl,rfl⟩:=h;exact .pure λaE aa=>by simp only[cg,bB.gI (x:=x) aa,ao,Option.map_some]
 |k3 A B x=>
  simp only[cg,Option.map_eq_some_iff,Prod.mk.injEq]at h;obtain⟨d,ao,rfl,rfl⟩:=h;exact .pure λaE aa=>by simp only[cg,bB.gI (x:=x) aa,aeu (eF.bx aa),ao,Option.map_some]
 |p3 f cs=>
  simp only[cg,Option.some.injEq,Prod.mk.injEq]at h;obtain⟨rfl,rfl⟩:=h;exact .pure λaE aa=>by simp only[cg,bB.Nw (xs:=cs) aa]
 |fk T l c=>
  simp only[cg,Option.map_eq_some_iff,Prod.mk.injEq]at h;obtain⟨d,ao,rfl,rfl⟩:=h;refine .pure λaE aa=>?_;simp only[use]at aa;simp only[cg,bB.gI (x:=l) aa.left,bB.gI (x:=c) aa.right,ao,Option.map_some]
 |iW T x fT ai=>
  simp only[cg]at h;obtain⟨ms,ad,ag,aD⟩:=aeF h;refine⟨ms,ad,ag,λaE aa=>?_⟩;simp only[use]at aa;simp only[cg,bB.gI (x:=x) aa.left,VE aa.right.left,VE aa.right.right];exact aD aE (eF.bx aa.left)
 |h2 T x k=>
  simp only[cg,Option.map_eq_some_iff,Prod.mk.injEq]at h;obtain⟨d,ao,rfl,rfl⟩:=h;exact .pure λaE aa=>by simp only[cg,bB.gI (x:=x) aa,aer (eF.bx aa),ao,Option.map_some]
 |kM T x i=>
  simp only[cg,Option.map_eq_some_iff,Prod.mk.injEq]at h;obtain⟨d,ao,rfl,rfl⟩:=h;refine .pure λaE aa=>?_;simp only[use]at aa;simp only[cg,bB.gI (x:=x) aa.left,bB.gI (x:=i) aa.right,aes (eF.bx aa.left),ao,Option.map_some]
 |idx T x i=>
  simp only[cg,Option.map_eq_some_iff,Prod.mk.injEq]at h;obtain⟨d,ao,rfl,rfl⟩:=h;refine .pure λaE aa=>?_;simp only[use]at aa;simp only[cg,bB.gI (x:=x) aa.left,bB.gI (x:=i) aa.right,ao,Option.map_some]
 |ext x k=>
  simp only[cg]at h;obtain⟨y,q,p,ad,ag,aD⟩:=Vq h;obtain⟨ms,g1,g2,g3⟩:=uy aD;refine⟨ms,g1,by simpa only[lp,ad,I.aa]using g2,λaE aa=>?_⟩;have bo:eF (bx s x).aa aE s:=eF.bx aa;have aR:ex aE (bx s x) k=some (.h y p):=(VG bo).trans ag;have aW:=g3 aE (λv aF=>bo v (by rw[ad];exact aF));simp only[cg,bB.gI (x:=x) aa];unfold xN;rw[aR,ad];simp only[if_true];exact aW
 |ex x k=>
  simp only[cg,Option.map_eq_some_iff,Prod.mk.injEq]at h;obtain⟨d,ao,rfl,rfl⟩:=h;exact .pure λaE aa=>by simp only[cg,bB.gI (x:=x) aa,VG (eF.bx aa),ao,Option.map_some]
 |sX=>
  simp only[cg,Option.some.injEq,Prod.mk.injEq]at h;obtain⟨rfl,rfl⟩:=h;exact .pure λaE aa=>rfl
 |jT T x i=>
  simp only[cg,Option.map_eq_some_iff,Prod.mk.injEq]at h;obtain⟨d,ao,rfl,rfl⟩:=h;refine .pure λaE aa=>?_;simp only[use]at aa;simp only[cg,bB.gI (x:=x) aa.left,bB.gI (x:=i) aa.right,aeJ (eF.bx aa.left),ao,Option.map_some]
 |k4 T x i v=>
  simp only[cg,Option.map_eq_some_iff,Prod.mk.injEq]at h;obtain⟨s2,ao,rfl,rfl⟩:=h;obtain⟨ms,ad,ag,aD⟩:=aeK ao;refine⟨ms,ad,ag,λaE aa=>?_⟩;simp only[use]at aa;simp only[cg,bB.gI (x:=x) aa.left,bB.gI (x:=i) aa.right.left,bB.gI (x:=v) aa.right.right];exact aD aE (eF.bx aa.left)
 |pw T x k=>
  simp only[cg,Option.bind_eq_some_iff]at h;obtain⟨d,ao,h⟩:=h;unfold uw at h;split at h
  .rename_i y q;have aq:=aez ao;obtain⟨ms,ad,ag,aD⟩:=uy h;refine⟨ms,ad,by simpa only[lp,aq,I.aa]using ag,λaE aa=>?_⟩;have aW:=aD aE (by rw[show(I.h y q).aa=(bx s x).aa from aq.symm];exact eF.bx aa);simp only[cg,bB.gI (x:=x) aa,VF (eF.bx aa),ao,Option.bind_some,uw];exact aW
  .rename_i VO;simp only[Option.some.injEq,Prod.mk.injEq]at h;obtain⟨rfl,rfl⟩:=h;refine .pure λaE aa=>?_;simp only[cg,bB.gI (x:=x) aa,VF (eF.bx aa),ao,Option.bind_some,uw]
 |call f args=>simp[cg]at h
 |len T x=>
  simp only[cg,Option.map_eq_some_iff,Prod.mk.injEq]at h;obtain⟨d,ao,rfl,rfl⟩:=h;exact .pure λaE aa=>by simp only[cg,bB.gI (x:=x) aa,aet (eF.bx aa),ao,Option.map_some]
 |app T ea x y=>
  obtain⟨ms,ad,ag,aD⟩:=aeI h;refine⟨ms,ad,ag,λaE aa=>?_⟩;simp only[use]at aa;simp only[cg,bB.gI (x:=x) aa.left,bB.gI (x:=y) aa.right];exact aD aE (aa.sub λu hu=>by simp only[mem_append]at hu⊢;exact hu.imp (bB.zv u) (bB.zv u))
end
def I.one:I->Bool
 | .agg _=>false
 | .tuple _=>false
 |_=>true
mutual
def view (s:al):I->Option I
 | .h x q=>match I.sub q (s x)with
   |some d=>(match d with| .tuple _=>none| .ck _=>none|d=>if d.plain then none else some d.share)
   |none=>none
 | .ax x q=>if I.gM q (s x)then(match I.sub q (s x)with
   |some d=>(match d with| .tuple _=>none|d=>some (.ref d.share))
   |none=>none)else none
 | .ab _ _=>none
 | .fn f cap=>(views s cap).map (.fn f)
 | .hole=>none
 |d=>some d
def views (s:al):azk->Option azk
 |[]=>some []
 |d::ds=>match view s d,views s ds with
  |some a,some b=>some (a::b)
  |_,_=>none
end
mutual
theorem NC:∀d:I,d.share.plain=true
 | .hole=>rfl
 | .bool _=>rfl
 | .gu=>rfl
 | .int _ _=>rfl
 | .str _=>rfl
 | .ez=>rfl
 | .bd=>rfl
 | .slice _=>rfl
 | .ae _ _=>rfl
 | .ref _=>rfl
 | .aM _=>rfl
 | .agg aG=>by simp only[I.share,I.plain];exact ND aG
 | .tuple aG=>by simp only[I.share,I.plain];exact ND aG
 | .fn _ _=>rfl
 | .h _ _=>rfl
 | .ax _ _=>rfl
 | .ab _ _=>rfl
 | .ck _=>rfl
theorem ND:∀ds:azk,I.e6 (I.shares ds)=true
 |[]=>rfl
 |d::ds=>by simp only[I.shares,I.e6];rw[NC d,ND ds];rfl
end
theorem aeL {s:al} {a d:I} (h:a.plain=true) (he:view s a=some d):d.plain=true:=by
 cases a with
 |h x q=>
  simp only[view]at he;split at he
  .rename_i e f_;cases e<;>simp only at he<;>first
    |(cases he;done)
    |(split at he
      .cases he
      .simp only[Option.some.injEq]at he;subst he;exact NC _)
  .cases he
 |ax x q=>
  simp only[view]at he;split at he
  .split at he
   .rename_i e f_;cases e<;>simp only at he<;>first
     |(cases he;done)
     |(simp only[Option.some.injEq]at he;subst he;rfl)
   .cases he
  .cases he
 |fn f cap=>
  simp only[view,Option.map_eq_some_iff]at he;obtain⟨ds,_,rfl⟩:=he;rfl
 |hole=>simp[view]at he
 |ab y q=>simp[view]at he
 |_=>simp only[view,Option.some.injEq]at he;subst he;exact h
theorem NF {d:I} {v:Value} (ad:∀vs,d≠.tuple vs) (h:eY d v):eY d.share v:=by
 cases d<;>first|exact h|exact(ad _ rfl).elim
theorem aeM (w:World):∀(q:azf) (av d bM:I) (cs dK:azi) (a dI:Option (Nat×Nat)),I.sub q av=some d->bM.wd=d.wd->eA w q av cs a=some (d,dK,dI)->
  eA w q (I.put q bM av) cs a=some (bM,dK,dI):=by
 intro q;induction q with
 |nil=>
  intro av d bM cs dK a dI ao hw h;simp only[eA,Option.some.injEq,Prod.mk.injEq]at h;obtain⟨rfl,rfl,rfl⟩:=h;simp only[I.put,eA]
 |cons k q ih=>
  intro av d bM cs dK a dI ao hw h;cases av with
  |agg aG=>
   simp only[I.sub]at ao;split at ao
   .rename_i x aq;have aw:k<aG.length:=(List.getElem?_eq_some_iff.1 aq).1;simp only[eA,aq]at h;simp only[I.put,aq,eA];rw[getElem?_set_self aw];simp only[take_set_of_le (Nat.le_refl k),I.Bw q x d bM ao hw];exact ih _ _ _ _ _ _ _ ao hw h
   .cases ao
  |tuple aG=>
   simp only[I.sub]at ao;split at ao
   .rename_i x aq;have aw:k<aG.length:=(List.getElem?_eq_some_iff.1 aq).1;simp only[eA,aq]at h;simp only[I.put,aq,eA];rw[getElem?_set_self aw];simp only[take_set_of_le (Nat.le_refl k),I.Bw q x d bM ao hw];exact ih _ _ _ _ _ _ _ ao hw h
   .cases ao
  |ae sz aG=>
   simp only[I.sub]at ao;split at ao
   .rename_i x aq;have aw:k<aG.length:=(List.getElem?_eq_some_iff.1 aq).1;have nW:(aG.set k (I.put q bM x))[k]? =some (I.put q bM x):=getElem?_set_self aw;simp only[I.put,aq];rw[eA.eq_def]at h⊢;simp only[aq]at h;simp only;rw[nW];split at h
    .rename_i aR;simp only[Option.some.injEq]at aR;subst aR;exact ih _ _ _ _ _ _ _ ao hw h
    .cases h
   .cases ao
  |aM x=>
   cases k with
   |zero=>
    simp only[I.sub]at ao;rw[eA.eq_def]at h⊢;simp only at h;simp only[I.put];split at h
    .rw[I.Bw q x d bM ao hw];exact ih _ _ _ _ _ _ _ ao hw h
    .cases h
   |succ k=>simp[I.sub]at ao
  |_=>simp[I.sub]at ao
section
variable {w0 w aP:World} {F0 X F Fc:Nat->Prop} {S:Nat->Nat->Prop} {s aE:al} {aH mS:Nat->Value}
theorem aeN (h:cj w0 F0 X F S s aH w) (bJ:∀b,F b->Fc b):∀n,
  (∀(a:I) (v:Value) (d:I),SizeOf.sizeOf a<=n->(∀t∈a.aa,∀b,S t b->Fc b)->view s a=some d->aQ w F s aH a v (λ_=>False)->aQ w Fc aE mS d v (λ_=>False))/\
  (∀(as:azk) (vs:azi) (ds:azk),SizeOf.sizeOf as<=n->(∀t∈I.e3 as,∀b,S t b->Fc b)->views s as=some ds->e_ w F s aH as vs->e_ w Fc aE mS ds vs):=by
 intro n;induction n with
 |zero=>exact⟨λa _ _ cf=>by cases a<;>simp at cf<;>omega,λas _ _ cf=>by cases as<;>simp at cf<;>omega⟩
 |succ n ih=>
  refine⟨λa v d cf cq he aF=>?_,λas vs ds cf cq he aF=>?_⟩
  .cases a with
   |h x q=>
    simp only[view]at he;split at he
    .rename_i e f_;have key:(∀aG,e≠.tuple aG)/\e.plain=false/\d=e.share/\∀o,e≠.ck o:=by
      cases e<;>simp only at he<;>first
       |(cases he;done)
       |(split at he
         .cases he
         .rename_i fO;simp only[Option.some.injEq]at he;exact⟨(λ_ h=>by cases h),by simpa using fO,he.symm,λ_ h=>by cases h⟩)
     obtain⟨nZ,fO,rfl,nS⟩:=key;rw[aQ]at aF;obtain⟨dK,dI,g1,g2,g3⟩:=aF e f_ fO;have bb:=jG f_ (.inl fO);have aq:=(aQ.dx bb).1 (h.eu x);obtain⟨hk,a2,fj,gv,k0,bX,cu,dS,dW,eB⟩:=ctx q (s x) (c_ (aH x)) (S x) none e aq.2 f_;rw[g1]at k0;simp only[Option.some.injEq,Prod.mk.injEq,true_and]at k0;obtain⟨rfl,rfl⟩:=k0;have ED:e.share.tree=true:=by cases e<;>first|rfl|(simp[I.plain]at fO;done)|exact(nS _ rfl).elim
     have aS:=az.shared bJ e dK gv (λb ab=>cq x (by simp[I.aa]) b (cu b ab)) dW;exact(aQ.dx ED).2 ⟨NF nZ g3,by rw[g2];exact aS⟩
    .cases he
   |ax x q=>
    simp only[view]at he;split at he
    .rename_i sQ;split at he
     .rename_i e f_;have key:(∀aG,e≠.tuple aG)/\d= .ref e.share:=by
       cases e<;>simp only at he<;>first
        |(cases he;done)
        |(simp only[Option.some.injEq]at he;exact⟨(λ_ h=>by cases h),he.symm⟩)
      obtain⟨nZ,rfl⟩:=key;rw[aQ]at aF;obtain⟨dK,b,o,g1,rfl⟩:=aF e f_ sQ;have bb:=jG f_ (.inr sQ);have aq:=(aQ.dx bb).1 (h.eu x);obtain⟨hk,a2,fj,gv,k0,bX,cu,dS,dW,eB⟩:=ctx q (s x) (c_ (aH x)) (S x) none e aq.2 f_;rw[g1]at k0;simp only[Option.some.injEq,Prod.mk.injEq,true_and]at k0;obtain⟨rfl,rfl⟩:=k0;have aS:=az.shared bJ e dK gv (λb ab=>cq x (by simp[I.aa]) b (cu b ab)) dW;rcases eB with⟨l,r,_,aW,_⟩|⟨gV,cur,ty,fr,l,r,aR,aW,aU,cc,cZ,_⟩
      .simp at aW
      .simp only[Option.some.injEq,Prod.mk.injEq]at aR;obtain⟨rfl,rfl⟩:=aR;refine(aQ.dx rfl).2 ⟨rfl,?_⟩;rw[az];refine⟨b,l.length,dK,rfl,cq x (by simp[I.aa]) b (bX b aW),?_,aS⟩;intro j c bG;simp only[World.cell?,aU];have au:cur[l.length+j]? =some c:=by
        rw[<-Array.getElem?_toList,cZ,getElem?_append_right (by omega),getElem?_append_left (by
         have:=(List.getElem?_eq_some_iff.1 bG).1;omega)]
        rw[<-bG];congr 1;omega
       simpa using au
     .cases he
    .cases he
   |fn f cap=>
    simp only[view,Option.map_eq_some_iff]at he;obtain⟨ds,lS,rfl⟩:=he;rw[aQ]at aF;obtain⟨arr,rfl,au⟩:=aF;rw[aQ];exact⟨arr,rfl,ih.2 cap _ _ (by simp at cf;omega) (by simpa [I.aa]using cq) lS au⟩
   |hole=>simp[view]at he
   |ab y q=>simp[view]at he
   |_=>
    simp only[view,Option.some.injEq]at he;subst he;have pq:=(aQ.dx rfl).1 aF;exact(aQ.dx rfl).2 ⟨pq.1,az.mono bJ _ _ _ _ (λ_ h=>h) pq.2⟩
  .cases as with
   |nil=>
    simp only[views,Option.some.injEq]at he;subst he;rw[e_]at aF⊢;exact aF
   |cons a as=>
    simp only[views]at he;split at he
    .rename_i d ds ad ag;simp only[Option.some.injEq]at he;subst he;rw[e_]at aF⊢;obtain⟨v,ma,rfl,g1,g2⟩:=aF;simp at cf;simp only[I.e3,mem_append]at cq;exact⟨v,ma,rfl,ih.1 a v d (by omega) (λt bb=>cq t (.inl bb)) ad g1,ih.2 as ma ds (by omega) (λt bb=>cq t (.inr bb)) ag g2⟩
    .cases he
theorem cj.kO (h:cj w0 F0 X F S s aH w) {x:Nat} {q:azf} {d0 bM:I} {dK:azi} {a:Option (Nat×Nat)} {Sn:Nat->Prop}
  (ao:I.sub q (s x)=some d0) (bH:eA w q (s x) (c_ (aH x)) none=some (d0,dK,a)) (ag:∀vs,bM≠.tuple vs) (bb:q=[]->bM.tree=true/\eY bM (aH x))
  (aD:∀k p,q=k::p->(s x).tree=true/\(∀v,ki d0 v->ki bM v)) (hw:bM.wd=d0.wd)
  (aF:az w F bM dK Sn) (eN:∀b,Sn b->b<w.heap.size) (bJ:∀b,Sn b->¬F b) (cq:∀u b,Sn b->¬S u b) (bc:∀b,Sn b->X b\/w0.heap.size<=b):
  cj w0 F0 X F (hn S x (λb=>S x b\/Sn b)) (el (oU x s) x (I.put q bM (s x))) aH w:=by
 have ff:el aH x (aH x)=aH:=by funext u;simp only[el];split<;>simp_all
 have main:(I.put q bM (s x)).tree=true/\eY (I.put q bM (s x)) (aH x)/\az w F (I.put q bM (s x)) (c_ (aH x)) (λb=>S x b\/Sn b):=by
  cases q with
  |nil=>
   simp only[eA,Option.some.injEq,Prod.mk.injEq]at bH;obtain⟨aR,aW,aU⟩:=bH;obtain⟨g1,g2⟩:=bb rfl;simp only[I.put];refine⟨g1,?_,?_⟩
   .exact g2
   .rw[aW];exact az.mono (λ_ h=>h) _ _ _ _ (λb ab=>.inr ab) aF
  |cons k p=>
   obtain⟨g1,g2⟩:=aD k p rfl;have aq:=(aQ.dx g1).1 (h.eu x);obtain⟨hk,a2,fj,gv,k0,bX,cu,dS,dW,eB⟩:=ctx (k::p) (s x) (c_ (aH x)) (S x) none d0 aq.2 ao;rw[bH]at k0;simp only[Option.some.injEq,Prod.mk.injEq,true_and]at k0;obtain⟨rfl,rfl⟩:=k0;refine⟨?_,?_,?_⟩
   .rcases xB k p bM (s x)with⟨aG,gs,aR,e⟩|⟨aG,gs,aR,e⟩|⟨sz,xs,c1,aR,e⟩|⟨y,z,aR,e⟩|e<;>rw[e]<;>first|rfl|exact g1
   .refine Ez aq.1 ao g2 (λ_ vs e=>(ag vs e).elim) hw
   .have mono:∀b,(fj b\/Sn b)->(S x b\/Sn b):=λb ab=>ab.imp (bX b) id;rcases eB with⟨l,r,aR,aW,aU⟩|⟨b,cur,ty,fr,l,r,aR,aW,aU,cc,cZ,cv⟩
    .rw[aR];exact az.mono (λ_ h=>h) _ _ _ _ mono (aU w bM dK Sn (λ_ _=>rfl) (λ_ _=>rfl) hw aF (λb ab au=>cq x b ab (bX b au)))
    .refine az.mono (λ_ h=>h) _ _ _ _ mono (cv w bM dK Sn (λ_ _=>rfl) (λ_ _ _=>rfl) ?_ hw aF (λb ab au=>cq x b ab (bX b au)));rw[aU,<-cZ]
 have:=h.Ut (t:=x) main.1 main.2.1 main.2.2 (by rintro b (ab|ab);exact h.fB x b ab;exact eN b ab) (by rintro b (ab|ab);exact h.gN x b ab;exact bJ b ab)
  (by rintro u b eb (ab|ab);exact λhu=>h.gh u x b eb hu ab;exact cq u b ab) (by rintro b (ab|ab);exact h.eX x b ab;exact bc b ab)
 rwa [ff]at this
end
mutual
def I.dc:I->Bool
 | .slice _=>false
 | .ref _=>false
 | .fn _ _=>false
 | .h _ _=>false
 | .ax _ _=>false
 | .ab _ _=>false
 | .ae _ xs=>I.g_ xs
 | .aM d=>d.dc
 | .agg aG=>I.g_ aG
 | .tuple aG=>I.g_ aG
 |_=>true
def I.g_:azk->Bool
 |[]=>true
 |d::ds=>d.dc&&I.g_ ds
end
mutual
theorem az.dc {w:World} {F cn:Nat->Prop}:∀(d:I) (cs:azi) (S:Nat->Prop),d.dc=true->az w F d cs S->az w cn d cs S
 | .hole,_,_,_,h=>h
 | .bool _,_,_,_,h=>h
 | .gu,_,_,_,h=>h
 | .int _ _,_,_,_,h=>h
 | .str _,_,_,_,h=>h
 | .ez,_,_,_,h=>h
 | .bd,_,_,_,h=>h
 | .slice xs,cs,S,aV,h=>by simp[I.dc]at aV
 | .ref d,cs,S,aV,h=>by simp[I.dc]at aV
 | .ae sz xs,cs,S,aV,h=>by
   rw[az]at h⊢;rcases h with h|⟨b,cap,cur,e,fr,a_,ad,ag,aD,bh,b1,du,di,hi,iV,lh,oT⟩
   .exact .inl h
   .exact .inr ⟨b,cap,cur,e,fr,a_,ad,ag,aD,bh,b1,du,di,hi,bA.dc xs _ _ aV iV,lh,oT⟩
 | .aM d,cs,S,aV,h=>by
   rw[az]at h⊢;obtain⟨b,cur,e,fr,a_,ad,ag,aD,bh,b1,du,di⟩:=h;exact⟨b,cur,e,fr,a_,ad,ag,aD,bh,az.dc d _ _ aV b1,du,di⟩
 | .agg aG,cs,S,aV,h=>by rw[az]at h⊢;exact bA.dc aG _ _ aV h
 | .tuple aG,cs,S,aV,h=>by rw[az]at h⊢;exact bA.dc aG _ _ aV h
 | .fn _ _,_,_,aV,h=>by simp[I.dc]at aV
 | .h _ _,_,_,_,h=>h
 | .ax _ _,_,_,_,h=>h
 | .ab _ _,_,_,_,h=>h
 | .ck _,_,_,_,h=>h
theorem bA.dc {w:World} {F cn:Nat->Prop}:∀(ds:azk) (cs:azi) (S:Nat->Prop),I.g_ ds=true->bA w F ds cs S->bA w cn ds cs S
 |[],_,_,_,h=>h
 |d::ds,cs,S,aV,h=>by
  simp only[I.g_,Bool.and_eq_true]at aV;rw[bA]at h⊢;obtain⟨cx,c2,cO,eJ,ad,ag,aD,bh,b1,du⟩:=h;exact⟨cx,c2,cO,eJ,ad,az.dc d _ _ aV.1 ag,bA.dc ds _ _ aV.2 aD,bh,b1,du⟩
end
theorem VP:∀(q:azf) (av d e:I),I.sub q av=some d->I.sub q (I.put q e av)=some e:=by
 intro q;induction q with
 |nil=>intro av d e _;simp[I.put,I.sub]
 |cons k q ih=>
  intro av d e h;cases av with
  |agg aG=>
   simp only[I.sub]at h;split at h
   .rename_i x aq;have aw:k<aG.length:=(List.getElem?_eq_some_iff.1 aq).1;simp only[I.put,aq,I.sub,getElem?_set_self aw];exact ih _ _ _ h
   .cases h
  |tuple aG=>
   simp only[I.sub]at h;split at h
   .rename_i x aq;have aw:k<aG.length:=(List.getElem?_eq_some_iff.1 aq).1;simp only[I.put,aq,I.sub,getElem?_set_self aw];exact ih _ _ _ h
   .cases h
  |ae sz aG=>
   simp only[I.sub]at h;split at h
   .rename_i x aq;have aw:k<aG.length:=(List.getElem?_eq_some_iff.1 aq).1;simp only[I.put,aq,I.sub,getElem?_set_self aw];exact ih _ _ _ h
   .cases h
  |aM x=>
   cases k with
   |zero=>simp only[I.sub]at h;simp only[I.put,I.sub];exact ih _ _ _ h
   |succ k=>simp[I.sub]at h
  |_=>simp[I.sub]at h
structure dE where
 a:I
 g:Bool
 d:I
 o:I
def I.own:I->Bool
 | .ae _ _=>true
 | .aM _=>true
 |_=>false
def I.hQ:I->Bool
 | .ae _ _=>true
 | .aM _=>true
 | .ck _=>true
 | .agg aG=> !I.e6 aG
 |_=>false
def xP (d o:I):Bool:=match d,o with
 | .agg a,.agg b=>I.e9 a==I.e9 b
 | .agg _,_=>false
 |_,.agg _=>false
 |_,_=>true
theorem xQ {d:I} (h:d.hQ=true):d.plain=false/\d.tree=true/\∀vs,d≠.tuple vs:=by
 cases d<;>simp[I.hQ]at h<;>first|exact⟨rfl,rfl,λvs e=>by cases e⟩|exact⟨by simp only[I.plain];exact h,rfl,λvs e=>by cases e⟩
theorem aeO {d o:I} (h:d.hQ=true) (bO:o.hQ=true) (hl:xP d o=true):o.wd=d.wd/\(∀v,eY d v->eY o v)/\∀v,ki d.ee v->ki o v:=by
 cases d<;>simp[I.hQ]at h<;>cases o<;>simp[I.hQ]at bO<;>simp[xP]at hl<;>first
  |exact⟨rfl,λ_ h=>h,λ_ h=>h⟩
  |exact⟨by simp only[I.wd];exact hl.symm,λ_ h=>h,λ_ h=>h⟩
def dE.ok (s:al) (p:dE):Prop:=
 if p.g then(match p.a with| .h x q=>I.sub q (s x)=some p.d/\p.d.hQ=true/\(p.o= .hole\/(p.o.hQ=true/\xP p.d p.o=true))|_=>False)
 else view s p.a=some p.d
def jU:List dE->Bool
 |[]=>true
 |p::r=>(r.all λdr=> !(p.g||dr.g)||(p.a.aa.all λu=> !dr.a.aa.contains u))&&jU r
def dE.take (s:al) (p:dE):al:=
 if p.g then(match p.a with| .h x q=>el (js x s) x (I.put q p.d.ee (s x))|_=>s)else s
def dE.kO (s:al) (p:dE):al:=
 if p.g then(match p.a,p.o with|_,.hole=>s| .h x q,o=>el (oU x s) x (I.put q o (s x))|_,_=>s)else s
def fW (s:al) (ps:List dE):al:=ps.foldl dE.take s
def jk (s:al) (ps:List dE):al:=ps.foldl dE.kO s
section
variable {w0 w aP:World} {F0 X F Fc:Nat->Prop} {S:Nat->Nat->Prop} {s aE:al} {aH mS:Nat->Value}
def aeP (w:World) (F:Nat->Prop) (s1:al) (aH:Nat->Value) (p:dE) (v:Value) (Sn:Nat->Prop):Prop:=
 ∃x q a0,p.a= .h x q/\I.sub q (s1 x)=some p.d.ee/\eA w q (s1 x) (c_ (aH x)) none=some (p.d.ee,c_ v,a0)/\(s1 x).aa=[]/\(q=[]->eY p.d (aH x))/\(q≠[]->(s1 x).tree=true)/\
  eY p.d v/\az w F p.d (c_ v) Sn
theorem aeQ {p:dE} {x:Nat} (h:(s x).aa=[]) (ax:p.g=true->x∉p.a.aa):dE.take s p x=s x:=by
 unfold dE.take;split
 .rename_i hg;cases bo:p.a with
  |h y q=>
   have:x≠y:=by
    have:=ax hg;rw[bo]at this;simpa [I.aa]using this
   simp only;rw[ll _ _ this];exact E4 _ (by rw[h];simp)
  |_=>rfl
 .rfl
theorem NG:∀{ps:List dE} {s:al} {x:Nat},(s x).aa=[]->(∀p∈ps,p.g=true->x∉p.a.aa)->fW s ps x=s x:=by
 intro ps;induction ps with
 |nil=>intros;rfl
 |cons p ps ih=>
  intro s x h ax;have e:=aeQ (s:=s) (p:=p) h (ax p (by simp));show fW (dE.take s p) ps x=s x;rw[ih (by rw[e];exact h) (λdr fq=>ax dr (by simp[fq])),e]
theorem zw {d:I} (h:d.own=true):d.plain=false/\d.tree=true/\d.ee= .hole/\d.one=true/\d.wd=1/\(∀v,eY d v↔Value.hO v=true):=by
 cases d<;>simp[I.own]at h<;>exact⟨rfl,rfl,rfl,rfl,rfl,λv=>Iff.rfl⟩
theorem aeR:∀(ps:List dE) (vs:azi) (s:al) (S:Nat->Nat->Prop),cj w0 F0 X F S s aH w->ps.length=vs.length->
  (∀(i:Nat) (p:dE) (v:Value),ps[i]? =some p->vs[i]? =some v->p.a.plain=true/\aQ w F s aH p.a v (λ_=>False)/\(p.g=true->p.ok s))->jU ps=true->
  ∃(Sn cO:Nat->Nat->Prop),cj w0 F0 X F cO (fW s ps) aH w/\(∀u b,cO u b->S u b)/\
   (∀(i:Nat) (p:dE) (v:Value),ps[i]? =some p->vs[i]? =some v->p.g=true->aeP w F (fW s ps) aH p v (Sn i))/\
   (∀i b,Sn i b->∃p,ps[i]? =some p/\p.g=true)/\
   (∀i b,Sn i b->∃u,S u b)/\(∀i u b,Sn i b->¬cO u b)/\(∀i j b,i≠j->Sn i b->¬Sn j b)/\
   (∀(bM:I) (ht:Value) (a_:Nat->Prop),(∀p∈ps,p.g=true->∀u∈p.a.aa,u∉bM.aa)->aQ w F s aH bM ht a_->aQ w F (fW s ps) aH bM ht a_):=by
 intro ps;induction ps with
 |nil=>
  intro vs s S h hl _ _;exact⟨λ_ _=>False,S,h,λ_ _ h=>h,λi p v ax=>by simp at ax,λ_ _ h=>h.elim,λ_ _ h=>h.elim,λ_ _ _ h=>h.elim,λ_ _ _ _ h=>h.elim,λ_ _ _ _ h=>h⟩
 |cons p ps ih=>
  intro vs s S h hl EZ nY;cases vs with
  |nil=>simp at hl
  |cons v vs=>
   simp only[length_cons,Nat.add_right_cancel_iff]at hl;simp only[jU,Bool.and_eq_true,List.all_eq_true,Bool.or_eq_true,Bool.not_eq_true']at nY;obtain⟨s3,rK⟩:=nY;have BP:∀dr∈ps,(p.g=true\/dr.g=true)->∀u∈p.a.aa,u∉dr.a.aa:=by
    intro dr fq hg u hu;rcases s3 dr fq with e|e
    .rcases hg with hg|hg<;>simp[hg]at e
    .simpa using e u hu
   obtain⟨f1,f2,f3⟩:=EZ 0 p v rfl rfl;cases hg:p.g with
   |false=>
    have gi:dE.take s p=s:=by simp[dE.take,hg]
    obtain⟨Sn,cO,g1,g2,g3,g4,g5,g6,g7,g8⟩:=ih vs s S h hl (λi dr ht ax aF=>EZ (i+1) dr ht (by simpa using ax) (by simpa using aF)) rK;have aR:fW s (p::ps)=fW s ps:=by show fW (dE.take s p) ps=_;rw[gi]
    rw[aR];refine⟨λi=>match i with|0=>λ_=>False|i+1=>Sn i,cO,g1,g2,?_,?_,?_,?_,?_,λbM ht a_ ao=>g8 bM ht a_ λdr fq=>ao dr (by simp[fq])⟩
    .intro i dr ht ax aF iX;cases i with
     |zero=>simp at ax;subst ax;rw[hg]at iX;cases iX
     |succ i=>exact g3 i dr ht (by simpa using ax) (by simpa using aF) iX
    .intro i b ab;cases i with
     |zero=>exact ab.elim
     |succ i=>simpa using g4 i b ab
    .intro i b ab;cases i with
     |zero=>exact ab.elim
     |succ i=>exact g5 i b ab
    .intro i u b ab;cases i with
     |zero=>exact ab.elim
     |succ i=>exact g6 i u b ab
    .intro i j b eb ai bG;cases i with
     |zero=>exact ai.elim
     |succ i=>
      cases j with
      |zero=>exact bG.elim
      |succ j=>exact g7 i j b (by omega) ai bG
   |true=>
    have gO:=f3 hg;simp only[dE.ok,hg,if_true]at gO;split at gO
    .rename_i x q bo;obtain⟨f_,NH,za⟩:=gO;obtain⟨pC,mX,s4⟩:=xQ NH;have vV:dJ s p.a=some (p.d,el (js x s) x (I.put q p.d.ee (s x))):=by
      rw[bo];simp only[dJ,f_,pC];rfl
     obtain⟨cO,t1,t2,t3,aeS,t4,t5,t6,t7,t8,t9,t10,t11⟩:=rv h f1 f2 vV;have gi:dE.take s p=el (js x s) x (I.put q p.d.ee (s x)):=by simp[dE.take,hg,bo]
     have uA:∀dr∈ps,x∉dr.a.aa:=λdr fq=>BP dr fq (.inl hg) x (by rw[bo];simp[I.aa]);have NI:dE.take s p x=I.put q p.d.ee (s x):=by rw[gi,oV]
     have I4:(dE.take s p x).aa=[]:=by
      rw[NI];exact BN q _ _ _ f_ (.inl pC) (λ_=>by cases ao:p.d<;>first|rfl|(rw[ao]at NH;simp[I.hQ]at NH))
     obtain⟨Sn,eJ,g1,g2,g3,g4,g5,g6,g7,g8⟩:=ih vs (dE.take s p) cO (by rw[gi];exact t1) hl (by
      intro i dr ht ax aF;obtain⟨bX,cu,dS⟩:=EZ (i+1) dr ht (by simpa using ax) (by simpa using aF);have hm:dr∈ps:=mem_of_getElem? ax;refine⟨bX,?_,?_⟩
      .have:=t11 _ _ _ cu;rw[bo]at this;rw[gi];simp only[I.owner,nx]at this
       rwa [E4 _ (uA dr hm)]at this
      .intro iX;have:=dS iX;simp only[dE.ok,iX,if_true]at this⊢;split at this
       .rename_i y lP zx;have eb:y≠x:=λe=>uA dr hm (by rw[zx,e];simp[I.aa]);rw[gi,ll _ _ eb];have bb:=jG this.1 (.inl (xQ this.2.1).1);simp only[js,MJ bb];exact this
       .exact this.elim) rK
     have aR:fW s (p::ps)=fW (dE.take s p) ps:=rfl;have xR:fW (dE.take s p) ps x=I.put q p.d.ee (s x):=by
      rw[NG I4 (λdr fq _=>uA dr fq),NI]
     rw[aR];refine⟨λi=>match i with|0=>aeS|i+1=>Sn i,eJ,g1,λu b ab=>t9 u b (g2 u b ab),?_,?_,?_,?_,?_,?_⟩
     rotate_left 5
     .intro bM ht a_ ao lq;refine g8 bM ht a_ (λdr fq=>ao dr (by simp[fq])) ?_;have:=t11 _ _ _ lq;rw[bo]at this;rw[gi];simp only[I.owner,nx]at this
      rwa [E4 _ (ao p (by simp) hg x (by rw[bo];simp[I.aa]))]at this
     .intro i dr ht ax aF iX;cases i with
      |zero=>
       simp at ax aF;subst ax aF;have I5:=f2;rw[bo,aQ]at I5;obtain⟨dK,a0,cx,c2,c3⟩:=I5 _ f_ pC;refine⟨x,q,a0,bo,?_,?_,?_,?_,?_,t3,t4⟩
       .rw[xR];exact VP q _ _ _ f_
       .rw[xR,c2];exact aeM w q _ _ _ _ _ _ _ f_ (I.xA _) cx
       .rw[xR,<-NI];exact I4
       .intro cE;subst cE;simp only[I.sub,Option.some.injEq]at f_;have:=(aQ.dx (by rw[f_];exact mX)).1 (h.eu x);rw[f_]at this;exact this.1
       .intro cE;have bb:=jG f_ (.inl pC);rw[xR];cases q with
        |nil=>exact(cE rfl).elim
        |cons k q=>rcases xB k q p.d.ee (s x)with⟨aG,gs,aR,e⟩|⟨aG,gs,aR,e⟩|⟨sz,xs,c1,aR,e⟩|⟨y,z,aR,e⟩|e<;>rw[e]<;>first|rfl|exact bb
      |succ i=>exact g3 i dr ht (by simpa using ax) (by simpa using aF) iX
     .intro i b ab;cases i with
      |zero=>exact⟨p,rfl,hg⟩
      |succ i=>simpa using g4 i b ab
     .intro i b ab;cases i with
      |zero=>exact t10 b ab
      |succ i=>obtain⟨u,hu⟩:=g5 i b ab;exact⟨u,t9 u b hu⟩
     .intro i u b ab;cases i with
      |zero=>exact λhu=>t7 u b ab (g2 u b hu)
      |succ i=>exact g6 i u b ab
     .intro i j b eb ai bG;cases i with
      |zero=>
       cases j with
       |zero=>exact eb rfl
       |succ j=>obtain⟨u,hu⟩:=g5 j b bG;exact t7 u b ai hu
      |succ i=>
       cases j with
       |zero=>obtain⟨u,hu⟩:=g5 i b ai;exact t7 u b bG hu
       |succ j=>exact g7 i j b (by omega) ai bG
    .exact gO.elim
end
def gl (l:azk):al:=λi=>l.getD i .hole
def iz (l:azi):Nat->Value:=λi=>l.getD i undef
def rL (P:Program) (f:FuncId) (args:Array Value) (w:World) (kk:Value->World->Prop):Prop:=
 ((callFunc f args).run P w= .ok (.enter f args) w/\Calls P f args w (λe aP=>∃v,e= .returned v/\kk v aP))\/
 ∃v aP,(callFunc f args).run P w= .ok (.value v) aP/\kk v aP
theorem rL.mono {P:Program} {f:FuncId} {args:Array Value} {w:World} {kk VQ:Value->World->Prop} (h:rL P f args w kk) (aS:∀v aP,kk v aP->VQ v aP):rL P f args w VQ:=by
 rcases h with⟨ad,ag⟩|⟨v,aP,ad,ag⟩
 .exact .inl ⟨ad,Calls.mono ag λe aP ⟨v,e,h⟩=>⟨v,e,aS v aP h⟩⟩
 .exact .inr ⟨v,aP,ad,aS v aP ag⟩
def aX (C:cy) (f:FuncId) (as:azk) (r:I) (outs:azk):Prop:=
 ∀(w:World) (F X:Nat->Prop) (S:Nat->Nat->Prop) (vs:azi),vs.length=as.length->cj w F X F S (gl as) (iz vs) w->
  rL C.P f vs.toArray w λv aP=>∃cn a_,cj w F X cn a_ (gl (r::outs)) (iz (v::vs)) aP
def I.res:I->Bool
 | .h _ _=>false
 | .ax _ _=>false
 | .ab _ _=>false
 | .fn _ _=>false
 |_=>true
theorem NJ {d:I} (h:d.tree=true):d.aa=[]:=by cases d<;>first|rfl|(simp[I.tree]at h)
mutual
theorem NK {s aE:al}:∀(a:I) (d:I),(∀u∈a.aa,(s u).tree=true->aE u=s u)->view s a=some d->view aE a=some d
 | .h x q,d,hu,h=>by
   have bb:(s x).tree=true:=by
    simp only[view]at h;split at h
    .rename_i e f_;cases e<;>simp only at h<;>first
      |(cases h;done)
      |(split at h
        .cases h
        .rename_i ax;exact jG f_ (.inl (by simpa using ax)))
    .cases h
   simp only[view]at h⊢;rw[hu x (by simp[I.aa]) bb];exact h
 | .ax x q,d,hu,h=>by
   have bb:(s x).tree=true:=by
    simp only[view]at h;split at h
    .rename_i au;split at h
     .rename_i e f_;exact jG f_ (.inr au)
     .cases h
    .cases h
   simp only[view]at h⊢;rw[hu x (by simp[I.aa]) bb];exact h
 | .ab x q,d,hu,h=>by simp[view]at h
 | .fn f cap,d,hu,h=>by
   simp only[view,Option.map_eq_some_iff]at h⊢;obtain⟨ds,ad,ag⟩:=h;exact⟨ds,VR cap ds (by simpa [I.aa]using hu) ad,ag⟩
 | .hole,d,hu,h=>h
 | .bool _,d,hu,h=>h
 | .gu,d,hu,h=>h
 | .int _ _,d,hu,h=>h
 | .str _,d,hu,h=>h
 | .ez,d,hu,h=>h
 | .bd,d,hu,h=>h
 | .slice _,d,hu,h=>h
 | .ae _ _,d,hu,h=>h
 | .ref _,d,hu,h=>h
 | .aM _,d,hu,h=>h
 | .agg _,d,hu,h=>h
 | .tuple _,d,hu,h=>h
 | .ck _,d,hu,h=>h
theorem VR {s aE:al}:∀(as:azk) (ds:azk),(∀u∈I.e3 as,(s u).tree=true->aE u=s u)->views s as=some ds->views aE as=some ds
 |[],ds,hu,h=>h
 |a::as,ds,hu,h=>by
  simp only[I.e3,mem_append]at hu;simp only[views]at h⊢;split at h
  .rename_i x y ad ag;rw[NK a x (λu hm=>hu u (.inl hm)) ad,VR as y (λu hm=>hu u (.inr hm)) ag];exact h
  .cases h
end
section
variable {C:cy} {w0 w aP:World} {F0 X F Fc:Nat->Prop} {S:Nat->Nat->Prop} {s aE:al} {aH mS:Nat->Value}
def aeT (w:World) (F:Nat->Prop) (s:al) (aH:Nat->Value) (p:dE) (v:Value) (rM:Nat->Prop):Prop:=
 p.g=true->p.o= .hole\/∃x q a0 d0,p.a= .h x q/\I.sub q (s x)=some d0/\eA w q (s x) (c_ (aH x)) none=some (d0,c_ v,a0)/\(s x).aa=[]/\
  (q=[]->eY p.o (aH x))/\(q≠[]->(s x).tree=true)/\p.o.hQ=true/\az w F p.o (c_ v) rM/\p.o.wd=d0.wd/\∀v,ki d0 v->ki p.o v
theorem aeU:∀(ps:List dE) (vs:azi) (s:al) (S rM:Nat->Nat->Prop),cj w0 F0 X F S s aH w->ps.length=vs.length->
  (∀(i:Nat) (p:dE) (v:Value),ps[i]? =some p->vs[i]? =some v->aeT w F s aH p v (rM i))->
  (∀i b,rM i b->b<w.heap.size/\¬F b/\(X b\/w0.heap.size<=b)/\∀u,¬S u b)->(∀i j b,i≠j->rM i b->¬rM j b)->jU ps=true->
  ∃eJ,cj w0 F0 X F eJ (jk s ps) aH w/\∀u b,eJ u b->S u b\/∃i,rM i b:=by
 intro ps;induction ps with
 |nil=>intro vs s S rM h _ _ _ _ _;exact⟨S,h,λu b ab=>.inl ab⟩
 |cons p ps ih=>
  intro vs s S rM h hl NL ab ao nY;cases vs with
  |nil=>simp at hl
  |cons v vs=>
   simp only[length_cons,Nat.add_right_cancel_iff]at hl;simp only[jU,Bool.and_eq_true,List.all_eq_true,Bool.or_eq_true,Bool.not_eq_true']at nY;obtain⟨s3,rK⟩:=nY;have BP:∀dr∈ps,(p.g=true\/dr.g=true)->∀u∈p.a.aa,u∉dr.a.aa:=by
    intro dr fq hg u hu;rcases s3 dr fq with e|e
    .rcases hg with hg|hg<;>simp[hg]at e
    .simpa using e u hu
   have skip:dE.kO s p=s->∃eJ,cj w0 F0 X F eJ (jk s (p::ps)) aH w/\∀u b,eJ u b->S u b\/∃i,rM i b:=by
    intro gi;obtain⟨eJ,g1,g2⟩:=ih vs s S (λi=>rM (i+1)) h hl (λi dr ht ax aF=>NL (i+1) dr ht (by simpa using ax) (by simpa using aF)) (λi b h=>ab (i+1) b h)
     (λi j b eb=>ao (i+1) (j+1) b (by omega)) rK
    refine⟨eJ,?_,λu b hu=>(g2 u b hu).imp id λ⟨i,ai⟩=>⟨i+1,ai⟩⟩;show cj _ _ _ _ _ (jk (dE.kO s p) ps) _ _;rw[gi];exact g1
   cases hg:p.g with
   |false=>exact skip (by simp[dE.kO,hg])
   |true=>
    rcases NL 0 p v rfl rfl hg with bO|⟨x,q,a0,d0,bo,cx,c2,c3,c4,c5,eR,NM,iA,c9⟩
    .exact skip (by simp only[dE.kO,hg,bO,if_true])
    .obtain⟨pC,mX,xS⟩:=xQ eR;have gi:dE.kO s p=el (oU x s) x (I.put q p.o (s x)):=by
      simp only[dE.kO,hg,if_true,bo];cases aeV:p.o<;>first|rfl|(rw[aeV]at eR;simp[I.hQ]at eR)
     have step:=h.kO (x:=x) (q:=q) (bM:=p.o) cx c2 xS (λcE=>⟨mX,c4 cE⟩) (λk r cE=>⟨c5 (by rw[cE];simp),c9⟩) iA NM
      (λb h=>(ab 0 b h).1) (λb h=>(ab 0 b h).2.1) (λu b h=>(ab 0 b h).2.2.2 u) (λb h=>(ab 0 b h).2.2.1)
     rw[<-gi]at step;obtain⟨eJ,g1,g2⟩:=ih vs (dE.kO s p) _ (λi=>rM (i+1)) step hl (by
      intro i dr ht ax aF iX;have hm:dr∈ps:=mem_of_getElem? ax;rcases NL (i+1) dr ht (by simpa using ax) (by simpa using aF) iX with bO|⟨y,lP,J,d1,bX,cu,dS,dW,eB,dw,kj,fQ,py⟩
      .exact .inl bO
      .have eb:y≠x:=λe=>BP dr hm (.inl hg) x (by rw[bo];simp[I.aa]) (by rw[bX,e];simp[I.aa]);have qG:dE.kO s p y=s y:=by
        rw[gi,ll _ _ eb];exact Nt _ (by rw[dW];simp)
       exact .inr ⟨y,lP,J,d1,bX,by rw[qG];exact cu,by rw[qG];exact dS,by rw[qG];exact dW,eB,by rw[qG];exact dw,kj,fQ,py⟩)
      (by
       intro i b ai;obtain⟨hG,fP,gj,bT⟩:=ab (i+1) b ai;refine⟨hG,fP,gj,λu hu=>?_⟩;simp only[hn]at hu;split at hu
       .rcases hu with hu|hu
        .exact bT _ hu
        .exact ao 0 (i+1) b (by omega) hu ai
       .exact bT _ hu)
      (λi j b eb=>ao (i+1) (j+1) b (by omega)) rK
     refine⟨eJ,g1,λu b hu=>?_⟩;rcases g2 u b hu with hu|⟨i,ai⟩
     .simp only[hn]at hu;split at hu
      .rename_i e;subst e;exact hu.imp id λh=>⟨0,h⟩
      .exact .inl hu
     .exact .inr ⟨i+1,ai⟩
def mg (ps:List dE):Bool:=ps.any λp=> !p.g&& !p.a.aa.isEmpty
theorem VS (h:cj w0 F0 X F S s aH w) {ps:List dE} {vs:azi} {f:FuncId} {r:I} (hl:ps.length=vs.length)
  (lq:∀(i:Nat) (p:dE) (v:Value),ps[i]? =some p->vs[i]? =some v->p.a.plain=true/\aQ w F s aH p.a v (λ_=>False))
  (gO:∀p∈ps,p.ok s) (nY:jU ps=true) (bH:∀(Fc pD:Nat->Prop) (fj:Nat->Nat->Prop),(∀b,F b->Fc b)->(∀b,pD b->∃u,S u b)->cj w Fc pD Fc fj (gl (ps.map (·.d))) (iz vs) w->
   rL C.P f vs.toArray w λv aP=>∃cn a_,cj w Fc pD cn a_ (gl (r::ps.map (·.o))) (iz (v::vs)) aP) (aS:r.res=true)
  (aV:mg ps=true->r.dc=true/\∀p∈ps,p.o.dc=true):
  rL C.P f vs.toArray w λv aP=>∃cn a_,cj w0 F0 X cn a_ (jk (fW s ps) ps) aH aP/\oh w0 X cn a_ (jk (fW s ps) ps) aH aP r v/\∀b,F b->cn b/\aP.heap[b]? =w.heap[b]? :=by
 obtain⟨Sn,cO,g1,g2,g3,g4,g5,g6,g7,g8⟩:=aeR ps vs s S h hl (λi p v ax aF=>⟨(lq i p v ax aF).1,(lq i p v ax aF).2,λ_=>gO p (mem_of_getElem? ax)⟩) nY;have apart:∀(i j:Nat) (p dr:dE),ps[i]? =some p->ps[j]? =some dr->i≠j->(p.g=true\/dr.g=true)->∀u∈p.a.aa,u∉dr.a.aa:=by
  clear lq gO bH aV g1 g3 g4 g8 hl;induction ps with
  |nil=>intro i j p dr ax;simp at ax
  |cons jr ps ih=>
   simp only[jU,Bool.and_eq_true,List.all_eq_true,Bool.or_eq_true,Bool.not_eq_true']at nY;obtain⟨s3,rK⟩:=nY;have BP:∀dr∈ps,(jr.g=true\/dr.g=true)->∀u∈jr.a.aa,u∉dr.a.aa:=by
    intro dr fq hg u hu;rcases s3 dr fq with e|e
    .rcases hg with hg|hg<;>simp[hg]at e
    .simpa using e u hu
   intro i j p dr ax fq eb hg u hu;cases i with
   |zero=>
    simp at ax;subst ax;cases j with
    |zero=>exact(eb rfl).elim
    |succ j=>exact BP dr (mem_of_getElem? (by simpa using fq)) hg u hu
   |succ i=>
    cases j with
    |zero=>
     simp at fq;subst fq;exact λE6=>BP p (mem_of_getElem? (by simpa using ax)) hg.symm u E6 hu
    |succ j=>exact ih rK i j p dr (by simpa using ax) (by simpa using fq) (by omega) hg u hu
 let Fc:Nat->Prop:=λb=>F b\/(mg ps=true/\∃u,cO u b)
 let pD:Nat->Prop:=λb=>∃i,Sn i b
 have NN:∀b,F b->¬pD b:=λb bJ ⟨i,ai⟩=>by obtain⟨u,hu⟩:=g5 i b ai;exact h.gN u b hu bJ
 have E7:∀u b,cO u b->¬pD b:=λu b hu ⟨i,ai⟩=>g6 i u b ai hu;have aB:∀b,pD b->(X b\/w0.heap.size<=b)/\b<w.heap.size:=λb ⟨i,ai⟩=>by obtain⟨u,hu⟩:=g5 i b ai;exact⟨h.eX u b hu,h.fB u b hu⟩
 have pre:cj w Fc pD Fc Sn (gl (ps.map (·.d))) (iz vs) w:=by
  refine⟨λ_ h=>h,λ_ h=>.inl h,?_,λi b ai=>(aB b ⟨i,ai⟩).2,?_,λi j b eb=>g7 i j b eb,λi b ai=>.inl ⟨i,ai⟩,?_,λ_ _ _=>rfl,Nat.le_refl _,rfl,rfl,Out.refl _,h.gw.next h.size h.old λb ab=>(aB b ab).1⟩
  .rintro b (ab|⟨_,u,hu⟩)
   .exact h.gg b ab
   .exact g1.fB u b hu
  .rintro i b ai (ab|⟨_,u,hu⟩)
   .exact NN b ab ⟨i,ai⟩
   .exact g6 i u b ai hu
  .intro t;cases ax:ps[t]? with
   |none=>
    have:gl (ps.map (·.d)) t= .hole:=by simp[gl,List.getD,ax]
    rw[this,aQ];trivial
   |some p=>
    have eN:t<vs.length:=by rw[<-hl];exact(List.getElem?_eq_some_iff.1 ax).1
    have aF:vs[t]? =some vs[t]:=getElem?_eq_getElem eN;have aR:gl (ps.map (·.d)) t=p.d:=by simp[gl,List.getD,ax]
    have aW:iz vs t=vs[t]:=by simp[iz,List.getD,aF]
    rw[aR,aW];have hm:p∈ps:=mem_of_getElem? ax;have aw:=gO p hm;cases hg:p.g with
    |true=>
     obtain⟨x,q,a0,bX,cu,dS,dW,eB,dw,kj,fQ⟩:=g3 t p _ ax aF hg;simp only[dE.ok,hg,if_true,bX]at aw;exact(aQ.dx (xQ aw.2.1).2.1).2 ⟨kj,az.mono (λb ab=>.inl ab) _ _ _ _ (λ_ h=>h) fQ⟩
    |false=>
     simp only[dE.ok,hg]at aw;obtain⟨f1,f2⟩:=lq t p _ ax aF;have VT:∀dr∈ps,dr.g=true->∀u∈dr.a.aa,u∉p.a.aa:=by
      intro dr fq iX u hu;obtain⟨j,bG⟩:=getElem?_of_mem fq;refine apart j t dr p bG ax (λe=>?_) (.inl iX) u hu;subst e;rw[ax]at bG;simp only[Option.some.injEq]at bG;rw[bG,iX]at hg;cases hg
     have I5:=g8 _ _ _ VT f2;have nW:view (fW s ps) p.a=some p.d:=NK _ _ (λu hu bb=>NG (NJ bb) (λdr fq iX E6=>VT dr fq iX u E6 hu)) (by simpa using aw);refine aQ.nothing (aeL f1 nW) ((aeN g1 (Fc:=Fc) (λb ab=>.inl ab) (SizeOf.sizeOf p.a)).1 p.a _ p.d (Nat.le_refl _) ?_ nW I5);intro u hu b ab;refine .inr ⟨?_,u,ab⟩;simp only[mg,List.any_eq_true];refine⟨p,hm,?_⟩;cases kz:p.a.aa with
     |nil=>rw[kz]at hu;cases hu
     |cons _ _=>simp[hg]
 refine rL.mono (bH Fc pD Sn (λb ab=>.inl ab) (λb ⟨i,ai⟩=>g5 i b ai) pre) ?_;rintro v aP ⟨cn,a_,au⟩;have keep:∀b,b<w.heap.size->¬pD b->aP.heap[b]? =w.heap[b]? :=au.old;let s5:Nat->Prop:=λb=>if mg ps=true then F b else cn b
 have VU:∀b,F b->cn b:=λb ab=>au.h_ b (.inl ab);have BQ:∀b,F b->s5 b:=λb ab=>by
  simp only[s5];split
  .exact ab
  .exact VU b ab
 have vW:∀b,s5 b->cn b:=λb ab=>by
  simp only[s5]at ab;split at ab
  .exact VU b ab
  .exact ab
 have VV:∀b,s5 b->F b\/pD b\/w.heap.size<=b:=λb ab=>by
  simp only[s5]at ab;split at ab
  .exact .inl ab
  .rename_i xJ;rcases au.iL b ab with(ab|⟨ad,_⟩)|ab|ab
   .exact .inl ab
   .exact(xJ ad).elim
   .exact .inr (.inl ab)
   .exact .inr (.inr ab)
 have mid:cj w0 F0 X s5 cO (fW s ps) aH aP:=by
  refine⟨λb ab=>BQ b (g1.h_ b ab),?_,λb ab=>au.gg b (vW b ab),λt b ab=>Nat.lt_of_lt_of_le (g1.fB t b ab) au.size,?_,g1.gh,g1.eX,?_,?_,Nat.le_trans g1.size au.size,au.os.trans g1.os,au.tape.trans g1.tape,au.output.trans g1.output,g1.gw⟩
  .intro b ab;rcases VV b ab with ab|ab|ab
   .exact g1.iL b ab
   .rcases(aB b ab).1 with h|h
    .exact .inr (.inl h)
    .exact .inr (.inr h)
   .exact .inr (.inr (Nat.le_trans g1.size ab))
  .intro t b bb ab;rcases VV b ab with ab|ab|ab
   .exact g1.gN t b bb ab
   .exact E7 t b bb ab
   .exact absurd (g1.fB t b bb) (by omega)
  .intro t;exact aQ.frame (Sx:=cO) (λb ab=>keep b (h.gg b ab) (NN b ab)) BQ (λx b ab=>keep b (g1.fB x b ab) (E7 x b ab)) g1.eu _ _ _ (λb ab=>keep b (g1.fB t b ab) (E7 t b ab)) (g1.eu t)
  .intro b ab mT;refine(keep b (Nat.lt_of_lt_of_le ab g1.size) λaq=>?_).trans (g1.old b ab mT);rcases(aB b aq).1 with h|h
   .exact mT h
   .omega
 have VW:∀(d:I) (cs:azi) (eX:Nat->Prop),(mg ps=true->d.dc=true)->az aP cn d cs eX->az aP s5 d cs eX:=by
  intro d cs eX aeW ie;by_cases hle:mg ps=true
  .exact az.dc d cs eX (aeW hle) ie
  .exact az.mono (λb ab=>by simp only[s5];rw[if_neg hle];exact ab) _ _ _ _ (λ_ h=>h) ie
 have bound:∀i b,a_ i b->b<aP.heap.size/\¬s5 b/\(X b\/w0.heap.size<=b)/\∀u,¬cO u b:=by
  intro i b ab;refine⟨au.fB i b ab,λbJ=>au.gN i b ab (vW b bJ),?_,λu hu=>?_⟩
  .rcases au.eX i b ab with aq|aq
   .exact(aB b aq).1
   .exact .inr (Nat.le_trans g1.size aq)
  .rcases au.eX i b ab with aq|aq
   .exact E7 u b hu aq
   .exact absurd (g1.fB u b hu) (by omega)
 obtain⟨eJ,bX,cu⟩:=aeU ps vs (fW s ps) cO (λi=>a_ (i+1)) mid hl (by
  intro i p ht ax aF hg;have hm:p∈ps:=mem_of_getElem? ax;have aw:=gO p hm;obtain⟨x,q,a0,aR,aW,aU,cc,cZ,cv,cd,fC⟩:=g3 i p ht ax aF hg;simp only[dE.ok,hg,if_true,aR]at aw;rcases aw.2.2 with bO|bO
  .exact .inl bO
  .obtain⟨ic,l2,E8⟩:=aeO aw.2.1 bO.1 bO.2;refine .inr ⟨x,q,a0,p.d.ee,aR,aW,?_,cc,λcE=>l2 _ (cZ cE),cv,bO.1,?_,ic.trans (I.xA _).symm,E8⟩
   .cases q with
    |nil=>simpa only[eA]using aU
    |cons k q=>
     have bb:=cv (by simp);rw[IA (k::q) _ _ (cO x) none _ ((aQ.dx bb).1 (g1.eu x)).2 aW (λb ab=>keep b (g1.fB x b ab) (E7 x b ab))];exact aU
   .have:=au.eu (i+1);have jt:gl (r::ps.map (·.o)) (i+1)=p.o:=by simp[gl,List.getD,ax]
    have jh:iz (v::vs) (i+1)=ht:=by simp[iz,List.getD,aF]
    rw[jt,jh]at this;exact VW _ _ _ (λhle=>(aV hle).2 p hm) ((aQ.dx (xQ bO.1).2.1).1 this).2)
  (λi b ab=>bound (i+1) b ab) (λi j b eb=>au.gh (i+1) (j+1) b (by omega)) nY
 refine⟨s5,eJ,bX,?_,λb ab=>⟨BQ b ab,keep b (h.gg b ab) (NN b ab)⟩⟩;have bc:=au.eu 0;have jt:gl (r::ps.map (·.o)) 0=r:=rfl;have jh:iz (v::vs) 0=v:=rfl;rw[jt,jh]at bc;cases bb:r.tree with
 |false=>
  cases r<;>first
   |(simp[I.tree]at bb;done)
   |(simp[I.res]at aS;done)
   |exact .inl ⟨rfl,by rw[aQ];trivial⟩
 |true=>
  obtain⟨s1,s2⟩:=(aQ.dx bb).1 bc;have oZ:=VW _ _ _ (λhle=>(aV hle).1) s2;refine .inr ⟨bb,s1,a_ 0,oZ,λb ab=>(bound 0 b ab).1,λb ab=>(bound 0 b ab).2.1,λu b ab hu=>?_,λb ab=>(bound 0 b ab).2.2.1⟩;rcases cu u b hu with hu|⟨i,ai⟩
  .exact(bound 0 b ab).2.2.2 u hu
  .exact au.gh 0 (i+1) b (by omega) ab ai
theorem aeX (h:cj w0 F0 X F S s aH w) {ps:List dE} {vs:azi} {f:FuncId} {r:I} (hl:ps.length=vs.length)
  (lq:∀(i:Nat) (p:dE) (v:Value),ps[i]? =some p->vs[i]? =some v->p.a.plain=true/\aQ w F s aH p.a v (λ_=>False))
  (gO:∀p∈ps,p.ok s) (nY:jU ps=true) (bH:aX C f (ps.map (·.d)) r (ps.map (·.o))) (aS:r.res=true)
  (aV:mg ps=true->r.dc=true/\∀p∈ps,p.o.dc=true):
  rL C.P f vs.toArray w λv aP=>∃cn a_,cj w0 F0 X cn a_ (jk (fW s ps) ps) aH aP/\oh w0 X cn a_ (jk (fW s ps) ps) aH aP r v/\∀b,F b->cn b/\aP.heap[b]? =w.heap[b]? :=
 VS h hl lq gO nY (λFc pD fj _ _ ax=>bH w Fc pD fj vs (by simp[hl]) ax) aS aV
end
structure cC where
 dst:Option Nat
 b3:e0
 guard:Option (Nat×Bool)
def E9 (ops:Array Oper):Option (Nat×Bool)->Option (Option (Nat×Bool))
 |none=>some none
 |some (j,b)=>match(ops[j]?).bind (·.dst)with
  |some t=>some (some (t,b))
  |none=>none
structure Fr where
 n:Nat
 fx:azf
def om (n:Fr):Option Nat->Bool
 |none=>true
 |some t=>decide (t<n.n)&& !n.fx.contains t
def s6 (op:Op):e0:=match dy op with
 |some b3=>b3
 |none=>.bad
def uB (n:Fr) (ops:Array Oper) (o:Oper):Option cC:=
 if om n o.dst=true then match E9 ops o.guard with
  |some g=>some ⟨o.dst,s6 o.op,g⟩
  |none=>none
 else none
def uC (n:Fr) (ops:Array Oper):List Oper->Option (List cC)
 |[]=>some []
 |o::os=>match uB n ops o,uC n ops os with
  |some r,some rs=>some (r::rs)
  |_,_=>none
def NO (C:cy) (s:al) (f:bB) (args:List bB) (K:I->al->Prop):Prop:=
 ∃(g:FuncId) (caps:azk) (ps:List dE) (r:I),bx s f= .fn g caps/\I.e6 caps=true/\ps.map (·.a)=args.map (bx s)++caps/\(∀p∈ps,p.ok s)/\jU ps=true/\
   aX C g (ps.map (·.d)) r (ps.map (·.o))/\r.res=true/\(mg ps=true->r.dc=true/\∀p∈ps,p.o.dc=true)/\K r (jk (fW s ps) ps)
mutual
def I.gP (s:al):I->Bool
 | .h x q=>q.isEmpty&&(s x).own
 | .ab x _=> !(s x).plain
 | .ax _ _=>false
 | .hole=>true
 | .fn _ cap=>I.rN s cap
 |d=>d.plain
def I.rN (s:al):azk->Bool
 |[]=>true
 |d::ds=>d.gP s&&I.rN s ds
end
def p6 (s:al):azj->al
 |[]=>s
 |p::L=>p6 (el s p.1 p.2) L
def oo (s:al):azj->Bool
 |[]=>true
 |p::L=>p.2.gP s&&oo s L
def lr (s:al) (us:azf):azj:=us.map λu=>(u,s u)
def rO (C:cy) (s:al) (b3:e0) (K:I->al->Prop):Prop:=
 match b3 with
 | .call f args=>∃(g:FuncId) (caps:azk) (ps:List dE) (r:I),bx s f= .fn g caps/\I.e6 caps=true/\ps.map (·.a)=args.map (bx s)++caps/\(∀p∈ps,p.ok s)/\jU ps=true/\
   aX C g (ps.map (·.d)) r (ps.map (·.o))/\r.res=true/\(mg ps=true->r.dc=true/\∀p∈ps,p.o.dc=true)/\K r (jk (fW s ps) ps)
 | .shr b3=>∃av s1,cg C s b3=some (av,s1)/\av.tree=true/\(∀vs,av≠.tuple vs)/\K av.share s1
 | .mV f args us=>oo s (lr s us)=true/\NO C s f args λav s1=>oo s1 (lr s us)=true/\K av (p6 s1 (lr s us))
 |b3=>∃av s1,cg C s b3=some (av,s1)/\K av s1
theorem I6 {C:cy} {s:al} {b3:e0} {K eG:I->al->Prop} (h:rO C s b3 K) (aw:∀av s,K av s->eG av s):rO C s b3 eG:=by
 cases b3 with
 |call f args=>
  obtain⟨g,caps,ps,r,ad,h3,ag,aD,bh,b1,du,di,hi⟩:=h;exact⟨g,caps,ps,r,ad,h3,ag,aD,bh,b1,du,di,aw _ _ hi⟩
 |shr b3=>
  obtain⟨av,s1,ad,ag,aD,bh⟩:=h;exact⟨av,s1,ad,ag,aD,aw _ _ bh⟩
 |mV f args us=>
  obtain⟨cu,g,caps,ps,r,ad,h3,ag,aD,bh,b1,du,di,hi,iV⟩:=h;exact⟨cu,g,caps,ps,r,ad,h3,ag,aD,bh,b1,du,di,hi,aw _ _ iV⟩
 |_=>
  obtain⟨av,s1,ad,ag⟩:=h;exact⟨av,s1,ad,aw _ _ ag⟩
def o0 (C:cy) (s:al) (o:cC) (K:al->Prop):Prop:=
 match o.guard with
 |none=>rO C s o.b3 λav s1=>K (fin s1 o.dst av)
 |some (t,b)=>match s t with
  | .bool gV=>if gV=b then rO C s o.b3 (λav s1=>K (fin s1 o.dst av))else K (fin s o.dst (.tuple []))
  | .tuple []=>K (fin s o.dst (.tuple []))
  |_=>False
def oq (C:cy) (s:al):List cC->(al->Prop)->Prop
 |[],K=>K s
 |o::os,K=>o0 C s o λs1=>oq C s1 os K
def kP (C:cy) (ros:List cC) (s:al):azf->(al->Prop)->Prop
 |[],K=>K s
 |i::l,K=>match ros[i]? with
  |none=>kP C ros s l K
  |some o=>o0 C s o λs1=>kP C ros s1 l K
theorem aeY (C:cy) (K:al->Prop):∀(rs pre:List cC) (s:al),oq C s rs K->kP C (pre++rs) s ((range rs.length).map (·+pre.length)) K:=by
 intro rs;induction rs with
 |nil=>intro pre s h;exact h
 |cons r rs ih=>
  intro pre s h;rw[length_cons,range_succ_eq_map,map_cons,List.map_map];simp only[kP,Nat.zero_add];rw[getElem?_append_right (Nat.le_refl _)];simp only[Nat.sub_self,getElem?_cons_zero];have key:∀s1,oq C s1 rs K->kP C (pre++r::rs) s1 ((range rs.length).map ((λx=>x+pre.length)∘succ)) K:=by
   intro s1 ad;have:=ih (pre++[r]) s1 ad;simp only[append_assoc,singleton_append,length_append,length_singleton]at this;have e:((λx=>x+pre.length)∘succ)=λx=>x+(pre.length+1):=by funext x;simp;omega
   rw[e];exact this
  simp only[oq]at h;unfold o0 at h⊢;split
  .rename_i hg;rw[hg]at h;exact I6 h λav s1=>key _
  .rename_i t b hg;rw[hg]at h;simp only at h;split
   .rename_i gV aa;rw[aa]at h;simp only at h;split
    .rename_i ab;rw[if_pos ab]at h;exact I6 h λav s1=>key _
    .rename_i ab;rw[if_neg ab]at h;exact key _ h
   .rename_i aa;rw[aa]at h;exact key _ h
   .rename_i ad ag;split at h
    .exact ad _ (by assumption)
    .exact ag (by assumption)
    .exact h
structure Rel (w0:World) (F0 X:Nat->Prop) (n:Fr) (ρ:Nat->Value) (s:al) (a:Act) (w:World):Prop where
 defers:a.defers=[]
 size:a.tmps.size=n.n
 fixed:∀i∈n.fx,a.tmps.getD i undef=ρ i
 rel:∃F S,cj w0 F0 X F S s (λt=>a.tmps.getD t undef) w
section
variable {C:cy} {w0 w:World} {F0 X:Nat->Prop} {n:Fr} {ρ:Nat->Value} {s s1:al} {a:Act} {av:I} {Q:Exit->Act->World->Prop}
theorem E_ {dst:Option Nat} (v:Value) (aa:a.tmps.size=n.n) (ao:om n dst=true):
  (λt=>(a.put dst v).tmps.getD t undef)=qF (λt=>a.tmps.getD t undef) dst v/\(a.put dst v).tmps.size=n.n/\(a.put dst v).defers=a.defers:=by
 cases dst with
 |none=>exact⟨rfl,aa,rfl⟩
 |some d=>
  simp only[om,Bool.and_eq_true,decide_eq_true_eq]at ao;refine⟨?_,by simp[Act.put,aa],rfl⟩;funext t;simp only[Act.put,qF,el,Array.getD_eq_getD_getElem?];by_cases h:t=d
  .subst h;rw[if_pos rfl,Array.getElem?_setIfInBounds_self_of_lt (by omega)];rfl
  .rw[if_neg h,Array.getElem?_setIfInBounds_ne (λe=>h e.symm)]
theorem Rel.put {F S} (ao:a.defers=[]) (aa:a.tmps.size=n.n) (bH:∀i∈n.fx,a.tmps.getD i undef=ρ i) {aP:World} (aS:cj w0 F0 X F S s (λt=>a.tmps.getD t undef) aP) {v:Value} (aF:oh w0 X F S s (λt=>a.tmps.getD t undef) aP av v)
  {dst:Option Nat} (gO:om n dst=true):Rel w0 F0 X n ρ (fin s dst av) (a.put dst v) aP:=by
 obtain⟨aR,aW,aU⟩:=E_ (n:=n) (dst:=dst) v aa gO;obtain⟨a_,bF⟩:=aS.fin aF dst;refine⟨aU.trans ao,aW,λi ai=>?_,F,a_,by rw[aR];exact bF⟩;rw[congrFun aR i];cases dst with
 |none=>exact bH i ai
 |some d=>
  simp only[om,Bool.and_eq_true,Bool.not_eq_true',contains_eq_mem,decide_eq_false_iff_not]at gO;have eb:i≠d:=λe=>gO.2 (by rw[<-e];exact ai);simp only[qF];rw[ll _ _ eb];exact bH i ai
theorem Rel.skip (h:Rel w0 F0 X n ρ s a w) {dst:Option Nat} (gO:om n dst=true):Rel w0 F0 X n ρ (fin s dst (.tuple [])) (a.put dst undef) w:=by
 obtain⟨ao,aa,bH,F,S,aS⟩:=h;refine Rel.put (av:=.tuple []) ao aa bH aS (.inl ⟨rfl,(aQ.dx (d:=.tuple []) rfl).2 ⟨?_,?_⟩⟩) gO
 .exact⟨#[],rfl,rfl,λk d x aw=>by simp at aw⟩
 .rw[az,bA];rfl
theorem VX {F:Nat->Prop} {aH:Nat->Value} {w:World}:∀{ds es:azk} {vs us:azi},e_ w F s aH ds vs->e_ w F s aH es us->e_ w F s aH (ds++es) (vs++us):=by
 intro ds;induction ds with
 |nil=>intro es vs us ad ag;rw[e_]at ad;subst ad;exact ag
 |cons d ds ih=>
  intro es vs us ad ag;rw[e_]at ad;obtain⟨v,ma,rfl,g1,g2⟩:=ad;rw[cons_append,cons_append,e_];exact⟨v,_,rfl,g1,ih g2 ag⟩
theorem VY {F:Nat->Prop} {aH:Nat->Value} {w:World}:∀{ds:azk} {vs:azi},e_ w F s aH ds vs->ds.length=vs.length/\∀(i:Nat) (d:I) (v:Value),ds[i]? =some d->vs[i]? =some v->aQ w F s aH d v (λ_=>False):=by
 intro ds;induction ds with
 |nil=>intro vs h;rw[e_]at h;subst h;exact⟨rfl,λi d v h=>by simp at h⟩
 |cons d ds ih=>
  intro vs h;rw[e_]at h;obtain⟨v,ma,rfl,g1,g2⟩:=h;obtain⟨bX,cu⟩:=ih g2;refine⟨by simp[bX],λi bM ht ao aF=>?_⟩;cases i with
  |zero=>simp at ao aF;subst ao aF;exact g1
  |succ i=>exact cu i bM ht (by simpa using ao) (by simpa using aF)
theorem rP {op:Op} {b3:e0} (h:s6 op=b3):b3= .bad\/dy op=some b3:=by
 unfold s6 at h;split at h
 .subst h;right;assumption
 .exact .inl h.symm
theorem aeZ {op:Op} {b3:e0}:dy op≠some (.shr b3):=by
 intro h;unfold dy at h;split at h<;>(try split at h)<;>(try split at h)<;>(try split at h)<;>(try simp[Option.map_eq_some_iff]at h)
theorem ae0 {op:Op} {f:bB} {args:List bB} {us:azf}:dy op≠some (.mV f args us):=by
 intro h;unfold dy at h;split at h<;>(try split at h)<;>(try split at h)<;>(try split at h)<;>(try simp[Option.map_eq_some_iff]at h)
theorem ae1 {op:Op} {x:bB} {k:Nat}:dy op≠some (.ext x k):=by
 intro h;unfold dy at h;split at h<;>(try split at h)<;>(try split at h)<;>(try split at h)<;>(try simp[Option.map_eq_some_iff]at h)
theorem ae2 {op:Op} {x:bB} {k:Nat} (h:dy op=some (.ex x k)):∃cU,op= .extract cU k/\eK cU=some x:=by
 cases op with
 |extract cU dv=>
  simp only[dy,Option.map_eq_some_iff,e0.ex.injEq]at h;obtain⟨y,hy,rfl,rfl⟩:=h;exact⟨cU,rfl,hy⟩
 |_=>
  exfalso;unfold dy at h;split at h<;>(try split at h)<;>(try split at h)<;>(try split at h)<;>(try simp[Option.map_eq_some_iff]at h)<;>contradiction
theorem ae3 {op:Op} {T:TypeId} {x:bB}:dy op≠some (.mc T x):=by
 intro h;unfold dy at h;split at h<;>(try split at h)<;>(try split at h)<;>(try split at h)<;>(try simp[Option.map_eq_some_iff]at h)
theorem ae4 {op:Op} {x:bB}:dy op≠some (.p5 x):=by
 intro h;unfold dy at h;split at h<;>(try split at h)<;>(try split at h)<;>(try split at h)<;>(try simp[Option.map_eq_some_iff]at h)
theorem ae5 {op:Op} {x:bB}:dy op≠some (.pA x):=by
 intro h;unfold dy at h;split at h<;>(try split at h)<;>(try split at h)<;>(try split at h)<;>(try simp[Option.map_eq_some_iff]at h)
theorem ae6 {op:Op} {x:bB} (h:dy op=some (.ga x)):∃cU,op= .move cU/\eK cU=some x:=by
 unfold dy at h;split at h<;>(try split at h)<;>(try split at h)<;>(try split at h)<;>(try simp[Option.map_eq_some_iff]at h)
 exact⟨_,rfl,h⟩
theorem ae7 {op:Op} {x:bB} (h:dy op=some (.hX x)):∃cU,op= .assign cU/\eK cU=some x:=by
 unfold dy at h;split at h<;>(try split at h)<;>(try split at h)<;>(try split at h)<;>(try simp[Option.map_eq_some_iff]at h)
 exact⟨_,rfl,h⟩
theorem cj.alias {F:Nat->Prop} {S:Nat->Nat->Prop} {aH:Nat->Value} {u x:Nat} (h:cj w0 F0 X F S s aH w) (hu:s u= .hole) (aq:(s x).own=true) (aF:c_ (aH u)=c_ (aH x)) (ad:Value.hO (aH u)=true):
  cj w0 F0 X F (hn S u (λ_=>False)) (el s u (.h x [])) aH w:=by
 have ff:el aH u (aH u)=aH:=by funext y;simp only[el];split<;>simp_all
 have:=h.Bz (t:=u) (d:=.h x []) (v:=aH u) rfl (by
  rw[aQ];intro d ao ax;simp only[I.sub,Option.some.injEq]at ao;subst ao;exact⟨c_ (aH x),none,rfl,aF,((zw aq).2.2.2.2.2 _).2 ad⟩)
 rwa [ff]at this
theorem oh.less {F:Nat->Prop} {S a_:Nat->Nat->Prop} {aH:Nat->Value} {s1:al} {v:Value} (cq:∀u b,a_ u b->S u b) (aS:av.res=true) (h:oh w0 X F S s aH w av v):oh w0 X F a_ s1 aH w av v:=by
 rcases h with⟨ad,ag⟩|⟨ad,ag,Sn,aD,bh,b1,du,di⟩
 .refine .inl ⟨ad,?_⟩;cases av<;>first
   |(simp[I.res]at aS;done)
   |(rw[aQ];trivial)
   |(rw[aQ]at ag⊢;exact ag)
 .exact .inr ⟨ad,ag,Sn,aD,bh,b1,λu b ab hu=>du u b ab (cq u b hu),di⟩
theorem VZ (bU:C.fK) (h:Rel w0 F0 X n ρ s a w) {o:Oper} {f:bB} {args:List bB} (dd:dy o.op=some (.call f args)) (ao:om n o.dst=true) {K:I->al->Prop} {L:al->Prop} {next:Act->World->Prop}
  (hw:NO C s f args K) (nC:∀F S cn a_ w aP av s1 v,cj w0 F0 X F S s (λt=>a.tmps.getD t undef) w->K av s1->av.res=true->cj w0 F0 X cn a_ s1 (λt=>a.tmps.getD t undef) aP->oh w0 X cn a_ s1 (λt=>a.tmps.getD t undef) aP av v->(∀b,F b->cn b/\aP.heap[b]? =w.heap[b]?)->
   ∃s2 eJ,L (fin s2 o.dst av)/\cj w0 F0 X cn eJ s2 (λt=>a.tmps.getD t undef) aP/\oh w0 X cn eJ s2 (λt=>a.tmps.getD t undef) aP av v)
  (aV:∀aE dI aP,L aE->Rel w0 F0 X n ρ aE dI aP->next dI aP):o.wp C.P a w next Q:=by
 have s7:=h;obtain⟨kl,fa,iO,F,S,aS⟩:=h;obtain⟨g,caps,ps,r,ad,h3,ag,aD,bh,b1,du,di,hi⟩:=hw;obtain⟨dst,op,ty,pos,after,guard⟩:=o;simp only at dd ao nC;cases op with
 |call c=>
  obtain⟨callee,p7,argTypes⟩:=c;simp only[dy]at dd;split at dd
  .split at dd
   .rename_i Fa _ _ ae8 xs bH uA;simp only[Option.some.injEq,e0.call.injEq]at dd;obtain⟨rfl,rfl⟩:=dd;obtain⟨f1,f2⟩:=gy aS (λ_=>rfl) bH;rw[ad,aQ]at f2;obtain⟨arr,f3,f4⟩:=f2;have Fb:execOp a.eval {dst,op:=.call {callee:=.value Fa,args:=p7,argTypes},type:=ty,pos,after,guard}=callFunc g ((p7.toList.map a.eval++arr.toList).toArray):=by
     have:a.eval Fa= .func (.func g) #[] arr:=f3;simp only[execOp,resolve,this,Deferred.ofValue,pure_bind,invoke];congr 1;apply Array.ext';simp
    unfold Oper.wp;rw[Fb];have Fe:e_ w F s (λt=>a.tmps.getD t undef) (xs.map (bx s)++caps) (p7.toList.map a.eval++arr.toList):=VX (I2 aS (λ_=>rfl) _ _ (zt uA)) f4;rw[<-ag]at Fe;obtain⟨ic,l2⟩:=VY Fe;have fO:∀d∈xs.map (bx s)++caps,d.plain=true:=by
     intro d ao;rcases mem_append.1 ao with ao|ao
     .obtain⟨x,aq,rfl⟩:=mem_map.1 ao;exact Uz s x λav e=>by
       subst e;have hm:=zt uA;have:some (bB.c av)∈xs.map some:=mem_map.2 ⟨_,aq,rfl⟩;rw[<-hm]at this;obtain⟨o,_,bO⟩:=mem_map.1 this;cases o with
       |const v=>simp only[eK,Option.map_eq_some_iff]at bO;obtain⟨c,au,e⟩:=bO;cases e;exact MS au
       |tmp n=>simp[eK]at bO
       |func g=>simp[eK]at bO
       |global g=>simp[eK]at bO
     .obtain⟨k,aw⟩:=getElem?_of_mem ao;exact Iz h3 aw
    have NP:=aeX (C:=C) aS (ps:=ps) (vs:=p7.toList.map a.eval++arr.toList) (f:=g) (r:=r) (by simpa using ic)
     (λi p v ax aF=>⟨fO p.a (by rw[<-ag];exact mem_map.2 ⟨p,mem_of_getElem? ax,rfl⟩),l2 i p.a v (by simp[ax]) aF⟩) aD bh b1 du di
    rcases NP with⟨ek,bf⟩|⟨v,aP,ek,cn,a_,bf,dA,bL⟩
    .rw[ek,Oper.upon_enter];refine Calls.mono bf ?_;rintro e aP ⟨v,rfl,cn,a_,bX,cu,dS⟩;obtain⟨s2,eJ,m1,m2,m3⟩:=nC _ _ _ _ _ _ _ _ _ aS hi du bX cu dS;exact aV _ _ _ m1 (Rel.put kl fa iO m2 m3 ao)
    .rw[ek,Oper.upon_value];obtain⟨s2,eJ,m1,m2,m3⟩:=nC _ _ _ _ _ _ _ _ _ aS hi du bf dA bL;exact aV _ _ _ m1 (Rel.put kl fa iO m2 m3 ao)
   .cases dd
  .split at dd
   .simp only[Option.map_eq_some_iff]at dd;obtain⟨_,_,dd⟩:=dd;cases dd
   .cases dd
  .split at dd
   .simp only[Option.map_eq_some_iff]at dd;obtain⟨_,_,dd⟩:=dd;cases dd
   .cases dd
  iterate 3
   .split at dd
    .split at dd<;>cases dd
    .cases dd
  .cases dd
 |makeFunc fn first cs=>
  cases fn<;>simp only[dy]at dd<;>first|(cases dd;done)|(split at dd<;>simp at dd)
 |slice T x fT ai fv=>
  cases fv<;>simp only[dy]at dd<;>first|(cases dd;done)|(split at dd<;>simp at dd)
 |makeMap T r=>cases r<;>simp only[dy]at dd<;>simp at dd
 |lookup T x i c=>cases c<;>simp only[dy]at dd<;>first|(cases dd;done)|(split at dd<;>simp at dd)
 |_=>simp only[dy]at dd<;>first|(cases dd;done)|(simp at dd;done)|(split at dd<;>simp at dd)
theorem ae9 (bU:C.fK) (h:Rel w0 F0 X n ρ s a w) {o:Oper} {b3:e0} (dd:dy o.op=some b3) (ao:om n o.dst=true) {K:al->Prop} {next:Act->World->Prop}
  (hw:rO C s b3 λav s1=>K (fin s1 o.dst av)) (aV:∀aE dI aP,K aE->Rel w0 F0 X n ρ aE dI aP->next dI aP):o.wp C.P a w next Q:=by
 have s7:=h;obtain⟨kl,fa,iO,F,S,aS⟩:=h;have plain:∀av s1,cg C s b3=some (av,s1)->K (fin s1 o.dst av)->o.wp C.P a w next Q:=by
  intro av s1 he aw;obtain⟨r,aP,v,cn,a_,ad,ag,aD,bh⟩:=Vt (a:=a) bU aS (λ_=>rfl) dd he;unfold Oper.wp;rw[ad];rcases ag with rfl|⟨rfl,rfl⟩
  .exact aV _ _ _ aw (Rel.put kl fa iO aD bh ao)
  .exact aV _ _ _ aw (Rel.put kl fa iO aD bh ao)
 cases b3 with
 |shr b3=>exact(aeZ dd).elim
 |call f args=>exact VZ bU ⟨kl,fa,iO,F,S,aS⟩ dd ao (K:=λav s1=>K (fin s1 o.dst av)) hw (λ_ _ _ a_ _ _ _ s1 _ _ ag _ aD bh _=>⟨s1,a_,ag,aD,bh⟩) aV
 |mV f args L=>exact(ae0 dd).elim
 |mc T x=>exact(ae3 dd).elim
 |p5 x=>exact(ae4 dd).elim
 |pA x=>exact(ae5 dd).elim
 |ext x k=>exact(ae1 dd).elim
 |_=>
  obtain⟨av,s1,he,aw⟩:=hw;exact plain av s1 he aw
theorem oh.share {F:Nat->Prop} {S:Nat->Nat->Prop} {aH:Nat->Value} {v:Value} (h:cj w0 F0 X F S s aH w) (aF:oh w0 X F S s aH w av v) (bb:av.tree=true) (aV:∀vs,av≠.tuple vs):
  ∃cn,cj w0 F0 X cn S s aH w/\oh w0 X cn S s aH w av.share v:=by
 obtain⟨Sn,gZ,gx,iM,jH,rA,Ff⟩:∃Sn:Nat->Prop,eY av v/\az w F av (c_ v) Sn/\(∀b,Sn b->b<w.heap.size)/\(∀b,Sn b->¬F b)/\(∀u b,Sn b->¬S u b)/\(∀b,Sn b->X b\/w0.heap.size<=b):=by
  rcases aF with⟨ad,ag⟩|⟨_,ag,Sn,aD,bh,b1,du,di⟩
  .rw[aQ.dx bb]at ag;exact⟨λ_=>False,ag.1,ag.2,λ_ h=>h.elim,λ_ h=>h.elim,λ_ _ h=>h.elim,λ_ h=>h.elim⟩
  .exact⟨Sn,ag,aD,bh,b1,du,di⟩
 refine⟨λb=>F b\/Sn b,?_,.inl ⟨NC av,?_⟩⟩
 .exact {
   h_:=λb ab=>.inl (h.h_ b ab)
   iL:=λb ab=>by
    rcases ab with ab|ab
    .exact h.iL b ab
    .exact .inr (Ff b ab)
   gg:=λb ab=>ab.elim (h.gg b) (iM b)
   fB:=h.fB
   gN:=λt b ab bH=>bH.elim (h.gN t b ab) (λaa=>rA t b aa ab)
   gh:=h.gh
   eX:=h.eX
   eu:=λt=>aQ.frame (λ_ _=>rfl) (λb ab=>.inl ab) (λ_ _ _=>rfl) h.eu _ _ _ (λ_ _=>rfl) (h.eu t)
   old:=h.old
   size:=h.size
   os:=h.os
   tape:=h.tape
   output:=h.output
   gw:=h.gw}
 .by_cases bO:∃o,av= .ck o
  .obtain⟨o,rfl⟩:=bO;rw[I.share,aQ];trivial
  have Fg:av.share.tree=true:=by cases av<;>first|exact bb|rfl|exact(bO ⟨_,rfl⟩).elim
  rw[aQ.dx Fg];exact⟨NF aV gZ,az.shared (λb ab=>.inl ab) av _ Sn (λb ab=>.inr ab) gx⟩
theorem ae_ {op:Op} {T:TypeId} {x:bB} (h:dy op=some (.iy T x)):∃a,op= .box T a/\eK a=some x:=by
 cases op with
 |box NQ a=>
  simp only[dy,Option.map_eq_some_iff,e0.iy.injEq]at h;obtain⟨y,hy,rfl,rfl⟩:=h;exact⟨a,rfl,hy⟩
 |_=>
  exfalso;unfold dy at h;split at h<;>(try split at h)<;>(try split at h)<;>(try split at h)<;>(try simp[Option.map_eq_some_iff]at h)<;>contradiction
theorem afa {aP:World} {F cn:Nat->Prop} {s s1:al} {aH:Nat->Value} (bJ:∀b,F b->cn b/\aP.heap[b]? =w.heap[b]?):∀(n:Nat),
  (∀(d:I) (v:Value) (S:Nat->Prop),SizeOf.sizeOf d<=n->d.gP s=true->d.gP s1=true->aQ w F s aH d v S->aQ aP cn s1 aH d v (λ_=>False))/\
  (∀(ds:azk) (vs:azi),SizeOf.sizeOf ds<=n->I.rN s ds=true->I.rN s1 ds=true->e_ w F s aH ds vs->e_ aP cn s1 aH ds vs):=by
 intro n;induction n with
 |zero=>
  refine⟨λd v S cf=>?_,λds vs cf=>?_⟩
  .cases d<;>simp at cf<;>omega
  .cases ds<;>simp at cf<;>omega
 |succ n ih=>
  refine⟨λd v S cf bX cu h=>?_,λds vs cf bX cu h=>?_⟩
  .cases d with
   |hole=>rw[aQ];trivial
   |h x q=>
    simp only[I.gP,Bool.and_eq_true,isEmpty_iff]at bX cu;obtain⟨rfl,bX⟩:=bX;rw[aQ]at h⊢;obtain⟨dK,a,gY,ix,kh⟩:=h (s x) (by simp only[I.sub]) (zw bX).1;simp only[eA,Option.some.injEq,Prod.mk.injEq,true_and]at gY;intro d ao _;simp only[I.sub,Option.some.injEq]at ao;subst ao;exact⟨c_ (aH x),none,by simp only[eA],by rw[ix,<-gY.1],((zw cu.2).2.2.2.2.2 _).2 (((zw bX).2.2.2.2.2 _).1 kh)⟩
   |ax x q=>simp[I.gP]at bX
   |ab x k=>
    simp only[I.gP,Bool.not_eq_true']at bX;rw[aQ]at h⊢;obtain⟨b,cur,e,fr,ad,ag,aD,bh⟩:=h bX;exact λ_=>⟨b,cur,e,fr,ad,(bJ b ag).1,(bJ b ag).2.trans aD,bh⟩
   |fn f cap=>
    simp only[I.gP]at bX cu;rw[aQ]at h⊢;obtain⟨arr,rfl,au⟩:=h;exact⟨arr,rfl,ih.2 _ _ (by simp at cf;omega) bX cu au⟩
   |_=>
    simp only[I.gP]at bX;have bF:=(aQ.dx rfl).1 h;exact(aQ.dx rfl).2 ⟨bF.1,az.mono (λb ab=>(bJ b ab).1) _ _ _ _ (λ_ h=>h) (az.frame (λb ab=>(bJ b ab).2) _ _ _ (λ_ h=>h.elim) (az.plain _ _ _ _ bX bF.2))⟩
  .cases ds with
   |nil=>rw[e_]at h⊢;exact h
   |cons d ds=>
    simp only[I.rN,Bool.and_eq_true]at bX cu;rw[e_]at h⊢;obtain⟨v,ma,rfl,ad,ag⟩:=h;simp at cf;exact⟨v,ma,rfl,ih.1 _ _ _ (by omega) bX.1 cu.1 ad,ih.2 _ _ (by omega) bX.2 cu.2 ag⟩
theorem afb {s:al} {d:I} (h:d.gP s=true):d.plain=true:=by
 cases d<;>first|rfl|(simpa [I.gP]using h)
theorem cj.p6 {F:Nat->Prop} {aH:Nat->Value}:∀(L:azj) (s:al) (S:Nat->Nat->Prop),cj w0 F0 X F S s aH w->(∀p∈L,p.2.plain=true/\aQ w F s aH p.2 (aH p.1) (λ_=>False))->
  ∃a_,cj w0 F0 X F a_ (ei.p6 s L) aH w/\∀u b,a_ u b->S u b:=by
 intro L;induction L with
 |nil=>intro s S h _;exact⟨S,h,λ_ _ h=>h⟩
 |cons p L ih=>
  intro s S h nC;obtain⟨ad,ag⟩:=nC p (by simp);have ff:el aH p.1 (aH p.1)=aH:=by funext u;simp only[el];split<;>simp_all
  have aD:=h.Bz (t:=p.1) ad ag;rw[ff]at aD;have iK:∀x,x≠p.1->(el s p.1 p.2 x).tree=true->el s p.1 p.2 x=s x/\aH x=aH x:=λx aq _=>⟨ll _ _ aq,rfl⟩
  obtain⟨a_,g1,g2⟩:=ih _ _ aD (λq cE=>⟨(nC q (by simp[cE])).1,(aQ.void (t:=p.1) iK (by rw[oV];exact ad) _).1 _ _ _ (Nat.le_refl _) (nC q (by simp[cE])).2⟩);refine⟨a_,g1,λu b ab=>?_⟩;have:=g2 u b ab;simp only[hn]at this;split at this
  .exact this.elim
  .exact this
theorem NR {s:al}:∀{L:azj},oo s L=true->∀p∈L,p.2.gP s=true
 |q::L,ad,p,ax=>by
  simp only[oo,Bool.and_eq_true]at ad;rcases mem_cons.1 ax with rfl|ax
  .exact ad.1
  .exact NR ad.2 p ax
theorem afc {s:al} {us:azf} {p:Nat×I} (h:p∈lr s us):p.1∈us/\s p.1=p.2:=by
 obtain⟨u,hu,rfl⟩:=mem_map.1 h;exact⟨hu,rfl⟩
theorem afd (bU:C.fK) (h:Rel w0 F0 X n ρ s a w) {o:Oper} {b3:e0} (dd:s6 o.op=b3.base) (ao:om n o.dst=true) {K:al->Prop} {next:Act->World->Prop}
  (hw:rO C s b3 λav s1=>K (fin s1 o.dst av)) (aV:∀aE dI aP,K aE->Rel w0 F0 X n ρ aE dI aP->next dI aP):o.wp C.P a w next Q:=by
 cases b3 with
 |shr b3=>
  obtain⟨av,s1,he,bb,nZ,aw⟩:=hw;rcases rP dd with dd|dd
  .change b3= .bad at dd;subst dd;cases he
  obtain⟨kl,fa,iO,F,S,aS⟩:=h;obtain⟨r,aP,v,cn,a_,ad,ag,aD,bh⟩:=Vt (a:=a) bU aS (λ_=>rfl) dd he;obtain⟨vW,g3,g4⟩:=oh.share aD bh bb nZ;unfold Oper.wp;rw[ad];rcases ag with rfl|⟨rfl,rfl⟩
  .exact aV _ _ _ aw (Rel.put kl fa iO g3 g4 ao)
  .exact aV _ _ _ aw (Rel.put kl fa iO g3 g4 ao)
 |bad=>obtain⟨av,s1,he,_⟩:=hw;cases he
 |mV f args L=>
  obtain⟨aW,hw⟩:=hw;rcases rP dd with ab|ab
  .cases ab
  .refine VZ bU h ab ao hw ?_ aV;rintro F S cn a_ w aP av s1 v gZ ⟨gx,jH⟩ rA Ff NS afe;obtain⟨eJ,g1,g2⟩:=Ff.p6 (lr s L) s1 a_ (λp ax=>by
    have ek:=(afc ax).2;have bf:=NR aW p ax;have dA:=NR gx p ax;refine⟨afb bf,(afa afe _).1 _ _ (S p.1) (Nat.le_refl _) bf dA ?_⟩;have:=gZ.eu p.1;rw[ek]at this;exact this)
   exact⟨_,eJ,jH,g1,NS.less g2 rA⟩
 |mc T x=>
  obtain⟨av,s1,he,aw⟩:=hw;rcases rP dd with ab|ab
  .cases ab
  .obtain⟨cU,s8,aq⟩:=ae_ ab;obtain⟨kl,fa,iO,F,S,aS⟩:=h;obtain⟨dst,op,ty,pos,after,guard⟩:=o;simp only at s8 ao aw;subst s8;obtain⟨r,aP,v,cn,a_,ad,ag,aD,bh⟩:Next C w0 F0 X (λt=>a.tmps.getD t undef) w (execOp a.eval ⟨dst,.box T cU,ty,pos,after,guard⟩) av s1:=(ado (T:=T) aS (gy aS (λ_=>rfl) aq).2 he).next;unfold Oper.wp;rw[ad];rcases ag with rfl|⟨rfl,rfl⟩
   .exact aV _ _ _ aw (Rel.put kl fa iO aD bh ao)
   .exact aV _ _ _ aw (Rel.put kl fa iO aD bh ao)
 |pA x=>
  obtain⟨av,s1,he,aw⟩:=hw;rcases rP dd with ab|ab
  .cases ab
  .obtain⟨cU,s8,aq⟩:=ae6 ab;obtain⟨kl,fa,iO,F,S,aS⟩:=h;obtain⟨dst,op,ty,pos,after,guard⟩:=o;simp only at s8 ao aw;subst s8;simp only[cg]at he;obtain⟨g1,g2⟩:=gy aS (λ_=>rfl) aq;obtain⟨r,aP,v,cn,a_,ad,ag,aD,bh⟩:Next C w0 F0 X (λt=>a.tmps.getD t undef) w (execOp a.eval ⟨dst,.move cU,ty,pos,after,guard⟩) av s1:=by
    unfold uw at he;split at he
    .rename_i y q hy;rw[hy]at g1 g2;obtain⟨cO,k0,bX,cu,Sn,dS,dW,eB,dw,kj,_⟩:=rv aS g1 g2 he;exact⟨_,w,_,F,cO,rfl,.inl rfl,k0,.inr ⟨bX,cu,Sn,dS,dW,eB,dw,kj⟩⟩
    .simp only[Option.some.injEq,Prod.mk.injEq]at he;obtain⟨rfl,rfl⟩:=he;exact⟨_,w,_,F,S,rfl,.inl rfl,aS,.inl ⟨g1,g2⟩⟩
   unfold Oper.wp;rw[ad];rcases ag with rfl|⟨rfl,rfl⟩
   .exact aV _ _ _ aw (Rel.put kl fa iO aD bh ao)
   .exact aV _ _ _ aw (Rel.put kl fa iO aD bh ao)
 |ext x k=>
  obtain⟨av,s1,he,aw⟩:=hw;rcases rP dd with ab|ab
  .cases ab
  .obtain⟨cU,s8,aq⟩:=ae2 ab;obtain⟨kl,fa,iO,F,S,aS⟩:=h;obtain⟨dst,op,ty,pos,after,guard⟩:=o;simp only at s8 ao aw;subst s8;simp only[cg]at he;obtain⟨y,q,p,f1,f2,f3⟩:=Vq he;obtain⟨r,aP,v,cn,a_,ad,ag,aD,bh⟩:Next C w0 F0 X (λt=>a.tmps.getD t undef) w (execOp a.eval ⟨dst,.extract cU k,ty,pos,after,guard⟩) av s1:=by
    obtain⟨v,aP,cn,a_,M4,oe,qD⟩:=UW (C:=C) aS (gy aS (λ_=>rfl) aq).2 f2;have Ns:aQ aP cn s (λt=>a.tmps.getD t undef) (.h y p) v (λ_=>False):=by
     rcases qD with⟨_,g2⟩|⟨g1,_⟩
     .exact g2
     .cases g1
    obtain⟨cO,k0,bX,cu,Sn,dS,dW,eB,dw,kj,_⟩:=rv oe rfl Ns f3;exact⟨.value v,aP,v,cn,cO,by simp[execOp,M4],.inl rfl,k0,.inr ⟨bX,cu,Sn,dS,dW,eB,dw,kj⟩⟩
   unfold Oper.wp;rw[ad];rcases ag with rfl|⟨rfl,rfl⟩
   .exact aV _ _ _ aw (Rel.put kl fa iO aD bh ao)
   .exact aV _ _ _ aw (Rel.put kl fa iO aD bh ao)
 |p5 x=>
  obtain⟨av,s1,he,aw⟩:=hw;rcases rP dd with ab|ab
  .cases ab
  .obtain⟨cU,s8,aq⟩:=ae7 ab;obtain⟨kl,fa,iO,F,S,aS⟩:=h;obtain⟨dst,op,ty,pos,after,guard⟩:=o;simp only at s8 ao aw;subst s8;simp only[cg,Option.some.injEq,Prod.mk.injEq]at he;obtain⟨rfl,rfl⟩:=he;obtain⟨g1,g2⟩:=gy aS (λ_=>rfl) aq;obtain⟨r,aP,v,cn,a_,ad,ag,aD,bh⟩:Next C w0 F0 X (λt=>a.tmps.getD t undef) w (execOp a.eval ⟨dst,.assign cU,ty,pos,after,guard⟩) (bx s x) s:=⟨_,w,_,F,S,rfl,.inl rfl,aS,.inl ⟨g1,g2⟩⟩
   unfold Oper.wp;rw[ad];rcases ag with rfl|⟨rfl,rfl⟩
   .exact aV _ _ _ aw (Rel.put kl fa iO aD bh ao)
   .exact aV _ _ _ aw (Rel.put kl fa iO aD bh ao)
 |_=>
  rcases rP dd with ab|ab
  .cases ab
  .exact ae9 bU h ab ao hw aV
end
end Go.ei
