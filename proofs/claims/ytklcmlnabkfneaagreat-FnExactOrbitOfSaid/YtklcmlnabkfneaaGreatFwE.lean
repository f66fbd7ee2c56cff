/- Part of a proof that a law returns true for every input. No condition. -/
import Derived.Test.YtklcmlnabkfneaaGreatFwD
import Derived.Laws.Tables
namespace Go.de
open List Go.IntKind Nat Or
section
variable {C:ca} {w0 w:World} {F0 X F:Nat->Prop} {S:Nat->Nat->Prop} {s s1:aw} {aC:Nat->Value} {av:I}
theorem EW (z:alU):∀n,(range (n*z.length)).map (λi=>z[i%z.length]!)=(replicate n z).flatten
 |0=>by simp
 |n+1=>by
  rw[Nat.add_mul,Nat.one_mul,range_add,map_append,EW z n,replicate_succ',flatten_append];congr 1;simp only[List.map_map,flatten_cons,flatten_nil,append_nil];apply ext_getElem
  .simp
  .intro i ab ae;have ao:i<z.length:=ae;simp[mod_eq_of_lt ao,ao]
theorem a1.replicate {d:I} {cs:alU} (h:∀aN,ar w F d cs aN):∀n aN,a1 w F (replicate n d) (replicate n cs).flatten aN
 |0,aN=>by simp only[replicate_zero,flatten_nil];rw[a1]
 |n+1,aN=>by
  rw[replicate_succ,replicate_succ,flatten_cons,a1];exact⟨cs,_,λ_=>False,λ_=>False,rfl,h _,a1.replicate h n _,λ_ h=>h.elim,λ_ h=>h.elim,λ_ h=>h.elim⟩
def eK (C:ca) (T:TypeId) (l c:I):Option I:=
 match(C.T T).k,l,c with
 | .slice e,.int .i64 n,.int .i64 m=>if n=m/\0<=n/\(C.T e).ok=true/\(C.T e).zero.wd=(C.T e).sz/\(flat (C.T e).zero).isSome=true/\(C.T e).sz≠0/\(C.T e).bytes*n<=140737488355328/\n<=9223372036854775807 then
   some (.ag (C.T e).sz (replicate n.toNat (C.T e).zero))else none
 |_,_,_=>none
theorem SV (bn:C.Ok) (h:bD w0 F0 X F S s aC w) {T:TypeId} {l c:I} {Lc Ld:Value} (hl:aH w F s aC l Lc (λ_=>False)) (an:aH w F s aC c Ld (λ_=>False)) (he:eK C T l c=some av):
  Good C w0 F0 X aC w (Instr.makeSlice T Lc Ld) av s:=by
 unfold eK at he;split at he
 .rename_i e n m ax;have:=pO hl;subst this;have:=pO an;subst this;obtain⟨K1,d,K2,aR,aV,aW,cm,cC,b7,bW⟩:=bn.info (gg ax (by simp));rw[ax]at bW;have:=lV bW;subst this;split at he
  .rename_i xo;obtain⟨rfl,aS,qT,td,te,ea,ajW,K4⟩:=xo;simp only[Option.some.injEq]at he;subst he;obtain⟨i,K3,z,f1,f2,f3,f4,f5,f6,f7⟩:=bn.info qT;obtain⟨gM,nn⟩:=Option.isSome_iff_exists.1 te;have tf:=f5 gM nn;have fw:∀aN,ar w F (C.T e).zero gM aN:=λaN=>(ar.flat _).1 _ gM aN (Nat.le_refl _) nn;have r0:gM.length=(C.T e).sz:=by rw[ar.length _ _ _ (fw (λ_=>False)),td]
   obtain⟨n,rfl⟩:=Int.eq_ofNat_of_zero_le aS;simp only[Int.toNat_natCast];have Le:i64.wrap (n:Int)=n:=by
    rw[wrap_i64];omega
   have A4:∀k (w:World),(askRoom k).run C.P w= .ok () w:=by
    intro k w;unfold askRoom;split<;>rfl
   have oE:((Array.range (n*(C.T e).sz)).map (gM.toArray[·%gM.toArray.size]!)).toList=(replicate n gM).flatten:=by
    have:=EW gM n;rw[r0]at this;simpa [r0]using this
   have dv:¬(281474976710656<(i.bytes:Int)*n):=by
    rw[f3];omega
   have Lf:¬((n:Int)<0):=by omega
   have run:(Instr.makeSlice T (.int .i64 n) (.int .i64 n)).run C.P w= .ok (.slice (some ⟨w.heap.size,0,none⟩) n n)
     (w.alloc (.cells (if n*(C.T e).sz=0 then(Array.range (n*(C.T e).sz)).map (λ_=>default)else(Array.range (n*(C.T e).sz)).map (gM.toArray[·%gM.toArray.size]!)) e)):=by
    by_cases aX:n*(C.T e).sz=0
    .simp[Instr.makeSlice,run_underlying b7,asInt,asIntOf,xk f1,Le,dv,Lf,A4,kJ f1,f2,aX,newRow]
    .simp only[aX,if_false];simp[Instr.makeSlice,run_underlying b7,asInt,asIntOf,xk f1,Le,dv,Lf,A4,kJ f1,f2,aX,newRow,s5 f1 f4,tf]
   have mH:(if n*(C.T e).sz=0 then(Array.range (n*(C.T e).sz)).map (λ_=>(default:Value))else(Array.range (n*(C.T e).sz)).map (gM.toArray[·%gM.toArray.size]!)).toList=(replicate n gM).flatten:=by
    split
    .rename_i aX;have:n=0:=by
      rcases mul_eq_zero.1 aX with h|h
      .exact h
      .exact(ea h).elim
     subst this;simp
    .exact oE
   generalize xB:(if n*(C.T e).sz=0 then(Array.range (n*(C.T e).sz)).map (λ_=>(default:Value))else(Array.range (n*(C.T e).sz)).map (gM.toArray[·%gM.toArray.size]!))=cur at run mH;have kp:(replicate n gM).flatten.length=n*(C.T e).sz:=by simp[r0]
   have gh:cur.size=n*(C.T e).sz:=by
    have:cur.size=cur.toList.length:=by simp
    rw[this,mH,kp]
   have lX:=h.A1 (aF:=w.alloc (.cells cur e)) (sz:=(C.T e).sz) (cap:=n) (xs:=replicate n (C.T e).zero) (cur:=cur) (e:=e) (fr:=(0,0)) (Sn:=λ_=>False) rfl rfl rfl ⟨rfl,λ_=>Nat.le_refl _⟩
    (λo _ ⟨_,ae⟩=>absurd ae (not_lt_zero _)) (by simp) (by unfold maxLen;omega) gh (by intro d ai;rw[eq_of_mem_replicate ai];exact td)
    (by rw[mH,length_replicate,take_of_length_le (by rw[kp];exact Nat.le_refl _)];exact a1.replicate fw n _) (λ_ h=>h.elim) (λ_ h=>h.elim) (λ_ _ h=>h.elim) (λ_ h=>h.elim)
   rw[length_replicate]at lX;exact⟨_,_,F,S,run,lX.1,lX.2⟩
  .cases he
 .cases he
def mL (s:aw) (f:FuncId) (cs:List bk):Option I:=some (.fn f (cs.map (bu s)))
theorem Ba {a:Act} (h:bD w0 F0 X F S s aC w) (el:∀t,aC t=a.tmps.getD t undef):∀(os:List Operand) (xs:List bk),os.map dG=xs.map some->d_ w F s aC (xs.map (bu s)) (os.map a.eval)
 |[],[],_=>by simp only[map_nil];rw[d_]
 |[],x::xs,h=>by simp at h
 |o::os,[],h=>by simp at h
 |o::os,x::xs,bC=>by
  simp only[map_cons,cons.injEq]at bC⊢;rw[d_];exact⟨_,_,rfl,(fE h el bC.1).2,Ba h el os xs bC.2⟩
theorem Lg:∀(vs:alU) (k off:Nat) (A:Array Value) (l m r:alU),A.toList=l++(m++r)->l.length=off+k->m.length=vs.length->
  ((vs.zipIdx k).foldl (λcs (x:Value×Nat)=>cs.setIfInBounds (off+x.2) x.1) A).toList=l++(vs++r)
 |[],k,off,A,l,m,r,hA,hl,hm=>by
  have:m=[]:=by simpa using hm
  subst this;simpa using hA
 |v::vs,k,off,A,l,m,r,hA,hl,hm=>by
  obtain⟨x,m,rfl⟩:∃x h8,m=x::h8:=by
   cases m with
   |nil=>simp at hm
   |cons x m=>exact⟨x,m,rfl⟩
  rw[zipIdx_cons,foldl_cons];have:=Lg vs (k+1) off (A.setIfInBounds (off+k) v) (l++[v]) m r (by
   rw[Array.toList_setIfInBounds,hA,<-hl,set_append_right _ _ (Nat.le_refl _)];simp) (by simp;omega) (by simpa using hm)
  simpa using this
def k8 (os:List (Option Nat)) (a:I):I:=os.foldl (λa o=>kI o a) a
def eu (place:Nat->Option (Nat×Nat)):aw->alW->List (Option Nat)->alV->Option (alW×aw)
 |s,en,_,[]=>some (en,s)
 |s,en,os,(k,a)::r=>match cV s (k8 os a),place k,en[k]? with
  |some (d,s1),some (off,n),some z=>match d with
   | .tuple _=>none
   |d=>if d.wd=n/\z.wd=n/\I.ef (en.take k)=off then eu place s1 (en.set k d) (os++[(k8 os a).owner]) r else none
  |_,_,_=>none
def n4 (w:World) (F:Nat->Prop) (s:aw) (aC:Nat->Value):alV->List (Nat×Value)->Prop
 |[],[]=>True
 |(k,a)::r,(cF,v)::gA=>k=cF/\a.plain=true/\aH w F s aC a v (λ_=>False)/\n4 w F s aC r gA
 |_,_=>False
theorem SX (x:Nat):∀d:I,d.plain=true->(cb x d).plain=true
 | .h y q,_=>by simp only[cb];split<;>(try split)<;>rfl
 | .aq y q,_=>by simp only[cb];split<;>rfl
 | .R y q,_=>rfl
 | .fn f c,_=>by simp only[cb];rfl
 | .hole,h=>h
 | .bool _,h=>h
 | .fm,h=>h
 | .int _ _,h=>h
 | .str _,h=>h
 | .dC,h=>h
 | .bd,h=>h
 | .slice _,h=>h
 | .ag _ _,h=>h
 | .ref _,h=>h
 | .bf _,h=>h
 | .agg _,h=>h
 | .tuple _,h=>h
theorem SY (o:Option Nat) (d:I) (h:d.plain=true):(kI o d).plain=true:=by
 cases o with
 |none=>exact h
 |some x=>exact SX x d h
theorem n4.cb {w:World} {F:Nat->Prop} {s s1:aw} {aC:Nat->Value} {o:Option Nat} (aq:∀(bg:I) (ga:Value) (aN:Nat->Prop),aH w F s aC bg ga aN->aH w F s1 aC (kI o bg) ga aN):
  ∀(r:alV) (gA:List (Nat×Value)),n4 w F s aC r gA->n4 w F s1 aC (r.map λp=>(p.1,kI o p.2)) gA
 |[],[],_=>trivial
 |(k,a)::r,(cF,v)::gA,h=>by
  obtain⟨ab,ae,az,a6⟩:=h;exact⟨ab,SY _ _ ae,aq _ _ _ az,n4.cb aq r gA a6⟩
 |[],_::_,h=>h.elim
 |_::_,[],h=>h.elim
theorem EX {place:Nat->Option (Nat×Nat)}:∀(ps:alV) (vs:List (Nat×Value)) (os:List (Option Nat)) (s:aw) (S:Nat->Nat->Prop) (en:alW) (A:Array Value) (hE:Nat->Prop),
  bD w0 F0 X F S s aC w->n4 w F s aC (ps.map λp=>(p.1,k8 os p.2)) vs->a1 w F en A.toList hE->(∀b,hE b->b<w.heap.size)->(∀b,hE b->¬F b)->(∀u b,hE b->¬S u b)->(∀b,hE b->X b\/w0.heap.size<=b)->
  ∀ds s1,eu place s en os ps=some (ds,s1)->∃mg b5 gL,Instr.fill place A vs=some mg/\bD w0 F0 X F b5 s1 aC w/\a1 w F ds mg.toList gL/\(∀b,gL b->b<w.heap.size)/\(∀b,gL b->¬F b)/\(∀u b,gL b->¬b5 u b)/\
   (∀b,gL b->X b\/w0.heap.size<=b)/\ds.length=en.length/\I.ef ds=I.ef en/\(∀n,(∀d∈en,d.wd=n)->∀d∈ds,d.wd=n)
 |[],[],os,s,S,en,A,hE,h,_,ab,ae,az,a6,bF,ds,s1,he=>by
  simp only[eu,Option.some.injEq,Prod.mk.injEq]at he;obtain⟨rfl,rfl⟩:=he;exact⟨A,S,hE,rfl,h,ab,ae,az,a6,bF,rfl,rfl,λ_ h=>h⟩
 |(k,a)::ps,(cF,v)::vs,os,s,S,en,A,hE,h,aq,ab,ae,az,a6,bF,ds,s1,he=>by
  obtain⟨rfl,kr,oA,xC⟩:=aq;simp only[eu]at he;split at he
  .rename_i d uS off n z a8 fI bZ;have key:∀d:I,(∀aE,d≠.tuple aE)->cV s (k8 os a)=some (d,uS)->(if d.wd=n/\z.wd=n/\I.ef (en.take k)=off then eu place uS (en.set k d) (os++[(k8 os a).owner]) ps else none)=some (ds,s1)->
     ∃mg b5 gL,Instr.fill place A ((k,v)::vs)=some mg/\bD w0 F0 X F b5 s1 aC w/\a1 w F ds mg.toList gL/\(∀b,gL b->b<w.heap.size)/\(∀b,gL b->¬F b)/\(∀u b,gL b->¬b5 u b)/\
     (∀b,gL b->X b\/w0.heap.size<=b)/\ds.length=en.length/\I.ef ds=I.ef en/\(∀n,(∀d∈en,d.wd=n)->∀d∈ds,d.wd=n):=by
    intro d qP a8 he;split at he
    .rename_i an;obtain⟨nr,mI,Lh⟩:=an;obtain⟨b5,g0,g1,g2,Sn,g3,g4,g5,g6,g7,g8,g9,g10⟩:=pJ h kr oA a8;obtain⟨c1,fG,c2,Sx,hZ,hA,hF,fL,hn,h6,fZ,mb⟩:=a1.pick en _ _ k z ab bZ;have oE:=xn g2 qP;have uT:=ar.length _ _ _ g3;have Li:=ar.length _ _ _ fZ;have rU:=mb w d (cj v) Sn (λ_ _=>rfl) (λ_ _=>rfl) g3 (λb SZ Bb=>by obtain⟨u,hu⟩:=g9 b SZ;exact a6 u b (fL b Bb) hu);have Lj:=Lg (cj v) 0 off A c1 fG c2 hA (by rw[hF,Lh];rfl) (by rw[Li,uT,nr,mI]);generalize xD:((cj v).zipIdx 0).foldl (λcs (x:Value×Nat)=>cs.setIfInBounds (off+x.2) x.1) A=AZ at Lj;obtain⟨mg,dg,gL,m1,m2,m3,m4,m5,m6,m7,m8,m9,m10⟩:=EX (place:=place) ps vs (os++[(k8 os a).owner]) uS b5 (en.set k d) AZ (λb=>Sx b\/Sn b) g0 (by have:=n4.cb g10 _ _ xC;simpa [k8,foldl_append,Function.comp_def]using this) (by rw[Lj];exact rU)
      (by rintro b (R|R);exact ae b (fL b R);exact g4 b R) (by rintro b (R|R);exact az b (fL b R);exact g5 b R)
      (by rintro u b (R|R);exact λhu=>a6 u b (fL b R) (g8 u b hu);exact g6 u b R) (by rintro b (R|R);exact bF b (fL b R);exact g7 b R) ds s1 he
     refine⟨mg,dg,gL,?_,m2,m3,m4,m5,m6,m7,by rw[m8];simp,by rw[m9];exact Ec _ _ _ _ bZ (by rw[nr,mI]),?_⟩
     .have Bc:off+n<=A.size:=by
       have:A.size=A.toList.length:=by simp
       rw[this,hA];simp[hF,Lh,Li,mI]
      simp only[Instr.fill,fI,oE,List.size_toArray,uT,nr];have lS:¬(n≠n\/A.size<off+n):=by omega
      have S0:(cj v).toArray.zipIdx.foldl (λcs (x:Value×Nat)=>cs.setIfInBounds (off+x.2) x.1) A=AZ:=by
       rw[<-xD,<-Array.foldl_toList];simp
      simp only[ne_eq,not_true_eq_false,decide_false,Bool.false_or,decide_eq_true_eq,gt_iff_lt];rw[if_neg (by simp;omega)];rw[show(cj v).toArray.zipIdx.foldl (λcs x=>match x with|(c,j)=>cs.setIfInBounds (off+j) c) A=AZ from S0];exact m1
     .intro EY xE;refine m10 EY (Ed xE ?_);rw[nr,<-mI];exact xE z (mem_of_getElem? bZ)
    .cases he
   split at he
   .cases he
   .rename_i qP;exact key _ (λaE e=>qP aE e) a8 he
  .cases he
 |[],_::_,_,_,_,_,_,_,_,aq,_,_,_,_,_,_,_,_=>aq.elim
 |_::_,[],_,_,_,_,_,_,_,aq,_,_,_,_,_,_,_,_=>aq.elim
def hd (C:ca) (s:aw) (T:TypeId) (ps:alV):Option (I×aw):=
 match(C.T T).k,(C.T T).zero with
 | .struct aE,.agg en=>if(flat (.agg en)).isSome=true/\(∀f∈aE,(C.T f.1).ok=true)then
   (match eu (λk=>(aE[k]?).map λf=>(f.2,(C.T f.1).sz)) s en [] ps with
   |some (ds,s1)=>some (.agg ds,s1)
   |none=>none)else none
 |_,_=>none
def fa (C:ca) (s:aw) (T:TypeId) (n:Nat) (ps:alV):Option (I×aw):=
 match(C.T T).k with
 | .slice e=>if(C.T e).ok=true/\(C.T e).zero.wd=(C.T e).sz/\(flat (C.T e).zero).isSome=true/\(C.T e).sz≠0/\n*(C.T e).sz<=16777216 then
   (match eu (λk=>some (k*(C.T e).sz,(C.T e).sz)) s (replicate n (C.T e).zero) [] ps with
   |some (ds,s1)=>some (.ag (C.T e).sz ds,s1)
   |none=>none)else none
 |_=>none
theorem S1 (bn:C.Ok):∀(gs:List Field),(∀g∈gs,(C.T g.type).ok=true)->
  gs.mapM (λf=>(C.P.info? f.type).map λi=>(f.offset,i.size))=some (gs.map λg=>(g.offset,(C.T g.type).sz)):=by
 intro gs;induction gs with
 |nil=>intro _;simp
 |cons g gs ih=>
  intro bR;obtain⟨i,d,z,f1,f2,f3,f4,f5,f6,f7⟩:=bn.info (bR g (by simp));have:=ih (λg hJ=>bR g (by simp[hJ]));simp[mapM_cons,f1,f2,this]
theorem S2 (bn:C.Ok) (h:bD w0 F0 X F S s aC w) {T:TypeId} {ps:alV} {vs:List (Nat×Value)} (aq:n4 w F s aC ps vs) (he:hd C s T ps=some (av,s1)):
  Good C w0 F0 X aC w (Instr.build T vs.toArray) av s1:=by
 unfold hd at he;split at he
 .rename_i aE en ax bZ;split at he
  .rename_i an;obtain⟨te,S3⟩:=an;split at he
   .rename_i ds s2 kp;simp only[Option.some.injEq,Prod.mk.injEq]at he;obtain⟨rfl,rfl⟩:=he;obtain⟨i,d,z,aR,aV,aW,cm,cC,b7,bW⟩:=bn.info (gg ax (by simp));rw[ax]at bW;obtain⟨gs,rfl,Lk⟩:=xj bW;obtain⟨gM,nn⟩:=Option.isSome_iff_exists.1 te;have tf:=cC gM (by rw[bZ];exact nn);have fw:a1 w F en gM.toArray.toList (λ_=>False):=by
     have:=(ar.flat (w:=w) (F:=F) _).1 (.agg en) gM (λ_=>False) (Nat.le_refl _) nn;rw[ar]at this;simpa using this
    have eH:n4 w F s aC (ps.map λp=>(p.1,k8 [] p.2)) vs:=by simpa [k8]using aq
    obtain⟨mg,b5,gL,m1,m2,m3,m4,m5,m6,m7,m8,m9,m10⟩:=EX ps vs [] s S en gM.toArray (λ_=>False) h eH fw (λ_ h=>h.elim) (λ_ h=>h.elim) (λ_ _ h=>h.elim) (λ_ h=>h.elim) ds s2 kp;have fI:=S1 bn gs.toList (λg bR=>S3 (g.type,g.offset) (by rw[<-Lk];exact List.mem_map_of_mem bR));have S4:(λ(k:Nat)=>(aE[k]?).map λ(f:TypeId×Nat)=>(f.2,(C.T f.1).sz))=λ(k:Nat)=>((gs.toList.map λg=>(g.offset,(C.T g.type).sz)).toArray)[k]? :=by
     funext k;rw[<-Lk];simp only[getElem?_map,getElem?_toArray,Option.map_map];rfl
    rw[S4]at m1;refine⟨.agg mg,w,F,b5,run_build w T vs.toArray mg ?_,m2,.inr ⟨rfl,⟨_,rfl⟩,gL,by simp only[cj,iu];rw[ar];exact m3,m4,m5,m6,m7⟩⟩;unfold Program.built;simp only[aR,b7,cm,fI,tf];exact m1
   .cases he
  .cases he
 .cases he
theorem S5 (bn:C.Ok) (h:bD w0 F0 X F S s aC w) {T:TypeId} {n:Nat} {ps:alV} {vs:List (Nat×Value)} (aq:n4 w F s aC ps vs) (he:fa C s T n ps=some (av,s1)):
  Good C w0 F0 X aC w (Instr.buildSlice T n vs.toArray) av s1:=by
 unfold fa at he;split at he
 .rename_i e ax;split at he
  .rename_i an;obtain⟨qT,td,te,ea,ajX⟩:=an;split at he
   .rename_i ds s2 kp;simp only[Option.some.injEq,Prod.mk.injEq]at he;obtain⟨rfl,rfl⟩:=he;obtain⟨K1,d,K2,aR,aV,aW,cm,cC,b7,bW⟩:=bn.info (gg ax (by simp));rw[ax]at bW;have:=lV bW;subst this;obtain⟨i,K3,z,f1,f2,f3,f4,f5,f6,f7⟩:=bn.info qT;obtain⟨gM,nn⟩:=Option.isSome_iff_exists.1 te;have tf:=f5 gM nn;have fw:∀aN,ar w F (C.T e).zero gM aN:=λaN=>(ar.flat _).1 _ gM aN (Nat.le_refl _) nn;have r0:gM.length=(C.T e).sz:=by rw[ar.length _ _ _ (fw (λ_=>False)),td]
    generalize hA:((Array.range (n*(C.T e).sz)).map ((if n*(C.T e).sz=0 then #[]else gM.toArray)[·%(if n*(C.T e).sz=0 then(#[]:Array Value)else gM.toArray).size]!))=A;have Bc:A.toList=(replicate n gM).flatten:=by
     rw[<-hA];by_cases aX:n*(C.T e).sz=0
     .have:n=0:=by
       rcases mul_eq_zero.1 aX with h|h
       .exact h
       .exact(ea h).elim
      subst this;simp
     .simp only[aX,if_false];have:=EW gM n;rw[r0]at this;simpa [r0]using this
    have eH:n4 w F s aC (ps.map λp=>(p.1,k8 [] p.2)) vs:=by simpa [k8]using aq
    obtain⟨mg,b5,gL,m1,m2,m3,m4,m5,m6,m7,m8,m9,m10⟩:=EX ps vs [] s S (replicate n (C.T e).zero) A (λ_=>False) h eH (by rw[Bc];exact a1.replicate fw n _) (λ_ h=>h.elim) (λ_ h=>h.elim) (λ_ _ h=>h.elim) (λ_ h=>h.elim) ds s2 kp;have hlen:ds.length=n:=by rw[m8];simp
    have Ll:=m10 (C.T e).sz (by intro d ai;rw[eq_of_mem_replicate ai];exact td);have S6:mg.toList.length=n*(C.T e).sz:=by rw[a1.tc m3 Ll,hlen]
    have S7:mg.size=n*(C.T e).sz:=by rw[<-S6];simp
    have ajY:n<=16777216:=by
     have:n*1<=n*(C.T e).sz:=mul_le_mul_left _ (by omega);omega
    have lX:=m2.A1 (aF:=w.alloc (.cells mg e)) (sz:=(C.T e).sz) (cap:=n) (xs:=ds) (cur:=mg) (e:=e) (fr:=(0,0)) (Sn:=gL) rfl rfl rfl ⟨rfl,λ_=>Nat.le_refl _⟩
     (λo _ ⟨_,ae⟩=>absurd ae (not_lt_zero _)) (by omega) (by unfold maxLen;omega) S7 Ll (by rw[hlen,take_of_length_le (by omega)];exact m3) m4 m5 m6 m7
    rw[hlen]at lX;refine⟨_,_,F,b5,?_,lX.1,lX.2⟩;by_cases aX:n*(C.T e).sz=0
    .simp only[aX,if_true]at hA;have uU:(Array.map (λ_=>(default:Value)) (Array.range 0))=A:=by
      have:n=0:=by
       rcases mul_eq_zero.1 aX with h|h
       .exact h
       .exact(ea h).elim
      apply Array.ext';rw[Bc,this];simp
     simp[Instr.buildSlice,run_underlying b7,kJ f1,f2,aX,newRow];rw[uU,m1];simp
    .simp only[aX,if_false]at hA;have lS:¬(16777216<n*(C.T e).sz):=by omega
     simp[Instr.buildSlice,run_underlying b7,kJ f1,f2,aX,lS,s5 f1 f4,tf,newRow];have uU:(Array.map (λx=>gM[x%gM.length]?.getD default) (Array.range (n*(C.T e).sz)))=A:=by
      rw[<-hA];simp
     rw[uU,m1];simp
   .cases he
  .cases he
 .cases he
end
inductive ed where
 |hB (x:bk)
 |lx (x:bk)
 |pick (c a b:bk)
 |kq (T:TypeId)
 |iw (T:TypeId) (x:bk)
 |hd (T:TypeId) (ps:List (Nat×bk))
 |fa (T:TypeId) (n:Nat) (ps:List (Nat×bk))
 |fk (T:TypeId) (x:bk)
 |iV (T:TypeId) (x y:bk)
 |kK (x:bk)
 |eU (op:BinOp) (T:TypeId) (x y:bk)
 |un (op:UnOp) (x:bk)
 |iX (A B:TypeId) (x:bk)
 |mL (f:FuncId) (cs:List bk)
 |eK (T:TypeId) (l c:bk)
 |h9 (T:TypeId) (x:bk) (fl ao:Option bk)
 |ho (T:TypeId) (x:bk) (k:Nat)
 |jL (T:TypeId) (x i:bk)
 |idx (T:TypeId) (x i:bk)
 |ex (x:bk) (k:Nat)
 |me (T:TypeId) (x:bk) (k:Nat)
 |call (f:bk) (args:List bk)
 |len (T:TypeId) (x:bk)
 |app (T c8:TypeId) (x y:bk)
 |shr (bV:ed)
 |cap (T:TypeId) (x:bk)
 |pV (ha:Bool) (x y:bk)
 |bad
 |ks (f:bk) (args:List bk) (us:alR)
 |jM (T:TypeId) (x:bk)
 |ns (x:bk)
 |xF
 |n3 (T:TypeId) (x i:bk)
 |mK (T:TypeId) (x i v:bk)
def ed.base:ed->ed
 | .shr bV=>bV
 | .ks f args _=>.call f args
 | .jM T x=>.iw T x
 | .ns x=>.lx x
 |bV=>bV
def oK:List Operand->Option (List bk)
 |[]=>some []
 |o::os=>match dG o,oK os with
  |some x,some xs=>some (x::xs)
  |_,_=>none
def uV:List (Nat×Operand)->Option (List (Nat×bk))
 |[]=>some []
 |(k,o)::os=>match dG o,uV os with
  |some x,some xs=>some ((k,x)::xs)
  |_,_=>none
def xG:Option Operand->Option (Option bk)
 |none=>some none
 |some o=>(dG o).map some
def cX:Op->Option ed
 | .move x=>(dG x).map .hB
 | .assign x=>(dG x).map .lx
 | .pick c a b=>match dG c,dG a,dG b with
   |some c,some a,some b=>some (.pick c a b)
   |_,_,_=>none
 | .alloc T=>some (.kq T)
 | .box T x=>(dG x).map (.iw T)
 | .build T ps=>(uV ps.toList).map (.hd T)
 | .buildSlice T n ps=>(uV ps.toList).map (.fa T n)
 | .load T x=>(dG x).map (.fk T)
 | .store T x y=>match dG x,dG y with
   |some x,some y=>some (.iV T x y)
   |_,_=>none
 | .nilCheck x=>(dG x).map .kK
 | .binOp op T x y _=>match dG x,dG y with
   |some x,some y=>some (.eU op T x y)
   |_,_=>none
 | .unOp op _ x=>(dG x).map (.un op)
 | .convert A B x=>(dG x).map (.iX A B)
 | .makeFunc (.func f) first cs=>if first.isEmpty then(oK cs.toList).map (.mL f)else none
 | .makeSlice T l c=>match dG l,dG c with
   |some l,some c=>some (.eK T l c)
   |_,_=>none
 | .slice T x fl ao none=>match dG x,xG fl,xG ao with
   |some x,some fl,some ao=>some (.h9 T x fl ao)
   |_,_,_=>none
 | .fieldAddr T x k=>(dG x).map λx=>.ho T x k
 | .indexAddr T x i=>match dG x,dG i with
   |some x,some i=>some (.jL T x i)
   |_,_=>none
 | .index T x i=>match dG x,dG i with
   |some x,some i=>some (.idx T x i)
   |_,_=>none
 | .extract x k=>(dG x).map λx=>.ex x k
 | .field T x k=>(dG x).map λx=>.me T x k
 | .makeMap _ none=>some .xF
 | .lookup T x i false=>match dG x,dG i with
   |some x,some i=>some (.n3 T x i)
   |_,_=>none
 | .mapUpdate T x i v=>match dG x,dG i,dG v with
   |some x,some i,some v=>some (.mK T x i v)
   |_,_,_=>none
 | .call c=>match c.callee with
   | .value f=>match dG f,oK c.args.toList with
     |some f,some xs=>some (.call f xs)
     |_,_=>none
   | .builtin .len=>match c.args.toList,c.argTypes.toList with
     |[x],[T]=>(dG x).map (.len T)
     |_,_=>none
   | .builtin .cap=>match c.args.toList,c.argTypes.toList with
     |[x],[T]=>(dG x).map (.cap T)
     |_,_=>none
   | .builtin .min=>match c.args.toList with
     |[x,y]=>match dG x,dG y with
      |some x,some y=>some (.pV false x y)
      |_,_=>none
     |_=>none
   | .builtin .max=>match c.args.toList with
     |[x,y]=>match dG x,dG y with
      |some x,some y=>some (.pV true x y)
      |_,_=>none
     |_=>none
   | .builtin .append=>match c.args.toList,c.argTypes.toList with
     |[x,y],[T,c8]=>match dG x,dG y with
      |some x,some y=>some (.app T c8 x y)
      |_,_=>none
     |_,_=>none
   |_=>none
 |_=>none
def pV (ha:Bool):I->I->Option I
 | .str a,.str b=>some (.str (AL ha a b))
 | .int k a,.int cF b=>if k=cF then some (.int k (D_ ha a b))else none
 |_,_=>none
def xH (s:aw):I->Option (I×aw)
 | .h y q=>cV s (.h y q)
 |d=>some (d,s)
def b8 (C:ca) (s:aw):ed->Option (I×aw)
 | .hB x=>some (bu s x,s)
 | .lx x=>match bu s x with
   | .h y q=>cV s (.h y q)
   |d=>some (d,s)
 | .pick c a b=>match bu s c with
   | .bool fH=>some (if fH then bu s a else bu s b,s)
   |_=>none
 | .kq T=>(kq C T).map λd=>(d,s)
 | .iw _ x=>iw s (bu s x)
 | .hd T ps=>hd C s T (ps.map λp=>(p.1,bu s p.2))
 | .fa T n ps=>fa C s T n (ps.map λp=>(p.1,bu s p.2))
 | .fk T x=>(fk C s T (bu s x)).map λd=>(d,s)
 | .iV T x y=>(iV C s T (bu s x) (bu s y)).map λs1=>(.hole,s1)
 | .kK x=>(kK s (bu s x)).map λd=>(d,s)
 | .eU op T x y=>(eU C s op T (bu s x) (bu s y)).map λd=>(d,s)
 | .un op x=>(un op (bu s x)).map λd=>(d,s)
 | .iX A B x=>(iX C s A B (bu s x)).map λd=>(d,s)
 | .mL f cs=>some (.fn f (cs.map (bu s)),s)
 | .eK T l c=>(eK C T (bu s l) (bu s c)).map λd=>(d,s)
 | .h9 T x fl ao=>h9 C s T (bu s x) (fl.map (bu s)) (ao.map (bu s))
 | .ho T x k=>(ho C s T (bu s x) k).map λd=>(d,s)
 | .jL T x i=>(jL C s T (bu s x) (bu s i)).map λd=>(d,s)
 | .idx T x i=>(idx C T (bu s x) (bu s i)).map λd=>(d,s)
 | .ex x k=>(ex s (bu s x) k).map λd=>(d,s)
 | .me T x k=>(me C s T (bu s x) k).bind (xH s)
 | .call _ _=>none
 | .len T x=>(qR C s T (bu s x)).map λd=>(d,s)
 | .app T c8 x y=>qV C s T c8 (bu s x) (bu s y)
 | .shr _=>none
 | .ks _ _ _=>none
 | .jM _ x=>jM s (bu s x)
 | .ns x=>some (bu s x,s)
 | .xF=>some (.dS (.mp []),s)
 | .n3 T x i=>(n3 C s T (bu s x) (bu s i)).map λd=>(d,s)
 | .mK T x i v=>(mK C s T (bu s x) (bu s i) (bu s v)).map λs1=>(.hole,s1)
 | .cap T x=>match(C.T T).k,bu s x with
   | .slice _,.bd=>some (.int .i64 0,s)
   |_,_=>none
 | .pV ha x y=>(pV ha (bu s x) (bu s y)).map λd=>(d,s)
 | .bad=>none
section
variable {C:ca} {w0 w:World} {F0 X F:Nat->Prop} {S:Nat->Nat->Prop} {s s1:aw} {a:Act} {av:I}
theorem ti:∀{os:List Operand} {xs:List bk},oK os=some xs->os.map dG=xs.map some
 |[],xs,h=>by simp[oK]at h;subst h;rfl
 |o::os,xs,h=>by
  simp only[oK]at h;split at h
  .rename_i x Lm ab ae;simp at h;subst h;simp[ab,ti ae]
  .cases h
theorem EZ {aC:Nat->Value} (h:bD w0 F0 X F S s aC w) (el:∀t,aC t=a.tmps.getD t undef):∀{ps:List (Nat×Operand)} {xs:List (Nat×bk)},uV ps=some xs->
  n4 w F s aC (xs.map λp=>(p.1,bu s p.2)) (ps.map λp=>(p.1,a.eval p.2))
 |[],xs,h=>by simp[uV]at h;subst h;trivial
 |(k,o)::ps,xs,bC=>by
  simp only[uV]at bC;split at bC
  .rename_i x Lm ab ae;simp at bC;subst bC;obtain⟨g1,g2⟩:=fE h el ab;exact⟨rfl,g1,g2,EZ h el ae⟩
  .cases bC
def Next (C:ca) (w0:World) (F0 X:Nat->Prop) (aC:Nat->Value) (w:World) (m:Sem Go.Next) (av:I) (s1:aw):Prop:=
 ∃r aF v bO aN,m.run C.P w= .ok r aF/\(r= .value v\/r= .skip/\v=undef)/\bD w0 F0 X bO aN s1 aC aF/\k4 w0 X bO aN s1 aC aF av v
theorem Good.next {aC:Nat->Value} {m:Sem Value} (h:Good C w0 F0 X aC w m av s1):Next C w0 F0 X aC w (do pure (.value (<-m))) av s1:=by
 obtain⟨v,aF,bO,aN,ab,ae,az⟩:=h;exact⟨.value v,aF,v,bO,aN,by simp[ab],.inl rfl,ae,az⟩
theorem Ln {aC:Nat->Value} (h:bD w0 F0 X F S s aC w) {ha:Bool} {x y:I} {iG jw:Value} {m:Sem Go.Next} (ab:aH w F s aC x iG (λ_=>False)) (ae:aH w F s aC y jw (λ_=>False))
  (he:(pV ha x y).map (λd=>(d,s))=some (av,s1)) (hm:m=(do pure (.value (<-if ha then Builtin.max2 iG jw else Builtin.min2 iG jw)))):Next C w0 F0 X aC w m av s1:=by
 simp only[Option.map_eq_some_iff,Prod.mk.injEq]at he;obtain⟨d,ai,rfl,rfl⟩:=he;unfold pV at ai;split at ai
 .rename_i a b;simp only[Option.some.injEq]at ai;subst ai;have aR:=nV ab;have aV:=nV ae;subst aR aV;subst hm;refine⟨.value (.string ⟨⟨AL ha a b⟩⟩),w,_,F,S,?_,.inl rfl,h,.inl ⟨rfl,oF _⟩⟩;cases ha
  .simp only[Builtin.min2,Op.stringOp,xp,AL,Bool.false_eq_true,if_false];cases R:(Op.bytesLess a b||a==b)<;>simp[asBool]
  .simp only[Builtin.max2,Op.stringOp,xp,AL,if_true];cases R:Op.bytesLess a b<;>simp[asBool]
 .rename_i k a cF b;split at ai
  .rename_i ax;subst ax;simp only[Option.some.injEq]at ai;subst ai;have aR:=pO ab;have aV:=pO ae;subst aR aV;subst hm;refine⟨.value (.int k (D_ ha a b)),w,_,F,S,?_,.inl rfl,h,.inl ⟨rfl,of_int _ _⟩⟩;cases ha<;>simp[Builtin.min2,Builtin.max2,D_]
  .cases ai
 .cases ai
theorem Lo (bn:C.Ok) {aC:Nat->Value} (h:bD w0 F0 X F S s aC w) (el:∀t,aC t=a.tmps.getD t undef) {o:Oper} {bV:ed} (ad:cX o.op=some bV) (he:b8 C s bV=some (av,s1)):
  Next C w0 F0 X aC w (execOp a.eval o) av s1:=by
 obtain⟨dst,op,ty,pos,after,guard⟩:=o;simp only at ad;cases op with
 |move x=>
  simp only[cX,Option.map_eq_some_iff]at ad;obtain⟨cp,au,rfl⟩:=ad;obtain⟨g1,g2⟩:=fE h el au;simp only[b8,Option.some.injEq,Prod.mk.injEq]at he;obtain⟨rfl,rfl⟩:=he;exact⟨_,w,_,F,S,rfl,.inl rfl,h,.inl ⟨g1,g2⟩⟩
 |assign x=>
  simp only[cX,Option.map_eq_some_iff]at ad;obtain⟨cp,au,rfl⟩:=ad;obtain⟨g1,g2⟩:=fE h el au;simp only[b8]at he;split at he
  .rename_i y q bb;rw[bb]at g1 g2;obtain⟨b5,k0,b3,cc,Sn,eT,dL,fp,cW,k7,_⟩:=pJ h g1 g2 he;exact⟨_,w,_,F,b5,rfl,.inl rfl,k0,.inr ⟨b3,cc,Sn,eT,dL,fp,cW,k7⟩⟩
  .simp only[Option.some.injEq,Prod.mk.injEq]at he;obtain⟨rfl,rfl⟩:=he;exact⟨_,w,_,F,S,rfl,.inl rfl,h,.inl ⟨g1,g2⟩⟩
 |pick c x y=>
  simp only[cX]at ad;split at ad
  .rename_i xI cp lU an au bb;simp only[Option.some.injEq]at ad;subst ad;simp only[b8]at he;split at he
   .rename_i b R;simp only[Option.some.injEq,Prod.mk.injEq]at he;obtain⟨rfl,rfl⟩:=he;have xB:=(fE h el an).2;rw[R]at xB;have xB:=rV xB;obtain⟨U,ah⟩:=fE h el au;obtain⟨eo,gu⟩:=fE h el bb;refine⟨.value (if b then a.eval x else a.eval y),w,_,F,S,?_,.inl rfl,h,.inl ?_⟩
    .simp[execOp,xB,asBool]
    .cases b
     .exact⟨eo,gu⟩
     .exact⟨U,ah⟩
   .cases he
  .cases ad
 |alloc T=>
  simp only[cX,Option.some.injEq]at ad;subst ad;simp only[b8,Option.map_eq_some_iff,Prod.mk.injEq]at he;obtain⟨d,ai,rfl,rfl⟩:=he;exact(R2 bn h ai).next
 |box T x=>
  simp only[cX,Option.map_eq_some_iff]at ad;obtain⟨cp,au,rfl⟩:=ad;obtain⟨g1,g2⟩:=fE h el au;exact(R6 h g1 g2 he).next
 |build T ps=>
  simp only[cX,Option.map_eq_some_iff]at ad;obtain⟨S8,aq,rfl⟩:=ad;obtain⟨ps⟩:=ps;have:=(S2 bn h (EZ h el aq) he).next;simpa [execOp]using this
 |buildSlice T n ps=>
  simp only[cX,Option.map_eq_some_iff]at ad;obtain⟨S8,aq,rfl⟩:=ad;obtain⟨ps⟩:=ps;have:=(S5 bn h (EZ h el aq) he).next;simpa [execOp]using this
 |load T x=>
  simp only[cX,Option.map_eq_some_iff]at ad;obtain⟨cp,au,rfl⟩:=ad;obtain⟨g1,g2⟩:=fE h el au;simp only[b8,Option.map_eq_some_iff,Prod.mk.injEq]at he;obtain⟨d,ai,rfl,rfl⟩:=he;exact(RX bn h g2 ai).next
 |store T x y=>
  simp only[cX]at ad;split at ad
  .rename_i cp lU au bb;simp only[Option.some.injEq]at ad;subst ad;simp only[b8,Option.map_eq_some_iff,Prod.mk.injEq]at he;obtain⟨s2,ai,rfl,rfl⟩:=he;obtain⟨aF,aN,ab,ae⟩:=R0 bn h (fE h el au).2 (fE h el bb).1 (fE h el bb).2 ai;exact⟨.skip,aF,undef,F,aN,by simp[execOp,ab],.inr ⟨rfl,rfl⟩,ae,.inl ⟨rfl,by rw[aH];trivial⟩⟩
  .cases ad
 |nilCheck x=>
  simp only[cX,Option.map_eq_some_iff]at ad;obtain⟨cp,au,rfl⟩:=ad;obtain⟨g1,g2⟩:=fE h el au;simp only[b8,Option.map_eq_some_iff,Prod.mk.injEq]at he;obtain⟨d,ai,rfl,rfl⟩:=he;obtain⟨rfl,aq,aJ⟩:=Sh h g2 ai;refine⟨.value (a.eval x),w,_,F,S,?_,.inl rfl,h,.inl ⟨aq,g2⟩⟩;rcases aJ with⟨b,R⟩|⟨f,c,R⟩<;>simp[execOp,R]
 |binOp op T x y ajZ=>
  simp only[cX]at ad;split at ad
  .rename_i cp lU au bb;simp only[Option.some.injEq]at ad;subst ad;simp only[b8,Option.map_eq_some_iff,Prod.mk.injEq]at he;obtain⟨d,ai,rfl,rfl⟩:=he;exact(Se bn h x y (fE h el au).2 (fE h el bb).2 ai).next
  .cases ad
 |unOp op T x=>
  simp only[cX,Option.map_eq_some_iff]at ad;obtain⟨cp,au,rfl⟩:=ad;simp only[b8,Option.map_eq_some_iff,Prod.mk.injEq]at he;obtain⟨d,ai,rfl,rfl⟩:=he;exact(Sf h (fE h el au).2 ai).next
 |convert A B x=>
  simp only[cX,Option.map_eq_some_iff]at ad;obtain⟨cp,au,rfl⟩:=ad;simp only[b8,Option.map_eq_some_iff,Prod.mk.injEq]at he;obtain⟨d,ai,rfl,rfl⟩:=he;exact(Ss bn h (fE h el au).2 ai).next
 |makeFunc fn first cs=>
  cases fn with
  |func f=>
   simp only[cX]at ad;split at ad
   .rename_i E0;simp only[Option.map_eq_some_iff]at ad;obtain⟨n5,gh,rfl⟩:=ad;simp only[b8,Option.some.injEq,Prod.mk.injEq]at he;obtain⟨rfl,rfl⟩:=he;have E1:first= #[]:=by simpa using E0
    subst E1;refine⟨_,w,_,F,S,rfl,.inl rfl,h,.inl ⟨rfl,?_⟩⟩;rw[aH];refine⟨cs.map a.eval,by simp,?_⟩;simpa using Ba h el _ _ (ti gh)
   .cases ad
  |_=>simp[cX]at ad
 |makeSlice T l c=>
  simp only[cX]at ad;split at ad
  .rename_i cp lU au bb;simp only[Option.some.injEq]at ad;subst ad;simp only[b8,Option.map_eq_some_iff,Prod.mk.injEq]at he;obtain⟨d,ai,rfl,rfl⟩:=he;exact(SV bn h (fE h el au).2 (fE h el bb).2 ai).next
  .cases ad
 |slice T x fl ao ha=>
  cases ha with
  |some m=>simp[cX]at ad
  |none=>
   simp only[cX]at ad;split at ad
   .rename_i cp aj0 uW au nX nY;simp only[Option.some.injEq]at ad;subst ad;obtain⟨g1,g2⟩:=fE h el au;have opt:∀{o:Option Operand} {mh:Option bk},xG o=some mh->qS w F s aC (mh.map (bu s)) (o.map a.eval):=by
     intro o mh bE;cases o with
     |none=>simp[xG]at bE;subst bE;trivial
     |some o=>
      simp only[xG,Option.map_eq_some_iff]at bE;obtain⟨x,au,rfl⟩:=bE;exact(fE h el au).2
    exact(Sv bn h g1 g2 (opt nX) (opt nY) he).next
   .cases ad
 |fieldAddr T x k=>
  simp only[cX,Option.map_eq_some_iff]at ad;obtain⟨cp,au,rfl⟩:=ad;obtain⟨g1,g2⟩:=fE h el au;simp only[b8,Option.map_eq_some_iff,Prod.mk.injEq]at he;obtain⟨d,ai,rfl,rfl⟩:=he;exact(RR bn h g1 g2 ai).next
 |indexAddr T x i=>
  simp only[cX]at ad;split at ad
  .rename_i cp lU au bb;simp only[Option.some.injEq]at ad;subst ad;simp only[b8,Option.map_eq_some_iff,Prod.mk.injEq]at he;obtain⟨d,ai,rfl,rfl⟩:=he;exact(RS bn h (fE h el au).2 (fE h el bb).2 ai).next
  .cases ad
 |index T x i=>
  simp only[cX]at ad;split at ad
  .rename_i cp lU au bb;simp only[Option.some.injEq]at ad;subst ad;simp only[b8,Option.map_eq_some_iff,Prod.mk.injEq]at he;obtain⟨d,ai,rfl,rfl⟩:=he;exact(Sp bn h (fE h el au).2 (fE h el bb).2 ai).next
  .cases ad
 |makeMap t r=>
  cases r with
  |none=>
   simp only[cX,Option.some.injEq]at ad;subst ad;simp only[b8,Option.some.injEq,Prod.mk.injEq]at he;obtain⟨rfl,rfl⟩:=he;exact(SU h t).next
  |some r=>simp[cX]at ad
 |lookup T x i c=>
  cases c with
  |true=>simp[cX]at ad
  |false=>
   simp only[cX]at ad;split at ad
   .rename_i cp qM au ao;simp only[Option.some.injEq]at ad;subst ad;simp only[b8,Option.map_eq_some_iff,Prod.mk.injEq]at he;obtain⟨d,ai,rfl,rfl⟩:=he;exact(SQ bn h (fE h el au).2 (fE h el ao).2 ai).next
   .cases ad
 |mapUpdate T x i v=>
  simp only[cX]at ad;split at ad
  .rename_i cp qM ga au ao aJ;simp only[Option.some.injEq]at ad;subst ad;simp only[b8,Option.map_eq_some_iff,Prod.mk.injEq]at he;obtain⟨s2,ai,rfl,rfl⟩:=he;obtain⟨aF,aN,ab,ae⟩:=SR bn h (fE h el au).2 (fE h el ao).2 (fE h el aJ).2 ai;exact⟨.skip,aF,undef,F,aN,by simp[execOp,ab],.inr ⟨rfl,rfl⟩,ae,.inl ⟨rfl,by rw[aH];trivial⟩⟩
  .cases ad
 |extract x k=>
  simp only[cX,Option.map_eq_some_iff]at ad;obtain⟨cp,au,rfl⟩:=ad;simp only[b8,Option.map_eq_some_iff,Prod.mk.injEq]at he;obtain⟨d,ai,rfl,rfl⟩:=he;exact(Sk h (fE h el au).2 ai).next
 |field T x k=>
  simp only[cX,Option.map_eq_some_iff]at ad;obtain⟨cp,au,rfl⟩:=ad;simp only[b8,Option.bind_eq_some_iff]at he;obtain⟨d,ai,he⟩:=he;obtain⟨v,aF,bO,aN,aM,fU,oz⟩:=Sl bn h (fE h el au).2 ai;unfold xH at he;split at he
  .rename_i y q;have S9:aH aF bO s aC (.h y q) v (λ_=>False):=by
    rcases oz with⟨_,g2⟩|⟨g1,_⟩
    .exact g2
    .cases g1
   obtain⟨b5,k0,b3,cc,Sn,eT,dL,fp,cW,k7,_⟩:=pJ fU rfl S9 he;exact⟨.value v,aF,v,bO,b5,by simp[execOp,aM],.inl rfl,k0,.inr ⟨b3,cc,Sn,eT,dL,fp,cW,k7⟩⟩
  .simp only[Option.some.injEq,Prod.mk.injEq]at he;obtain⟨rfl,rfl⟩:=he;exact⟨.value v,aF,v,bO,aN,by simp[execOp,aM],.inl rfl,fU,oz⟩
 |call c=>
  obtain⟨callee,args,argTypes⟩:=c;simp only[cX]at ad;split at ad
  .split at ad
   .simp only[Option.some.injEq]at ad;subst ad;simp[b8]at he
   .cases ad
  .split at ad
   .rename_i x T n7 xJ;simp only[Option.map_eq_some_iff]at ad;obtain⟨cp,au,rfl⟩:=ad;simp only[b8,Option.map_eq_some_iff,Prod.mk.injEq]at he;obtain⟨d,ai,rfl,rfl⟩:=he;have:=(Sq (ty:=ty) bn h (fE h el au).2 ai).next;have aR:args= #[x]:=by apply Array.ext';exact n7
    have aV:argTypes= #[T]:=by apply Array.ext';exact xJ
    subst aR aV;simpa [execOp,resolve,invoke,builtin]using this
   .cases ad
  .split at ad
   .rename_i x T n7 xJ;simp only[Option.map_eq_some_iff]at ad;obtain⟨cp,au,rfl⟩:=ad;simp only[b8]at he;split at he
    .rename_i e ax S_;simp only[Option.some.injEq,Prod.mk.injEq]at he;obtain⟨rfl,rfl⟩:=he;have aJ:=(fE h el au).2;rw[S_]at aJ;have:=rW aJ;obtain⟨i,d,z,aR,aV,aW,cm,cC,b7,bW⟩:=bn.info (gg ax (by simp));rw[ax]at bW;have ai:=lV bW;subst ai;have xK:args= #[x]:=by apply Array.ext';exact n7
     have Ta:argTypes= #[T]:=by apply Array.ext';exact xJ
     subst xK Ta;have aM:(Builtin.cap_ #[T] ty #[a.eval x]).run C.P w= .ok (.int .i64 0) w:=by
      rw[this];simp[Builtin.cap_,run_underlying b7,goInt]
     have:=(Good.same (av:=.int .i64 0) h aM rfl (of_int _ _)).next;simpa [execOp,resolve,invoke,builtin]using this
    .cases he
   .cases ad
  .split at ad
   .rename_i x y n7;split at ad
    .rename_i cp lU au bb;simp only[Option.some.injEq]at ad;subst ad;have aR:args= #[x,y]:=by apply Array.ext';exact n7
     subst aR;exact Ln h (fE h el au).2 (fE h el bb).2 he (by simp[execOp,resolve,invoke,builtin,Builtin.min_])
    .cases ad
   .cases ad
  .split at ad
   .rename_i x y n7;split at ad
    .rename_i cp lU au bb;simp only[Option.some.injEq]at ad;subst ad;have aR:args= #[x,y]:=by apply Array.ext';exact n7
     subst aR;exact Ln h (fE h el au).2 (fE h el bb).2 he (by simp[execOp,resolve,invoke,builtin,Builtin.max_])
    .cases ad
   .cases ad
  .split at ad
   .rename_i x y T c8 n7 xJ;split at ad
    .rename_i cp lU au bb;simp only[Option.some.injEq]at ad;subst ad;have:=(SH (ty:=ty) bn h (fE h el au).2 (fE h el bb).2 he).next;have aR:args= #[x,y]:=by apply Array.ext';exact n7
     have aV:argTypes= #[T,c8]:=by apply Array.ext';exact xJ
     subst aR aV;simpa [execOp,resolve,invoke,builtin]using this
    .cases ad
   .cases ad
  .cases ad
 |_=>simp[cX]at ad
end
mutual
def I.ad:I->alR
 | .h x _=>[x]
 | .aq x _=>[x]
 | .R x _=>[x]
 | .fn _ cap=>I.dQ cap
 |_=>[]
def I.dQ:alW->alR
 |[]=>[]
 |d::ds=>d.ad++I.dQ ds
end
inductive pW where
 |no
 |cb
 |cR
structure gN where
 k:pW
 x:Nat
 d:I
def pW.app (k:pW) (x:Nat) (a:I):I:=match k with
 | .no=>a
 | .cb=>de.cb x a
 | .cR=>de.cR x a
def gN.at (m:gN) (u:Nat) (a:I):I:=if u=m.x then m.d else m.k.app m.x a
def j3:List gN->Nat->I->I
 |[],_,a=>a
 |m::ms,u,a=>j3 ms u (m.at u a)
def dJ (ms:List gN) (s:aw):aw:=λu=>j3 ms u (s u)
theorem Lp:∀(ms k9:List gN) (u:Nat) (a:I),j3 (ms++k9) u a=j3 k9 u (j3 ms u a)
 |[],_,_,_=>rfl
 |m::ms,k9,u,a=>by simp only[cons_append,j3];exact Lp ms k9 u _
theorem mi (ms k9:List gN) (s:aw):dJ (ms++k9) s=dJ k9 (dJ ms s):=by
 funext u;simp[dJ,Lp]
theorem Tb {ms:List gN} {s aB:aw} {u:Nat} (h:aB u=s u):dJ ms aB u=dJ ms s u:=by simp[dJ,h]
theorem tj (s:aw) (x:Nat) (d:I):dq (h7 x s) x d=dJ [⟨.cb,x,d⟩] s:=by
 funext u;simp only[dJ,j3,gN.at,dq,h7,pW.app]
theorem Lq (s:aw) (x:Nat) (d:I):dq (lQ x s) x d=dJ [⟨.cR,x,d⟩] s:=by
 funext u;simp only[dJ,j3,gN.at,dq,lQ,pW.app]
theorem Lr (s:aw) (x:Nat) (d:I):dq s x d=dJ [⟨.no,x,d⟩] s:=by
 funext u;simp only[dJ,j3,gN.at,dq,pW.app]
mutual
theorem xL {x:Nat}:∀a:I,x∉a.ad->cb x a=a
 | .h y q,h=>by
   simp only[I.ad,mem_singleton]at h;simp only[cb];rw[if_neg (λe=>h e.symm)]
 | .aq y q,h=>by
   simp only[I.ad,mem_singleton]at h;simp only[cb];rw[if_neg (λe=>h e.symm)]
 | .R y q,h=>rfl
 | .fn f cap,h=>by simp only[cb];rw[Ls cap (by simpa [I.ad]using h)]
 | .hole,_=>rfl
 | .bool _,_=>rfl
 | .fm,_=>rfl
 | .int _ _,_=>rfl
 | .str _,_=>rfl
 | .dC,_=>rfl
 | .bd,_=>rfl
 | .slice _,_=>rfl
 | .ag _ _,_=>rfl
 | .ref _,_=>rfl
 | .bf _,_=>rfl
 | .agg _,_=>rfl
 | .tuple _,_=>rfl
 | .dS _,_=>rfl
 | .fJ _ _,_=>rfl
theorem Ls {x:Nat}:∀ds:alW,x∉I.dQ ds->iN x ds=ds
 |[],_=>rfl
 |d::ds,h=>by
  simp only[I.dQ,mem_append,not_or]at h;simp only[iN];rw[xL d h.1,Ls ds h.2]
end
mutual
theorem E2 {x:Nat}:∀a:I,x∉a.ad->cR x a=a
 | .h y q,h=>by
   simp only[I.ad,mem_singleton]at h;simp only[cR];rw[if_neg (λe=>h e.symm)]
 | .aq y q,h=>by
   simp only[I.ad,mem_singleton]at h;simp only[cR];rw[if_neg (λe=>h e.symm)]
 | .R y q,h=>by
   simp only[I.ad,mem_singleton]at h;simp only[cR];rw[if_neg (λe=>h e.symm)]
 | .fn f cap,h=>by simp only[cR];rw[Lt cap (by simpa [I.ad]using h)]
 | .hole,_=>rfl
 | .bool _,_=>rfl
 | .fm,_=>rfl
 | .int _ _,_=>rfl
 | .str _,_=>rfl
 | .dC,_=>rfl
 | .bd,_=>rfl
 | .slice _,_=>rfl
 | .ag _ _,_=>rfl
 | .ref _,_=>rfl
 | .bf _,_=>rfl
 | .agg _,_=>rfl
 | .tuple _,_=>rfl
 | .dS _,_=>rfl
 | .fJ _ _,_=>rfl
theorem Lt {x:Nat}:∀ds:alW,x∉I.dQ ds->jd x ds=ds
 |[],_=>rfl
 |d::ds,h=>by
  simp only[I.dQ,mem_append,not_or]at h;simp only[jd];rw[E2 d h.1,Lt ds h.2]
end
theorem xM {k:pW} {x:Nat} {a:I} (h:k= .no\/x∉a.ad):k.app x a=a:=by
 cases k with
 |no=>rfl
 |cb=>exact xL a (by simpa using h)
 |cR=>exact E2 a (by simpa using h)
mutual
theorem Lu (x y:Nat):∀a:I,cb x (cb y a)=cb y (cb x a)
 | .h z q=>by simp only[cb];by_cases ab:z=x<;>by_cases ae:z=y<;>by_cases az:q=[]<;>simp[ab,ae,az,cb]<;>(subst_vars;simp_all [cb])
 | .aq z q=>by simp only[cb];by_cases ab:z=x<;>by_cases ae:z=y<;>simp[ab,ae,cb]<;>(subst_vars;simp_all [cb])
 | .R z q=>rfl
 | .fn f cap=>by simp only[cb];rw[Lv x y cap]
 | .hole=>rfl
 | .bool _=>rfl
 | .fm=>rfl
 | .int _ _=>rfl
 | .str _=>rfl
 | .dC=>rfl
 | .bd=>rfl
 | .slice _=>rfl
 | .ag _ _=>rfl
 | .ref _=>rfl
 | .bf _=>rfl
 | .agg _=>rfl
 | .tuple _=>rfl
 | .dS _=>rfl
 | .fJ _ _=>rfl
theorem Lv (x y:Nat):∀ds:alW,iN x (iN y ds)=iN y (iN x ds)
 |[]=>rfl
 |d::ds=>by simp only[iN];rw[Lu x y d,Lv x y ds]
end
mutual
theorem Lw (x y:Nat):∀a:I,cR x (cR y a)=cR y (cR x a)
 | .h z q=>by simp only[cR];by_cases ab:z=x<;>by_cases ae:z=y<;>simp[ab,ae,cR]<;>(subst_vars;simp_all [cR])
 | .aq z q=>by simp only[cR];by_cases ab:z=x<;>by_cases ae:z=y<;>simp[ab,ae,cR]<;>(subst_vars;simp_all [cR])
 | .R z q=>by simp only[cR];by_cases ab:z=x<;>by_cases ae:z=y<;>simp[ab,ae,cR]<;>(subst_vars;simp_all [cR])
 | .fn f cap=>by simp only[cR];rw[Lx x y cap]
 | .hole=>rfl
 | .bool _=>rfl
 | .fm=>rfl
 | .int _ _=>rfl
 | .str _=>rfl
 | .dC=>rfl
 | .bd=>rfl
 | .slice _=>rfl
 | .ag _ _=>rfl
 | .ref _=>rfl
 | .bf _=>rfl
 | .agg _=>rfl
 | .tuple _=>rfl
 | .dS _=>rfl
 | .fJ _ _=>rfl
theorem Lx (x y:Nat):∀ds:alW,jd x (jd y ds)=jd y (jd x ds)
 |[]=>rfl
 |d::ds=>by simp only[jd];rw[Lw x y d,Lx x y ds]
end
mutual
theorem E3 (x y:Nat):∀a:I,cb x (cR y a)=cR y (cb x a)
 | .h z q=>by simp only[cR,cb];by_cases ab:z=x<;>by_cases ae:z=y<;>by_cases az:q=[]<;>simp[ab,ae,az,cR,cb]<;>(subst_vars;simp_all [cR,cb])
 | .aq z q=>by simp only[cR,cb];by_cases ab:z=x<;>by_cases ae:z=y<;>simp[ab,ae,cR,cb]<;>(subst_vars;simp_all [cR,cb])
 | .R z q=>by simp only[cR,cb];by_cases ae:z=y<;>simp[ae,cb]
 | .fn f cap=>by simp only[cR,cb];rw[Ly x y cap]
 | .hole=>rfl
 | .bool _=>rfl
 | .fm=>rfl
 | .int _ _=>rfl
 | .str _=>rfl
 | .dC=>rfl
 | .bd=>rfl
 | .slice _=>rfl
 | .ag _ _=>rfl
 | .ref _=>rfl
 | .bf _=>rfl
 | .agg _=>rfl
 | .tuple _=>rfl
 | .dS _=>rfl
 | .fJ _ _=>rfl
theorem Ly (x y:Nat):∀ds:alW,iN x (jd y ds)=jd y (iN x ds)
 |[]=>rfl
 |d::ds=>by simp only[jd,iN];rw[E3 x y d,Ly x y ds]
end
theorem Tc (k l:pW) (x y:Nat) (a:I):k.app x (l.app y a)=l.app y (k.app x a):=by
 cases k<;>cases l<;>simp only[pW.app]<;>first|rfl|exact Lu .. |exact Lw .. |exact E3 .. |exact(E3 ..).symm
def bk.use (s:aw):bk->alR
 | .t n=>n::(s n).ad
 | .c av=>av.ad
 | .f _=>[]
def bk.oL (s:aw):List bk->alR
 |[]=>[]
 |x::xs=>x.use s++bk.oL s xs
def E4 (s:aw):Option bk->alR
 |none=>[]
 |some x=>x.use s
def use (s:aw):ed->alR
 | .hB x=>x.use s
 | .lx x=>x.use s
 | .pick c a b=>c.use s++(a.use s++b.use s)
 | .kq _=>[]
 | .iw _ x=>x.use s
 | .hd _ ps=>bk.oL s (ps.map (·.2))
 | .fa _ _ ps=>bk.oL s (ps.map (·.2))
 | .fk _ x=>x.use s
 | .iV _ x y=>x.use s++y.use s
 | .kK x=>x.use s
 | .eU _ _ x y=>x.use s++y.use s
 | .un _ x=>x.use s
 | .iX _ _ x=>x.use s
 | .mL _ cs=>bk.oL s cs
 | .eK _ l c=>l.use s++c.use s
 | .h9 _ x fl ao=>x.use s++(E4 s fl++E4 s ao)
 | .ho _ x _=>x.use s
 | .jL _ x i=>x.use s++i.use s
 | .idx _ x i=>x.use s++i.use s
 | .ex x _=>x.use s
 | .me _ x _=>x.use s
 | .call f args=>f.use s++bk.oL s args
 | .len _ x=>x.use s
 | .app _ _ x y=>x.use s++y.use s
 | .shr bV=>use s bV
 | .ks f args us=>us.flatMap (λu=>u::(s u).ad)++(f.use s++bk.oL s args)
 | .jM _ x=>x.use s
 | .ns x=>x.use s
 | .xF=>[]
 | .n3 _ x i=>x.use s++i.use s
 | .mK _ x i v=>x.use s++(i.use s++v.use s)
 | .cap _ x=>x.use s
 | .pV _ x y=>x.use s++y.use s
 | .bad=>[]
def oM (s:aw):ed->alR
 | .lx x=>(bu s x).ad
 | .iw _ x=>(bu s x).ad
 | .hd _ ps=>I.dQ (ps.map λp=>bu s p.2)
 | .fa _ _ ps=>I.dQ (ps.map λp=>bu s p.2)
 | .iV _ x y=>(bu s x).ad++(bu s y).ad
 | .me _ x _=>(bu s x).ad
 | .mK _ x _ _=>(bu s x).ad
 | .h9 _ x _ _=>(bu s x).ad
 | .app _ _ x y=>(bu s x).ad++(bu s y).ad
 | .shr bV=>oM s bV
 |_=>[]
def dH (c8:alR) (aB s:aw):Prop:=∀u∈c8,aB u=s u
theorem dH.left {c8 V:alR} {aB s:aw} (h:dH (c8++V) aB s):dH c8 aB s:=λu hu=>h u (mem_append_left _ hu)
theorem dH.right {c8 V:alR} {aB s:aw} (h:dH (c8++V) aB s):dH V aB s:=λu hu=>h u (mem_append_right _ hu)
theorem dH.dJ {c8:alR} {aB s:aw} (h:dH c8 aB s) (ms:List gN):dH c8 (dJ ms aB) (dJ ms s):=λu hu=>Tb (h u hu)
theorem dH.sub {c8 V:alR} {aB s:aw} (h:dH c8 aB s) (ad:∀u∈V,u∈c8):dH V aB s:=λu hu=>h u (ad u hu)
theorem bk.tk {s:aw} {x:bk}:∀u∈(bu s x).ad,u∈x.use s:=by
 intro u hu;cases x with
 |t n=>
  simp only[bu,pI]at hu;split at hu
  .simp[bk.use,hu]
  .simp only[I.ad,mem_singleton]at hu;simp[bk.use,hu]
 |c av=>exact hu
 |f g=>simp[bu,I.ad,I.dQ]at hu
theorem bk.fM {s aB:aw} {x:bk} (h:dH (x.use s) aB s):bu aB x=bu s x:=by
 cases x with
 |t n=>simp only[bu];rw[h n (by simp[bk.use])]
 |c av=>rfl
 |f g=>rfl
theorem dH.bu {s aB:aw} {x:bk} (h:dH (x.use s) aB s):dH (bu s x).ad aB s:=h.sub bk.tk
theorem Lz {s aB:aw} {x:Option bk} (h:dH (E4 s x) aB s):x.map (bu aB)=x.map (bu s):=by
 cases x with
 |none=>rfl
 |some x=>simp only[Option.map_some];rw[bk.fM h]
theorem bk.E5 {s aB:aw}:∀{xs:List bk},dH (bk.oL s xs) aB s->xs.map (bu aB)=xs.map (bu s)
 |[],_=>rfl
 |x::xs,h=>by
  simp only[map_cons];rw[bk.fM (h.left),bk.E5 (h.right)]
theorem bk.E6 {s aB:aw}:∀{ps:List (Nat×bk)},dH (bk.oL s (ps.map (·.2))) aB s->(ps.map λp=>(p.1,bu aB p.2))=ps.map λp=>(p.1,bu s p.2)
 |[],_=>rfl
 |x::xs,h=>by
  simp only[map_cons]at h⊢;rw[bk.fM (h.left),bk.E6 (h.right)]
theorem bk.Bd {s:aw}:∀{xs:List bk},∀u∈I.dQ (xs.map (bu s)),u∈bk.oL s xs
 |[],u,h=>by simp[I.dQ]at h
 |x::xs,u,h=>by
  simp only[map_cons,I.dQ,mem_append]at h;simp only[bk.oL,mem_append];exact h.imp (bk.tk u) (bk.Bd u)
section
variable {C:ca} {s aB:aw} {x y i:I} {T A B:TypeId}
theorem E7 (h:dH x.ad aB s):loc aB x=loc s x:=by
 cases x<;>first
  |rfl
  |(simp only[loc];rw[h _ (by simp[I.ad])])
theorem E8 {z:Nat} {q:alR} (h:loc s x=some (z,q)):z∈x.ad:=by
 cases x with
 |h y p=>
  simp only[loc]at h;split at h
  .simp only[Option.some.injEq,Prod.mk.injEq]at h;simp[I.ad,h.1]
  .cases h
 |aq y p=>
  simp only[loc]at h;split at h
  .simp only[Option.some.injEq,Prod.mk.injEq]at h;simp[I.ad,h.1]
  .cases h
 |_=>simp[loc]at h
theorem Td (h:dH x.ad aB s):fk C aB T x=fk C s T x:=by
 have hl:=E7 h;unfold fk;split
 .rfl
 .rw[h _ (by simp[I.ad])]
 .rw[hl];split
  .rename_i e;rw[h _ (E8 e)]
  .rfl
theorem Te {k:Nat} (h:dH x.ad aB s):ho C aB T x k=ho C s T x k:=by
 have hl:=E7 h;unfold ho;split
 .split
  .split
   .split
    .rfl
    .rw[h _ (by simp[I.ad])]
    .rw[hl];split
     .rename_i e;rw[h _ (E8 e)]
     .rfl
   .rfl
  .rfl
 .rfl
theorem Tf (h:dH x.ad aB s):jL C aB T x i=jL C s T x i:=by
 cases x<;>first
  |rfl
  |(simp only[jL];rw[h _ (by simp[I.ad])])
theorem Tg (h:dH x.ad aB s):qR C aB T x=qR C s T x:=by
 unfold qR;cases(C.T T).k<;>cases x<;>first
  |rfl
  |(simp only;rw[h _ (by simp[I.ad])])
theorem Th (h:dH x.ad aB s):iX C aB A B x=iX C s A B x:=by
 unfold iX;cases(C.T B).k<;>cases x<;>first
  |rfl
  |(simp only;rw[h _ (by simp[I.ad])])
theorem Ti (h:dH x.ad aB s):jN aB x=jN s x:=by
 cases x<;>first
  |rfl
  |(simp only[jN];rw[h _ (by simp[I.ad])])
theorem Tj (h:dH x.ad aB s):lr aB x=lr s x:=by
 cases x<;>first
  |rfl
  |(simp only[lr];rw[h _ (by simp[I.ad])])
theorem Tk {op:BinOp} (h:dH x.ad aB s):eU C aB op T x y=eU C s op T x y:=by
 have ab:=Ti h;have ae:=Tj h;unfold eU;split<;>first|rfl|simp only[ab,ae]
theorem Tl (h:dH x.ad aB s):kK aB x=kK s x:=by
 cases x<;>first
  |rfl
  |(simp only[kK];rw[h _ (by simp[I.ad])])
theorem Tm {k y:Nat} {q:alR} (h:me C s T x k=some (.h y q)):x.ad=[y]:=by
 unfold me at h;split at h<;>try (cases h;done)
 split at h<;>try (cases h;done)
 split at h
 .split at h<;>try (cases h;done)
  split at h
  .rename_i an;simp only[Option.some.injEq]at h;rw[h]at an;exact absurd an.2.2.2 (by simp[I.tree])
  .cases h
 .split at h<;>try (cases h;done)
  split at h<;>try (cases h;done)
  split at h<;>try (cases h;done)
  rename_i d ai an;by_cases aq:d.plain=true
  .simp only[aq,if_true,Option.some.injEq]at h;rw[h]at an;exact absurd an.2.2.2 (by simp[I.tree])
  .simp only[aq,Option.some.injEq]at h;injection h with ab ae;subst ab;rfl
 .cases h
theorem LA {k:Nat} (h:dH x.ad aB s):me C aB T x k=me C s T x k:=by
 unfold me;split<;>try rfl
 split<;>try rfl
 cases x<;>first
  |rfl
  |(simp only[];rw[h _ (by simp[I.ad])])
theorem Tn {k:Nat} (h:dH x.ad aB s):ex aB x k=ex s x k:=by
 cases x<;>first
  |rfl
  |(simp only[ex];rw[h _ (by simp[I.ad])])
theorem uX:∀(q:alR) (a d e:I),I.sub q a=some d->(d.plain=false\/q≠[])->(q=[]->e.ad=[])->(I.put q e a).ad=[]:=by
 intro q a d e h aq he;cases q with
 |nil=>rw[I.put];exact he rfl
 |cons k q=>
  cases a<;>first
   |(simp[I.sub]at h;done)
   |skip
  all_goals
   unfold I.put
   repeat' split
   all_goals first|rfl|(simp_all;done)
end
def Loc {α:Type} (c8 uY:alR) (f:aw->Option (α×aw)) (s:aw) (av:α) (s1:aw):Prop:=
 ∃ms,s1=dJ ms s/\(∀m∈ms,m.x∈uY/\m.d.ad=[])/\∀aB,dH c8 aB s->f aB=some (av,dJ ms aB)
theorem Loc.pure {α:Type} {c8 uY:alR} {f:aw->Option (α×aw)} {s:aw} {av:α} (h:∀aB,dH c8 aB s->f aB=some (av,aB)):Loc c8 uY f s av s:=
 ⟨[],rfl,by simp,λaB ad=>h aB ad⟩
theorem Loc.mono {α:Type} {c8 uY LB LC:alR} {f:aw->Option (α×aw)} {s s1:aw} {av:α} (h:Loc c8 uY f s av s1) (pT:∀u∈c8,u∈LB) (iO:∀u∈uY,u∈LC):Loc LB LC f s av s1:=by
 obtain⟨ms,ab,ae,az⟩:=h;exact⟨ms,ab,λm hm=>⟨iO _ (ae m hm).1,(ae m hm).2⟩,λaB ad=>az aB (ad.sub pT)⟩
section
variable {C:ca} {s s1:aw} {x y d:I} {T A B:TypeId}
theorem r4 (h:cV s x=some (d,s1)):Loc x.ad x.ad (λs=>cV s x) s d s1:=by
 cases x with
 |h y q=>
  simp only[cV]at h;split at h
  .rename_i e he;split at h
   .cases h
   .rename_i aq;simp only[Option.some.injEq,Prod.mk.injEq]at h;obtain⟨rfl,rfl⟩:=h;have aq:e.plain=false:=by simpa using aq
    refine⟨[⟨.cb,y,I.put q e.c_ (s y)⟩],tj _ _ _,?_,?_⟩
    .intro m hm;simp only[mem_singleton]at hm;subst hm;refine⟨by simp[I.ad],uX q _ _ _ he (.inl aq) λb1=>?_⟩;subst b1;cases e<;>first|(simp[I.plain]at aq;done)|rfl
    .intro aB ad;have aR:aB y=s y:=ad y (by simp[I.ad]);simp only[cV,aR,he,aq];rw[<-tj];rfl
  .cases h
 |aq y q=>simp[cV]at h
 |R y q=>simp[cV]at h
 |fn f c=>simp[cV]at h
 |hole=>simp[cV]at h
 |_=>
  simp only[cV,Option.some.injEq,Prod.mk.injEq]at h;obtain⟨rfl,rfl⟩:=h;exact .pure λaB _=>rfl
mutual
theorem LD (x:Nat):∀a:I,∀u∈(cb x a).ad,u∈a.ad
 | .h y q,u,h=>by
   simp only[cb]at h;split at h
   .split at h
    .exact h
    .simp[I.ad]at h
   .exact h
 | .aq y q,u,h=>by
   simp only[cb]at h;split at h
   .simp[I.ad]at h
   .exact h
 | .R y q,u,h=>h
 | .fn f cap,u,h=>by simp only[cb,I.ad]at h⊢;exact LF x cap u h
 | .hole,u,h=>h
 | .bool _,u,h=>h
 | .fm,u,h=>h
 | .int _ _,u,h=>h
 | .str _,u,h=>h
 | .dC,u,h=>h
 | .bd,u,h=>h
 | .slice _,u,h=>h
 | .ag _ _,u,h=>h
 | .ref _,u,h=>h
 | .bf _,u,h=>h
 | .agg _,u,h=>h
 | .tuple _,u,h=>h
theorem LF (x:Nat):∀ds:alW,∀u∈I.dQ (iN x ds),u∈I.dQ ds
 |[],u,h=>h
 |d::ds,u,h=>by
  simp only[iN,I.dQ,mem_append]at h⊢;exact h.imp (LD x d u) (LF x ds u)
end
theorem E9 (o:Option Nat) (a:I):∀u∈(kI o a).ad,u∈a.ad:=by
 intro u h;cases o with
 |none=>exact h
 |some x=>exact LD x a u h
theorem LG:∀(os:List (Option Nat)) (a:I),∀u∈(k8 os a).ad,u∈a.ad:=by
 intro os;induction os with
 |nil=>intro a u h;exact h
 |cons o os ih=>intro a u h;exact E9 o a u (ih (kI o a) u h)
theorem LH {place:Nat->Option (Nat×Nat)}:∀{ps:alV} {s s1:aw} {en ds:alW} {os:List (Option Nat)},eu place s en os ps=some (ds,s1)->
  Loc (I.dQ (ps.map (·.2))) (I.dQ (ps.map (·.2))) (λs=>eu place s en os ps) s ds s1:=by
 intro ps;induction ps with
 |nil=>
  intro s s1 en ds os h;simp only[eu,Option.some.injEq,Prod.mk.injEq]at h;obtain⟨rfl,rfl⟩:=h;exact .pure λaB _=>rfl
 |cons p ps ih=>
  intro s s1 en ds os h;obtain⟨k,a⟩:=p;simp only[eu]at h;split at h
  .rename_i d s2 off n z a8 fI bZ;split at h
   .cases h
   .rename_i bg mM;split at h
    .rename_i an;obtain⟨oN,rfl,ae,az⟩:=r4 a8;obtain⟨r3,rfl,bF,cP⟩:=ih h;refine⟨oN++r3,(mi _ _ _).symm,?_,?_⟩
     .intro m hm;simp only[map_cons,I.dQ,mem_append]at hm⊢;rcases hm with hm|hm
      .exact⟨.inl (LG _ _ _ (ae m hm).1),(ae m hm).2⟩
      .exact⟨.inr (bF m hm).1,(bF m hm).2⟩
     .intro aB ad;simp only[map_cons,I.dQ]at ad;have aR:=az aB (ad.left.sub (LG _ _));have aV:=cP (dJ oN aB) (ad.right.dJ oN);simp only at aR aV;simp only[eu,aR,fI,bZ,mi];rw[if_pos an];exact aV
    .cases h
  .cases h
theorem To {ps:alV} {av:I} (h:hd C s T ps=some (av,s1)):Loc (I.dQ (ps.map (·.2))) (I.dQ (ps.map (·.2))) (λs=>hd C s T ps) s av s1:=by
 unfold hd at h;split at h
 .rename_i aE en ax bZ;split at h
  .rename_i an;split at h
   .rename_i ds s2 bo;simp only[Option.some.injEq,Prod.mk.injEq]at h;obtain⟨rfl,rfl⟩:=h;obtain⟨ms,ab,ae,az⟩:=LH bo;refine⟨ms,ab,ae,λaB ad=>?_⟩;have:=az aB ad;simp only at this;simp only[hd,ax,bZ,if_pos an,this]
   .cases h
  .cases h
 .cases h
theorem Tp {n:Nat} {ps:alV} {av:I} (h:fa C s T n ps=some (av,s1)):Loc (I.dQ (ps.map (·.2))) (I.dQ (ps.map (·.2))) (λs=>fa C s T n ps) s av s1:=by
 unfold fa at h;split at h
 .rename_i e ax;split at h
  .rename_i an;split at h
   .rename_i ds s2 bo;simp only[Option.some.injEq,Prod.mk.injEq]at h;obtain⟨rfl,rfl⟩:=h;obtain⟨ms,ab,ae,az⟩:=LH bo;refine⟨ms,ab,ae,λaB ad=>?_⟩;have:=az aB ad;simp only at this;simp only[fa,ax,if_pos an,this]
   .cases h
  .cases h
 .cases h
theorem Tq {av:I} (h:iw s x=some (av,s1)):Loc x.ad x.ad (λs=>iw s x) s av s1:=by
 unfold iw at h;split at h
 .cases h
 .rename_i d s2 mM a8;simp only[Option.some.injEq,Prod.mk.injEq]at h;obtain⟨rfl,rfl⟩:=h;obtain⟨ms,ab,ae,az⟩:=r4 a8;refine⟨ms,ab,ae,λaB ad=>?_⟩;have:=az aB ad;simp only at this;simp only[iw,this]
 .cases h
theorem Tr {av:I} (h:jM s x=some (av,s1)):Loc x.ad [] (λs=>jM s x) s av s1:=by
 unfold jM at h;split at h
 .rename_i y q;split at h
  .rename_i ds nk;split at h
   .cases h
   .rename_i xm;simp only[Option.some.injEq,Prod.mk.injEq]at h;obtain⟨rfl,rfl⟩:=h;refine .pure λaB ad=>?_;have e:aB y=s y:=ad y (by simp[I.ad]);simp only[jM,e,nk,if_neg xm]
  .cases h
 .split at h
  .rename_i an;simp only[Option.some.injEq,Prod.mk.injEq]at h;obtain⟨rfl,rfl⟩:=h;exact .pure λaB ad=>by simp only[jM,an,if_true]
  .cases h
 .cases h
theorem Ts {s2:aw} (h:iV C s T x y=some s2):Loc (x.ad++y.ad) (x.ad++y.ad) (λs=>(iV C s T x y).map λs1=>(I.hole,s1)) s .hole s2:=by
 unfold iV at h;split at h
 .rename_i d s1 z q a8 hl;obtain⟨ms,ab,ae,az⟩:=r4 a8;have bZ:=E8 hl;have b1:q≠[]:=by
   cases x with
   |h y p=>
    simp only[loc]at hl;split at hl
    .simp only[Option.some.injEq,Prod.mk.injEq]at hl;simp[<-hl.2]
    .cases hl
   |aq y p=>
    simp only[loc]at hl;split at hl
    .rename_i oC;simp only[Option.some.injEq,Prod.mk.injEq]at hl;obtain⟨rfl,rfl⟩:=hl;intro e;subst e;simp[I.fD]at oC
    .cases hl
   |_=>simp[loc]at hl
  split at h
  .cases h
  .rename_i bg mM;split at h
   .rename_i d0 k5;split at h
    .rename_i an;simp only[Option.some.injEq]at h;subst h;refine⟨ms++[⟨.cb,z,I.put q d (s z)⟩],?_,?_,?_⟩
     .rw[mi,<-ab,tj]
     .intro m hm;simp only[mem_append,mem_singleton]at hm⊢;rcases hm with hm|rfl
      .exact⟨.inr (ae m hm).1,(ae m hm).2⟩
      .exact⟨.inl bZ,uX q _ _ _ k5 (.inr b1) λe=>(b1 e).elim⟩
     .intro aB ad;have aR:=az aB ad.right;simp only at aR;simp only[iV,aR,E7 ad.left,hl,ad.left z bZ,k5];cases d<;>first|(simp only[if_pos an,Option.map_some,mi,tj];done)|exact(mM _ rfl).elim
    .cases h
   .cases h
 .cases h
theorem Tt {fl ao:Option I} {av:I} (h:h9 C s T x fl ao=some (av,s1)):Loc x.ad x.ad (λs=>h9 C s T x fl ao) s av s1:=by
 cases x with
 |h y q=>
  unfold h9 at h;split at h<;>first|(cases h;done)|skip
  all_goals (rename_i au;try cases au)
  rename_i e ax;split at h
  .rename_i sz xs fj;split at h
   .rename_i b nX nY;split at h
    .rename_i an;split at h
     .rename_i d s2 a8;simp only[Option.some.injEq,Prod.mk.injEq]at h;obtain⟨rfl,rfl⟩:=h;obtain⟨ms,ab,ae,az⟩:=r4 a8;refine⟨ms,ab,ae,λaB ad=>?_⟩;have:=az aB ad;simp only at this;have aR:aB y=s y:=ad y (by simp[I.ad]);simp only[h9,ax,aR,fj,nX,nY,if_pos an,this]
     .cases h
    .cases h
   .cases h
  .cases h
 |_=>
  have qX:s1=s:=by
   unfold h9 at h
   repeat' split at h
   all_goals first|(cases h;done)|(simp only[Option.some.injEq,Prod.mk.injEq]at h;exact h.2.symm)|simp_all
  subst qX;refine .pure λaB _=>?_;unfold h9 at h⊢
  repeat' split at h
  all_goals first
   |(cases h;done)
   |(simp only[Option.some.injEq,Prod.mk.injEq]at h
     obtain⟨rfl,_⟩:=h;simp_all)
def pX (C:ca) (e:TypeId) (s:aw):I->Option (I×aw)
 | .bd=>some (I.ag (C.T e).sz [],s)
 | .h a q=>cV s (.h a q)
 |_=>none
def ly (s1:aw):I->Option (alW×aw)
 | .bd=>some ([],s1)
 | .slice ys=>some (ys,s1)
 | .str l=>some (l.map k6,s1)
 | .h a q=>match cV s1 (.h a q)with
   |some (.ag _ ys,s2)=>some (ys,s2)
   |_=>none
 |_=>none
theorem E_ (C:ca) (s:aw) (T c8:TypeId) (x y:I):qV C s T c8 x y=(match(C.T T).k with
 | .slice e=>if(C.T e).ok=true/\(C.T e).zero.wd=(C.T e).sz/\(flat (C.T e).zero).isSome=true/\A5 C e c8=true then
   match pX C e s x with
   |some (.ag sz xs,s1)=>if sz=(C.T e).sz then
     match ly s1 (kI x.owner y)with
     |some (ys,s2)=>if(∀d∈ys,d.wd=(C.T e).sz)/\(xs.length+ys.length)*(C.T e).bytes<=140737488355328/\xs.length+ys.length<=9223372036854775807 then some (.ag sz (xs++ys),s2)else none
     |none=>none
    else none
   |_=>none
   else none
 |_=>none):=by
 unfold qV;generalize kI x.owner y=lU;cases(C.T T).k<;>first
  |rfl
  |(cases x<;>cases lU<;>rfl)
theorem Tu {e:TypeId} {d:I} (ab:pX C e s x=some (d,s1)):Loc x.ad x.ad (λs=>pX C e s x) s d s1:=by
 cases x with
 |bd=>
  simp only[pX,Option.some.injEq,Prod.mk.injEq]at ab;obtain⟨ab,rfl⟩:=ab;exact .pure λaB _=>by simp only[pX,ab]
 |h a q=>exact r4 ab
 |_=>simp[pX]at ab
theorem Tv {ys:alW} (ae:ly s y=some (ys,s1)):Loc y.ad y.ad (λs=>ly s y) s ys s1:=by
 cases y with
 |bd=>
  simp only[ly,Option.some.injEq,Prod.mk.injEq]at ae;obtain⟨rfl,rfl⟩:=ae;exact .pure λaB _=>rfl
 |slice ys=>
  simp only[ly,Option.some.injEq,Prod.mk.injEq]at ae;obtain⟨rfl,rfl⟩:=ae;exact .pure λaB _=>rfl
 |str l=>
  simp only[ly,Option.some.injEq,Prod.mk.injEq]at ae;obtain⟨rfl,rfl⟩:=ae;exact .pure λaB _=>rfl
 |h a q=>
  simp only[ly]at ae;split at ae
  .rename_i SJ aj1 kt a8;simp only[Option.some.injEq,Prod.mk.injEq]at ae;obtain⟨rfl,rfl⟩:=ae;obtain⟨ms,g1,g2,g3⟩:=r4 a8;refine⟨ms,g1,g2,λaB ad=>?_⟩;have:=g3 aB ad;simp only at this;simp only[ly,this]
  .cases ae
 |_=>simp[ly]at ae
theorem Tw {av:I} (h:qV C s T A x y=some (av,s1)):Loc (x.ad++y.ad) (x.ad++y.ad) (λs=>qV C s T A x y) s av s1:=by
 rw[E_]at h;split at h
 .rename_i e ax;split at h
  .rename_i an;split at h
   .rename_i sz xs s2 ab;split at h
    .rename_i ea;split at h
     .rename_i ys n8 ae;split at h
      .rename_i mI;simp only[Option.some.injEq,Prod.mk.injEq]at h;obtain⟨rfl,rfl⟩:=h;obtain⟨oN,rfl,a2,a3⟩:=Tu ab;obtain⟨r3,rfl,hz,jQ⟩:=(Tv ae).mono (E9 _ _) (E9 _ _);refine⟨oN++r3,(mi _ _ _).symm,?_,?_⟩
       .intro m hm;simp only[mem_append]at hm⊢;rcases hm with hm|hm
        .exact⟨.inl (a2 m hm).1,(a2 m hm).2⟩
        .exact⟨.inr (hz m hm).1,(hz m hm).2⟩
       .intro aB ad;have aR:=a3 aB ad.left;have aV:=jQ (dJ oN aB) (ad.right.dJ oN);simp only at aR aV;simp only[E_,ax,if_pos an,aR,if_pos ea,aV,if_pos mI,mi]
      .cases h
     .cases h
    .cases h
   .cases h
  .cases h
 .cases h
theorem Tx {aB:aw} {i:I} (h:dH x.ad aB s):n3 C aB T x i=n3 C s T x i:=by
 cases x with
 |h y q=>cases i<;>simp only[n3,h y (by simp[I.ad])]
 |_=>rfl
theorem Ty {i v:I} {s2:aw} (h:mK C s T x i v=some s2):Loc x.ad x.ad (λs=>(mK C s T x i v).map λs1=>(I.hole,s1)) s .hole s2:=by
 unfold mK at h;split at h
 .rename_i y q k b;split at h
  .rename_i m ai;split at h
   .rename_i iO;simp only[Option.some.injEq]at h;subst h;refine⟨[⟨.cb,y,I.put q (.dS (.mp (pG k b m))) (s y)⟩],tj _ _ _,?_,λaB ad=>?_⟩
    .intro n aS;simp only[mem_singleton]at aS;subst aS;exact⟨by simp[I.ad],uX q _ _ _ ai (.inl rfl) λ_=>rfl⟩
    .have aR:aB y=s y:=ad y (by simp[I.ad]);simp only[mK,aR,ai,iO,if_true,Option.map_some];rw[<-tj]
   .cases h
  .cases h
 .cases h
theorem LI {bV:ed} {av:I} (h:b8 C s bV=some (av,s1)):Loc (use s bV) (oM s bV) (λs=>b8 C s bV) s av s1:=by
 cases bV with
 |shr bV=>simp[b8]at h
 |ks f args L=>simp[b8]at h
 |ns x=>
  simp only[b8,Option.some.injEq,Prod.mk.injEq]at h;obtain⟨rfl,rfl⟩:=h;exact .pure λaB ad=>by simp only[b8,bk.fM (x:=x) ad]
 |jM T x=>
  obtain⟨ms,ab,ae,az⟩:=Tr h;refine⟨ms,ab,ae,λaB ad=>?_⟩;simp only[b8,bk.fM (x:=x) ad];exact az aB (dH.bu ad)
 |bad=>simp[b8]at h
 |pV ha x y=>
  simp only[b8,Option.map_eq_some_iff,Prod.mk.injEq]at h;obtain⟨d,ai,rfl,rfl⟩:=h;exact .pure λaB ad=>by
   simp only[use]at ad;simp only[b8,bk.fM (x:=x) ad.left,bk.fM (x:=y) ad.right,ai,Option.map_some]
 |cap T x=>
  simp only[b8]at h;split at h
  .rename_i e ax au;simp only[Option.some.injEq,Prod.mk.injEq]at h;obtain⟨rfl,rfl⟩:=h;exact .pure λaB ad=>by simp only[b8,bk.fM (x:=x) ad,ax,au]
  .cases h
 |hB x=>
  simp only[b8,Option.some.injEq,Prod.mk.injEq]at h;obtain⟨rfl,rfl⟩:=h;exact .pure λaB ad=>by simp only[b8,bk.fM (x:=x) ad]
 |lx x=>
  simp only[b8]at h;split at h
  .rename_i y q au;obtain⟨ms,ab,ae,az⟩:=r4 h;refine⟨ms,ab,by simpa only[oM,au]using ae,λaB ad=>?_⟩;have e:=bk.fM (x:=x) ad;have aV:=az aB (by rw[<-au];exact dH.bu ad);simp only[b8,e,au];exact aV
  .rename_i Tz;simp only[Option.some.injEq,Prod.mk.injEq]at h;obtain⟨rfl,rfl⟩:=h;refine .pure λaB ad=>?_;have e:=bk.fM (x:=x) ad;simp only[b8,e]
 |pick c a b=>
  simp only[b8]at h;split at h
  .rename_i fH R;simp only[Option.some.injEq,Prod.mk.injEq]at h;obtain⟨rfl,rfl⟩:=h;refine .pure λaB ad=>?_;simp only[use]at ad;simp only[b8,bk.fM (x:=c) ad.left,bk.fM (x:=a) ad.right.left,bk.fM (x:=b) ad.right.right,R]
  .cases h
 |kq T=>
  simp only[b8,Option.map_eq_some_iff,Prod.mk.injEq]at h;obtain⟨d,ai,rfl,rfl⟩:=h;exact .pure λaB ad=>by simp only[b8,ai,Option.map_some]
 |iw T x=>
  obtain⟨ms,ab,ae,az⟩:=Tq h;refine⟨ms,ab,ae,λaB ad=>?_⟩;simp only[b8,bk.fM (x:=x) ad];exact az aB (dH.bu ad)
 |hd T ps=>
  obtain⟨ms,ab,ae,az⟩:=To h;simp only[List.map_map,Function.comp_def]at ae az;refine⟨ms,ab,ae,λaB ad=>?_⟩;simp only[b8,bk.E6 (ps:=ps) ad];refine az aB (ad.sub λu hu=>?_);simp only[use];exact bk.Bd u (by simpa [List.map_map,Function.comp_def]using hu)
 |fa T n ps=>
  obtain⟨ms,ab,ae,az⟩:=Tp h;simp only[List.map_map,Function.comp_def]at ae az;refine⟨ms,ab,ae,λaB ad=>?_⟩;simp only[b8,bk.E6 (ps:=ps) ad];refine az aB (ad.sub λu hu=>?_);simp only[use];exact bk.Bd u (by simpa [List.map_map,Function.comp_def]using hu)
 |fk T x=>
  simp only[b8,Option.map_eq_some_iff,Prod.mk.injEq]at h;obtain⟨d,ai,rfl,rfl⟩:=h;exact .pure λaB ad=>by simp only[b8,bk.fM (x:=x) ad,Td (dH.bu ad),ai,Option.map_some]
 |iV T x y=>
  simp only[b8,Option.map_eq_some_iff,Prod.mk.injEq]at h;obtain⟨s2,ai,rfl,rfl⟩:=h;obtain⟨ms,ab,ae,az⟩:=Ts ai;refine⟨ms,ab,ae,λaB ad=>?_⟩;simp only[use]at ad;simp only[b8,bk.fM (x:=x) ad.left,bk.fM (x:=y) ad.right];exact az aB (ad.sub λu hu=>by simp only[mem_append]at hu⊢;exact hu.imp (bk.tk u) (bk.tk u))
 |kK x=>
  simp only[b8,Option.map_eq_some_iff,Prod.mk.injEq]at h;obtain⟨d,ai,rfl,rfl⟩:=h;exact .pure λaB ad=>by simp only[b8,bk.fM (x:=x) ad,Tl (dH.bu ad),ai,Option.map_some]
 |eU op T x y=>
  simp only[b8,Option.map_eq_some_iff,Prod.mk.injEq]at h;obtain⟨d,ai,rfl,rfl⟩:=h;refine .pure λaB ad=>?_;simp only[use]at ad;simp only[b8,bk.fM (x:=x) ad.left,bk.fM (x:=y) ad.right,Tk (dH.bu ad.left),ai,Option.map_some]
 |un op x=>
  simp only[b8,Option.map_eq_some_iff,Prod.mk.injEq]at h;obtain⟨d,ai,rfl,rfl⟩:=h;exact .pure λaB ad=>by simp only[b8,bk.fM (x:=x) ad,ai,Option.map_some]
 |iX A B x=>
  simp only[b8,Option.map_eq_some_iff,Prod.mk.injEq]at h;obtain⟨d,ai,rfl,rfl⟩:=h;exact .pure λaB ad=>by simp only[b8,bk.fM (x:=x) ad,Th (dH.bu ad),ai,Option.map_some]
 |mL f cs=>
  simp only[b8,Option.some.injEq,Prod.mk.injEq]at h;obtain⟨rfl,rfl⟩:=h;exact .pure λaB ad=>by simp only[b8,bk.E5 (xs:=cs) ad]
 |eK T l c=>
  simp only[b8,Option.map_eq_some_iff,Prod.mk.injEq]at h;obtain⟨d,ai,rfl,rfl⟩:=h;refine .pure λaB ad=>?_;simp only[use]at ad;simp only[b8,bk.fM (x:=l) ad.left,bk.fM (x:=c) ad.right,ai,Option.map_some]
 |h9 T x fl ao=>
  simp only[b8]at h;obtain⟨ms,ab,ae,az⟩:=Tt h;refine⟨ms,ab,ae,λaB ad=>?_⟩;simp only[use]at ad;simp only[b8,bk.fM (x:=x) ad.left,Lz ad.right.left,Lz ad.right.right];exact az aB (dH.bu ad.left)
 |ho T x k=>
  simp only[b8,Option.map_eq_some_iff,Prod.mk.injEq]at h;obtain⟨d,ai,rfl,rfl⟩:=h;exact .pure λaB ad=>by simp only[b8,bk.fM (x:=x) ad,Te (dH.bu ad),ai,Option.map_some]
 |jL T x i=>
  simp only[b8,Option.map_eq_some_iff,Prod.mk.injEq]at h;obtain⟨d,ai,rfl,rfl⟩:=h;refine .pure λaB ad=>?_;simp only[use]at ad;simp only[b8,bk.fM (x:=x) ad.left,bk.fM (x:=i) ad.right,Tf (dH.bu ad.left),ai,Option.map_some]
 |idx T x i=>
  simp only[b8,Option.map_eq_some_iff,Prod.mk.injEq]at h;obtain⟨d,ai,rfl,rfl⟩:=h;refine .pure λaB ad=>?_;simp only[use]at ad;simp only[b8,bk.fM (x:=x) ad.left,bk.fM (x:=i) ad.right,ai,Option.map_some]
 |ex x k=>
  simp only[b8,Option.map_eq_some_iff,Prod.mk.injEq]at h;obtain⟨d,ai,rfl,rfl⟩:=h;exact .pure λaB ad=>by simp only[b8,bk.fM (x:=x) ad,Tn (dH.bu ad),ai,Option.map_some]
 |xF=>
  simp only[b8,Option.some.injEq,Prod.mk.injEq]at h;obtain⟨rfl,rfl⟩:=h;exact .pure λaB ad=>rfl
 |n3 T x i=>
  simp only[b8,Option.map_eq_some_iff,Prod.mk.injEq]at h;obtain⟨d,ai,rfl,rfl⟩:=h;refine .pure λaB ad=>?_;simp only[use]at ad;simp only[b8,bk.fM (x:=x) ad.left,bk.fM (x:=i) ad.right,Tx (dH.bu ad.left),ai,Option.map_some]
 |mK T x i v=>
  simp only[b8,Option.map_eq_some_iff,Prod.mk.injEq]at h;obtain⟨s2,ai,rfl,rfl⟩:=h;obtain⟨ms,ab,ae,az⟩:=Ty ai;refine⟨ms,ab,ae,λaB ad=>?_⟩;simp only[use]at ad;simp only[b8,bk.fM (x:=x) ad.left,bk.fM (x:=i) ad.right.left,bk.fM (x:=v) ad.right.right];exact az aB (dH.bu ad.left)
 |me T x k=>
  simp only[b8,Option.bind_eq_some_iff]at h;obtain⟨d,ai,h⟩:=h;unfold xH at h;split at h
  .rename_i y q;have au:=Tm ai;obtain⟨ms,ab,ae,az⟩:=r4 h;refine⟨ms,ab,by simpa only[oM,au,I.ad]using ae,λaB ad=>?_⟩;have aV:=az aB (by rw[show(I.h y q).ad=(bu s x).ad from au.symm];exact dH.bu ad);simp only[b8,bk.fM (x:=x) ad,LA (dH.bu ad),ai,Option.bind_some,xH];exact aV
  .rename_i Tz;simp only[Option.some.injEq,Prod.mk.injEq]at h;obtain⟨rfl,rfl⟩:=h;refine .pure λaB ad=>?_;simp only[b8,bk.fM (x:=x) ad,LA (dH.bu ad),ai,Option.bind_some,xH]
 |call f args=>simp[b8]at h
 |len T x=>
  simp only[b8,Option.map_eq_some_iff,Prod.mk.injEq]at h;obtain⟨d,ai,rfl,rfl⟩:=h;exact .pure λaB ad=>by simp only[b8,bk.fM (x:=x) ad,Tg (dH.bu ad),ai,Option.map_some]
 |app T c8 x y=>
  obtain⟨ms,ab,ae,az⟩:=Tw h;refine⟨ms,ab,ae,λaB ad=>?_⟩;simp only[use]at ad;simp only[b8,bk.fM (x:=x) ad.left,bk.fM (x:=y) ad.right];exact az aB (ad.sub λu hu=>by simp only[mem_append]at hu⊢;exact hu.imp (bk.tk u) (bk.tk u))
end
mutual
def view (s:aw):I->Option I
 | .h x q=>match I.sub q (s x)with
   |some d=>(match d with| .tuple _=>none| .dS _=>none| .fJ _ _=>none|d=>if d.plain then none else some d.share)
   |none=>none
 | .aq x q=>if I.fD q (s x)then(match I.sub q (s x)with
   |some d=>(match d with| .tuple _=>none|d=>some (.ref d.share))
   |none=>none)else none
 | .R _ _=>none
 | .fn f cap=>(views s cap).map (.fn f)
 | .hole=>none
 |d=>some d
def views (s:aw):alW->Option alW
 |[]=>some []
 |d::ds=>match view s d,views s ds with
  |some a,some b=>some (a::b)
  |_,_=>none
end
mutual
theorem Fa:∀d:I,d.share.plain=true
 | .hole=>rfl
 | .bool _=>rfl
 | .fm=>rfl
 | .int _ _=>rfl
 | .str _=>rfl
 | .dC=>rfl
 | .bd=>rfl
 | .slice _=>rfl
 | .ag _ _=>rfl
 | .ref _=>rfl
 | .bf _=>rfl
 | .agg aE=>by simp only[I.share,I.plain];exact Fb aE
 | .tuple aE=>by simp only[I.share,I.plain];exact Fb aE
 | .fn _ _=>rfl
 | .h _ _=>rfl
 | .aq _ _=>rfl
 | .R _ _=>rfl
 | .dS _=>rfl
 | .fJ _ _=>rfl
theorem Fb:∀ds:alW,I.eg (I.shares ds)=true
 |[]=>rfl
 |d::ds=>by simp only[I.shares,I.eg];rw[Fa d,Fb ds];rfl
end
theorem TA {s:aw} {a d:I} (h:a.plain=true) (he:view s a=some d):d.plain=true:=by
 cases a with
 |h x q=>
  simp only[view]at he;split at he
  .rename_i e fj;cases e<;>simp only at he<;>first
    |(cases he;done)
    |(split at he
      .cases he
      .simp only[Option.some.injEq]at he;subst he;exact Fa _)
  .cases he
 |aq x q=>
  simp only[view]at he;split at he
  .split at he
   .rename_i e fj;cases e<;>simp only at he<;>first
     |(cases he;done)
     |(simp only[Option.some.injEq]at he;subst he;rfl)
   .cases he
  .cases he
 |fn f cap=>
  simp only[view,Option.map_eq_some_iff]at he;obtain⟨ds,_,rfl⟩:=he;rfl
 |hole=>simp[view]at he
 |R y q=>simp[view]at he
 |_=>simp only[view,Option.some.injEq]at he;subst he;exact h
theorem Fe {d:I} {v:Value} (ab:∀vs,d≠.tuple vs) (h:dD d v):dD d.share v:=by
 cases d<;>first|exact h|exact(ab _ rfl).elim
theorem TB (w:World):∀(q:alR) (av d bg:I) (cs cQ:alU) (a cL:Option (Nat×Nat)),I.sub q av=some d->bg.wd=d.wd->du w q av cs a=some (d,cQ,cL)->
  du w q (I.put q bg av) cs a=some (bg,cQ,cL):=by
 intro q;induction q with
 |nil=>
  intro av d bg cs cQ a cL ai hw h;simp only[du,Option.some.injEq,Prod.mk.injEq]at h;obtain⟨rfl,rfl,rfl⟩:=h;simp only[I.put,du]
 |cons k q ih=>
  intro av d bg cs cQ a cL ai hw h;cases av with
  |agg aE=>
   simp only[I.sub]at ai;split at ai
   .rename_i x au;have ax:k<aE.length:=(List.getElem?_eq_some_iff.1 au).1;simp only[du,au]at h;simp only[I.put,au,du];rw[getElem?_set_self ax];simp only[take_set_of_le (Nat.le_refl k),I.uG q x d bg ai hw];exact ih _ _ _ _ _ _ _ ai hw h
   .cases ai
  |tuple aE=>
   simp only[I.sub]at ai;split at ai
   .rename_i x au;have ax:k<aE.length:=(List.getElem?_eq_some_iff.1 au).1;simp only[du,au]at h;simp only[I.put,au,du];rw[getElem?_set_self ax];simp only[take_set_of_le (Nat.le_refl k),I.uG q x d bg ai hw];exact ih _ _ _ _ _ _ _ ai hw h
   .cases ai
  |ag sz aE=>
   simp only[I.sub]at ai;split at ai
   .rename_i x au;have ax:k<aE.length:=(List.getElem?_eq_some_iff.1 au).1;have jP:(aE.set k (I.put q bg x))[k]? =some (I.put q bg x):=getElem?_set_self ax;simp only[I.put,au];rw[du.eq_def]at h⊢;simp only[au]at h;simp only;rw[jP];split at h
    .rename_i aR;simp only[Option.some.injEq]at aR;subst aR;exact ih _ _ _ _ _ _ _ ai hw h
    .cases h
   .cases ai
  |bf x=>
   cases k with
   |zero=>
    simp only[I.sub]at ai;rw[du.eq_def]at h⊢;simp only at h;simp only[I.put];split at h
    .rw[I.uG q x d bg ai hw];exact ih _ _ _ _ _ _ _ ai hw h
    .cases h
   |succ k=>simp[I.sub]at ai
  |_=>simp[I.sub]at ai
section
variable {w0 w aF:World} {F0 X F Fc:Nat->Prop} {S:Nat->Nat->Prop} {s aB:aw} {aC hG:Nat->Value}
theorem TC (h:bD w0 F0 X F S s aC w) (bh:∀b,F b->Fc b):∀n,
  (∀(a:I) (v:Value) (d:I),SizeOf.sizeOf a<=n->(∀t∈a.ad,∀b,S t b->Fc b)->view s a=some d->aH w F s aC a v (λ_=>False)->aH w Fc aB hG d v (λ_=>False))/\
  (∀(as:alW) (vs:alU) (ds:alW),SizeOf.sizeOf as<=n->(∀t∈I.dQ as,∀b,S t b->Fc b)->views s as=some ds->d_ w F s aC as vs->d_ w Fc aB hG ds vs):=by
 intro n;induction n with
 |zero=>exact⟨λa _ _ bZ=>by cases a<;>simp at bZ<;>omega,λas _ _ bZ=>by cases as<;>simp at bZ<;>omega⟩
 |succ n ih=>
  refine⟨λa v d bZ bK he aJ=>?_,λas vs ds bZ bK he aJ=>?_⟩
  .cases a with
   |h x q=>
    simp only[view]at he;split at he
    .rename_i e fj;have key:(∀aE,e≠.tuple aE)/\e.plain=false/\d=e.share/\(∀o,e≠.dS o)/\∀f c,e≠.fJ f c:=by
      cases e<;>simp only at he<;>first
       |(cases he;done)
       |(split at he
         .cases he
         .rename_i fI;simp only[Option.some.injEq]at he;exact⟨(λ_ h=>by cases h),by simpa using fI,he.symm,(λ_ h=>by cases h),λ_ _ h=>by cases h⟩)
     obtain⟨mM,fI,rfl,lS,Ff⟩:=key;rw[aH]at aJ;obtain⟨cQ,cL,g1,g2,g3⟩:=aJ e fj fI;have a8:=h0 fj (.inl fI);have au:=(aH.cv a8).1 (h.dp x);obtain⟨fT,a2,eh,fo,k0,b3,cc,eT,dL,fp⟩:=ctx q (s x) (cj (aC x)) (S x) none e au.2 fj;rw[g1]at k0;simp only[Option.some.injEq,Prod.mk.injEq,true_and]at k0;obtain⟨rfl,rfl⟩:=k0;have Ev:e.share.tree=true:=by cases e<;>first|rfl|(simp[I.plain]at fI;done)|exact(lS _ rfl).elim|exact(Ff _ _ rfl).elim
     have aM:=ar.shared bh e cQ fo (λb R=>bK x (by simp[I.ad]) b (cc b R)) dL;exact(aH.cv Ev).2 ⟨Fe mM g3,by rw[g2];exact aM⟩
    .cases he
   |aq x q=>
    simp only[view]at he;split at he
    .rename_i oC;split at he
     .rename_i e fj;have key:(∀aE,e≠.tuple aE)/\d= .ref e.share:=by
       cases e<;>simp only at he<;>first
        |(cases he;done)
        |(simp only[Option.some.injEq]at he;exact⟨(λ_ h=>by cases h),he.symm⟩)
      obtain⟨mM,rfl⟩:=key;rw[aH]at aJ;obtain⟨cQ,b,o,g1,rfl⟩:=aJ e fj oC;have a8:=h0 fj (.inr oC);have au:=(aH.cv a8).1 (h.dp x);obtain⟨fT,a2,eh,fo,k0,b3,cc,eT,dL,fp⟩:=ctx q (s x) (cj (aC x)) (S x) none e au.2 fj;rw[g1]at k0;simp only[Option.some.injEq,Prod.mk.injEq,true_and]at k0;obtain⟨rfl,rfl⟩:=k0;have aM:=ar.shared bh e cQ fo (λb R=>bK x (by simp[I.ad]) b (cc b R)) dL;rcases fp with⟨l,r,_,aV,_⟩|⟨fH,cur,ty,fr,l,r,aR,aV,aW,cm,cC,_⟩
      .simp at aV
      .simp only[Option.some.injEq,Prod.mk.injEq]at aR;obtain⟨rfl,rfl⟩:=aR;refine(aH.cv rfl).2 ⟨rfl,?_⟩;rw[ar];refine⟨b,l.length,cQ,rfl,bK x (by simp[I.ad]) b (b3 b aV),?_,aM⟩;intro j c bm;simp only[World.cell?,aW];have an:cur[l.length+j]? =some c:=by
        rw[<-Array.getElem?_toList,cC,getElem?_append_right (by omega),getElem?_append_left (by
         have:=(List.getElem?_eq_some_iff.1 bm).1;omega)]
        rw[<-bm];congr 1;omega
       simpa using an
     .cases he
    .cases he
   |fn f cap=>
    simp only[view,Option.map_eq_some_iff]at he;obtain⟨ds,hf,rfl⟩:=he;rw[aH]at aJ;obtain⟨arr,rfl,an⟩:=aJ;rw[aH];exact⟨arr,rfl,ih.2 cap _ _ (by simp at bZ;omega) (by simpa [I.ad]using bK) hf an⟩
   |hole=>simp[view]at he
   |R y q=>simp[view]at he
   |_=>
    simp only[view,Option.some.injEq]at he;subst he;have mc:=(aH.cv rfl).1 aJ;exact(aH.cv rfl).2 ⟨mc.1,ar.mono bh _ _ _ _ (λ_ h=>h) mc.2⟩
  .cases as with
   |nil=>
    simp only[views,Option.some.injEq]at he;subst he;rw[d_]at aJ⊢;exact aJ
   |cons a as=>
    simp only[views]at he;split at he
    .rename_i d ds ab ae;simp only[Option.some.injEq]at he;subst he;rw[d_]at aJ⊢;obtain⟨v,jI,rfl,g1,g2⟩:=aJ;simp at bZ;simp only[I.dQ,mem_append]at bK;exact⟨v,jI,rfl,ih.1 a v d (by omega) (λt a8=>bK t (.inl a8)) ab g1,ih.2 as jI ds (by omega) (λt a8=>bK t (.inr a8)) ae g2⟩
    .cases he
theorem bD.iP (h:bD w0 F0 X F S s aC w) {x:Nat} {q:alR} {d0 bg:I} {cQ:alU} {a:Option (Nat×Nat)} {Sn:Nat->Prop}
  (ai:I.sub q (s x)=some d0) (bo:du w q (s x) (cj (aC x)) none=some (d0,cQ,a)) (ae:∀vs,bg≠.tuple vs) (a8:q=[]->bg.tree=true/\dD bg (aC x))
  (az:∀k p,q=k::p->(s x).tree=true/\(∀v,iv d0 v->iv bg v)) (hw:bg.wd=d0.wd)
  (aJ:ar w F bg cQ Sn) (dv:∀b,Sn b->b<w.heap.size) (bh:∀b,Sn b->¬F b) (bK:∀u b,Sn b->¬S u b) (aX:∀b,Sn b->X b\/w0.heap.size<=b):
  bD w0 F0 X F (fV S x (λb=>S x b\/Sn b)) (dq (lQ x s) x (I.put q bg (s x))) aC w:=by
 have el:dq aC x (aC x)=aC:=by funext u;simp only[dq];split<;>simp_all
 have main:(I.put q bg (s x)).tree=true/\dD (I.put q bg (s x)) (aC x)/\ar w F (I.put q bg (s x)) (cj (aC x)) (λb=>S x b\/Sn b):=by
  cases q with
  |nil=>
   simp only[du,Option.some.injEq,Prod.mk.injEq]at bo;obtain⟨aR,aV,aW⟩:=bo;obtain⟨g1,g2⟩:=a8 rfl;simp only[I.put];refine⟨g1,?_,?_⟩
   .exact g2
   .rw[aV];exact ar.mono (λ_ h=>h) _ _ _ _ (λb R=>.inr R) aJ
  |cons k p=>
   obtain⟨g1,g2⟩:=az k p rfl;have au:=(aH.cv g1).1 (h.dp x);obtain⟨fT,a2,eh,fo,k0,b3,cc,eT,dL,fp⟩:=ctx (k::p) (s x) (cj (aC x)) (S x) none d0 au.2 ai;rw[bo]at k0;simp only[Option.some.injEq,Prod.mk.injEq,true_and]at k0;obtain⟨rfl,rfl⟩:=k0;refine⟨?_,?_,?_⟩
   .rcases rS k p bg (s x)with⟨aE,gs,aR,e⟩|⟨aE,gs,aR,e⟩|⟨sz,xs,ys,aR,e⟩|⟨y,z,aR,e⟩|e<;>rw[e]<;>first|rfl|exact g1
   .refine xe au.1 ai g2 (λ_ vs e=>(ae vs e).elim) hw
   .have mono:∀b,(eh b\/Sn b)->(S x b\/Sn b):=λb R=>R.imp (b3 b) id;rcases fp with⟨l,r,aR,aV,aW⟩|⟨b,cur,ty,fr,l,r,aR,aV,aW,cm,cC,b7⟩
    .rw[aR];exact ar.mono (λ_ h=>h) _ _ _ _ mono (aW w bg cQ Sn (λ_ _=>rfl) (λ_ _=>rfl) hw aJ (λb R an=>bK x b R (b3 b an)))
    .refine ar.mono (λ_ h=>h) _ _ _ _ mono (b7 w bg cQ Sn (λ_ _=>rfl) (λ_ _ _=>rfl) ?_ hw aJ (λb R an=>bK x b R (b3 b an)));rw[aW,<-cC]
 have:=h.Kr (t:=x) main.1 main.2.1 main.2.2 (by rintro b (R|R);exact h.dW x b R;exact dv b R) (by rintro b (R|R);exact h.fb x b R;exact bh b R)
  (by rintro u b cY (R|R);exact λhu=>h.e_ u x b cY hu R;exact bK u b R) (by rintro b (R|R);exact h.dx x b R;exact aX b R)
 rwa [el]at this
end
mutual
def I.cS:I->Bool
 | .slice _=>false
 | .ref _=>false
 | .fn _ _=>false
 | .h _ _=>false
 | .aq _ _=>false
 | .R _ _=>false
 | .ag _ xs=>I.hg xs
 | .bf d=>d.cS
 | .agg aE=>I.hg aE
 | .tuple aE=>I.hg aE
 | .fJ _ aE=>I.hg aE
 |_=>true
def I.hg:alW->Bool
 |[]=>true
 |d::ds=>d.cS&&I.hg ds
end
mutual
theorem ar.cS {w:World} {F bO:Nat->Prop}:∀(d:I) (cs:alU) (S:Nat->Prop),d.cS=true->ar w F d cs S->ar w bO d cs S
 | .hole,_,_,_,h=>h
 | .bool _,_,_,_,h=>h
 | .fm,_,_,_,h=>h
 | .int _ _,_,_,_,h=>h
 | .str _,_,_,_,h=>h
 | .dC,_,_,_,h=>h
 | .bd,_,_,_,h=>h
 | .slice xs,cs,S,aS,h=>by simp[I.cS]at aS
 | .ref d,cs,S,aS,h=>by simp[I.cS]at aS
 | .ag sz xs,cs,S,aS,h=>by
   rw[ar]at h⊢;rcases h with h|⟨b,cap,cur,e,fr,aN,ab,ae,az,a6,bF,cP,cB,fS,iE,iT,k3⟩
   .exact .inl h
   .exact .inr ⟨b,cap,cur,e,fr,aN,ab,ae,az,a6,bF,cP,cB,fS,a1.cS xs _ _ aS iE,iT,k3⟩
 | .bf d,cs,S,aS,h=>by
   rw[ar]at h⊢;obtain⟨b,cur,e,fr,aN,ab,ae,az,a6,bF,cP,cB⟩:=h;exact⟨b,cur,e,fr,aN,ab,ae,az,a6,ar.cS d _ _ aS bF,cP,cB⟩
 | .agg aE,cs,S,aS,h=>by rw[ar]at h⊢;exact a1.cS aE _ _ aS h
 | .tuple aE,cs,S,aS,h=>by rw[ar]at h⊢;exact a1.cS aE _ _ aS h
 | .fn _ _,_,_,aS,h=>by simp[I.cS]at aS
 | .h _ _,_,_,_,h=>h
 | .aq _ _,_,_,_,h=>h
 | .R _ _,_,_,_,h=>h
 | .dS _,_,_,_,h=>h
 | .fJ _ caps,cs,S,aS,h=>by
   rw[ar]at h⊢;obtain⟨arr,ab,ae,az⟩:=h;exact⟨arr,ab,ae,a1.cS caps _ _ aS az⟩
theorem a1.cS {w:World} {F bO:Nat->Prop}:∀(ds:alW) (cs:alU) (S:Nat->Prop),I.hg ds=true->a1 w F ds cs S->a1 w bO ds cs S
 |[],_,_,_,h=>h
 |d::ds,cs,S,aS,h=>by
  simp only[I.hg,Bool.and_eq_true]at aS;rw[a1]at h⊢;obtain⟨c1,c2,b5,dg,ab,ae,az,a6,bF,cP⟩:=h;exact⟨c1,c2,b5,dg,ab,ar.cS d _ _ aS.1 ae,a1.cS ds _ _ aS.2 az,a6,bF,cP⟩
end
theorem LJ:∀(q:alR) (av d e:I),I.sub q av=some d->I.sub q (I.put q e av)=some e:=by
 intro q;induction q with
 |nil=>intro av d e _;simp[I.put,I.sub]
 |cons k q ih=>
  intro av d e h;cases av with
  |agg aE=>
   simp only[I.sub]at h;split at h
   .rename_i x au;have ax:k<aE.length:=(List.getElem?_eq_some_iff.1 au).1;simp only[I.put,au,I.sub,getElem?_set_self ax];exact ih _ _ _ h
   .cases h
  |tuple aE=>
   simp only[I.sub]at h;split at h
   .rename_i x au;have ax:k<aE.length:=(List.getElem?_eq_some_iff.1 au).1;simp only[I.put,au,I.sub,getElem?_set_self ax];exact ih _ _ _ h
   .cases h
  |ag sz aE=>
   simp only[I.sub]at h;split at h
   .rename_i x au;have ax:k<aE.length:=(List.getElem?_eq_some_iff.1 au).1;simp only[I.put,au,I.sub,getElem?_set_self ax];exact ih _ _ _ h
   .cases h
  |bf x=>
   cases k with
   |zero=>simp only[I.sub]at h;simp only[I.put,I.sub];exact ih _ _ _ h
   |succ k=>simp[I.sub]at h
  |_=>simp[I.sub]at h
structure cD where
 a:I
 g:Bool
 d:I
 o:I
def I.own:I->Bool
 | .ag _ _=>true
 | .bf _=>true
 |_=>false
def I.gv:I->Bool
 | .ag _ _=>true
 | .bf _=>true
 | .dS _=>true
 | .fJ _ _=>true
 | .agg aE=> !I.eg aE
 |_=>false
def r5 (d o:I):Bool:=match d,o with
 | .agg a,.agg b=>I.ef a==I.ef b
 | .agg _,_=>false
 |_,.agg _=>false
 |_,_=>true
theorem qY {d:I} (h:d.gv=true):d.plain=false/\d.tree=true/\∀vs,d≠.tuple vs:=by
 cases d<;>simp[I.gv]at h<;>first|exact⟨rfl,rfl,λvs e=>by cases e⟩|exact⟨by simp only[I.plain];exact h,rfl,λvs e=>by cases e⟩
theorem TD {d o:I} (h:d.gv=true) (bE:o.gv=true) (hl:r5 d o=true):o.wd=d.wd/\(∀v,dD d v->dD o v)/\∀v,iv d.c_ v->iv o v:=by
 cases d<;>simp[I.gv]at h<;>cases o<;>simp[I.gv]at bE<;>simp[r5]at hl<;>first
  |exact⟨rfl,λ_ h=>h,λ_ h=>h⟩
  |exact⟨by simp only[I.wd];exact hl.symm,λ_ h=>h,λ_ h=>h⟩
def cD.ok (s:aw) (p:cD):Prop:=
 if p.g then(match p.a with| .h x q=>I.sub q (s x)=some p.d/\p.d.gv=true/\(p.o= .hole\/(p.o.gv=true/\r5 p.d p.o=true))|_=>False)
 else view s p.a=some p.d
def ia:List cD->Bool
 |[]=>true
 |p::r=>(r.all λcE=> !(p.g||cE.g)||(p.a.ad.all λu=> !cE.a.ad.contains u))&&ia r
def cD.take (s:aw) (p:cD):aw:=
 if p.g then(match p.a with| .h x q=>dq (h7 x s) x (I.put q p.d.c_ (s x))|_=>s)else s
def cD.iP (s:aw) (p:cD):aw:=
 if p.g then(match p.a,p.o with|_,.hole=>s| .h x q,o=>dq (lQ x s) x (I.put q o (s x))|_,_=>s)else s
def e3 (s:aw) (ps:List cD):aw:=ps.foldl cD.take s
def hp (s:aw) (ps:List cD):aw:=ps.foldl cD.iP s
section
variable {w0 w aF:World} {F0 X F Fc:Nat->Prop} {S:Nat->Nat->Prop} {s aB:aw} {aC hG:Nat->Value}
def TE (w:World) (F:Nat->Prop) (s1:aw) (aC:Nat->Value) (p:cD) (v:Value) (Sn:Nat->Prop):Prop:=
 ∃x q a0,p.a= .h x q/\I.sub q (s1 x)=some p.d.c_/\du w q (s1 x) (cj (aC x)) none=some (p.d.c_,cj v,a0)/\(s1 x).ad=[]/\(q=[]->dD p.d (aC x))/\(q≠[]->(s1 x).tree=true)/\
  dD p.d v/\ar w F p.d (cj v) Sn
theorem TF {p:cD} {x:Nat} (h:(s x).ad=[]) (aq:p.g=true->x∉p.a.ad):cD.take s p x=s x:=by
 unfold cD.take;split
 .rename_i bR;cases cg:p.a with
  |h y q=>
   have:x≠y:=by
    have:=aq bR;rw[cg]at this;simpa [I.ad]using this
   simp only;rw[je _ _ this];exact xL _ (by rw[h];simp)
  |_=>rfl
 .rfl
theorem Fg:∀{ps:List cD} {s:aw} {x:Nat},(s x).ad=[]->(∀p∈ps,p.g=true->x∉p.a.ad)->e3 s ps x=s x:=by
 intro ps;induction ps with
 |nil=>intros;rfl
 |cons p ps ih=>
  intro s x h aq;have e:=TF (s:=s) (p:=p) h (aq p (by simp));show e3 (cD.take s p) ps x=s x;rw[ih (by rw[e];exact h) (λcE eH=>aq cE (by simp[eH])),e]
theorem tl {d:I} (h:d.own=true):d.plain=false/\d.tree=true/\d.c_= .hole/\d.one=true/\d.wd=1/\(∀v,dD d v↔Value.fK v=true):=by
 cases d<;>simp[I.own]at h<;>exact⟨rfl,rfl,rfl,rfl,rfl,λv=>Iff.rfl⟩
theorem TG:∀(ps:List cD) (vs:alU) (s:aw) (S:Nat->Nat->Prop),bD w0 F0 X F S s aC w->ps.length=vs.length->
  (∀(i:Nat) (p:cD) (v:Value),ps[i]? =some p->vs[i]? =some v->p.a.plain=true/\aH w F s aC p.a v (λ_=>False)/\(p.g=true->p.ok s))->ia ps=true->
  ∃(Sn b5:Nat->Nat->Prop),bD w0 F0 X F b5 (e3 s ps) aC w/\(∀u b,b5 u b->S u b)/\
   (∀(i:Nat) (p:cD) (v:Value),ps[i]? =some p->vs[i]? =some v->p.g=true->TE w F (e3 s ps) aC p v (Sn i))/\
   (∀i b,Sn i b->∃p,ps[i]? =some p/\p.g=true)/\
   (∀i b,Sn i b->∃u,S u b)/\(∀i u b,Sn i b->¬b5 u b)/\(∀i j b,i≠j->Sn i b->¬Sn j b)/\
   (∀(bg:I) (ga:Value) (aN:Nat->Prop),(∀p∈ps,p.g=true->∀u∈p.a.ad,u∉bg.ad)->aH w F s aC bg ga aN->aH w F (e3 s ps) aC bg ga aN):=by
 intro ps;induction ps with
 |nil=>
  intro vs s S h hl _ _;exact⟨λ_ _=>False,S,h,λ_ _ h=>h,λi p v aq=>by simp at aq,λ_ _ h=>h.elim,λ_ _ h=>h.elim,λ_ _ _ h=>h.elim,λ_ _ _ _ h=>h.elim,λ_ _ _ _ h=>h⟩
 |cons p ps ih=>
  intro vs s S h hl xC kr;cases vs with
  |nil=>simp at hl
  |cons v vs=>
   simp only[length_cons,Nat.add_right_cancel_iff]at hl;simp only[ia,Bool.and_eq_true,List.all_eq_true,Bool.or_eq_true,Bool.not_eq_true']at kr;obtain⟨oO,n9⟩:=kr;have uZ:∀cE∈ps,(p.g=true\/cE.g=true)->∀u∈p.a.ad,u∉cE.a.ad:=by
    intro cE eH bR u hu;rcases oO cE eH with e|e
    .rcases bR with bR|bR<;>simp[bR]at e
    .simpa using e u hu
   obtain⟨f1,f2,f3⟩:=xC 0 p v rfl rfl;cases bR:p.g with
   |false=>
    have gr:cD.take s p=s:=by simp[cD.take,bR]
    obtain⟨Sn,b5,g1,g2,g3,g4,g5,g6,g7,g8⟩:=ih vs s S h hl (λi cE ga aq aJ=>xC (i+1) cE ga (by simpa using aq) (by simpa using aJ)) n9;have aR:e3 s (p::ps)=e3 s ps:=by show e3 (cD.take s p) ps=_;rw[gr]
    rw[aR];refine⟨λi=>match i with|0=>λ_=>False|i+1=>Sn i,b5,g1,g2,?_,?_,?_,?_,?_,λbg ga aN ai=>g8 bg ga aN λcE eH=>ai cE (by simp[eH])⟩
    .intro i cE ga aq aJ hJ;cases i with
     |zero=>simp at aq;subst aq;rw[bR]at hJ;cases hJ
     |succ i=>exact g3 i cE ga (by simpa using aq) (by simpa using aJ) hJ
    .intro i b R;cases i with
     |zero=>exact R.elim
     |succ i=>simpa using g4 i b R
    .intro i b R;cases i with
     |zero=>exact R.elim
     |succ i=>exact g5 i b R
    .intro i u b R;cases i with
     |zero=>exact R.elim
     |succ i=>exact g6 i u b R
    .intro i j b cY ao bm;cases i with
     |zero=>exact ao.elim
     |succ i=>
      cases j with
      |zero=>exact bm.elim
      |succ j=>exact g7 i j b (by omega) ao bm
   |true=>
    have fq:=f3 bR;simp only[cD.ok,bR,if_true]at fq;split at fq
    .rename_i x q cg;obtain⟨fj,xN,s0⟩:=fq;obtain⟨lY,j4,oP⟩:=qY xN;have TH:cV s p.a=some (p.d,dq (h7 x s) x (I.put q p.d.c_ (s x))):=by
      rw[cg];simp only[cV,fj,lY];rfl
     obtain⟨b5,t1,t2,t3,TI,t4,t5,t6,t7,t8,t9,t10,t11⟩:=pJ h f1 f2 TH;have gr:cD.take s p=dq (h7 x s) x (I.put q p.d.c_ (s x)):=by simp[cD.take,bR,cg]
     have kL:∀cE∈ps,x∉cE.a.ad:=λcE eH=>uZ cE eH (.inl bR) x (by rw[cg];simp[I.ad]);have Fh:cD.take s p x=I.put q p.d.c_ (s x):=by rw[gr,lR]
     have Be:(cD.take s p x).ad=[]:=by
      rw[Fh];exact uX q _ _ _ fj (.inl lY) (λ_=>by cases ai:p.d<;>first|rfl|(rw[ai]at xN;simp[I.gv]at xN))
     obtain⟨Sn,dg,g1,g2,g3,g4,g5,g6,g7,g8⟩:=ih vs (cD.take s p) b5 (by rw[gr];exact t1) hl (by
      intro i cE ga aq aJ;obtain⟨b3,cc,eT⟩:=xC (i+1) cE ga (by simpa using aq) (by simpa using aJ);have hm:cE∈ps:=mem_of_getElem? aq;refine⟨b3,?_,?_⟩
      .have:=t11 _ _ _ cc;rw[cg]at this;rw[gr];simp only[I.owner,kI]at this
       rwa [xL _ (kL cE hm)]at this
      .intro hJ;have:=eT hJ;simp only[cD.ok,hJ,if_true]at this⊢;split at this
       .rename_i y iU tm;have cY:y≠x:=λe=>kL cE hm (by rw[tm,e];simp[I.ad]);rw[gr,je _ _ cY];have a8:=h0 this.1 (.inl (qY this.2.1).1);simp only[h7,Em a8];exact this
       .exact this.elim) n9
     have aR:e3 s (p::ps)=e3 (cD.take s p) ps:=rfl;have n_:e3 (cD.take s p) ps x=I.put q p.d.c_ (s x):=by
      rw[Fg Be (λcE eH _=>kL cE eH),Fh]
     rw[aR];refine⟨λi=>match i with|0=>TI|i+1=>Sn i,dg,g1,λu b R=>t9 u b (g2 u b R),?_,?_,?_,?_,?_,?_⟩
     rotate_left 5
     .intro bg ga aN ai ix;refine g8 bg ga aN (λcE eH=>ai cE (by simp[eH])) ?_;have:=t11 _ _ _ ix;rw[cg]at this;rw[gr];simp only[I.owner,kI]at this
      rwa [xL _ (ai p (by simp) bR x (by rw[cg];simp[I.ad]))]at this
     .intro i cE ga aq aJ hJ;cases i with
      |zero=>
       simp at aq aJ;subst aq aJ;have Bf:=f2;rw[cg,aH]at Bf;obtain⟨cQ,a0,c1,c2,j5⟩:=Bf _ fj lY;refine⟨x,q,a0,cg,?_,?_,?_,?_,?_,t3,t4⟩
       .rw[n_];exact LJ q _ _ _ fj
       .rw[n_,c2];exact TB w q _ _ _ _ _ _ _ fj (I.rQ _) c1
       .rw[n_,<-Fh];exact Be
       .intro b1;subst b1;simp only[I.sub,Option.some.injEq]at fj;have:=(aH.cv (by rw[fj];exact j4)).1 (h.dp x);rw[fj]at this;exact this.1
       .intro b1;have a8:=h0 fj (.inl lY);rw[n_];cases q with
        |nil=>exact(b1 rfl).elim
        |cons k q=>rcases rS k q p.d.c_ (s x)with⟨aE,gs,aR,e⟩|⟨aE,gs,aR,e⟩|⟨sz,xs,ys,aR,e⟩|⟨y,z,aR,e⟩|e<;>rw[e]<;>first|rfl|exact a8
      |succ i=>exact g3 i cE ga (by simpa using aq) (by simpa using aJ) hJ
     .intro i b R;cases i with
      |zero=>exact⟨p,rfl,bR⟩
      |succ i=>simpa using g4 i b R
     .intro i b R;cases i with
      |zero=>exact t10 b R
      |succ i=>obtain⟨u,hu⟩:=g5 i b R;exact⟨u,t9 u b hu⟩
     .intro i u b R;cases i with
      |zero=>exact λhu=>t7 u b R (g2 u b hu)
      |succ i=>exact g6 i u b R
     .intro i j b cY ao bm;cases i with
      |zero=>
       cases j with
       |zero=>exact cY rfl
       |succ j=>obtain⟨u,hu⟩:=g5 j b bm;exact t7 u b ao hu
      |succ i=>
       cases j with
       |zero=>obtain⟨u,hu⟩:=g5 i b ao;exact t7 u b bm hu
       |succ j=>exact g7 i j b (by omega) ao bm
    .exact fq.elim
end
def oa:alW->alW->alW
 |d::ds,.hole::us=>(if d.plain=true then d else .hole)::oa ds us
 |_::ds,u::us=>u::oa ds us
 |_,us=>us
def Bg:I->I->I
 | .fJ _ ds,.fJ g us=>.fJ g (oa ds us)
 |_,o=>o
theorem TJ {d o:I} (h:(Bg d o).tree=true):o.tree=true:=by
 cases d<;>cases o<;>first|exact h|rfl
theorem LK {d:I} (h:d.one=true):d.wd=1:=by cases d<;>first|rfl|(simp[I.one]at h)
theorem LL {w aF:World} {F lz:Nat->Prop} (bh:∀b,F b->lz b) (hw:∀b,F b->aF.heap[b]? =w.heap[b]?):∀(ds us:alW) (cs:alU) (S aN:Nat->Prop),(∀d∈ds,d.one=true)->(∀d∈us,d.one=true)->
  a1 w F ds cs S->a1 aF lz us cs aN->a1 aF lz (oa ds us) cs aN/\∀d∈oa ds us,d.one=true
 |[],us,cs,S,aN,_,ab,_,az=>by
  have e:oa [] us=us:=by cases us<;>rfl
  rw[e];exact⟨az,ab⟩
 |d::ds,[],cs,S,aN,_,_,_,az=>by
  have e:oa (d::ds) []=[]:=rfl;rw[e];exact⟨az,λd h=>by cases h⟩
 |d::ds,u::us,cs,S,aN,aX,ab,ae,az=>by
  rw[a1]at ae az;obtain⟨c1,c2,b5,dg,aR,J,a2,a3,a4,a5⟩:=ae;obtain⟨jO,hz,LM,LN,aV,b3,cc,eT,dL,fp⟩:=az;have eV:=ar.length _ _ _ J;have l2:=ar.length _ _ _ b3;rw[LK (aX d (by simp))]at eV;rw[LK (ab u (by simp))]at l2;have aW:c1=jO/\c2=hz:=append_inj (aR.symm.trans aV) (by rw[eV,l2]);obtain⟨rfl,rfl⟩:=aW;obtain⟨di,aZ⟩:=LL bh hw ds us c2 dg LN (λd ai=>aX d (by simp[ai])) (λd ai=>ab d (by simp[ai])) a2 cc;have key:∀y:I,ar aF lz y c1 LM->y.one=true->a1 aF lz (y::oa ds us) cs aN/\∀d∈y::oa ds us,d.one=true:=by
   intro y bb EH;rw[a1];exact⟨⟨c1,c2,LM,LN,aV,bb,di,eT,dL,fp⟩,λd ai=>by
    rcases mem_cons.1 ai with rfl|ai
    .exact EH
    .exact aZ d ai⟩
  by_cases hu:u= .hole
  .subst hu;simp only[oa];by_cases aq:d.plain=true
   .rw[if_pos aq];exact key d (ar.plain _ _ _ _ aq (ar.mono bh _ _ _ _ (λ_ h=>h) (ar.frame hw _ _ (λ_=>False) (λ_ h=>h.elim) (ar.plain _ _ _ _ aq J)))) (aX d (by simp))
   .rw[if_neg aq];exact key .hole b3 rfl
  .have e:oa (d::ds) (u::us)=u::oa ds us:=by cases u<;>first|rfl|exact(hu rfl).elim
   rw[e];exact key u b3 (ab u (by simp))
theorem TK {w aF:World} {F lz:Nat->Prop} {d o:I} {cs:alU} {S aN:Nat->Prop} (bh:∀b,F b->lz b) (hw:∀b,F b->aF.heap[b]? =w.heap[b]?) (ab:ar w F d cs S) (ae:ar aF lz o cs aN):ar aF lz (Bg d o) cs aN:=by
 cases d with
 |fJ f ds=>
  cases o with
  |fJ g us=>
   simp only[Bg];rw[ar]at ab ae⊢;obtain⟨arr,rfl,a2,a3⟩:=ab;obtain⟨aj2,e,hz,jQ⟩:=ae;simp only[cons.injEq,Value.func.injEq,and_true]at e;obtain⟨aR,aV,aW⟩:=e;subst aW;obtain⟨di,aZ⟩:=LL bh hw ds us _ _ _ a2 hz a3 jQ;exact⟨arr,by simp_all,aZ,di⟩
  |_=>exact ae
 |_=>cases o<;>exact ae
def eW (l:alW):aw:=λi=>l.getD i .hole
def gb (l:alU):Nat->Value:=λi=>l.getD i undef
def mN (P:Program) (f:FuncId) (args:Array Value) (w:World) (gF:Value->World->Prop):Prop:=
 ((callFunc f args).run P w= .ok (.enter f args) w/\Calls P f args w (λe aF=>∃v,e= .returned v/\gF v aF))\/
 ∃v aF,(callFunc f args).run P w= .ok (.value v) aF/\gF v aF
theorem mN.mono {P:Program} {f:FuncId} {args:Array Value} {w:World} {gF LO:Value->World->Prop} (h:mN P f args w gF) (aM:∀v aF,gF v aF->LO v aF):mN P f args w LO:=by
 rcases h with⟨ab,ae⟩|⟨v,aF,ab,ae⟩
 .exact .inl ⟨ab,Calls.mono ae λe aF ⟨v,e,h⟩=>⟨v,e,aM v aF h⟩⟩
 .exact .inr ⟨v,aF,ab,aM v aF ae⟩
def aY (C:ca) (f:FuncId) (as:alW) (r:I) (outs:alW):Prop:=
 ∀(w:World) (F X:Nat->Prop) (S:Nat->Nat->Prop) (vs:alU),vs.length=as.length->bD w F X F S (eW as) (gb vs) w->
  mN C.P f vs.toArray w λv aF=>∃bO aN,bD w F X bO aN (eW (r::outs)) (gb (v::vs)) aF
def I.res:I->Bool
 | .h _ _=>false
 | .aq _ _=>false
 | .R _ _=>false
 | .fn _ _=>false
 |_=>true
theorem Fi {d:I} (h:d.tree=true):d.ad=[]:=by cases d<;>first|rfl|(simp[I.tree]at h)
mutual
theorem Fj {s aB:aw}:∀(a:I) (d:I),(∀u∈a.ad,(s u).tree=true->aB u=s u)->view s a=some d->view aB a=some d
 | .h x q,d,hu,h=>by
   have a8:(s x).tree=true:=by
    simp only[view]at h;split at h
    .rename_i e fj;cases e<;>simp only at h<;>first
      |(cases h;done)
      |(split at h
        .cases h
        .rename_i aq;exact h0 fj (.inl (by simpa using aq)))
    .cases h
   simp only[view]at h⊢;rw[hu x (by simp[I.ad]) a8];exact h
 | .aq x q,d,hu,h=>by
   have a8:(s x).tree=true:=by
    simp only[view]at h;split at h
    .rename_i an;split at h
     .rename_i e fj;exact h0 fj (.inr an)
     .cases h
    .cases h
   simp only[view]at h⊢;rw[hu x (by simp[I.ad]) a8];exact h
 | .R x q,d,hu,h=>by simp[view]at h
 | .fn f cap,d,hu,h=>by
   simp only[view,Option.map_eq_some_iff]at h⊢;obtain⟨ds,ab,ae⟩:=h;exact⟨ds,LP cap ds (by simpa [I.ad]using hu) ab,ae⟩
 | .hole,d,hu,h=>h
 | .bool _,d,hu,h=>h
 | .fm,d,hu,h=>h
 | .int _ _,d,hu,h=>h
 | .str _,d,hu,h=>h
 | .dC,d,hu,h=>h
 | .bd,d,hu,h=>h
 | .slice _,d,hu,h=>h
 | .ag _ _,d,hu,h=>h
 | .ref _,d,hu,h=>h
 | .bf _,d,hu,h=>h
 | .agg _,d,hu,h=>h
 | .tuple _,d,hu,h=>h
 | .dS _,d,hu,h=>h
 | .fJ _ _,d,hu,h=>h
theorem LP {s aB:aw}:∀(as:alW) (ds:alW),(∀u∈I.dQ as,(s u).tree=true->aB u=s u)->views s as=some ds->views aB as=some ds
 |[],ds,hu,h=>h
 |a::as,ds,hu,h=>by
  simp only[I.dQ,mem_append]at hu;simp only[views]at h⊢;split at h
  .rename_i x y ab ae;rw[Fj a x (λu hm=>hu u (.inl hm)) ab,LP as y (λu hm=>hu u (.inr hm)) ae];exact h
  .cases h
end
section
variable {C:ca} {w0 w aF:World} {F0 X F Fc:Nat->Prop} {S:Nat->Nat->Prop} {s aB:aw} {aC hG:Nat->Value}
def TL (w:World) (F:Nat->Prop) (s:aw) (aC:Nat->Value) (p:cD) (v:Value) (So:Nat->Prop):Prop:=
 p.g=true->p.o= .hole\/∃x q a0 d0,p.a= .h x q/\I.sub q (s x)=some d0/\du w q (s x) (cj (aC x)) none=some (d0,cj v,a0)/\(s x).ad=[]/\
  (q=[]->dD p.o (aC x))/\(q≠[]->(s x).tree=true)/\p.o.gv=true/\ar w F p.o (cj v) So/\p.o.wd=d0.wd/\∀v,iv d0 v->iv p.o v
theorem TM:∀(ps:List cD) (vs:alU) (s:aw) (S So:Nat->Nat->Prop),bD w0 F0 X F S s aC w->ps.length=vs.length->
  (∀(i:Nat) (p:cD) (v:Value),ps[i]? =some p->vs[i]? =some v->TL w F s aC p v (So i))->
  (∀i b,So i b->b<w.heap.size/\¬F b/\(X b\/w0.heap.size<=b)/\∀u,¬S u b)->(∀i j b,i≠j->So i b->¬So j b)->ia ps=true->
  ∃dg,bD w0 F0 X F dg (hp s ps) aC w/\∀u b,dg u b->S u b\/∃i,So i b:=by
 intro ps;induction ps with
 |nil=>intro vs s S So h _ _ _ _ _;exact⟨S,h,λu b R=>.inl R⟩
 |cons p ps ih=>
  intro vs s S So h hl Fk R ai kr;cases vs with
  |nil=>simp at hl
  |cons v vs=>
   simp only[length_cons,Nat.add_right_cancel_iff]at hl;simp only[ia,Bool.and_eq_true,List.all_eq_true,Bool.or_eq_true,Bool.not_eq_true']at kr;obtain⟨oO,n9⟩:=kr;have uZ:∀cE∈ps,(p.g=true\/cE.g=true)->∀u∈p.a.ad,u∉cE.a.ad:=by
    intro cE eH bR u hu;rcases oO cE eH with e|e
    .rcases bR with bR|bR<;>simp[bR]at e
    .simpa using e u hu
   have skip:cD.iP s p=s->∃dg,bD w0 F0 X F dg (hp s (p::ps)) aC w/\∀u b,dg u b->S u b\/∃i,So i b:=by
    intro gr;obtain⟨dg,g1,g2⟩:=ih vs s S (λi=>So (i+1)) h hl (λi cE ga aq aJ=>Fk (i+1) cE ga (by simpa using aq) (by simpa using aJ)) (λi b h=>R (i+1) b h)
     (λi j b cY=>ai (i+1) (j+1) b (by omega)) n9
    refine⟨dg,?_,λu b hu=>(g2 u b hu).imp id λ⟨i,ao⟩=>⟨i+1,ao⟩⟩;show bD _ _ _ _ _ (hp (cD.iP s p) ps) _ _;rw[gr];exact g1
   cases bR:p.g with
   |false=>exact skip (by simp[cD.iP,bR])
   |true=>
    rcases Fk 0 p v rfl rfl bR with bE|⟨x,q,a0,d0,cg,c1,c2,j5,mJ,tn,dN,xO,hL,TN⟩
    .exact skip (by simp only[cD.iP,bR,bE,if_true])
    .obtain⟨lY,j4,r6⟩:=qY dN;have gr:cD.iP s p=dq (lQ x s) x (I.put q p.o (s x)):=by
      simp only[cD.iP,bR,if_true,cg];cases TO:p.o<;>first|rfl|(rw[TO]at dN;simp[I.gv]at dN)
     have step:=h.iP (x:=x) (q:=q) (bg:=p.o) c1 c2 r6 (λb1=>⟨j4,mJ b1⟩) (λk r b1=>⟨tn (by rw[b1];simp),TN⟩) hL xO
      (λb h=>(R 0 b h).1) (λb h=>(R 0 b h).2.1) (λu b h=>(R 0 b h).2.2.2 u) (λb h=>(R 0 b h).2.2.1)
     rw[<-gr]at step;obtain⟨dg,g1,g2⟩:=ih vs (cD.iP s p) _ (λi=>So (i+1)) step hl (by
      intro i cE ga aq aJ hJ;have hm:cE∈ps:=mem_of_getElem? aq;rcases Fk (i+1) cE ga (by simpa using aq) (by simpa using aJ) hJ with bE|⟨y,iU,J,d1,b3,cc,eT,dL,fp,cW,k7,dM,mf⟩
      .exact .inl bE
      .have cY:y≠x:=λe=>uZ cE hm (.inl bR) x (by rw[cg];simp[I.ad]) (by rw[b3,e];simp[I.ad]);have nk:cD.iP s p y=s y:=by
        rw[gr,je _ _ cY];exact E2 _ (by rw[dL];simp)
       exact .inr ⟨y,iU,J,d1,b3,by rw[nk];exact cc,by rw[nk];exact eT,by rw[nk];exact dL,fp,by rw[nk];exact cW,k7,dM,mf⟩)
      (by
       intro i b ao;obtain⟨jO,hz,jQ,bG⟩:=R (i+1) b ao;refine⟨jO,hz,jQ,λu hu=>?_⟩;simp only[fV]at hu;split at hu
       .rcases hu with hu|hu
        .exact bG _ hu
        .exact ai 0 (i+1) b (by omega) hu ao
       .exact bG _ hu)
      (λi j b cY=>ai (i+1) (j+1) b (by omega)) n9
     refine⟨dg,g1,λu b hu=>?_⟩;rcases g2 u b hu with hu|⟨i,ao⟩
     .simp only[fV]at hu;split at hu
      .rename_i e;subst e;exact hu.imp id λh=>⟨0,h⟩
      .exact .inl hu
     .exact .inr ⟨i+1,ao⟩
def jR (ps:List cD):Bool:=ps.any λp=> !p.g&& !p.a.ad.isEmpty
theorem TP (h:bD w0 F0 X F S s aC w) {ps:List cD} {vs LQ:alU} {os:alW} {f:FuncId} {r:I} (hl:ps.length=vs.length) (LR:∀(i:Nat) (p:cD),ps[i]? =some p->∃o,os[i]? =some o/\(p.o=o\/p.o=Bg p.d o))
  (ix:∀(i:Nat) (p:cD) (v:Value),ps[i]? =some p->vs[i]? =some v->p.a.plain=true/\aH w F s aC p.a v (λ_=>False))
  (fq:∀p∈ps,p.ok s) (kr:ia ps=true) (bo:∀(Fc kM:Nat->Prop) (eh:Nat->Nat->Prop),(∀b,F b->Fc b)->(∀b,kM b->∃u,S u b)->bD w Fc kM Fc eh (eW (ps.map (·.d))) (gb vs) w->
   mN C.P f LQ.toArray w λv aF=>∃bO aN,bD w Fc kM bO aN (eW (r::os)) (gb (v::vs)) aF) (aM:r.res=true)
  (aS:jR ps=true->r.cS=true/\∀(i:Nat) (p:cD) (o:I),ps[i]? =some p->os[i]? =some o->p.g=true->o.cS=true):
  mN C.P f LQ.toArray w λv aF=>∃bO aN,bD w0 F0 X bO aN (hp (e3 s ps) ps) aC aF/\k4 w0 X bO aN (hp (e3 s ps) ps) aC aF r v/\∀b,F b->bO b/\aF.heap[b]? =w.heap[b]? :=by
 obtain⟨Sn,b5,g1,g2,g3,g4,g5,g6,g7,g8⟩:=TG ps vs s S h hl (λi p v aq aJ=>⟨(ix i p v aq aJ).1,(ix i p v aq aJ).2,λ_=>fq p (mem_of_getElem? aq)⟩) kr;have apart:∀(i j:Nat) (p cE:cD),ps[i]? =some p->ps[j]? =some cE->i≠j->(p.g=true\/cE.g=true)->∀u∈p.a.ad,u∉cE.a.ad:=by
  clear ix fq bo aS g1 g3 g4 g8 hl LR;induction ps with
  |nil=>intro i j p cE aq;simp at aq
  |cons hF ps ih=>
   simp only[ia,Bool.and_eq_true,List.all_eq_true,Bool.or_eq_true,Bool.not_eq_true']at kr;obtain⟨oO,n9⟩:=kr;have uZ:∀cE∈ps,(hF.g=true\/cE.g=true)->∀u∈hF.a.ad,u∉cE.a.ad:=by
    intro cE eH bR u hu;rcases oO cE eH with e|e
    .rcases bR with bR|bR<;>simp[bR]at e
    .simpa using e u hu
   intro i j p cE aq eH cY bR u hu;cases i with
   |zero=>
    simp at aq;subst aq;cases j with
    |zero=>exact(cY rfl).elim
    |succ j=>exact uZ cE (mem_of_getElem? (by simpa using eH)) bR u hu
   |succ i=>
    cases j with
    |zero=>
     simp at eH;subst eH;exact λxP=>uZ p (mem_of_getElem? (by simpa using aq)) bR.symm u xP hu
    |succ j=>exact ih n9 i j p cE (by simpa using aq) (by simpa using eH) (by omega) bR u hu
 let Fc:Nat->Prop:=λb=>F b\/(jR ps=true/\∃u,b5 u b)
 let kM:Nat->Prop:=λb=>∃i,Sn i b
 have Bh:∀b,F b->¬kM b:=λb bh ⟨i,ao⟩=>by obtain⟨u,hu⟩:=g5 i b ao;exact h.fb u b hu bh
 have xQ:∀u b,b5 u b->¬kM b:=λu b hu ⟨i,ao⟩=>g6 i u b ao hu;have aP:∀b,kM b->(X b\/w0.heap.size<=b)/\b<w.heap.size:=λb ⟨i,ao⟩=>by obtain⟨u,hu⟩:=g5 i b ao;exact⟨h.dx u b hu,h.dW u b hu⟩
 have pre:bD w Fc kM Fc Sn (eW (ps.map (·.d))) (gb vs) w:=by
  refine⟨λ_ h=>h,λ_ h=>.inl h,?_,λi b ao=>(aP b ⟨i,ao⟩).2,?_,λi j b cY=>g7 i j b cY,λi b ao=>.inl ⟨i,ao⟩,?_,λ_ _ _=>rfl,Nat.le_refl _,rfl,rfl,Out.refl _,h.gn.next h.size h.old λb R=>(aP b R).1⟩
  .rintro b (R|⟨_,u,hu⟩)
   .exact h.eQ b R
   .exact g1.dW u b hu
  .rintro i b ao (R|⟨_,u,hu⟩)
   .exact Bh b R ⟨i,ao⟩
   .exact g6 i u b ao hu
  .intro t;cases aq:ps[t]? with
   |none=>
    have:eW (ps.map (·.d)) t= .hole:=by simp[eW,List.getD,aq]
    rw[this,aH];trivial
   |some p=>
    have dv:t<vs.length:=by rw[<-hl];exact(List.getElem?_eq_some_iff.1 aq).1
    have aJ:vs[t]? =some vs[t]:=getElem?_eq_getElem dv;have aR:eW (ps.map (·.d)) t=p.d:=by simp[eW,List.getD,aq]
    have aV:gb vs t=vs[t]:=by simp[gb,List.getD,aJ]
    rw[aR,aV];have hm:p∈ps:=mem_of_getElem? aq;have ax:=fq p hm;cases bR:p.g with
    |true=>
     obtain⟨x,q,a0,b3,cc,eT,dL,fp,cW,k7,dM⟩:=g3 t p _ aq aJ bR;simp only[cD.ok,bR,if_true,b3]at ax;exact(aH.cv (qY ax.2.1).2.1).2 ⟨k7,ar.mono (λb R=>.inl R) _ _ _ _ (λ_ h=>h) dM⟩
    |false=>
     simp only[cD.ok,bR]at ax;obtain⟨f1,f2⟩:=ix t p _ aq aJ;have LS:∀cE∈ps,cE.g=true->∀u∈cE.a.ad,u∉p.a.ad:=by
      intro cE eH hJ u hu;obtain⟨j,bm⟩:=getElem?_of_mem eH;refine apart j t cE p bm aq (λe=>?_) (.inl hJ) u hu;subst e;rw[aq]at bm;simp only[Option.some.injEq]at bm;rw[bm,hJ]at bR;cases bR
     have Bf:=g8 _ _ _ LS f2;have jP:view (e3 s ps) p.a=some p.d:=Fj _ _ (λu hu a8=>Fg (Fi a8) (λcE eH hJ xP=>LS cE eH hJ u xP hu)) (by simpa using ax);refine aH.nothing (TA f1 jP) ((TC g1 (Fc:=Fc) (λb R=>.inl R) (SizeOf.sizeOf p.a)).1 p.a _ p.d (Nat.le_refl _) ?_ jP Bf);intro u hu b R;refine .inr ⟨?_,u,R⟩;simp only[jR,List.any_eq_true];refine⟨p,hm,?_⟩;cases lo:p.a.ad with
     |nil=>rw[lo]at hu;cases hu
     |cons _ _=>simp[bR]
 refine mN.mono (bo Fc kM Sn (λb R=>.inl R) (λb ⟨i,ao⟩=>g5 i b ao) pre) ?_;rintro v aF ⟨bO,aN,an⟩;have keep:∀b,b<w.heap.size->¬kM b->aF.heap[b]? =w.heap[b]? :=an.old;let oQ:Nat->Prop:=λb=>if jR ps=true then F b else bO b
 have LU:∀b,F b->bO b:=λb R=>an.gm b (.inl R);have tp:∀b,F b->oQ b:=λb R=>by
  simp only[oQ];split
  .exact R
  .exact LU b R
 have lz:∀b,oQ b->bO b:=λb R=>by
  simp only[oQ]at R;split at R
  .exact LU b R
  .exact R
 have LV:∀b,oQ b->F b\/kM b\/w.heap.size<=b:=λb R=>by
  simp only[oQ]at R;split at R
  .exact .inl R
  .rename_i r2;rcases an.gC b R with(R|⟨ab,_⟩)|R|R
   .exact .inl R
   .exact(r2 ab).elim
   .exact .inr (.inl R)
   .exact .inr (.inr R)
 have mid:bD w0 F0 X oQ b5 (e3 s ps) aC aF:=by
  refine⟨λb R=>tp b (g1.gm b R),?_,λb R=>an.eQ b (lz b R),λt b R=>Nat.lt_of_lt_of_le (g1.dW t b R) an.size,?_,g1.e_,g1.dx,?_,?_,Nat.le_trans g1.size an.size,an.os.trans g1.os,an.tape.trans g1.tape,an.output.trans g1.output,g1.gn⟩
  .intro b R;rcases LV b R with R|R|R
   .exact g1.gC b R
   .rcases(aP b R).1 with h|h
    .exact .inr (.inl h)
    .exact .inr (.inr h)
   .exact .inr (.inr (Nat.le_trans g1.size R))
  .intro t b a8 R;rcases LV b R with R|R|R
   .exact g1.fb t b a8 R
   .exact xQ t b a8 R
   .exact absurd (g1.dW t b a8) (by omega)
  .intro t;exact aH.frame (Sx:=b5) (λb R=>keep b (h.eQ b R) (Bh b R)) tp (λx b R=>keep b (g1.dW x b R) (xQ x b R)) g1.dp _ _ _ (λb R=>keep b (g1.dW t b R) (xQ t b R)) (g1.dp t)
  .intro b R jJ;refine(keep b (Nat.lt_of_lt_of_le R g1.size) λau=>?_).trans (g1.old b R jJ);rcases(aP b au).1 with h|h
   .exact jJ h
   .omega
 have LW:∀(d:I) (cs:alU) (dx:Nat->Prop),(jR ps=true->d.cS=true)->ar aF bO d cs dx->ar aF oQ d cs dx:=by
  intro d cs dx TQ fw;by_cases hle:jR ps=true
  .exact ar.cS d cs dx (TQ hle) fw
  .exact ar.mono (λb R=>by simp only[oQ];rw[if_neg hle];exact R) _ _ _ _ (λ_ h=>h) fw
 have bound:∀i b,aN i b->b<aF.heap.size/\¬oQ b/\(X b\/w0.heap.size<=b)/\∀u,¬b5 u b:=by
  intro i b R;refine⟨an.dW i b R,λbh=>an.fb i b R (lz b bh),?_,λu hu=>?_⟩
  .rcases an.dx i b R with au|au
   .exact(aP b au).1
   .exact .inr (Nat.le_trans g1.size au)
  .rcases an.dx i b R with au|au
   .exact xQ u b hu au
   .exact absurd (g1.dW u b hu) (by omega)
 obtain⟨dg,b3,cc⟩:=TM ps vs (e3 s ps) b5 (λi=>aN (i+1)) mid hl (by
  intro i p ga aq aJ bR;have hm:p∈ps:=mem_of_getElem? aq;have ax:=fq p hm;obtain⟨x,q,a0,aR,aV,aW,cm,cC,b7,bW,hy⟩:=g3 i p ga aq aJ bR;simp only[cD.ok,bR,if_true,aR]at ax;rcases ax.2.2 with bE|bE
  .exact .inl bE
  .obtain⟨eV,l2,xR⟩:=TD ax.2.1 bE.1 bE.2;refine .inr ⟨x,q,a0,p.d.c_,aR,aV,?_,cm,λb1=>l2 _ (cC b1),b7,bE.1,?_,eV.trans (I.rQ _).symm,xR⟩
   .cases q with
    |nil=>simpa only[du]using aW
    |cons k q=>
     have a8:=b7 (by simp);rw[AO (k::q) _ _ (b5 x) none _ ((aH.cv a8).1 (g1.dp x)).2 aV (λb R=>keep b (g1.dW x b R) (xQ x b R))];exact aW
   .have:=an.dp (i+1);obtain⟨o,lY,j4⟩:=LR i p aq;have jx:eW (r::os) (i+1)=o:=by simp[eW,List.getD,lY]
    have lu:gb (v::vs) (i+1)=ga:=by simp[gb,List.getD,aJ]
    rw[jx,lu]at this;have TR:o.tree=true:=by
     rcases j4 with e|e
     .rw[<-e];exact(qY bE.1).2.1
     .exact TJ (d:=p.d) (by rw[<-e];exact(qY bE.1).2.1)
    have ab:=LW _ _ _ (λhle=>(aS hle).2 i p o aq lY bR) ((aH.cv TR).1 this).2;rcases j4 with e|e
    .rw[e];exact ab
    .rw[e];exact TK tp (λb R=>keep b (h.eQ b R) (Bh b R)) hy ab)
  (λi b R=>bound (i+1) b R) (λi j b cY=>an.e_ (i+1) (j+1) b (by omega)) kr
 refine⟨oQ,dg,b3,?_,λb R=>⟨tp b R,keep b (h.eQ b R) (Bh b R)⟩⟩;have aX:=an.dp 0;have jx:eW (r::os) 0=r:=rfl;have lu:gb (v::vs) 0=v:=rfl;rw[jx,lu]at aX;cases a8:r.tree with
 |false=>
  cases r<;>first
   |(simp[I.tree]at a8;done)
   |(simp[I.res]at aM;done)
   |exact .inl ⟨rfl,by rw[aH];trivial⟩
 |true=>
  obtain⟨s1,s2⟩:=(aH.cv a8).1 aX;have n8:=LW _ _ _ (λhle=>(aS hle).1) s2;refine .inr ⟨a8,s1,aN 0,n8,λb R=>(bound 0 b R).1,λb R=>(bound 0 b R).2.1,λu b R hu=>?_,λb R=>(bound 0 b R).2.2.1⟩;rcases cc u b hu with hu|⟨i,ao⟩
  .exact(bound 0 b R).2.2.2 u hu
  .exact an.e_ 0 (i+1) b (by omega) R ao
theorem LX (h:bD w0 F0 X F S s aC w) {ps:List cD} {vs:alU} {f:FuncId} {r:I} (hl:ps.length=vs.length)
  (ix:∀(i:Nat) (p:cD) (v:Value),ps[i]? =some p->vs[i]? =some v->p.a.plain=true/\aH w F s aC p.a v (λ_=>False))
  (fq:∀p∈ps,p.ok s) (kr:ia ps=true) (bo:∀(Fc kM:Nat->Prop) (eh:Nat->Nat->Prop),(∀b,F b->Fc b)->(∀b,kM b->∃u,S u b)->bD w Fc kM Fc eh (eW (ps.map (·.d))) (gb vs) w->
   mN C.P f vs.toArray w λv aF=>∃bO aN,bD w Fc kM bO aN (eW (r::ps.map (·.o))) (gb (v::vs)) aF) (aM:r.res=true)
  (aS:jR ps=true->r.cS=true/\∀p∈ps,p.o.cS=true):
  mN C.P f vs.toArray w λv aF=>∃bO aN,bD w0 F0 X bO aN (hp (e3 s ps) ps) aC aF/\k4 w0 X bO aN (hp (e3 s ps) ps) aC aF r v/\∀b,F b->bO b/\aF.heap[b]? =w.heap[b]? :=
 TP h hl (λi p aq=>⟨p.o,by simp[aq],.inl rfl⟩) ix fq kr bo aM λhle=>⟨(aS hle).1,λi p o aq bE _=>by
  rw[getElem?_map,aq]at bE;have:=Option.some.inj bE;subst this;exact(aS hle).2 p (mem_of_getElem? aq)⟩
theorem TS (h:bD w0 F0 X F S s aC w) {ps:List cD} {vs:alU} {f:FuncId} {r:I} (hl:ps.length=vs.length)
  (ix:∀(i:Nat) (p:cD) (v:Value),ps[i]? =some p->vs[i]? =some v->p.a.plain=true/\aH w F s aC p.a v (λ_=>False))
  (fq:∀p∈ps,p.ok s) (kr:ia ps=true) (bo:aY C f (ps.map (·.d)) r (ps.map (·.o))) (aM:r.res=true)
  (aS:jR ps=true->r.cS=true/\∀p∈ps,p.o.cS=true):
  mN C.P f vs.toArray w λv aF=>∃bO aN,bD w0 F0 X bO aN (hp (e3 s ps) ps) aC aF/\k4 w0 X bO aN (hp (e3 s ps) ps) aC aF r v/\∀b,F b->bO b/\aF.heap[b]? =w.heap[b]? :=
 LX h hl ix fq kr (λFc kM eh _ _ aq=>bo w Fc kM eh vs (by simp[hl]) aq) aM aS
end
structure ch where
 dst:Option Nat
 bV:ed
 guard:Option (Nat×Bool)
def xS (ops:Array Oper):Option (Nat×Bool)->Option (Option (Nat×Bool))
 |none=>some none
 |some (j,b)=>match(ops[j]?).bind (·.dst)with
  |some t=>some (some (t,b))
  |none=>none
structure Fr where
 n:Nat
 fx:alR
def lA (n:Fr):Option Nat->Bool
 |none=>true
 |some t=>decide (t<n.n)&& !n.fx.contains t
def oR (op:Op):ed:=match cX op with
 |some bV=>bV
 |none=>.bad
def pY (n:Fr) (ops:Array Oper) (o:Oper):Option ch:=
 if lA n o.dst=true then match xS ops o.guard with
  |some g=>some ⟨o.dst,oR o.op,g⟩
  |none=>none
 else none
def pZ (n:Fr) (ops:Array Oper):List Oper->Option (List ch)
 |[]=>some []
 |o::os=>match pY n ops o,pZ n ops os with
  |some r,some rs=>some (r::rs)
  |_,_=>none
def Fl (C:ca) (s:aw) (f:bk) (args:List bk) (K:I->aw->Prop):Prop:=
 ∃(g:FuncId) (caps:alW) (ps:List cD) (r:I),bu s f= .fn g caps/\I.eg caps=true/\ps.map (·.a)=args.map (bu s)++caps/\(∀p∈ps,p.ok s)/\ia ps=true/\
   aY C g (ps.map (·.d)) r (ps.map (·.o))/\r.res=true/\(jR ps=true->r.cS=true/\∀p∈ps,p.o.cS=true)/\K r (hp (e3 s ps) ps)
mutual
def I.fy (s:aw):I->Bool
 | .h x q=>q.isEmpty&&(s x).own
 | .R x _=> !(s x).plain
 | .aq _ _=>false
 | .hole=>true
 | .fn _ cap=>I.ob s cap
 |d=>d.plain
def I.ob (s:aw):alW->Bool
 |[]=>true
 |d::ds=>d.fy s&&I.ob s ds
end
def mO (s:aw):alV->aw
 |[]=>s
 |p::L=>mO (dq s p.1 p.2) L
def lB (s:aw):alV->Bool
 |[]=>true
 |p::L=>p.2.fy s&&lB s L
def jf (s:aw) (us:alR):alV:=us.map λu=>(u,s u)
def oc (C:ca) (s:aw) (bV:ed) (K:I->aw->Prop):Prop:=
 match bV with
 | .call f args=>∃(g:FuncId) (caps:alW) (ps:List cD) (r:I),bu s f= .fn g caps/\I.eg caps=true/\ps.map (·.a)=args.map (bu s)++caps/\(∀p∈ps,p.ok s)/\ia ps=true/\
   aY C g (ps.map (·.d)) r (ps.map (·.o))/\r.res=true/\(jR ps=true->r.cS=true/\∀p∈ps,p.o.cS=true)/\K r (hp (e3 s ps) ps)
 | .shr bV=>∃av s1,b8 C s bV=some (av,s1)/\av.tree=true/\(∀vs,av≠.tuple vs)/\K av.share s1
 | .ks f args us=>lB s (jf s us)=true/\Fl C s f args λav s1=>lB s1 (jf s us)=true/\K av (mO s1 (jf s us))
 |bV=>∃av s1,b8 C s bV=some (av,s1)/\K av s1
theorem Bi {C:ca} {s:aw} {bV:ed} {K dz:I->aw->Prop} (h:oc C s bV K) (ax:∀av s,K av s->dz av s):oc C s bV dz:=by
 cases bV with
 |call f args=>
  obtain⟨g,caps,ps,r,ab,gT,ae,az,a6,bF,cP,cB,fS⟩:=h;exact⟨g,caps,ps,r,ab,gT,ae,az,a6,bF,cP,cB,ax _ _ fS⟩
 |shr bV=>
  obtain⟨av,s1,ab,ae,az,a6⟩:=h;exact⟨av,s1,ab,ae,az,ax _ _ a6⟩
 |ks f args us=>
  obtain⟨cc,g,caps,ps,r,ab,gT,ae,az,a6,bF,cP,cB,fS,iE⟩:=h;exact⟨cc,g,caps,ps,r,ab,gT,ae,az,a6,bF,cP,cB,fS,ax _ _ iE⟩
 |_=>
  obtain⟨av,s1,ab,ae⟩:=h;exact⟨av,s1,ab,ax _ _ ae⟩
def lZ (C:ca) (s:aw) (o:ch) (K:aw->Prop):Prop:=
 match o.guard with
 |none=>oc C s o.bV λav s1=>K (fin s1 o.dst av)
 |some (t,b)=>match s t with
  | .bool fH=>if fH=b then oc C s o.bV (λav s1=>K (fin s1 o.dst av))else K (fin s o.dst (.tuple []))
  | .tuple []=>K (fin s o.dst (.tuple []))
  |_=>False
def lC (C:ca) (s:aw):List ch->(aw->Prop)->Prop
 |[],K=>K s
 |o::os,K=>lZ C s o λs1=>lC C s1 os K
def j6 (C:ca) (ros:List ch) (s:aw):alR->(aw->Prop)->Prop
 |[],K=>K s
 |i::l,K=>match ros[i]? with
  |none=>j6 C ros s l K
  |some o=>lZ C s o λs1=>j6 C ros s1 l K
theorem TT (C:ca) (K:aw->Prop):∀(rs pre:List ch) (s:aw),lC C s rs K->j6 C (pre++rs) s ((range rs.length).map (·+pre.length)) K:=by
 intro rs;induction rs with
 |nil=>intro pre s h;exact h
 |cons r rs ih=>
  intro pre s h;rw[length_cons,range_succ_eq_map,map_cons,List.map_map];simp only[j6,Nat.zero_add];rw[getElem?_append_right (Nat.le_refl _)];simp only[Nat.sub_self,getElem?_cons_zero];have key:∀s1,lC C s1 rs K->j6 C (pre++r::rs) s1 ((range rs.length).map ((λx=>x+pre.length)∘succ)) K:=by
   intro s1 ab;have:=ih (pre++[r]) s1 ab;simp only[append_assoc,singleton_append,length_append,length_singleton]at this;have e:((λx=>x+pre.length)∘succ)=λx=>x+(pre.length+1):=by funext x;simp;omega
   rw[e];exact this
  simp only[lC]at h;unfold lZ at h⊢;split
  .rename_i bR;rw[bR]at h;exact Bi h λav s1=>key _
  .rename_i t b bR;rw[bR]at h;simp only at h;split
   .rename_i fH ad;rw[ad]at h;simp only at h;split
    .rename_i R;rw[if_pos R]at h;exact Bi h λav s1=>key _
    .rename_i R;rw[if_neg R]at h;exact key _ h
   .rename_i ad;rw[ad]at h;exact key _ h
   .rename_i ab ae;split at h
    .exact ab _ (by assumption)
    .exact ae (by assumption)
    .exact h
structure Rel (w0:World) (F0 X:Nat->Prop) (n:Fr) (ρ:Nat->Value) (s:aw) (a:Act) (w:World):Prop where
 defers:a.defers=[]
 size:a.tmps.size=n.n
 fixed:∀i∈n.fx,a.tmps.getD i undef=ρ i
 rel:∃F S,bD w0 F0 X F S s (λt=>a.tmps.getD t undef) w
section
variable {C:ca} {w0 w:World} {F0 X:Nat->Prop} {n:Fr} {ρ:Nat->Value} {s s1:aw} {a:Act} {av:I} {Q:Exit->Act->World->Prop}
theorem xT {dst:Option Nat} (v:Value) (ad:a.tmps.size=n.n) (ai:lA n dst=true):
  (λt=>(a.put dst v).tmps.getD t undef)=nj (λt=>a.tmps.getD t undef) dst v/\(a.put dst v).tmps.size=n.n/\(a.put dst v).defers=a.defers:=by
 cases dst with
 |none=>exact⟨rfl,ad,rfl⟩
 |some d=>
  simp only[lA,Bool.and_eq_true,decide_eq_true_eq]at ai;refine⟨?_,by simp[Act.put,ad],rfl⟩;funext t;simp only[Act.put,nj,dq,Array.getD_eq_getD_getElem?];by_cases h:t=d
  .subst h;rw[if_pos rfl,Array.getElem?_setIfInBounds_self_of_lt (by omega)];rfl
  .rw[if_neg h,Array.getElem?_setIfInBounds_ne (λe=>h e.symm)]
theorem Rel.put {F S} (ai:a.defers=[]) (ad:a.tmps.size=n.n) (bo:∀i∈n.fx,a.tmps.getD i undef=ρ i) {aF:World} (aM:bD w0 F0 X F S s (λt=>a.tmps.getD t undef) aF) {v:Value} (aJ:k4 w0 X F S s (λt=>a.tmps.getD t undef) aF av v)
  {dst:Option Nat} (fq:lA n dst=true):Rel w0 F0 X n ρ (fin s dst av) (a.put dst v) aF:=by
 obtain⟨aR,aV,aW⟩:=xT (n:=n) (dst:=dst) v ad fq;obtain⟨aN,bC⟩:=aM.fin aJ dst;refine⟨aW.trans ai,aV,λi ao=>?_,F,aN,by rw[aR];exact bC⟩;rw[congrFun aR i];cases dst with
 |none=>exact bo i ao
 |some d=>
  simp only[lA,Bool.and_eq_true,Bool.not_eq_true',contains_eq_mem,decide_eq_false_iff_not]at fq;have cY:i≠d:=λe=>fq.2 (by rw[<-e];exact ao);simp only[nj];rw[je _ _ cY];exact bo i ao
theorem Rel.skip (h:Rel w0 F0 X n ρ s a w) {dst:Option Nat} (fq:lA n dst=true):Rel w0 F0 X n ρ (fin s dst (.tuple [])) (a.put dst undef) w:=by
 obtain⟨ai,ad,bo,F,S,aM⟩:=h;refine Rel.put (av:=.tuple []) ai ad bo aM (.inl ⟨rfl,(aH.cv (d:=.tuple []) rfl).2 ⟨?_,?_⟩⟩) fq
 .exact⟨#[],rfl,rfl,λk d x ax=>by simp at ax⟩
 .rw[ar,a1];rfl
theorem LY {F:Nat->Prop} {aC:Nat->Value} {w:World}:∀{ds es:alW} {vs us:alU},d_ w F s aC ds vs->d_ w F s aC es us->d_ w F s aC (ds++es) (vs++us):=by
 intro ds;induction ds with
 |nil=>intro es vs us ab ae;rw[d_]at ab;subst ab;exact ae
 |cons d ds ih=>
  intro es vs us ab ae;rw[d_]at ab;obtain⟨v,jI,rfl,g1,g2⟩:=ab;rw[cons_append,cons_append,d_];exact⟨v,_,rfl,g1,ih g2 ae⟩
theorem LZ {F:Nat->Prop} {aC:Nat->Value} {w:World}:∀{ds:alW} {vs:alU},d_ w F s aC ds vs->ds.length=vs.length/\∀(i:Nat) (d:I) (v:Value),ds[i]? =some d->vs[i]? =some v->aH w F s aC d v (λ_=>False):=by
 intro ds;induction ds with
 |nil=>intro vs h;rw[d_]at h;subst h;exact⟨rfl,λi d v h=>by simp at h⟩
 |cons d ds ih=>
  intro vs h;rw[d_]at h;obtain⟨v,jI,rfl,g1,g2⟩:=h;obtain⟨b3,cc⟩:=ih g2;refine⟨by simp[b3],λi bg ga ai aJ=>?_⟩;cases i with
  |zero=>simp at ai aJ;subst ai aJ;exact g1
  |succ i=>exact cc i bg ga (by simpa using ai) (by simpa using aJ)
theorem p0 {op:Op} {bV:ed} (h:oR op=bV):bV= .bad\/cX op=some bV:=by
 unfold oR at h;split at h
 .subst h;right;assumption
 .exact .inl h.symm
theorem TU {op:Op} {bV:ed}:cX op≠some (.shr bV):=by
 intro h;unfold cX at h;split at h<;>(try split at h)<;>(try split at h)<;>(try split at h)<;>(try simp[Option.map_eq_some_iff]at h)
theorem TV {op:Op} {f:bk} {args:List bk} {us:alR}:cX op≠some (.ks f args us):=by
 intro h;unfold cX at h;split at h<;>(try split at h)<;>(try split at h)<;>(try split at h)<;>(try simp[Option.map_eq_some_iff]at h)
theorem TW {op:Op} {T:TypeId} {x:bk}:cX op≠some (.jM T x):=by
 intro h;unfold cX at h;split at h<;>(try split at h)<;>(try split at h)<;>(try split at h)<;>(try simp[Option.map_eq_some_iff]at h)
theorem TX {op:Op} {x:bk}:cX op≠some (.ns x):=by
 intro h;unfold cX at h;split at h<;>(try split at h)<;>(try split at h)<;>(try split at h)<;>(try simp[Option.map_eq_some_iff]at h)
theorem TY {op:Op} {x:bk} (h:cX op=some (.lx x)):∃cp,op= .assign cp/\dG cp=some x:=by
 unfold cX at h;split at h<;>(try split at h)<;>(try split at h)<;>(try split at h)<;>(try simp[Option.map_eq_some_iff]at h)
 exact⟨_,rfl,h⟩
theorem bD.alias {F:Nat->Prop} {S:Nat->Nat->Prop} {aC:Nat->Value} {u x:Nat} (h:bD w0 F0 X F S s aC w) (hu:s u= .hole) (au:(s x).own=true) (aJ:cj (aC u)=cj (aC x)) (ab:Value.fK (aC u)=true):
  bD w0 F0 X F (fV S u (λ_=>False)) (dq s u (.h x [])) aC w:=by
 have el:dq aC u (aC u)=aC:=by funext y;simp only[dq];split<;>simp_all
 have:=h.uJ (t:=u) (d:=.h x []) (v:=aC u) rfl (by
  rw[aH];intro d ai aq;simp only[I.sub,Option.some.injEq]at ai;subst ai;exact⟨cj (aC x),none,rfl,aJ,((tl au).2.2.2.2.2 _).2 ab⟩)
 rwa [el]at this
theorem k4.less {F:Nat->Prop} {S aN:Nat->Nat->Prop} {aC:Nat->Value} {s1:aw} {v:Value} (bK:∀u b,aN u b->S u b) (aM:av.res=true) (h:k4 w0 X F S s aC w av v):k4 w0 X F aN s1 aC w av v:=by
 rcases h with⟨ab,ae⟩|⟨ab,ae,Sn,az,a6,bF,cP,cB⟩
 .refine .inl ⟨ab,?_⟩;cases av<;>first
   |(simp[I.res]at aM;done)
   |(rw[aH];trivial)
   |(rw[aH]at ae⊢;exact ae)
 .exact .inr ⟨ab,ae,Sn,az,a6,bF,λu b R hu=>cP u b R (bK u b hu),cB⟩
theorem L0 (bn:C.Ok) (h:Rel w0 F0 X n ρ s a w) {o:Oper} {f:bk} {args:List bk} (cx:cX o.op=some (.call f args)) (ai:lA n o.dst=true) {K:I->aw->Prop} {L:aw->Prop} {next:Act->World->Prop}
  (hw:Fl C s f args K) (tq:∀F S bO aN w aF av s1 v,bD w0 F0 X F S s (λt=>a.tmps.getD t undef) w->K av s1->av.res=true->bD w0 F0 X bO aN s1 (λt=>a.tmps.getD t undef) aF->k4 w0 X bO aN s1 (λt=>a.tmps.getD t undef) aF av v->(∀b,F b->bO b/\aF.heap[b]? =w.heap[b]?)->
   ∃s2 dg,L (fin s2 o.dst av)/\bD w0 F0 X bO dg s2 (λt=>a.tmps.getD t undef) aF/\k4 w0 X bO dg s2 (λt=>a.tmps.getD t undef) aF av v)
  (aS:∀aB cL aF,L aB->Rel w0 F0 X n ρ aB cL aF->next cL aF):o.wp C.P a w next Q:=by
 have hrel:=h;obtain⟨jS,ea,iy,F,S,aM⟩:=h;obtain⟨g,caps,ps,r,ab,gT,ae,az,a6,bF,cP,cB,fS⟩:=hw;obtain⟨dst,op,ty,pos,after,guard⟩:=o;simp only at cx ai tq;cases op with
 |call c=>
  obtain⟨callee,mP,argTypes⟩:=c;simp only[cX]at cx;split at cx
  .split at cx
   .rename_i xU _ _ TZ xs bo kL;simp only[Option.some.injEq,ed.call.injEq]at cx;obtain⟨rfl,rfl⟩:=cx;obtain⟨f1,f2⟩:=fE aM (λ_=>rfl) bo;rw[ab,aH]at f2;obtain⟨arr,f3,f4⟩:=f2;have xV:execOp a.eval {dst,op:=.call {callee:=.value xU,args:=mP,argTypes},type:=ty,pos,after,guard}=callFunc g ((mP.toList.map a.eval++arr.toList).toArray):=by
     have:a.eval xU= .func (.func g) #[] arr:=f3;simp only[execOp,resolve,this,Deferred.ofValue,pure_bind,invoke];congr 1;apply Array.ext';simp
    unfold Oper.wp;rw[xV];have xW:d_ w F s (λt=>a.tmps.getD t undef) (xs.map (bu s)++caps) (mP.toList.map a.eval++arr.toList):=LY (Ba aM (λ_=>rfl) _ _ (ti kL)) f4;rw[<-ae]at xW;obtain⟨eV,l2⟩:=LZ xW;have fI:∀d∈xs.map (bu s)++caps,d.plain=true:=by
     intro d ai;rcases mem_append.1 ai with ai|ai
     .obtain⟨x,au,rfl⟩:=mem_map.1 ai;exact Kx s x λav e=>by
       subst e;have hm:=ti kL;have:some (bk.c av)∈xs.map some:=mem_map.2 ⟨_,au,rfl⟩;rw[<-hm]at this;obtain⟨o,_,bE⟩:=mem_map.1 this;cases o with
       |const v=>simp only[dG,Option.map_eq_some_iff]at bE;obtain⟨c,an,e⟩:=bE;cases e;exact Et an
       |tmp n=>simp[dG]at bE
       |func g=>simp[dG]at bE
       |global g=>simp[dG]at bE
     .obtain⟨k,ax⟩:=getElem?_of_mem ai;exact AN gT ax
    have u0:=TS (C:=C) aM (ps:=ps) (vs:=mP.toList.map a.eval++arr.toList) (f:=g) (r:=r) (by simpa using eV)
     (λi p v aq aJ=>⟨fI p.a (by rw[<-ae];exact mem_map.2 ⟨p,mem_of_getElem? aq,rfl⟩),l2 i p.a v (by simp[aq]) aJ⟩) az a6 bF cP cB
    rcases u0 with⟨di,aZ⟩|⟨v,aF,di,bO,aN,aZ,cZ,bU⟩
    .rw[di,Oper.upon_enter];refine Calls.mono aZ ?_;rintro e aF ⟨v,rfl,bO,aN,b3,cc,eT⟩;obtain⟨s2,dg,m1,m2,m3⟩:=tq _ _ _ _ _ _ _ _ _ aM fS cP b3 cc eT;exact aS _ _ _ m1 (Rel.put jS ea iy m2 m3 ai)
    .rw[di,Oper.upon_value];obtain⟨s2,dg,m1,m2,m3⟩:=tq _ _ _ _ _ _ _ _ _ aM fS cP aZ cZ bU;exact aS _ _ _ m1 (Rel.put jS ea iy m2 m3 ai)
   .cases cx
  .split at cx
   .simp only[Option.map_eq_some_iff]at cx;obtain⟨_,_,cx⟩:=cx;cases cx
   .cases cx
  .split at cx
   .simp only[Option.map_eq_some_iff]at cx;obtain⟨_,_,cx⟩:=cx;cases cx
   .cases cx
  iterate 3
   .split at cx
    .split at cx<;>cases cx
    .cases cx
  .cases cx
 |makeFunc fn first cs=>
  cases fn<;>simp only[cX]at cx<;>first|(cases cx;done)|(split at cx<;>simp at cx)
 |slice T x fl ao ha=>
  cases ha<;>simp only[cX]at cx<;>first|(cases cx;done)|(split at cx<;>simp at cx)
 |makeMap T r=>cases r<;>simp only[cX]at cx<;>simp at cx
 |lookup T x i c=>cases c<;>simp only[cX]at cx<;>first|(cases cx;done)|(split at cx<;>simp at cx)
 |_=>simp only[cX]at cx<;>first|(cases cx;done)|(simp at cx;done)|(split at cx<;>simp at cx)
theorem T0 (bn:C.Ok) (h:Rel w0 F0 X n ρ s a w) {o:Oper} {bV:ed} (cx:cX o.op=some bV) (ai:lA n o.dst=true) {K:aw->Prop} {next:Act->World->Prop}
  (hw:oc C s bV λav s1=>K (fin s1 o.dst av)) (aS:∀aB cL aF,K aB->Rel w0 F0 X n ρ aB cL aF->next cL aF):o.wp C.P a w next Q:=by
 have hrel:=h;obtain⟨jS,ea,iy,F,S,aM⟩:=h;have plain:∀av s1,b8 C s bV=some (av,s1)->K (fin s1 o.dst av)->o.wp C.P a w next Q:=by
  intro av s1 he ax;obtain⟨r,aF,v,bO,aN,ab,ae,az,a6⟩:=Lo (a:=a) bn aM (λ_=>rfl) cx he;unfold Oper.wp;rw[ab];rcases ae with rfl|⟨rfl,rfl⟩
  .exact aS _ _ _ ax (Rel.put jS ea iy az a6 ai)
  .exact aS _ _ _ ax (Rel.put jS ea iy az a6 ai)
 cases bV with
 |shr bV=>exact(TU cx).elim
 |call f args=>exact L0 bn ⟨jS,ea,iy,F,S,aM⟩ cx ai (K:=λav s1=>K (fin s1 o.dst av)) hw (λ_ _ _ aN _ _ _ s1 _ _ ae _ az a6 _=>⟨s1,aN,ae,az,a6⟩) aS
 |ks f args L=>exact(TV cx).elim
 |jM T x=>exact(TW cx).elim
 |ns x=>exact(TX cx).elim
 |_=>
  obtain⟨av,s1,he,ax⟩:=hw;exact plain av s1 he ax
theorem k4.share {F:Nat->Prop} {S:Nat->Nat->Prop} {aC:Nat->Value} {v:Value} (h:bD w0 F0 X F S s aC w) (aJ:k4 w0 X F S s aC w av v) (a8:av.tree=true) (aS:∀vs,av≠.tuple vs):
  ∃bO,bD w0 F0 X bO S s aC w/\k4 w0 X bO S s aC w av.share v:=by
 obtain⟨Sn,gE,gD,iH,iI,pP,xX⟩:∃Sn:Nat->Prop,dD av v/\ar w F av (cj v) Sn/\(∀b,Sn b->b<w.heap.size)/\(∀b,Sn b->¬F b)/\(∀u b,Sn b->¬S u b)/\(∀b,Sn b->X b\/w0.heap.size<=b):=by
  rcases aJ with⟨ab,ae⟩|⟨_,ae,Sn,az,a6,bF,cP,cB⟩
  .rw[aH.cv a8]at ae;exact⟨λ_=>False,ae.1,ae.2,λ_ h=>h.elim,λ_ h=>h.elim,λ_ _ h=>h.elim,λ_ h=>h.elim⟩
  .exact⟨Sn,ae,az,a6,bF,cP,cB⟩
 refine⟨λb=>F b\/Sn b,?_,.inl ⟨Fa av,?_⟩⟩
 .exact {
   gm:=λb R=>.inl (h.gm b R)
   gC:=λb R=>by
    rcases R with R|R
    .exact h.gC b R
    .exact .inr (xX b R)
   eQ:=λb R=>R.elim (h.eQ b) (iH b)
   dW:=h.dW
   fb:=λt b R bo=>bo.elim (h.fb t b R) (λad=>pP t b ad R)
   e_:=h.e_
   dx:=h.dx
   dp:=λt=>aH.frame (λ_ _=>rfl) (λb R=>.inl R) (λ_ _ _=>rfl) h.dp _ _ _ (λ_ _=>rfl) (h.dp t)
   old:=h.old
   size:=h.size
   os:=h.os
   tape:=h.tape
   output:=h.output
   gn:=h.gn}
 .by_cases bE:∃o,av= .dS o
  .obtain⟨o,rfl⟩:=bE;rw[I.share,aH];trivial
  by_cases tr:∃f c,av= .fJ f c
  .obtain⟨f,c,rfl⟩:=tr;rw[I.share,aH];trivial
  have T1:av.share.tree=true:=by cases av<;>first|exact a8|rfl|exact(bE ⟨_,rfl⟩).elim|exact(tr ⟨_,_,rfl⟩).elim
  rw[aH.cv T1];exact⟨Fe aS gE,ar.shared (λb R=>.inl R) av _ Sn (λb R=>.inr R) gD⟩
theorem T2 {op:Op} {T:TypeId} {x:bk} (h:cX op=some (.iw T x)):∃a,op= .box T a/\dG a=some x:=by
 cases op with
 |box Fm a=>
  simp only[cX,Option.map_eq_some_iff,ed.iw.injEq]at h;obtain⟨y,bb,rfl,rfl⟩:=h;exact⟨a,rfl,bb⟩
 |_=>
  exfalso;unfold cX at h;split at h<;>(try split at h)<;>(try split at h)<;>(try split at h)<;>(try simp[Option.map_eq_some_iff]at h)<;>contradiction
theorem T3 {aF:World} {F bO:Nat->Prop} {s s1:aw} {aC:Nat->Value} (bh:∀b,F b->bO b/\aF.heap[b]? =w.heap[b]?):∀(n:Nat),
  (∀(d:I) (v:Value) (S:Nat->Prop),SizeOf.sizeOf d<=n->d.fy s=true->d.fy s1=true->aH w F s aC d v S->aH aF bO s1 aC d v (λ_=>False))/\
  (∀(ds:alW) (vs:alU),SizeOf.sizeOf ds<=n->I.ob s ds=true->I.ob s1 ds=true->d_ w F s aC ds vs->d_ aF bO s1 aC ds vs):=by
 intro n;induction n with
 |zero=>
  refine⟨λd v S bZ=>?_,λds vs bZ=>?_⟩
  .cases d<;>simp at bZ<;>omega
  .cases ds<;>simp at bZ<;>omega
 |succ n ih=>
  refine⟨λd v S bZ b3 cc h=>?_,λds vs bZ b3 cc h=>?_⟩
  .cases d with
   |hole=>rw[aH];trivial
   |h x q=>
    simp only[I.fy,Bool.and_eq_true,isEmpty_iff]at b3 cc;obtain⟨rfl,b3⟩:=b3;rw[aH]at h⊢;obtain⟨cQ,a,fL,hn,h6⟩:=h (s x) (by simp only[I.sub]) (tl b3).1;simp only[du,Option.some.injEq,Prod.mk.injEq,true_and]at fL;intro d ai _;simp only[I.sub,Option.some.injEq]at ai;subst ai;exact⟨cj (aC x),none,by simp only[du],by rw[hn,<-fL.1],((tl cc.2).2.2.2.2.2 _).2 (((tl b3).2.2.2.2.2 _).1 h6)⟩
   |aq x q=>simp[I.fy]at b3
   |R x k=>
    simp only[I.fy,Bool.not_eq_true']at b3;rw[aH]at h⊢;obtain⟨b,cur,e,fr,ab,ae,az,a6⟩:=h b3;exact λ_=>⟨b,cur,e,fr,ab,(bh b ae).1,(bh b ae).2.trans az,a6⟩
   |fn f cap=>
    simp only[I.fy]at b3 cc;rw[aH]at h⊢;obtain⟨arr,rfl,an⟩:=h;exact⟨arr,rfl,ih.2 _ _ (by simp at bZ;omega) b3 cc an⟩
   |_=>
    simp only[I.fy]at b3;have bC:=(aH.cv rfl).1 h;exact(aH.cv rfl).2 ⟨bC.1,ar.mono (λb R=>(bh b R).1) _ _ _ _ (λ_ h=>h) (ar.frame (λb R=>(bh b R).2) _ _ _ (λ_ h=>h.elim) (ar.plain _ _ _ _ b3 bC.2))⟩
  .cases ds with
   |nil=>rw[d_]at h⊢;exact h
   |cons d ds=>
    simp only[I.ob,Bool.and_eq_true]at b3 cc;rw[d_]at h⊢;obtain⟨v,jI,rfl,ab,ae⟩:=h;simp at bZ;exact⟨v,jI,rfl,ih.1 _ _ _ (by omega) b3.1 cc.1 ab,ih.2 _ _ (by omega) b3.2 cc.2 ae⟩
theorem T4 {s:aw} {d:I} (h:d.fy s=true):d.plain=true:=by
 cases d<;>first|rfl|(simpa [I.fy]using h)
theorem bD.mO {F:Nat->Prop} {aC:Nat->Value}:∀(L:alV) (s:aw) (S:Nat->Nat->Prop),bD w0 F0 X F S s aC w->(∀p∈L,p.2.plain=true/\aH w F s aC p.2 (aC p.1) (λ_=>False))->
  ∃aN,bD w0 F0 X F aN (de.mO s L) aC w/\∀u b,aN u b->S u b:=by
 intro L;induction L with
 |nil=>intro s S h _;exact⟨S,h,λ_ _ h=>h⟩
 |cons p L ih=>
  intro s S h tq;obtain⟨ab,ae⟩:=tq p (by simp);have el:dq aC p.1 (aC p.1)=aC:=by funext u;simp only[dq];split<;>simp_all
  have az:=h.uJ (t:=p.1) ab ae;rw[el]at az;have hc:∀x,x≠p.1->(dq s p.1 p.2 x).tree=true->dq s p.1 p.2 x=s x/\aC x=aC x:=λx au _=>⟨je _ _ au,rfl⟩
  obtain⟨aN,g1,g2⟩:=ih _ _ az (λq b1=>⟨(tq q (by simp[b1])).1,(aH.void (t:=p.1) hc (by rw[lR];exact ab) _).1 _ _ _ (Nat.le_refl _) (tq q (by simp[b1])).2⟩);refine⟨aN,g1,λu b R=>?_⟩;have:=g2 u b R;simp only[fV]at this;split at this
  .exact this.elim
  .exact this
theorem Fo {s:aw}:∀{L:alV},lB s L=true->∀p∈L,p.2.fy s=true
 |q::L,ab,p,aq=>by
  simp only[lB,Bool.and_eq_true]at ab;rcases mem_cons.1 aq with rfl|aq
  .exact ab.1
  .exact Fo ab.2 p aq
theorem T5 {s:aw} {us:alR} {p:Nat×I} (h:p∈jf s us):p.1∈us/\s p.1=p.2:=by
 obtain⟨u,hu,rfl⟩:=mem_map.1 h;exact⟨hu,rfl⟩
theorem T6 (bn:C.Ok) (h:Rel w0 F0 X n ρ s a w) {o:Oper} {bV:ed} (cx:oR o.op=bV.base) (ai:lA n o.dst=true) {K:aw->Prop} {next:Act->World->Prop}
  (hw:oc C s bV λav s1=>K (fin s1 o.dst av)) (aS:∀aB cL aF,K aB->Rel w0 F0 X n ρ aB cL aF->next cL aF):o.wp C.P a w next Q:=by
 cases bV with
 |shr bV=>
  obtain⟨av,s1,he,a8,mM,ax⟩:=hw;rcases p0 cx with cx|cx
  .change bV= .bad at cx;subst cx;cases he
  obtain⟨jS,ea,iy,F,S,aM⟩:=h;obtain⟨r,aF,v,bO,aN,ab,ae,az,a6⟩:=Lo (a:=a) bn aM (λ_=>rfl) cx he;obtain⟨lz,g3,g4⟩:=k4.share az a6 a8 mM;unfold Oper.wp;rw[ab];rcases ae with rfl|⟨rfl,rfl⟩
  .exact aS _ _ _ ax (Rel.put jS ea iy g3 g4 ai)
  .exact aS _ _ _ ax (Rel.put jS ea iy g3 g4 ai)
 |bad=>obtain⟨av,s1,he,_⟩:=hw;cases he
 |ks f args L=>
  obtain⟨aV,hw⟩:=hw;rcases p0 cx with R|R
  .cases R
  .refine L0 bn h R ai hw ?_ aS;rintro F S bO aN w aF av s1 v gE ⟨gD,iI⟩ pP xX Fp T7;obtain⟨dg,g1,g2⟩:=xX.mO (jf s L) s1 aN (λp aq=>by
    have di:=(T5 aq).2;have aZ:=Fo aV p aq;have cZ:=Fo gD p aq;refine⟨T4 aZ,(T3 T7 _).1 _ _ (S p.1) (Nat.le_refl _) aZ cZ ?_⟩;have:=gE.dp p.1;rw[di]at this;exact this)
   exact⟨_,dg,iI,g1,Fp.less g2 pP⟩
 |jM T x=>
  obtain⟨av,s1,he,ax⟩:=hw;rcases p0 cx with R|R
  .cases R
  .obtain⟨cp,xY,au⟩:=T2 R;obtain⟨jS,ea,iy,F,S,aM⟩:=h;obtain⟨dst,op,ty,pos,after,guard⟩:=o;simp only at xY ai ax;subst xY;obtain⟨r,aF,v,bO,aN,ab,ae,az,a6⟩:Next C w0 F0 X (λt=>a.tmps.getD t undef) w (execOp a.eval ⟨dst,.box T cp,ty,pos,after,guard⟩) av s1:=(R5 (T:=T) aM (fE aM (λ_=>rfl) au).2 he).next;unfold Oper.wp;rw[ab];rcases ae with rfl|⟨rfl,rfl⟩
   .exact aS _ _ _ ax (Rel.put jS ea iy az a6 ai)
   .exact aS _ _ _ ax (Rel.put jS ea iy az a6 ai)
 |ns x=>
  obtain⟨av,s1,he,ax⟩:=hw;rcases p0 cx with R|R
  .cases R
  .obtain⟨cp,xY,au⟩:=TY R;obtain⟨jS,ea,iy,F,S,aM⟩:=h;obtain⟨dst,op,ty,pos,after,guard⟩:=o;simp only at xY ai ax;subst xY;simp only[b8,Option.some.injEq,Prod.mk.injEq]at he;obtain⟨rfl,rfl⟩:=he;obtain⟨g1,g2⟩:=fE aM (λ_=>rfl) au;obtain⟨r,aF,v,bO,aN,ab,ae,az,a6⟩:Next C w0 F0 X (λt=>a.tmps.getD t undef) w (execOp a.eval ⟨dst,.assign cp,ty,pos,after,guard⟩) (bu s x) s:=⟨_,w,_,F,S,rfl,.inl rfl,aM,.inl ⟨g1,g2⟩⟩
   unfold Oper.wp;rw[ab];rcases ae with rfl|⟨rfl,rfl⟩
   .exact aS _ _ _ ax (Rel.put jS ea iy az a6 ai)
   .exact aS _ _ _ ax (Rel.put jS ea iy az a6 ai)
 |_=>
  rcases p0 cx with R|R
  .cases R
  .exact T0 bn h R ai hw aS
end
end Go.de
