/- Part of a proof that a law returns true for every input. No condition. -/
import Derived.Test.YtngohoaiimbacabGreatDoorFwD
import Derived.Laws.Tables
namespace Go.c_
open List Go.IntKind Nat Or
section
variable {C:bW} {w0 w:World} {F0 X F:Nat->Prop} {S:Nat->Nat->Prop} {s s1:aw} {ay:Nat->Value} {av:I}
theorem DK (z:ahz):∀n,(range (n*z.length)).map (λi=>z[i%z.length]!)=(replicate n z).flatten
 |0=>by simp
 |n+1=>by
  rw[Nat.add_mul,Nat.one_mul,range_add,map_append,DK z n,replicate_succ',flatten_append];congr 1;simp only[List.map_map,flatten_cons,flatten_nil,append_nil];apply ext_getElem
  .simp
  .intro i ab ad;have ak:i<z.length:=ad;simp[mod_eq_of_lt ak,ak]
theorem aZ.replicate {d:I} {cs:ahz} (h:∀aN,au w F d cs aN):∀n aN,aZ w F (replicate n d) (replicate n cs).flatten aN
 |0,aN=>by simp only[replicate_zero,flatten_nil];rw[aZ]
 |n+1,aN=>by
  rw[replicate_succ,replicate_succ,flatten_cons,aZ];exact⟨cs,_,λ_=>False,λ_=>False,rfl,h _,aZ.replicate h n _,λ_ h=>h.elim,λ_ h=>h.elim,λ_ h=>h.elim⟩
def en (C:bW) (T:TypeId) (l c:I):Option I:=
 match(C.T T).k,l,c with
 | .slice e,.int .i64 n,.int .i64 m=>if n=m/\0<=n/\(C.T e).ok=true/\(C.T e).zero.wd=(C.T e).sz/\(flat (C.T e).zero).isSome=true/\(C.T e).sz≠0/\(C.T e).bytes*n<=140737488355328/\n<=9223372036854775807 then
   some (.ao (C.T e).sz (replicate n.toNat (C.T e).zero))else none
 |_,_,_=>none
theorem Rm (bk:C.eF) (h:bx w0 F0 X F S s ay w) {T:TypeId} {l c:I} {JO JP:Value} (hl:aF w F s ay l JO (λ_=>False)) (ai:aF w F s ay c JP (λ_=>False)) (he:en C T l c=some av):
  Good C w0 F0 X ay w (Instr.makeSlice T JO JP) av s:=by
 unfold en at he;split at he
 .rename_i e n m aq;have:=mR hl;subst this;have:=mR ai;subst this;obtain⟨JD,d,JE,aP,aT,aR,b4,cz,bV,bF⟩:=bk.info (fZ aq (by simp));rw[aq]at bF;have:=lM bF;subst this;split at he
  .rename_i wC;obtain⟨rfl,aU,qe,sA,sB,eJ,afZ,sD⟩:=wC;simp only[Option.some.injEq]at he;subst he;obtain⟨i,JF,z,f1,f2,f3,f4,f5,f6,f7⟩:=bk.info qe;obtain⟨gB,mU⟩:=Option.isSome_iff_exists.1 sB;have sC:=f5 gB mU;have gp:∀aN,au w F (C.T e).zero gB aN:=λaN=>(au.flat _).1 _ gB aN (Nat.le_refl _) mU;have q9:gB.length=(C.T e).sz:=by rw[au.length _ _ _ (gp (λ_=>False)),sA]
   obtain⟨n,rfl⟩:=Int.eq_ofNat_of_zero_le aU;simp only[Int.toNat_natCast];have JQ:i64.wrap (n:Int)=n:=by
    rw[wrap_i64];omega
   have zN:∀k (w:World),(askRoom k).run C.P w= .ok () w:=by
    intro k w;unfold askRoom;split<;>rfl
   have od:((Array.range (n*(C.T e).sz)).map (gB.toArray[·%gB.toArray.size]!)).toList=(replicate n gB).flatten:=by
    have:=DK gB n;rw[q9]at this;simpa [q9]using this
   have ei:¬(281474976710656<(i.bytes:Int)*n):=by
    rw[f3];omega
   have JR:¬((n:Int)<0):=by omega
   have run:(Instr.makeSlice T (.int .i64 n) (.int .i64 n)).run C.P w= .ok (.slice (some ⟨w.heap.size,0,none⟩) n n)
     (w.alloc (.cells (if n*(C.T e).sz=0 then(Array.range (n*(C.T e).sz)).map (λ_=>default)else(Array.range (n*(C.T e).sz)).map (gB.toArray[·%gB.toArray.size]!)) e)):=by
    by_cases aV:n*(C.T e).sz=0
    .simp[Instr.makeSlice,run_underlying bV,asInt,asIntOf,wy f1,JQ,ei,JR,zN,kv f1,f2,aV,newRow]
    .simp only[aV,if_false];simp[Instr.makeSlice,run_underlying bV,asInt,asIntOf,wy f1,JQ,ei,JR,zN,kv f1,f2,aV,newRow,so f1 f4,sC]
   have mr:(if n*(C.T e).sz=0 then(Array.range (n*(C.T e).sz)).map (λ_=>(default:Value))else(Array.range (n*(C.T e).sz)).map (gB.toArray[·%gB.toArray.size]!)).toList=(replicate n gB).flatten:=by
    split
    .rename_i aV;have:n=0:=by
      rcases mul_eq_zero.1 aV with h|h
      .exact h
      .exact(eJ h).elim
     subst this;simp
    .exact od
   generalize wO:(if n*(C.T e).sz=0 then(Array.range (n*(C.T e).sz)).map (λ_=>(default:Value))else(Array.range (n*(C.T e).sz)).map (gB.toArray[·%gB.toArray.size]!))=cur at run mr;have jP:(replicate n gB).flatten.length=n*(C.T e).sz:=by simp[q9]
   have hj:cur.size=n*(C.T e).sz:=by
    have:cur.size=cur.toList.length:=by simp
    rw[this,mr,jP]
   have lQ:=h.zI (aD:=w.alloc (.cells cur e)) (sz:=(C.T e).sz) (cap:=n) (xs:=replicate n (C.T e).zero) (cur:=cur) (e:=e) (fr:=(0,0)) (Sn:=λ_=>False) rfl rfl rfl ⟨rfl,λ_=>Nat.le_refl _⟩
    (λo _ ⟨_,ad⟩=>absurd ad (not_lt_zero _)) (by simp) (by unfold maxLen;omega) hj (by intro d ae;rw[eq_of_mem_replicate ae];exact sA)
    (by rw[mr,length_replicate,take_of_length_le (by rw[jP];exact Nat.le_refl _)];exact aZ.replicate gp n _) (λ_ h=>h.elim) (λ_ h=>h.elim) (λ_ _ h=>h.elim) (λ_ h=>h.elim)
   rw[length_replicate]at lQ;exact⟨_,_,F,S,run,lQ.1,lQ.2⟩
  .cases he
 .cases he
def mx (s:aw) (f:FuncId) (cs:List bb):Option I:=some (.fn f (cs.map (bj s)))
theorem zU {a:Act} (h:bx w0 F0 X F S s ay w) (dY:∀t,ay t=a.tmps.getD t undef):∀(os:List Operand) (xs:List bb),os.map dt=xs.map some->dP w F s ay (xs.map (bj s)) (os.map a.eval)
 |[],[],_=>by simp only[map_nil];rw[dP]
 |[],x::xs,h=>by simp at h
 |o::os,[],h=>by simp at h
 |o::os,x::xs,bc=>by
  simp only[map_cons,cons.injEq]at bc⊢;rw[dP];exact⟨_,_,rfl,(fz h dY bc.1).2,zU h dY os xs bc.2⟩
theorem JS:∀(vs:ahz) (k off:Nat) (A:Array Value) (l m r:ahz),A.toList=l++(m++r)->l.length=off+k->m.length=vs.length->
  ((vs.zipIdx k).foldl (λcs (x:Value×Nat)=>cs.setIfInBounds (off+x.2) x.1) A).toList=l++(vs++r)
 |[],k,off,A,l,m,r,ib,hl,hm=>by
  have:m=[]:=by simpa using hm
  subst this;simpa using ib
 |v::vs,k,off,A,l,m,r,ib,hl,hm=>by
  obtain⟨x,m,rfl⟩:∃x hO,m=x::hO:=by
   cases m with
   |nil=>simp at hm
   |cons x m=>exact⟨x,m,rfl⟩
  rw[zipIdx_cons,foldl_cons];have:=JS vs (k+1) off (A.setIfInBounds (off+k) v) (l++[v]) m r (by
   rw[Array.toList_setIfInBounds,ib,<-hl,set_append_right _ _ (Nat.le_refl _)];simp) (by simp;omega) (by simpa using hm)
  simpa using this
def kW (os:List (Option Nat)) (a:I):I:=os.foldl (λa o=>ku o a) a
def ej (place:Nat->Option (Nat×Nat)):aw->ahB->List (Option Nat)->ahA->Option (ahB×aw)
 |s,dn,_,[]=>some (dn,s)
 |s,dn,os,(k,a)::r=>match cH s (kW os a),place k,dn[k]? with
  |some (d,s1),some (off,n),some z=>match d with
   | .tuple _=>none
   |d=>if d.wd=n/\z.wd=n/\I.dT (dn.take k)=off then ej place s1 (dn.set k d) (os++[(kW os a).owner]) r else none
  |_,_,_=>none
def nC (w:World) (F:Nat->Prop) (s:aw) (ay:Nat->Value):ahA->List (Nat×Value)->Prop
 |[],[]=>True
 |(k,a)::r,(cI,v)::gn=>k=cI/\a.plain=true/\aF w F s ay a v (λ_=>False)/\nC w F s ay r gn
 |_,_=>False
theorem Rn (x:Nat):∀d:I,d.plain=true->(b6 x d).plain=true
 | .h y q,_=>by simp only[b6];split<;>(try split)<;>rfl
 | .an y q,_=>by simp only[b6];split<;>rfl
 | .R y q,_=>rfl
 | .fn f c,_=>by simp only[b6];rfl
 | .hole,h=>h
 | .bool _,h=>h
 | .fw,h=>h
 | .int _ _,h=>h
 | .str _,h=>h
 | .dr,h=>h
 | .bf,h=>h
 | .slice _,h=>h
 | .ao _ _,h=>h
 | .ref _,h=>h
 | .a1 _,h=>h
 | .agg _,h=>h
 | .tuple _,h=>h
theorem Ro (o:Option Nat) (d:I) (h:d.plain=true):(ku o d).plain=true:=by
 cases o with
 |none=>exact h
 |some x=>exact Rn x d h
theorem nC.b6 {w:World} {F:Nat->Prop} {s s1:aw} {ay:Nat->Value} {o:Option Nat} (an:∀(bp:I) (fX:Value) (aN:Nat->Prop),aF w F s ay bp fX aN->aF w F s1 ay (ku o bp) fX aN):
  ∀(r:ahA) (gn:List (Nat×Value)),nC w F s ay r gn->nC w F s1 ay (r.map λp=>(p.1,ku o p.2)) gn
 |[],[],_=>trivial
 |(k,a)::r,(cI,v)::gn,h=>by
  obtain⟨ab,ad,aC,aW⟩:=h;exact⟨ab,Ro _ _ ad,an _ _ _ aC,nC.b6 an r gn aW⟩
 |[],_::_,h=>h.elim
 |_::_,[],h=>h.elim
theorem DL {place:Nat->Option (Nat×Nat)}:∀(ps:ahA) (vs:List (Nat×Value)) (os:List (Option Nat)) (s:aw) (S:Nat->Nat->Prop) (dn:ahB) (A:Array Value) (hq:Nat->Prop),
  bx w0 F0 X F S s ay w->nC w F s ay (ps.map λp=>(p.1,kW os p.2)) vs->aZ w F dn A.toList hq->(∀b,hq b->b<w.heap.size)->(∀b,hq b->¬F b)->(∀u b,hq b->¬S u b)->(∀b,hq b->X b\/w0.heap.size<=b)->
  ∀ds s1,ej place s dn os ps=some (ds,s1)->∃ma b3 gx,Instr.fill place A vs=some ma/\bx w0 F0 X F b3 s1 ay w/\aZ w F ds ma.toList gx/\(∀b,gx b->b<w.heap.size)/\(∀b,gx b->¬F b)/\(∀u b,gx b->¬b3 u b)/\
   (∀b,gx b->X b\/w0.heap.size<=b)/\ds.length=dn.length/\I.dT ds=I.dT dn/\(∀n,(∀d∈dn,d.wd=n)->∀d∈ds,d.wd=n)
 |[],[],os,s,S,dn,A,hq,h,_,ab,ad,aC,aW,bu,ds,s1,he=>by
  simp only[ej,Option.some.injEq,Prod.mk.injEq]at he;obtain⟨rfl,rfl⟩:=he;exact⟨A,S,hq,rfl,h,ab,ad,aC,aW,bu,rfl,rfl,λ_ h=>h⟩
 |(k,a)::ps,(cI,v)::vs,os,s,S,dn,A,hq,h,an,ab,ad,aC,aW,bu,ds,s1,he=>by
  obtain⟨rfl,kb,oa,wP⟩:=an;simp only[ej]at he;split at he
  .rename_i d ur off n z aY fy bR;have key:∀d:I,(∀az,d≠.tuple az)->cH s (kW os a)=some (d,ur)->(if d.wd=n/\z.wd=n/\I.dT (dn.take k)=off then ej place ur (dn.set k d) (os++[(kW os a).owner]) ps else none)=some (ds,s1)->
     ∃ma b3 gx,Instr.fill place A ((k,v)::vs)=some ma/\bx w0 F0 X F b3 s1 ay w/\aZ w F ds ma.toList gx/\(∀b,gx b->b<w.heap.size)/\(∀b,gx b->¬F b)/\(∀u b,gx b->¬b3 u b)/\
     (∀b,gx b->X b\/w0.heap.size<=b)/\ds.length=dn.length/\I.dT ds=I.dT dn/\(∀n,(∀d∈dn,d.wd=n)->∀d∈ds,d.wd=n):=by
    intro d qa aY he;split at he
    .rename_i ai;obtain⟨mW,mu,JT⟩:=ai;obtain⟨b3,g0,g1,g2,Sn,g3,g4,g5,g6,g7,g8,g9,g10⟩:=o5 h kb oa aY;obtain⟨b2,fN,c2,Sx,hF,ib,hr,fl,gJ,h3,fU,l7⟩:=aZ.pick dn _ _ k z ab bR;have od:=wB g2 qa;have mX:=au.length _ _ _ g3;have JU:=au.length _ _ _ fU;have q5:=l7 w d (b8 v) Sn (λ_ _=>rfl) (λ_ _=>rfl) g3 (λb Rp Rq=>by obtain⟨u,hu⟩:=g9 b Rp;exact aW u b (fl b Rq) hu);have JV:=JS (b8 v) 0 off A b2 fN c2 ib (by rw[hr,JT];rfl) (by rw[JU,mX,mW,mu]);generalize wQ:((b8 v).zipIdx 0).foldl (λcs (x:Value×Nat)=>cs.setIfInBounds (off+x.2) x.1) A=zG at JV;obtain⟨ma,dh,gx,m1,m2,m3,m4,m5,m6,m7,m8,m9,m10⟩:=DL (place:=place) ps vs (os++[(kW os a).owner]) ur b3 (dn.set k d) zG (λb=>Sx b\/Sn b) g0 (by have:=nC.b6 g10 _ _ wP;simpa [kW,foldl_append,Function.comp_def]using this) (by rw[JV];exact q5)
      (by rintro b (R|R);exact ad b (fl b R);exact g4 b R) (by rintro b (R|R);exact aC b (fl b R);exact g5 b R)
      (by rintro u b (R|R);exact λhu=>aW u b (fl b R) (g8 u b hu);exact g6 u b R) (by rintro b (R|R);exact bu b (fl b R);exact g7 b R) ds s1 he
     refine⟨ma,dh,gx,?_,m2,m3,m4,m5,m6,m7,by rw[m8];simp,by rw[m9];exact C0 _ _ _ _ bR (by rw[mW,mu]),?_⟩
     .have DM:off+n<=A.size:=by
       have:A.size=A.toList.length:=by simp
       rw[this,ib];simp[hr,JT,JU,mu]
      simp only[Instr.fill,fy,od,List.size_toArray,mX,mW];have jC:¬(n≠n\/A.size<off+n):=by omega
      have Rr:(b8 v).toArray.zipIdx.foldl (λcs (x:Value×Nat)=>cs.setIfInBounds (off+x.2) x.1) A=zG:=by
       rw[<-wQ,<-Array.foldl_toList];simp
      simp only[ne_eq,not_true_eq_false,decide_false,Bool.false_or,decide_eq_true_eq,gt_iff_lt];rw[if_neg (by simp;omega)];rw[show(b8 v).toArray.zipIdx.foldl (λcs x=>match x with|(c,j)=>cs.setIfInBounds (off+j) c) A=zG from Rr];exact m1
     .intro DN rf;refine m10 DN (C1 rf ?_);rw[mW,<-mu];exact rf z (mem_of_getElem? bR)
    .cases he
   split at he
   .cases he
   .rename_i qa;exact key _ (λaz e=>qa az e) aY he
  .cases he
 |[],_::_,_,_,_,_,_,_,_,an,_,_,_,_,_,_,_,_=>an.elim
 |_::_,[],_,_,_,_,_,_,_,an,_,_,_,_,_,_,_,_=>an.elim
def gr (C:bW) (s:aw) (T:TypeId) (ps:ahA):Option (I×aw):=
 match(C.T T).k,(C.T T).zero with
 | .struct az,.agg dn=>if(flat (.agg dn)).isSome=true/\(∀f∈az,(C.T f.1).ok=true)then
   (match ej (λk=>(az[k]?).map λf=>(f.2,(C.T f.1).sz)) s dn [] ps with
   |some (ds,s1)=>some (.agg ds,s1)
   |none=>none)else none
 |_,_=>none
def f_ (C:bW) (s:aw) (T:TypeId) (n:Nat) (ps:ahA):Option (I×aw):=
 match(C.T T).k with
 | .slice e=>if(C.T e).ok=true/\(C.T e).zero.wd=(C.T e).sz/\(flat (C.T e).zero).isSome=true/\(C.T e).sz≠0/\n*(C.T e).sz<=16777216 then
   (match ej (λk=>some (k*(C.T e).sz,(C.T e).sz)) s (replicate n (C.T e).zero) [] ps with
   |some (ds,s1)=>some (.ao (C.T e).sz ds,s1)
   |none=>none)else none
 |_=>none
theorem Rs (bk:C.eF):∀(gs:List Field),(∀g∈gs,(C.T g.type).ok=true)->
  gs.mapM (λf=>(C.P.info? f.type).map λi=>(f.offset,i.size))=some (gs.map λg=>(g.offset,(C.T g.type).sz)):=by
 intro gs;induction gs with
 |nil=>intro _;simp
 |cons g gs ih=>
  intro hg;obtain⟨i,d,z,f1,f2,f3,f4,f5,f6,f7⟩:=bk.info (hg g (by simp));have:=ih (λg gZ=>hg g (by simp[gZ]));simp[mapM_cons,f1,f2,this]
theorem Rt (bk:C.eF) (h:bx w0 F0 X F S s ay w) {T:TypeId} {ps:ahA} {vs:List (Nat×Value)} (an:nC w F s ay ps vs) (he:gr C s T ps=some (av,s1)):
  Good C w0 F0 X ay w (Instr.build T vs.toArray) av s1:=by
 unfold gr at he;split at he
 .rename_i az dn aq bR;split at he
  .rename_i ai;obtain⟨sB,Ru⟩:=ai;split at he
   .rename_i ds s2 jP;simp only[Option.some.injEq,Prod.mk.injEq]at he;obtain⟨rfl,rfl⟩:=he;obtain⟨i,d,z,aP,aT,aR,b4,cz,bV,bF⟩:=bk.info (fZ aq (by simp));rw[aq]at bF;obtain⟨gs,rfl,JW⟩:=wx bF;obtain⟨gB,mU⟩:=Option.isSome_iff_exists.1 sB;have sC:=cz gB (by rw[bR];exact mU);have gp:aZ w F dn gB.toArray.toList (λ_=>False):=by
     have:=(au.flat (w:=w) (F:=F) _).1 (.agg dn) gB (λ_=>False) (Nat.le_refl _) mU;rw[au]at this;simpa using this
    have ev:nC w F s ay (ps.map λp=>(p.1,kW [] p.2)) vs:=by simpa [kW]using an
    obtain⟨ma,b3,gx,m1,m2,m3,m4,m5,m6,m7,m8,m9,m10⟩:=DL ps vs [] s S dn gB.toArray (λ_=>False) h ev gp (λ_ h=>h.elim) (λ_ h=>h.elim) (λ_ _ h=>h.elim) (λ_ h=>h.elim) ds s2 jP;have fy:=Rs bk gs.toList (λg hg=>Ru (g.type,g.offset) (by rw[<-JW];exact List.mem_map_of_mem hg));have Rv:(λ(k:Nat)=>(az[k]?).map λ(f:TypeId×Nat)=>(f.2,(C.T f.1).sz))=λ(k:Nat)=>((gs.toList.map λg=>(g.offset,(C.T g.type).sz)).toArray)[k]? :=by
     funext k;rw[<-JW];simp only[getElem?_map,getElem?_toArray,Option.map_map];rfl
    rw[Rv]at m1;refine⟨.agg ma,w,F,b3,run_build w T vs.toArray ma ?_,m2,.inr ⟨rfl,⟨_,rfl⟩,gx,by simp only[b8,hs];rw[au];exact m3,m4,m5,m6,m7⟩⟩;unfold Program.built;simp only[aP,bV,b4,fy,sC];exact m1
   .cases he
  .cases he
 .cases he
theorem Rw (bk:C.eF) (h:bx w0 F0 X F S s ay w) {T:TypeId} {n:Nat} {ps:ahA} {vs:List (Nat×Value)} (an:nC w F s ay ps vs) (he:f_ C s T n ps=some (av,s1)):
  Good C w0 F0 X ay w (Instr.buildSlice T n vs.toArray) av s1:=by
 unfold f_ at he;split at he
 .rename_i e aq;split at he
  .rename_i ai;obtain⟨qe,sA,sB,eJ,af0⟩:=ai;split at he
   .rename_i ds s2 jP;simp only[Option.some.injEq,Prod.mk.injEq]at he;obtain⟨rfl,rfl⟩:=he;obtain⟨JD,d,JE,aP,aT,aR,b4,cz,bV,bF⟩:=bk.info (fZ aq (by simp));rw[aq]at bF;have:=lM bF;subst this;obtain⟨i,JF,z,f1,f2,f3,f4,f5,f6,f7⟩:=bk.info qe;obtain⟨gB,mU⟩:=Option.isSome_iff_exists.1 sB;have sC:=f5 gB mU;have gp:∀aN,au w F (C.T e).zero gB aN:=λaN=>(au.flat _).1 _ gB aN (Nat.le_refl _) mU;have q9:gB.length=(C.T e).sz:=by rw[au.length _ _ _ (gp (λ_=>False)),sA]
    generalize ib:((Array.range (n*(C.T e).sz)).map ((if n*(C.T e).sz=0 then #[]else gB.toArray)[·%(if n*(C.T e).sz=0 then(#[]:Array Value)else gB.toArray).size]!))=A;have DM:A.toList=(replicate n gB).flatten:=by
     rw[<-ib];by_cases aV:n*(C.T e).sz=0
     .have:n=0:=by
       rcases mul_eq_zero.1 aV with h|h
       .exact h
       .exact(eJ h).elim
      subst this;simp
     .simp only[aV,if_false];have:=DK gB n;rw[q9]at this;simpa [q9]using this
    have ev:nC w F s ay (ps.map λp=>(p.1,kW [] p.2)) vs:=by simpa [kW]using an
    obtain⟨ma,b3,gx,m1,m2,m3,m4,m5,m6,m7,m8,m9,m10⟩:=DL ps vs [] s S (replicate n (C.T e).zero) A (λ_=>False) h ev (by rw[DM];exact aZ.replicate gp n _) (λ_ h=>h.elim) (λ_ h=>h.elim) (λ_ _ h=>h.elim) (λ_ h=>h.elim) ds s2 jP;have hlen:ds.length=n:=by rw[m8];simp
    have JX:=m10 (C.T e).sz (by intro d ae;rw[eq_of_mem_replicate ae];exact sA);have Rx:ma.toList.length=n*(C.T e).sz:=by rw[aZ.sy m3 JX,hlen]
    have Ry:ma.size=n*(C.T e).sz:=by rw[<-Rx];simp
    have af1:n<=16777216:=by
     have:n*1<=n*(C.T e).sz:=mul_le_mul_left _ (by omega);omega
    have lQ:=m2.zI (aD:=w.alloc (.cells ma e)) (sz:=(C.T e).sz) (cap:=n) (xs:=ds) (cur:=ma) (e:=e) (fr:=(0,0)) (Sn:=gx) rfl rfl rfl ⟨rfl,λ_=>Nat.le_refl _⟩
     (λo _ ⟨_,ad⟩=>absurd ad (not_lt_zero _)) (by omega) (by unfold maxLen;omega) Ry JX (by rw[hlen,take_of_length_le (by omega)];exact m3) m4 m5 m6 m7
    rw[hlen]at lQ;refine⟨_,_,F,b3,?_,lQ.1,lQ.2⟩;by_cases aV:n*(C.T e).sz=0
    .simp only[aV,if_true]at ib;have uu:(Array.map (λ_=>(default:Value)) (Array.range 0))=A:=by
      have:n=0:=by
       rcases mul_eq_zero.1 aV with h|h
       .exact h
       .exact(eJ h).elim
      apply Array.ext';rw[DM,this];simp
     simp[Instr.buildSlice,run_underlying bV,kv f1,f2,aV,newRow];rw[uu,m1];simp
    .simp only[aV,if_false]at ib;have jC:¬(16777216<n*(C.T e).sz):=by omega
     simp[Instr.buildSlice,run_underlying bV,kv f1,f2,aV,jC,so f1 f4,sC,newRow];have uu:(Array.map (λx=>gB[x%gB.length]?.getD default) (Array.range (n*(C.T e).sz)))=A:=by
      rw[<-ib];simp
     rw[uu,m1];simp
   .cases he
  .cases he
 .cases he
end
inductive dQ where
 |gC (x:bb)
 |kc (x:bb)
 |pick (c a b:bb)
 |ka (T:TypeId)
 |ht (T:TypeId) (x:bb)
 |gr (T:TypeId) (ps:List (Nat×bb))
 |f_ (T:TypeId) (n:Nat) (ps:List (Nat×bb))
 |e3 (T:TypeId) (x:bb)
 |iA (T:TypeId) (x y:bb)
 |kz (x:bb)
 |el (op:BinOp) (T:TypeId) (x y:bb)
 |un (op:UnOp) (x:bb)
 |iD (A B:TypeId) (x:bb)
 |mx (f:FuncId) (cs:List bb)
 |en (T:TypeId) (l c:bb)
 |gY (T:TypeId) (x:bb) (eN ak:Option bb)
 |gW (T:TypeId) (x:bb) (k:Nat)
 |iz (T:TypeId) (x i:bb)
 |idx (T:TypeId) (x i:bb)
 |ex (x:bb) (k:Nat)
 |l9 (T:TypeId) (x:bb) (k:Nat)
 |call (f:bb) (args:List bb)
 |len (T:TypeId) (x:bb)
 |app (T cQ:TypeId) (x y:bb)
 |shr (bG:dQ)
 |cap (T:TypeId) (x:bb)
 |iF (eA:Bool) (x y:bb)
 |bad
 |kd (f:bb) (args:List bb) (us:ahw)
 |jF (T:TypeId) (x:bb)
 |wR
 |nB (T:TypeId) (x i:bb)
 |mw (T:TypeId) (x i v:bb)
def dQ.base:dQ->dQ
 | .shr bG=>bG
 | .kd f args _=>.call f args
 | .jF T x=>.ht T x
 |bG=>bG
def oi:List Operand->Option (List bb)
 |[]=>some []
 |o::os=>match dt o,oi os with
  |some x,some xs=>some (x::xs)
  |_,_=>none
def uv:List (Nat×Operand)->Option (List (Nat×bb))
 |[]=>some []
 |(k,o)::os=>match dt o,uv os with
  |some x,some xs=>some ((k,x)::xs)
  |_,_=>none
def wS:Option Operand->Option (Option bb)
 |none=>some none
 |some o=>(dt o).map some
def cK:Op->Option dQ
 | .move x=>(dt x).map .gC
 | .assign x=>(dt x).map .kc
 | .pick c a b=>match dt c,dt a,dt b with
   |some c,some a,some b=>some (.pick c a b)
   |_,_,_=>none
 | .alloc T=>some (.ka T)
 | .box T x=>(dt x).map (.ht T)
 | .build T ps=>(uv ps.toList).map (.gr T)
 | .buildSlice T n ps=>(uv ps.toList).map (.f_ T n)
 | .load T x=>(dt x).map (.e3 T)
 | .store T x y=>match dt x,dt y with
   |some x,some y=>some (.iA T x y)
   |_,_=>none
 | .nilCheck x=>(dt x).map .kz
 | .binOp op T x y _=>match dt x,dt y with
   |some x,some y=>some (.el op T x y)
   |_,_=>none
 | .unOp op _ x=>(dt x).map (.un op)
 | .convert A B x=>(dt x).map (.iD A B)
 | .makeFunc (.func f) first cs=>if first.isEmpty then(oi cs.toList).map (.mx f)else none
 | .makeSlice T l c=>match dt l,dt c with
   |some l,some c=>some (.en T l c)
   |_,_=>none
 | .slice T x eN ak none=>match dt x,wS eN,wS ak with
   |some x,some eN,some ak=>some (.gY T x eN ak)
   |_,_,_=>none
 | .fieldAddr T x k=>(dt x).map λx=>.gW T x k
 | .indexAddr T x i=>match dt x,dt i with
   |some x,some i=>some (.iz T x i)
   |_,_=>none
 | .index T x i=>match dt x,dt i with
   |some x,some i=>some (.idx T x i)
   |_,_=>none
 | .extract x k=>(dt x).map λx=>.ex x k
 | .field T x k=>(dt x).map λx=>.l9 T x k
 | .makeMap _ none=>some .wR
 | .lookup T x i false=>match dt x,dt i with
   |some x,some i=>some (.nB T x i)
   |_,_=>none
 | .mapUpdate T x i v=>match dt x,dt i,dt v with
   |some x,some i,some v=>some (.mw T x i v)
   |_,_,_=>none
 | .call c=>match c.callee with
   | .value f=>match dt f,oi c.args.toList with
     |some f,some xs=>some (.call f xs)
     |_,_=>none
   | .builtin .len=>match c.args.toList,c.argTypes.toList with
     |[x],[T]=>(dt x).map (.len T)
     |_,_=>none
   | .builtin .cap=>match c.args.toList,c.argTypes.toList with
     |[x],[T]=>(dt x).map (.cap T)
     |_,_=>none
   | .builtin .min=>match c.args.toList with
     |[x,y]=>match dt x,dt y with
      |some x,some y=>some (.iF false x y)
      |_,_=>none
     |_=>none
   | .builtin .max=>match c.args.toList with
     |[x,y]=>match dt x,dt y with
      |some x,some y=>some (.iF true x y)
      |_,_=>none
     |_=>none
   | .builtin .append=>match c.args.toList,c.argTypes.toList with
     |[x,y],[T,cQ]=>match dt x,dt y with
      |some x,some y=>some (.app T cQ x y)
      |_,_=>none
     |_,_=>none
   |_=>none
 |_=>none
def iF (eA:Bool):I->I->Option I
 | .str a,.str b=>some (.str (zp eA a b))
 | .int k a,.int cI b=>if k=cI then some (.int k (iy eA a b))else none
 |_,_=>none
def wT (s:aw):I->Option (I×aw)
 | .h y q=>cH s (.h y q)
 |d=>some (d,s)
def bX (C:bW) (s:aw):dQ->Option (I×aw)
 | .gC x=>some (bj s x,s)
 | .kc x=>match bj s x with
   | .h y q=>cH s (.h y q)
   |d=>some (d,s)
 | .pick c a b=>match bj s c with
   | .bool ff=>some (if ff then bj s a else bj s b,s)
   |_=>none
 | .ka T=>(ka C T).map λd=>(d,s)
 | .ht _ x=>ht s (bj s x)
 | .gr T ps=>gr C s T (ps.map λp=>(p.1,bj s p.2))
 | .f_ T n ps=>f_ C s T n (ps.map λp=>(p.1,bj s p.2))
 | .e3 T x=>(e3 C s T (bj s x)).map λd=>(d,s)
 | .iA T x y=>(iA C s T (bj s x) (bj s y)).map λs1=>(.hole,s1)
 | .kz x=>(kz s (bj s x)).map λd=>(d,s)
 | .el op T x y=>(el C s op T (bj s x) (bj s y)).map λd=>(d,s)
 | .un op x=>(un op (bj s x)).map λd=>(d,s)
 | .iD A B x=>(iD C s A B (bj s x)).map λd=>(d,s)
 | .mx f cs=>some (.fn f (cs.map (bj s)),s)
 | .en T l c=>(en C T (bj s l) (bj s c)).map λd=>(d,s)
 | .gY T x eN ak=>gY C s T (bj s x) (eN.map (bj s)) (ak.map (bj s))
 | .gW T x k=>(gW C s T (bj s x) k).map λd=>(d,s)
 | .iz T x i=>(iz C s T (bj s x) (bj s i)).map λd=>(d,s)
 | .idx T x i=>(idx C T (bj s x) (bj s i)).map λd=>(d,s)
 | .ex x k=>(ex s (bj s x) k).map λd=>(d,s)
 | .l9 T x k=>(l9 C s T (bj s x) k).bind (wT s)
 | .call _ _=>none
 | .len T x=>(qc C s T (bj s x)).map λd=>(d,s)
 | .app T cQ x y=>qg C s T cQ (bj s x) (bj s y)
 | .shr _=>none
 | .kd _ _ _=>none
 | .jF _ x=>jF s (bj s x)
 | .wR=>some (.dK (.mp []),s)
 | .nB T x i=>(nB C s T (bj s x) (bj s i)).map λd=>(d,s)
 | .mw T x i v=>(mw C s T (bj s x) (bj s i) (bj s v)).map λs1=>(.hole,s1)
 | .cap T x=>match(C.T T).k,bj s x with
   | .slice _,.bf=>some (.int .i64 0,s)
   |_,_=>none
 | .iF eA x y=>(iF eA (bj s x) (bj s y)).map λd=>(d,s)
 | .bad=>none
section
variable {C:bW} {w0 w:World} {F0 X F:Nat->Prop} {S:Nat->Nat->Prop} {s s1:aw} {a:Act} {av:I}
theorem sH:∀{os:List Operand} {xs:List bb},oi os=some xs->os.map dt=xs.map some
 |[],xs,h=>by simp[oi]at h;subst h;rfl
 |o::os,xs,h=>by
  simp only[oi]at h;split at h
  .rename_i x JY ab ad;simp at h;subst h;simp[ab,sH ad]
  .cases h
theorem DO {ay:Nat->Value} (h:bx w0 F0 X F S s ay w) (dY:∀t,ay t=a.tmps.getD t undef):∀{ps:List (Nat×Operand)} {xs:List (Nat×bb)},uv ps=some xs->
  nC w F s ay (xs.map λp=>(p.1,bj s p.2)) (ps.map λp=>(p.1,a.eval p.2))
 |[],xs,h=>by simp[uv]at h;subst h;trivial
 |(k,o)::ps,xs,bc=>by
  simp only[uv]at bc;split at bc
  .rename_i x JY ab ad;simp at bc;subst bc;obtain⟨g1,g2⟩:=fz h dY ab;exact⟨rfl,g1,g2,DO h dY ad⟩
  .cases bc
def Next (C:bW) (w0:World) (F0 X:Nat->Prop) (ay:Nat->Value) (w:World) (m:Sem Go.Next) (av:I) (s1:aw):Prop:=
 ∃r aD v bE aN,m.run C.P w= .ok r aD/\(r= .value v\/r= .skip/\v=undef)/\bx w0 F0 X bE aN s1 ay aD/\kR w0 X bE aN s1 ay aD av v
theorem Good.next {ay:Nat->Value} {m:Sem Value} (h:Good C w0 F0 X ay w m av s1):Next C w0 F0 X ay w (do pure (.value (<-m))) av s1:=by
 obtain⟨v,aD,bE,aN,ab,ad,aC⟩:=h;exact⟨.value v,aD,v,bE,aN,by simp[ab],.inl rfl,ad,aC⟩
theorem JZ {ay:Nat->Value} (h:bx w0 F0 X F S s ay w) {eA:Bool} {x y:I} {ia jm:Value} {m:Sem Go.Next} (ab:aF w F s ay x ia (λ_=>False)) (ad:aF w F s ay y jm (λ_=>False))
  (he:(iF eA x y).map (λd=>(d,s))=some (av,s1)) (hm:m=(do pure (.value (<-if eA then Builtin.max2 ia jm else Builtin.min2 ia jm)))):Next C w0 F0 X ay w m av s1:=by
 simp only[Option.map_eq_some_iff,Prod.mk.injEq]at he;obtain⟨d,ae,rfl,rfl⟩:=he;unfold iF at ae;split at ae
 .rename_i a b;simp only[Option.some.injEq]at ae;subst ae;have aP:=lN ab;have aT:=lN ad;subst aP aT;subst hm;refine⟨.value (.string ⟨⟨zp eA a b⟩⟩),w,_,F,S,?_,.inl rfl,h,.inl ⟨rfl,oe _⟩⟩;cases eA
  .simp only[Builtin.min2,Op.stringOp,wE,zp,Bool.false_eq_true,if_false];cases R:(Op.bytesLess a b||a==b)<;>simp[asBool]
  .simp only[Builtin.max2,Op.stringOp,wE,zp,if_true];cases R:Op.bytesLess a b<;>simp[asBool]
 .rename_i k a cI b;split at ae
  .rename_i aq;subst aq;simp only[Option.some.injEq]at ae;subst ae;have aP:=mR ab;have aT:=mR ad;subst aP aT;subst hm;refine⟨.value (.int k (iy eA a b)),w,_,F,S,?_,.inl rfl,h,.inl ⟨rfl,of_int _ _⟩⟩;cases eA<;>simp[Builtin.min2,Builtin.max2,iy]
  .cases ae
 .cases ae
theorem J0 (bk:C.eF) {ay:Nat->Value} (h:bx w0 F0 X F S s ay w) (dY:∀t,ay t=a.tmps.getD t undef) {o:Oper} {bG:dQ} (U:cK o.op=some bG) (he:bX C s bG=some (av,s1)):
  Next C w0 F0 X ay w (execOp a.eval o) av s1:=by
 obtain⟨dst,op,ty,pos,after,guard⟩:=o;simp only at U;cases op with
 |move x=>
  simp only[cK,Option.map_eq_some_iff]at U;obtain⟨cf,ar,rfl⟩:=U;obtain⟨g1,g2⟩:=fz h dY ar;simp only[bX,Option.some.injEq,Prod.mk.injEq]at he;obtain⟨rfl,rfl⟩:=he;exact⟨_,w,_,F,S,rfl,.inl rfl,h,.inl ⟨g1,g2⟩⟩
 |assign x=>
  simp only[cK,Option.map_eq_some_iff]at U;obtain⟨cf,ar,rfl⟩:=U;obtain⟨g1,g2⟩:=fz h dY ar;simp only[bX]at he;split at he
  .rename_i y q hy;rw[hy]at g1 g2;obtain⟨b3,k0,bN,cc,Sn,eB,dB,e6,cZ,iW,_⟩:=o5 h g1 g2 he;exact⟨_,w,_,F,b3,rfl,.inl rfl,k0,.inr ⟨bN,cc,Sn,eB,dB,e6,cZ,iW⟩⟩
  .simp only[Option.some.injEq,Prod.mk.injEq]at he;obtain⟨rfl,rfl⟩:=he;exact⟨_,w,_,F,S,rfl,.inl rfl,h,.inl ⟨g1,g2⟩⟩
 |pick c x y=>
  simp only[cK]at U;split at U
  .rename_i rh cf jD ai ar hy;simp only[Option.some.injEq]at U;subst U;simp only[bX]at he;split at he
   .rename_i b R;simp only[Option.some.injEq,Prod.mk.injEq]at he;obtain⟨rfl,rfl⟩:=he;have wO:=(fz h dY ai).2;rw[R]at wO;have wO:=q6 wO;obtain⟨aa,ag⟩:=fz h dY ar;obtain⟨eL,gT⟩:=fz h dY hy;refine⟨.value (if b then a.eval x else a.eval y),w,_,F,S,?_,.inl rfl,h,.inl ?_⟩
    .simp[execOp,wO,asBool]
    .cases b
     .exact⟨eL,gT⟩
     .exact⟨aa,ag⟩
   .cases he
  .cases U
 |alloc T=>
  simp only[cK,Option.some.injEq]at U;subst U;simp only[bX,Option.map_eq_some_iff,Prod.mk.injEq]at he;obtain⟨d,ae,rfl,rfl⟩:=he;exact(Qx bk h ae).next
 |box T x=>
  simp only[cK,Option.map_eq_some_iff]at U;obtain⟨cf,ar,rfl⟩:=U;obtain⟨g1,g2⟩:=fz h dY ar;exact(QB h g1 g2 he).next
 |build T ps=>
  simp only[cK,Option.map_eq_some_iff]at U;obtain⟨Rz,an,rfl⟩:=U;obtain⟨ps⟩:=ps;have:=(Rt bk h (DO h dY an) he).next;simpa [execOp]using this
 |buildSlice T n ps=>
  simp only[cK,Option.map_eq_some_iff]at U;obtain⟨Rz,an,rfl⟩:=U;obtain⟨ps⟩:=ps;have:=(Rw bk h (DO h dY an) he).next;simpa [execOp]using this
 |load T x=>
  simp only[cK,Option.map_eq_some_iff]at U;obtain⟨cf,ar,rfl⟩:=U;obtain⟨g1,g2⟩:=fz h dY ar;simp only[bX,Option.map_eq_some_iff,Prod.mk.injEq]at he;obtain⟨d,ae,rfl,rfl⟩:=he;exact(Qs bk h g2 ae).next
 |store T x y=>
  simp only[cK]at U;split at U
  .rename_i cf jD ar hy;simp only[Option.some.injEq]at U;subst U;simp only[bX,Option.map_eq_some_iff,Prod.mk.injEq]at he;obtain⟨s2,ae,rfl,rfl⟩:=he;obtain⟨aD,aN,ab,ad⟩:=Qv bk h (fz h dY ar).2 (fz h dY hy).1 (fz h dY hy).2 ae;exact⟨.skip,aD,undef,F,aN,by simp[execOp,ab],.inr ⟨rfl,rfl⟩,ad,.inl ⟨rfl,by rw[aF];trivial⟩⟩
  .cases U
 |nilCheck x=>
  simp only[cK,Option.map_eq_some_iff]at U;obtain⟨cf,ar,rfl⟩:=U;obtain⟨g1,g2⟩:=fz h dY ar;simp only[bX,Option.map_eq_some_iff,Prod.mk.injEq]at he;obtain⟨d,ae,rfl,rfl⟩:=he;obtain⟨rfl,an,aI⟩:=QO h g2 ae;refine⟨.value (a.eval x),w,_,F,S,?_,.inl rfl,h,.inl ⟨an,g2⟩⟩;rcases aI with⟨b,R⟩|⟨f,c,R⟩<;>simp[execOp,R]
 |binOp op T x y af2=>
  simp only[cK]at U;split at U
  .rename_i cf jD ar hy;simp only[Option.some.injEq]at U;subst U;simp only[bX,Option.map_eq_some_iff,Prod.mk.injEq]at he;obtain⟨d,ae,rfl,rfl⟩:=he;exact(QL bk h x y (fz h dY ar).2 (fz h dY hy).2 ae).next
  .cases U
 |unOp op T x=>
  simp only[cK,Option.map_eq_some_iff]at U;obtain⟨cf,ar,rfl⟩:=U;simp only[bX,Option.map_eq_some_iff,Prod.mk.injEq]at he;obtain⟨d,ae,rfl,rfl⟩:=he;exact(QM h (fz h dY ar).2 ae).next
 |convert A B x=>
  simp only[cK,Option.map_eq_some_iff]at U;obtain⟨cf,ar,rfl⟩:=U;simp only[bX,Option.map_eq_some_iff,Prod.mk.injEq]at he;obtain⟨d,ae,rfl,rfl⟩:=he;exact(QX bk h (fz h dY ar).2 ae).next
 |makeFunc fn first cs=>
  cases fn with
  |func f=>
   simp only[cK]at U;split at U
   .rename_i DP;simp only[Option.map_eq_some_iff]at U;obtain⟨nD,hj,rfl⟩:=U;simp only[bX,Option.some.injEq,Prod.mk.injEq]at he;obtain⟨rfl,rfl⟩:=he;have DQ:first= #[]:=by simpa using DP
    subst DQ;refine⟨_,w,_,F,S,rfl,.inl rfl,h,.inl ⟨rfl,?_⟩⟩;rw[aF];refine⟨cs.map a.eval,by simp,?_⟩;simpa using zU h dY _ _ (sH hj)
   .cases U
  |_=>simp[cK]at U
 |makeSlice T l c=>
  simp only[cK]at U;split at U
  .rename_i cf jD ar hy;simp only[Option.some.injEq]at U;subst U;simp only[bX,Option.map_eq_some_iff,Prod.mk.injEq]at he;obtain⟨d,ae,rfl,rfl⟩:=he;exact(Rm bk h (fz h dY ar).2 (fz h dY hy).2 ae).next
  .cases U
 |slice T x eN ak eA=>
  cases eA with
  |some m=>simp[cK]at U
  |none=>
   simp only[cK]at U;split at U
   .rename_i cf af3 J1 ar nw nx;simp only[Option.some.injEq]at U;subst U;obtain⟨g1,g2⟩:=fz h dY ar;have opt:∀{o:Option Operand} {mY:Option bb},wS o=some mY->qd w F s ay (mY.map (bj s)) (o.map a.eval):=by
     intro o mY b1;cases o with
     |none=>simp[wS]at b1;subst b1;trivial
     |some o=>
      simp only[wS,Option.map_eq_some_iff]at b1;obtain⟨x,ar,rfl⟩:=b1;exact(fz h dY ar).2
    exact(Q0 bk h g1 g2 (opt nw) (opt nx) he).next
   .cases U
 |fieldAddr T x k=>
  simp only[cK,Option.map_eq_some_iff]at U;obtain⟨cf,ar,rfl⟩:=U;obtain⟨g1,g2⟩:=fz h dY ar;simp only[bX,Option.map_eq_some_iff,Prod.mk.injEq]at he;obtain⟨d,ae,rfl,rfl⟩:=he;exact(Qm bk h g1 g2 ae).next
 |indexAddr T x i=>
  simp only[cK]at U;split at U
  .rename_i cf jD ar hy;simp only[Option.some.injEq]at U;subst U;simp only[bX,Option.map_eq_some_iff,Prod.mk.injEq]at he;obtain⟨d,ae,rfl,rfl⟩:=he;exact(Qn bk h (fz h dY ar).2 (fz h dY hy).2 ae).next
  .cases U
 |index T x i=>
  simp only[cK]at U;split at U
  .rename_i cf jD ar hy;simp only[Option.some.injEq]at U;subst U;simp only[bX,Option.map_eq_some_iff,Prod.mk.injEq]at he;obtain⟨d,ae,rfl,rfl⟩:=he;exact(QU bk h (fz h dY ar).2 (fz h dY hy).2 ae).next
  .cases U
 |makeMap t r=>
  cases r with
  |none=>
   simp only[cK,Option.some.injEq]at U;subst U;simp only[bX,Option.some.injEq,Prod.mk.injEq]at he;obtain⟨rfl,rfl⟩:=he;exact(Rl h t).next
  |some r=>simp[cK]at U
 |lookup T x i c=>
  cases c with
  |true=>simp[cK]at U
  |false=>
   simp only[cK]at U;split at U
   .rename_i cf p9 ar ak;simp only[Option.some.injEq]at U;subst U;simp only[bX,Option.map_eq_some_iff,Prod.mk.injEq]at he;obtain⟨d,ae,rfl,rfl⟩:=he;exact(Ri bk h (fz h dY ar).2 (fz h dY ak).2 ae).next
   .cases U
 |mapUpdate T x i v=>
  simp only[cK]at U;split at U
  .rename_i cf p9 fX ar ak aI;simp only[Option.some.injEq]at U;subst U;simp only[bX,Option.map_eq_some_iff,Prod.mk.injEq]at he;obtain⟨s2,ae,rfl,rfl⟩:=he;obtain⟨aD,aN,ab,ad⟩:=Rj bk h (fz h dY ar).2 (fz h dY ak).2 (fz h dY aI).2 ae;exact⟨.skip,aD,undef,F,aN,by simp[execOp,ab],.inr ⟨rfl,rfl⟩,ad,.inl ⟨rfl,by rw[aF];trivial⟩⟩
  .cases U
 |extract x k=>
  simp only[cK,Option.map_eq_some_iff]at U;obtain⟨cf,ar,rfl⟩:=U;simp only[bX,Option.map_eq_some_iff,Prod.mk.injEq]at he;obtain⟨d,ae,rfl,rfl⟩:=he;exact(QR h (fz h dY ar).2 ae).next
 |field T x k=>
  simp only[cK,Option.map_eq_some_iff]at U;obtain⟨cf,ar,rfl⟩:=U;simp only[bX,Option.bind_eq_some_iff]at he;obtain⟨d,ae,he⟩:=he;obtain⟨v,aD,bE,aN,aH,fo,n9⟩:=QS bk h (fz h dY ar).2 ae;unfold wT at he;split at he
  .rename_i y q;have RA:aF aD bE s ay (.h y q) v (λ_=>False):=by
    rcases n9 with⟨_,g2⟩|⟨g1,_⟩
    .exact g2
    .cases g1
   obtain⟨b3,k0,bN,cc,Sn,eB,dB,e6,cZ,iW,_⟩:=o5 fo rfl RA he;exact⟨.value v,aD,v,bE,b3,by simp[execOp,aH],.inl rfl,k0,.inr ⟨bN,cc,Sn,eB,dB,e6,cZ,iW⟩⟩
  .simp only[Option.some.injEq,Prod.mk.injEq]at he;obtain⟨rfl,rfl⟩:=he;exact⟨.value v,aD,v,bE,aN,by simp[execOp,aH],.inl rfl,fo,n9⟩
 |call c=>
  obtain⟨callee,args,argTypes⟩:=c;simp only[cK]at U;split at U
  .split at U
   .simp only[Option.some.injEq]at U;subst U;simp[bX]at he
   .cases U
  .split at U
   .rename_i x T nE wU;simp only[Option.map_eq_some_iff]at U;obtain⟨cf,ar,rfl⟩:=U;simp only[bX,Option.map_eq_some_iff,Prod.mk.injEq]at he;obtain⟨d,ae,rfl,rfl⟩:=he;have:=(QV (ty:=ty) bk h (fz h dY ar).2 ae).next;have aP:args= #[x]:=by apply Array.ext';exact nE
    have aT:argTypes= #[T]:=by apply Array.ext';exact wU
    subst aP aT;simpa [execOp,resolve,invoke,builtin]using this
   .cases U
  .split at U
   .rename_i x T nE wU;simp only[Option.map_eq_some_iff]at U;obtain⟨cf,ar,rfl⟩:=U;simp only[bX]at he;split at he
    .rename_i e aq DR;simp only[Option.some.injEq,Prod.mk.injEq]at he;obtain⟨rfl,rfl⟩:=he;have aI:=(fz h dY ar).2;rw[DR]at aI;have:=q7 aI;obtain⟨i,d,z,aP,aT,aR,b4,cz,bV,bF⟩:=bk.info (fZ aq (by simp));rw[aq]at bF;have ae:=lM bF;subst ae;have RB:args= #[x]:=by apply Array.ext';exact nE
     have RC:argTypes= #[T]:=by apply Array.ext';exact wU
     subst RB RC;have aH:(Builtin.cap_ #[T] ty #[a.eval x]).run C.P w= .ok (.int .i64 0) w:=by
      rw[this];simp[Builtin.cap_,run_underlying bV,goInt]
     have:=(Good.same (av:=.int .i64 0) h aH rfl (of_int _ _)).next;simpa [execOp,resolve,invoke,builtin]using this
    .cases he
   .cases U
  .split at U
   .rename_i x y nE;split at U
    .rename_i cf jD ar hy;simp only[Option.some.injEq]at U;subst U;have aP:args= #[x,y]:=by apply Array.ext';exact nE
     subst aP;exact JZ h (fz h dY ar).2 (fz h dY hy).2 he (by simp[execOp,resolve,invoke,builtin,Builtin.min_])
    .cases U
   .cases U
  .split at U
   .rename_i x y nE;split at U
    .rename_i cf jD ar hy;simp only[Option.some.injEq]at U;subst U;have aP:args= #[x,y]:=by apply Array.ext';exact nE
     subst aP;exact JZ h (fz h dY ar).2 (fz h dY hy).2 he (by simp[execOp,resolve,invoke,builtin,Builtin.max_])
    .cases U
   .cases U
  .split at U
   .rename_i x y T cQ nE wU;split at U
    .rename_i cf jD ar hy;simp only[Option.some.injEq]at U;subst U;have:=(Ra (ty:=ty) bk h (fz h dY ar).2 (fz h dY hy).2 he).next;have aP:args= #[x,y]:=by apply Array.ext';exact nE
     have aT:argTypes= #[T,cQ]:=by apply Array.ext';exact wU
     subst aP aT;simpa [execOp,resolve,invoke,builtin]using this
    .cases U
   .cases U
  .cases U
 |_=>simp[cK]at U
end
mutual
def I.U:I->ahw
 | .h x _=>[x]
 | .an x _=>[x]
 | .R x _=>[x]
 | .fn _ cap=>I.dN cap
 |_=>[]
def I.dN:ahB->ahw
 |[]=>[]
 |d::ds=>d.U++I.dN ds
end
inductive pe where
 |no
 |b6
 |cE
structure gD where
 k:pe
 x:Nat
 d:I
def pe.app (k:pe) (x:Nat) (a:I):I:=match k with
 | .no=>a
 | .b6=>c_.b6 x a
 | .cE=>c_.cE x a
def gD.at (m:gD) (u:Nat) (a:I):I:=if u=m.x then m.d else m.k.app m.x a
def jQ:List gD->Nat->I->I
 |[],_,a=>a
 |m::ms,u,a=>jQ ms u (m.at u a)
def du (ms:List gD) (s:aw):aw:=λu=>jQ ms u (s u)
theorem J2:∀(ms kX:List gD) (u:Nat) (a:I),jQ (ms++kX) u a=jQ kX u (jQ ms u a)
 |[],_,_,_=>rfl
 |m::ms,kX,u,a=>by simp only[cons_append,jQ];exact J2 ms kX u _
theorem mb (ms kX:List gD) (s:aw):du (ms++kX) s=du kX (du ms s):=by
 funext u;simp[du,J2]
theorem RD {ms:List gD} {s aA:aw} {u:Nat} (h:aA u=s u):du ms aA u=du ms s u:=by simp[du,h]
theorem sI (s:aw) (x:Nat) (d:I):da (hM x s) x d=du [⟨.b6,x,d⟩] s:=by
 funext u;simp only[du,jQ,gD.at,da,hM,pe.app]
theorem J3 (s:aw) (x:Nat) (d:I):da (lK x s) x d=du [⟨.cE,x,d⟩] s:=by
 funext u;simp only[du,jQ,gD.at,da,lK,pe.app]
theorem J4 (s:aw) (x:Nat) (d:I):da s x d=du [⟨.no,x,d⟩] s:=by
 funext u;simp only[du,jQ,gD.at,da,pe.app]
mutual
theorem wV {x:Nat}:∀a:I,x∉a.U->b6 x a=a
 | .h y q,h=>by
   simp only[I.U,mem_singleton]at h;simp only[b6];rw[if_neg (λe=>h e.symm)]
 | .an y q,h=>by
   simp only[I.U,mem_singleton]at h;simp only[b6];rw[if_neg (λe=>h e.symm)]
 | .R y q,h=>rfl
 | .fn f cap,h=>by simp only[b6];rw[J5 cap (by simpa [I.U]using h)]
 | .hole,_=>rfl
 | .bool _,_=>rfl
 | .fw,_=>rfl
 | .int _ _,_=>rfl
 | .str _,_=>rfl
 | .dr,_=>rfl
 | .bf,_=>rfl
 | .slice _,_=>rfl
 | .ao _ _,_=>rfl
 | .ref _,_=>rfl
 | .a1 _,_=>rfl
 | .agg _,_=>rfl
 | .tuple _,_=>rfl
 | .dK _,_=>rfl
 | .fD _ _,_=>rfl
theorem J5 {x:Nat}:∀ds:ahB,x∉I.dN ds->im x ds=ds
 |[],_=>rfl
 |d::ds,h=>by
  simp only[I.dN,mem_append,not_or]at h;simp only[im];rw[wV d h.1,J5 ds h.2]
end
mutual
theorem DS {x:Nat}:∀a:I,x∉a.U->cE x a=a
 | .h y q,h=>by
   simp only[I.U,mem_singleton]at h;simp only[cE];rw[if_neg (λe=>h e.symm)]
 | .an y q,h=>by
   simp only[I.U,mem_singleton]at h;simp only[cE];rw[if_neg (λe=>h e.symm)]
 | .R y q,h=>by
   simp only[I.U,mem_singleton]at h;simp only[cE];rw[if_neg (λe=>h e.symm)]
 | .fn f cap,h=>by simp only[cE];rw[J6 cap (by simpa [I.U]using h)]
 | .hole,_=>rfl
 | .bool _,_=>rfl
 | .fw,_=>rfl
 | .int _ _,_=>rfl
 | .str _,_=>rfl
 | .dr,_=>rfl
 | .bf,_=>rfl
 | .slice _,_=>rfl
 | .ao _ _,_=>rfl
 | .ref _,_=>rfl
 | .a1 _,_=>rfl
 | .agg _,_=>rfl
 | .tuple _,_=>rfl
 | .dK _,_=>rfl
 | .fD _ _,_=>rfl
theorem J6 {x:Nat}:∀ds:ahB,x∉I.dN ds->iU x ds=ds
 |[],_=>rfl
 |d::ds,h=>by
  simp only[I.dN,mem_append,not_or]at h;simp only[iU];rw[DS d h.1,J6 ds h.2]
end
theorem wW {k:pe} {x:Nat} {a:I} (h:k= .no\/x∉a.U):k.app x a=a:=by
 cases k with
 |no=>rfl
 |b6=>exact wV a (by simpa using h)
 |cE=>exact DS a (by simpa using h)
mutual
theorem J7 (x y:Nat):∀a:I,b6 x (b6 y a)=b6 y (b6 x a)
 | .h z q=>by simp only[b6];by_cases ab:z=x<;>by_cases ad:z=y<;>by_cases aC:q=[]<;>simp[ab,ad,aC,b6]<;>(subst_vars;simp_all [b6])
 | .an z q=>by simp only[b6];by_cases ab:z=x<;>by_cases ad:z=y<;>simp[ab,ad,b6]<;>(subst_vars;simp_all [b6])
 | .R z q=>rfl
 | .fn f cap=>by simp only[b6];rw[J8 x y cap]
 | .hole=>rfl
 | .bool _=>rfl
 | .fw=>rfl
 | .int _ _=>rfl
 | .str _=>rfl
 | .dr=>rfl
 | .bf=>rfl
 | .slice _=>rfl
 | .ao _ _=>rfl
 | .ref _=>rfl
 | .a1 _=>rfl
 | .agg _=>rfl
 | .tuple _=>rfl
 | .dK _=>rfl
 | .fD _ _=>rfl
theorem J8 (x y:Nat):∀ds:ahB,im x (im y ds)=im y (im x ds)
 |[]=>rfl
 |d::ds=>by simp only[im];rw[J7 x y d,J8 x y ds]
end
mutual
theorem J9 (x y:Nat):∀a:I,cE x (cE y a)=cE y (cE x a)
 | .h z q=>by simp only[cE];by_cases ab:z=x<;>by_cases ad:z=y<;>simp[ab,ad,cE]<;>(subst_vars;simp_all [cE])
 | .an z q=>by simp only[cE];by_cases ab:z=x<;>by_cases ad:z=y<;>simp[ab,ad,cE]<;>(subst_vars;simp_all [cE])
 | .R z q=>by simp only[cE];by_cases ab:z=x<;>by_cases ad:z=y<;>simp[ab,ad,cE]<;>(subst_vars;simp_all [cE])
 | .fn f cap=>by simp only[cE];rw[J_ x y cap]
 | .hole=>rfl
 | .bool _=>rfl
 | .fw=>rfl
 | .int _ _=>rfl
 | .str _=>rfl
 | .dr=>rfl
 | .bf=>rfl
 | .slice _=>rfl
 | .ao _ _=>rfl
 | .ref _=>rfl
 | .a1 _=>rfl
 | .agg _=>rfl
 | .tuple _=>rfl
 | .dK _=>rfl
 | .fD _ _=>rfl
theorem J_ (x y:Nat):∀ds:ahB,iU x (iU y ds)=iU y (iU x ds)
 |[]=>rfl
 |d::ds=>by simp only[iU];rw[J9 x y d,J_ x y ds]
end
mutual
theorem DT (x y:Nat):∀a:I,b6 x (cE y a)=cE y (b6 x a)
 | .h z q=>by simp only[cE,b6];by_cases ab:z=x<;>by_cases ad:z=y<;>by_cases aC:q=[]<;>simp[ab,ad,aC,cE,b6]<;>(subst_vars;simp_all [cE,b6])
 | .an z q=>by simp only[cE,b6];by_cases ab:z=x<;>by_cases ad:z=y<;>simp[ab,ad,cE,b6]<;>(subst_vars;simp_all [cE,b6])
 | .R z q=>by simp only[cE,b6];by_cases ad:z=y<;>simp[ad,b6]
 | .fn f cap=>by simp only[cE,b6];rw[Ka x y cap]
 | .hole=>rfl
 | .bool _=>rfl
 | .fw=>rfl
 | .int _ _=>rfl
 | .str _=>rfl
 | .dr=>rfl
 | .bf=>rfl
 | .slice _=>rfl
 | .ao _ _=>rfl
 | .ref _=>rfl
 | .a1 _=>rfl
 | .agg _=>rfl
 | .tuple _=>rfl
 | .dK _=>rfl
 | .fD _ _=>rfl
theorem Ka (x y:Nat):∀ds:ahB,im x (iU y ds)=iU y (im x ds)
 |[]=>rfl
 |d::ds=>by simp only[iU,im];rw[DT x y d,Ka x y ds]
end
theorem RE (k l:pe) (x y:Nat) (a:I):k.app x (l.app y a)=l.app y (k.app x a):=by
 cases k<;>cases l<;>simp only[pe.app]<;>first|rfl|exact J7 .. |exact J9 .. |exact DT .. |exact(DT ..).symm
def bb.use (s:aw):bb->ahw
 | .t n=>n::(s n).U
 | .c av=>av.U
 | .f _=>[]
def bb.oj (s:aw):List bb->ahw
 |[]=>[]
 |x::xs=>x.use s++bb.oj s xs
def DU (s:aw):Option bb->ahw
 |none=>[]
 |some x=>x.use s
def use (s:aw):dQ->ahw
 | .gC x=>x.use s
 | .kc x=>x.use s
 | .pick c a b=>c.use s++(a.use s++b.use s)
 | .ka _=>[]
 | .ht _ x=>x.use s
 | .gr _ ps=>bb.oj s (ps.map (·.2))
 | .f_ _ _ ps=>bb.oj s (ps.map (·.2))
 | .e3 _ x=>x.use s
 | .iA _ x y=>x.use s++y.use s
 | .kz x=>x.use s
 | .el _ _ x y=>x.use s++y.use s
 | .un _ x=>x.use s
 | .iD _ _ x=>x.use s
 | .mx _ cs=>bb.oj s cs
 | .en _ l c=>l.use s++c.use s
 | .gY _ x eN ak=>x.use s++(DU s eN++DU s ak)
 | .gW _ x _=>x.use s
 | .iz _ x i=>x.use s++i.use s
 | .idx _ x i=>x.use s++i.use s
 | .ex x _=>x.use s
 | .l9 _ x _=>x.use s
 | .call f args=>f.use s++bb.oj s args
 | .len _ x=>x.use s
 | .app _ _ x y=>x.use s++y.use s
 | .shr bG=>use s bG
 | .kd f args us=>us.flatMap (λu=>u::(s u).U)++(f.use s++bb.oj s args)
 | .jF _ x=>x.use s
 | .wR=>[]
 | .nB _ x i=>x.use s++i.use s
 | .mw _ x i v=>x.use s++(i.use s++v.use s)
 | .cap _ x=>x.use s
 | .iF _ x y=>x.use s++y.use s
 | .bad=>[]
def nF (s:aw):dQ->ahw
 | .kc x=>(bj s x).U
 | .ht _ x=>(bj s x).U
 | .gr _ ps=>I.dN (ps.map λp=>bj s p.2)
 | .f_ _ _ ps=>I.dN (ps.map λp=>bj s p.2)
 | .iA _ x y=>(bj s x).U++(bj s y).U
 | .l9 _ x _=>(bj s x).U
 | .mw _ x _ _=>(bj s x).U
 | .gY _ x _ _=>(bj s x).U
 | .app _ _ x y=>(bj s x).U++(bj s y).U
 | .shr bG=>nF s bG
 |_=>[]
def dq (cQ:ahw) (aA s:aw):Prop:=∀u∈cQ,aA u=s u
theorem dq.left {cQ V:ahw} {aA s:aw} (h:dq (cQ++V) aA s):dq cQ aA s:=λu hu=>h u (mem_append_left _ hu)
theorem dq.right {cQ V:ahw} {aA s:aw} (h:dq (cQ++V) aA s):dq V aA s:=λu hu=>h u (mem_append_right _ hu)
theorem dq.du {cQ:ahw} {aA s:aw} (h:dq cQ aA s) (ms:List gD):dq cQ (du ms aA) (du ms s):=λu hu=>RD (h u hu)
theorem dq.sub {cQ V:ahw} {aA s:aw} (h:dq cQ aA s) (U:∀u∈V,u∈cQ):dq V aA s:=λu hu=>h u (U u hu)
theorem bb.sJ {s:aw} {x:bb}:∀u∈(bj s x).U,u∈x.use s:=by
 intro u hu;cases x with
 |t n=>
  simp only[bj,o4]at hu;split at hu
  .simp[bb.use,hu]
  .simp only[I.U,mem_singleton]at hu;simp[bb.use,hu]
 |c av=>exact hu
 |f g=>simp[bj,I.U,I.dN]at hu
theorem bb.fQ {s aA:aw} {x:bb} (h:dq (x.use s) aA s):bj aA x=bj s x:=by
 cases x with
 |t n=>simp only[bj];rw[h n (by simp[bb.use])]
 |c av=>rfl
 |f g=>rfl
theorem dq.bj {s aA:aw} {x:bb} (h:dq (x.use s) aA s):dq (bj s x).U aA s:=h.sub bb.sJ
theorem Kb {s aA:aw} {x:Option bb} (h:dq (DU s x) aA s):x.map (bj aA)=x.map (bj s):=by
 cases x with
 |none=>rfl
 |some x=>simp only[Option.map_some];rw[bb.fQ h]
theorem bb.DV {s aA:aw}:∀{xs:List bb},dq (bb.oj s xs) aA s->xs.map (bj aA)=xs.map (bj s)
 |[],_=>rfl
 |x::xs,h=>by
  simp only[map_cons];rw[bb.fQ (h.left),bb.DV (h.right)]
theorem bb.DW {s aA:aw}:∀{ps:List (Nat×bb)},dq (bb.oj s (ps.map (·.2))) aA s->(ps.map λp=>(p.1,bj aA p.2))=ps.map λp=>(p.1,bj s p.2)
 |[],_=>rfl
 |x::xs,h=>by
  simp only[map_cons]at h⊢;rw[bb.fQ (h.left),bb.DW (h.right)]
theorem bb.zV {s:aw}:∀{xs:List bb},∀u∈I.dN (xs.map (bj s)),u∈bb.oj s xs
 |[],u,h=>by simp[I.dN]at h
 |x::xs,u,h=>by
  simp only[map_cons,I.dN,mem_append]at h;simp only[bb.oj,mem_append];exact h.imp (bb.sJ u) (bb.zV u)
section
variable {C:bW} {s aA:aw} {x y i:I} {T A B:TypeId}
theorem DX (h:dq x.U aA s):loc aA x=loc s x:=by
 cases x<;>first
  |rfl
  |(simp only[loc];rw[h _ (by simp[I.U])])
theorem DY {z:Nat} {q:ahw} (h:loc s x=some (z,q)):z∈x.U:=by
 cases x with
 |h y p=>
  simp only[loc]at h;split at h
  .simp only[Option.some.injEq,Prod.mk.injEq]at h;simp[I.U,h.1]
  .cases h
 |an y p=>
  simp only[loc]at h;split at h
  .simp only[Option.some.injEq,Prod.mk.injEq]at h;simp[I.U,h.1]
  .cases h
 |_=>simp[loc]at h
theorem RF (h:dq x.U aA s):e3 C aA T x=e3 C s T x:=by
 have hl:=DX h;unfold e3;split
 .rfl
 .rw[h _ (by simp[I.U])]
 .rw[hl];split
  .rename_i e;rw[h _ (DY e)]
  .rfl
theorem RG {k:Nat} (h:dq x.U aA s):gW C aA T x k=gW C s T x k:=by
 have hl:=DX h;unfold gW;split
 .split
  .split
   .split
    .rfl
    .rw[h _ (by simp[I.U])]
    .rw[hl];split
     .rename_i e;rw[h _ (DY e)]
     .rfl
   .rfl
  .rfl
 .rfl
theorem RH (h:dq x.U aA s):iz C aA T x i=iz C s T x i:=by
 cases x<;>first
  |rfl
  |(simp only[iz];rw[h _ (by simp[I.U])])
theorem RI (h:dq x.U aA s):qc C aA T x=qc C s T x:=by
 unfold qc;cases(C.T T).k<;>cases x<;>first
  |rfl
  |(simp only;rw[h _ (by simp[I.U])])
theorem RJ (h:dq x.U aA s):iD C aA A B x=iD C s A B x:=by
 unfold iD;cases(C.T B).k<;>cases x<;>first
  |rfl
  |(simp only;rw[h _ (by simp[I.U])])
theorem RK (h:dq x.U aA s):lg aA x=lg s x:=by
 cases x<;>first
  |rfl
  |(simp only[lg];rw[h _ (by simp[I.U])])
theorem RL (h:dq x.U aA s):lh aA x=lh s x:=by
 cases x<;>first
  |rfl
  |(simp only[lh];rw[h _ (by simp[I.U])])
theorem RM {op:BinOp} (h:dq x.U aA s):el C aA op T x y=el C s op T x y:=by
 have ab:=RK h;have ad:=RL h;unfold el;split<;>first|rfl|simp only[ab,ad]
theorem RN (h:dq x.U aA s):kz aA x=kz s x:=by
 cases x<;>first
  |rfl
  |(simp only[kz];rw[h _ (by simp[I.U])])
theorem RO {k y:Nat} {q:ahw} (h:l9 C s T x k=some (.h y q)):x.U=[y]:=by
 unfold l9 at h;split at h<;>try (cases h;done)
 split at h<;>try (cases h;done)
 split at h
 .split at h<;>try (cases h;done)
  split at h
  .rename_i ai;simp only[Option.some.injEq]at h;rw[h]at ai;exact absurd ai.2.2.2 (by simp[I.tree])
  .cases h
 .split at h<;>try (cases h;done)
  split at h<;>try (cases h;done)
  split at h<;>try (cases h;done)
  rename_i d ae ai;by_cases an:d.plain=true
  .simp only[an,if_true,Option.some.injEq]at h;rw[h]at ai;exact absurd ai.2.2.2 (by simp[I.tree])
  .simp only[an,Option.some.injEq]at h;injection h with ab ad;subst ab;rfl
 .cases h
theorem Kc {k:Nat} (h:dq x.U aA s):l9 C aA T x k=l9 C s T x k:=by
 unfold l9;split<;>try rfl
 split<;>try rfl
 cases x<;>first
  |rfl
  |(simp only[];rw[h _ (by simp[I.U])])
theorem RP {k:Nat} (h:dq x.U aA s):ex aA x k=ex s x k:=by
 cases x<;>first
  |rfl
  |(simp only[ex];rw[h _ (by simp[I.U])])
theorem uw:∀(q:ahw) (a d e:I),I.sub q a=some d->(d.plain=false\/q≠[])->(q=[]->e.U=[])->(I.put q e a).U=[]:=by
 intro q a d e h an he;cases q with
 |nil=>rw[I.put];exact he rfl
 |cons k q=>
  cases a<;>first
   |(simp[I.sub]at h;done)
   |skip
  all_goals
   unfold I.put
   repeat' split
   all_goals first|rfl|(simp_all;done)
end
def Loc {α:Type} (cQ ux:ahw) (f:aw->Option (α×aw)) (s:aw) (av:α) (s1:aw):Prop:=
 ∃ms,s1=du ms s/\(∀m∈ms,m.x∈ux/\m.d.U=[])/\∀aA,dq cQ aA s->f aA=some (av,du ms aA)
theorem Loc.pure {α:Type} {cQ ux:ahw} {f:aw->Option (α×aw)} {s:aw} {av:α} (h:∀aA,dq cQ aA s->f aA=some (av,aA)):Loc cQ ux f s av s:=
 ⟨[],rfl,by simp,λaA U=>h aA U⟩
theorem Loc.mono {α:Type} {cQ ux Kd Ke:ahw} {f:aw->Option (α×aw)} {s s1:aw} {av:α} (h:Loc cQ ux f s av s1) (pc:∀u∈cQ,u∈Kd) (iq:∀u∈ux,u∈Ke):Loc Kd Ke f s av s1:=by
 obtain⟨ms,ab,ad,aC⟩:=h;exact⟨ms,ab,λm hm=>⟨iq _ (ad m hm).1,(ad m hm).2⟩,λaA U=>aC aA (U.sub pc)⟩
section
variable {C:bW} {s s1:aw} {x y d:I} {T A B:TypeId}
theorem ri (h:cH s x=some (d,s1)):Loc x.U x.U (λs=>cH s x) s d s1:=by
 cases x with
 |h y q=>
  simp only[cH]at h;split at h
  .rename_i e he;split at h
   .cases h
   .rename_i an;simp only[Option.some.injEq,Prod.mk.injEq]at h;obtain⟨rfl,rfl⟩:=h;have an:e.plain=false:=by simpa using an
    refine⟨[⟨.b6,y,I.put q e.cS (s y)⟩],sI _ _ _,?_,?_⟩
    .intro m hm;simp only[mem_singleton]at hm;subst hm;refine⟨by simp[I.U],uw q _ _ _ he (.inl an) λb_=>?_⟩;subst b_;cases e<;>first|(simp[I.plain]at an;done)|rfl
    .intro aA U;have aP:aA y=s y:=U y (by simp[I.U]);simp only[cH,aP,he,an];rw[<-sI];rfl
  .cases h
 |an y q=>simp[cH]at h
 |R y q=>simp[cH]at h
 |fn f c=>simp[cH]at h
 |hole=>simp[cH]at h
 |_=>
  simp only[cH,Option.some.injEq,Prod.mk.injEq]at h;obtain⟨rfl,rfl⟩:=h;exact .pure λaA _=>rfl
mutual
theorem Kf (x:Nat):∀a:I,∀u∈(b6 x a).U,u∈a.U
 | .h y q,u,h=>by
   simp only[b6]at h;split at h
   .split at h
    .exact h
    .simp[I.U]at h
   .exact h
 | .an y q,u,h=>by
   simp only[b6]at h;split at h
   .simp[I.U]at h
   .exact h
 | .R y q,u,h=>h
 | .fn f cap,u,h=>by simp only[b6,I.U]at h⊢;exact Kg x cap u h
 | .hole,u,h=>h
 | .bool _,u,h=>h
 | .fw,u,h=>h
 | .int _ _,u,h=>h
 | .str _,u,h=>h
 | .dr,u,h=>h
 | .bf,u,h=>h
 | .slice _,u,h=>h
 | .ao _ _,u,h=>h
 | .ref _,u,h=>h
 | .a1 _,u,h=>h
 | .agg _,u,h=>h
 | .tuple _,u,h=>h
theorem Kg (x:Nat):∀ds:ahB,∀u∈I.dN (im x ds),u∈I.dN ds
 |[],u,h=>h
 |d::ds,u,h=>by
  simp only[im,I.dN,mem_append]at h⊢;exact h.imp (Kf x d u) (Kg x ds u)
end
theorem DZ (o:Option Nat) (a:I):∀u∈(ku o a).U,u∈a.U:=by
 intro u h;cases o with
 |none=>exact h
 |some x=>exact Kf x a u h
theorem Kh:∀(os:List (Option Nat)) (a:I),∀u∈(kW os a).U,u∈a.U:=by
 intro os;induction os with
 |nil=>intro a u h;exact h
 |cons o os ih=>intro a u h;exact DZ o a u (ih (ku o a) u h)
theorem Ki {place:Nat->Option (Nat×Nat)}:∀{ps:ahA} {s s1:aw} {dn ds:ahB} {os:List (Option Nat)},ej place s dn os ps=some (ds,s1)->
  Loc (I.dN (ps.map (·.2))) (I.dN (ps.map (·.2))) (λs=>ej place s dn os ps) s ds s1:=by
 intro ps;induction ps with
 |nil=>
  intro s s1 dn ds os h;simp only[ej,Option.some.injEq,Prod.mk.injEq]at h;obtain⟨rfl,rfl⟩:=h;exact .pure λaA _=>rfl
 |cons p ps ih=>
  intro s s1 dn ds os h;obtain⟨k,a⟩:=p;simp only[ej]at h;split at h
  .rename_i d s2 off n z aY fy bR;split at h
   .cases h
   .rename_i bp my;split at h
    .rename_i ai;obtain⟨om,rfl,ad,aC⟩:=ri aY;obtain⟨re,rfl,bu,cy⟩:=ih h;refine⟨om++re,(mb _ _ _).symm,?_,?_⟩
     .intro m hm;simp only[map_cons,I.dN,mem_append]at hm⊢;rcases hm with hm|hm
      .exact⟨.inl (Kh _ _ _ (ad m hm).1),(ad m hm).2⟩
      .exact⟨.inr (bu m hm).1,(bu m hm).2⟩
     .intro aA U;simp only[map_cons,I.dN]at U;have aP:=aC aA (U.left.sub (Kh _ _));have aT:=cy (du om aA) (U.right.du om);simp only at aP aT;simp only[ej,aP,fy,bR,mb];rw[if_pos ai];exact aT
    .cases h
  .cases h
theorem RQ {ps:ahA} {av:I} (h:gr C s T ps=some (av,s1)):Loc (I.dN (ps.map (·.2))) (I.dN (ps.map (·.2))) (λs=>gr C s T ps) s av s1:=by
 unfold gr at h;split at h
 .rename_i az dn aq bR;split at h
  .rename_i ai;split at h
   .rename_i ds s2 bd;simp only[Option.some.injEq,Prod.mk.injEq]at h;obtain⟨rfl,rfl⟩:=h;obtain⟨ms,ab,ad,aC⟩:=Ki bd;refine⟨ms,ab,ad,λaA U=>?_⟩;have:=aC aA U;simp only at this;simp only[gr,aq,bR,if_pos ai,this]
   .cases h
  .cases h
 .cases h
theorem RR {n:Nat} {ps:ahA} {av:I} (h:f_ C s T n ps=some (av,s1)):Loc (I.dN (ps.map (·.2))) (I.dN (ps.map (·.2))) (λs=>f_ C s T n ps) s av s1:=by
 unfold f_ at h;split at h
 .rename_i e aq;split at h
  .rename_i ai;split at h
   .rename_i ds s2 bd;simp only[Option.some.injEq,Prod.mk.injEq]at h;obtain⟨rfl,rfl⟩:=h;obtain⟨ms,ab,ad,aC⟩:=Ki bd;refine⟨ms,ab,ad,λaA U=>?_⟩;have:=aC aA U;simp only at this;simp only[f_,aq,if_pos ai,this]
   .cases h
  .cases h
 .cases h
theorem RS {av:I} (h:ht s x=some (av,s1)):Loc x.U x.U (λs=>ht s x) s av s1:=by
 unfold ht at h;split at h
 .cases h
 .rename_i d s2 my aY;simp only[Option.some.injEq,Prod.mk.injEq]at h;obtain⟨rfl,rfl⟩:=h;obtain⟨ms,ab,ad,aC⟩:=ri aY;refine⟨ms,ab,ad,λaA U=>?_⟩;have:=aC aA U;simp only at this;simp only[ht,this]
 .cases h
theorem RT {av:I} (h:jF s x=some (av,s1)):Loc x.U [] (λs=>jF s x) s av s1:=by
 unfold jF at h;split at h
 .rename_i y q;split at h
  .rename_i ds mQ;split at h
   .cases h
   .rename_i wA;simp only[Option.some.injEq,Prod.mk.injEq]at h;obtain⟨rfl,rfl⟩:=h;refine .pure λaA U=>?_;have e:aA y=s y:=U y (by simp[I.U]);simp only[jF,e,mQ,if_neg wA]
  .cases h
 .split at h
  .rename_i ai;simp only[Option.some.injEq,Prod.mk.injEq]at h;obtain⟨rfl,rfl⟩:=h;exact .pure λaA U=>by simp only[jF,ai,if_true]
  .cases h
 .cases h
theorem RU {s2:aw} (h:iA C s T x y=some s2):Loc (x.U++y.U) (x.U++y.U) (λs=>(iA C s T x y).map λs1=>(I.hole,s1)) s .hole s2:=by
 unfold iA at h;split at h
 .rename_i d s1 z q aY hl;obtain⟨ms,ab,ad,aC⟩:=ri aY;have bR:=DY hl;have b_:q≠[]:=by
   cases x with
   |h y p=>
    simp only[loc]at hl;split at hl
    .simp only[Option.some.injEq,Prod.mk.injEq]at hl;simp[<-hl.2]
    .cases hl
   |an y p=>
    simp only[loc]at hl;split at hl
    .rename_i oc;simp only[Option.some.injEq,Prod.mk.injEq]at hl;obtain⟨rfl,rfl⟩:=hl;intro e;subst e;simp[I.fm]at oc
    .cases hl
   |_=>simp[loc]at hl
  split at h
  .cases h
  .rename_i bp my;split at h
   .rename_i d0 kS;split at h
    .rename_i ai;simp only[Option.some.injEq]at h;subst h;refine⟨ms++[⟨.b6,z,I.put q d (s z)⟩],?_,?_,?_⟩
     .rw[mb,<-ab,sI]
     .intro m hm;simp only[mem_append,mem_singleton]at hm⊢;rcases hm with hm|rfl
      .exact⟨.inr (ad m hm).1,(ad m hm).2⟩
      .exact⟨.inl bR,uw q _ _ _ kS (.inr b_) λe=>(b_ e).elim⟩
     .intro aA U;have aP:=aC aA U.right;simp only at aP;simp only[iA,aP,DX U.left,hl,U.left z bR,kS];cases d<;>first|(simp only[if_pos ai,Option.map_some,mb,sI];done)|exact(my _ rfl).elim
    .cases h
   .cases h
 .cases h
theorem RV {eN ak:Option I} {av:I} (h:gY C s T x eN ak=some (av,s1)):Loc x.U x.U (λs=>gY C s T x eN ak) s av s1:=by
 cases x with
 |h y q=>
  unfold gY at h;split at h<;>first|(cases h;done)|skip
  all_goals (rename_i ar;try cases ar)
  rename_i e aq;split at h
  .rename_i sz xs e2;split at h
   .rename_i b nw nx;split at h
    .rename_i ai;split at h
     .rename_i d s2 aY;simp only[Option.some.injEq,Prod.mk.injEq]at h;obtain⟨rfl,rfl⟩:=h;obtain⟨ms,ab,ad,aC⟩:=ri aY;refine⟨ms,ab,ad,λaA U=>?_⟩;have:=aC aA U;simp only at this;have aP:aA y=s y:=U y (by simp[I.U]);simp only[gY,aq,aP,e2,nw,nx,if_pos ai,this]
     .cases h
    .cases h
   .cases h
  .cases h
 |_=>
  have qh:s1=s:=by
   unfold gY at h
   repeat' split at h
   all_goals first|(cases h;done)|(simp only[Option.some.injEq,Prod.mk.injEq]at h;exact h.2.symm)|simp_all
  subst qh;refine .pure λaA _=>?_;unfold gY at h⊢
  repeat' split at h
  all_goals first
   |(cases h;done)
   |(simp only[Option.some.injEq,Prod.mk.injEq]at h
     obtain⟨rfl,_⟩:=h;simp_all)
def pf (C:bW) (e:TypeId) (s:aw):I->Option (I×aw)
 | .bf=>some (I.ao (C.T e).sz [],s)
 | .h a q=>cH s (.h a q)
 |_=>none
def lk (s1:aw):I->Option (ahB×aw)
 | .bf=>some ([],s1)
 | .slice bm=>some (bm,s1)
 | .str l=>some (l.map kU,s1)
 | .h a q=>match cH s1 (.h a q)with
   |some (.ao _ bm,s2)=>some (bm,s2)
   |_=>none
 |_=>none
theorem D0 (C:bW) (s:aw) (T cQ:TypeId) (x y:I):qg C s T cQ x y=(match(C.T T).k with
 | .slice e=>if(C.T e).ok=true/\(C.T e).zero.wd=(C.T e).sz/\(flat (C.T e).zero).isSome=true/\zO C e cQ=true then
   match pf C e s x with
   |some (.ao sz xs,s1)=>if sz=(C.T e).sz then
     match lk s1 (ku x.owner y)with
     |some (bm,s2)=>if(∀d∈bm,d.wd=(C.T e).sz)/\(xs.length+bm.length)*(C.T e).bytes<=140737488355328/\xs.length+bm.length<=9223372036854775807 then some (.ao sz (xs++bm),s2)else none
     |none=>none
    else none
   |_=>none
   else none
 |_=>none):=by
 unfold qg;generalize ku x.owner y=jD;cases(C.T T).k<;>first
  |rfl
  |(cases x<;>cases jD<;>rfl)
theorem RW {e:TypeId} {d:I} (ab:pf C e s x=some (d,s1)):Loc x.U x.U (λs=>pf C e s x) s d s1:=by
 cases x with
 |bf=>
  simp only[pf,Option.some.injEq,Prod.mk.injEq]at ab;obtain⟨ab,rfl⟩:=ab;exact .pure λaA _=>by simp only[pf,ab]
 |h a q=>exact ri ab
 |_=>simp[pf]at ab
theorem RX {bm:ahB} (ad:lk s y=some (bm,s1)):Loc y.U y.U (λs=>lk s y) s bm s1:=by
 cases y with
 |bf=>
  simp only[lk,Option.some.injEq,Prod.mk.injEq]at ad;obtain⟨rfl,rfl⟩:=ad;exact .pure λaA _=>rfl
 |slice bm=>
  simp only[lk,Option.some.injEq,Prod.mk.injEq]at ad;obtain⟨rfl,rfl⟩:=ad;exact .pure λaA _=>rfl
 |str l=>
  simp only[lk,Option.some.injEq,Prod.mk.injEq]at ad;obtain⟨rfl,rfl⟩:=ad;exact .pure λaA _=>rfl
 |h a q=>
  simp only[lk]at ad;split at ad
  .rename_i Rc af4 ke aY;simp only[Option.some.injEq,Prod.mk.injEq]at ad;obtain⟨rfl,rfl⟩:=ad;obtain⟨ms,g1,g2,g3⟩:=ri aY;refine⟨ms,g1,g2,λaA U=>?_⟩;have:=g3 aA U;simp only at this;simp only[lk,this]
  .cases ad
 |_=>simp[lk]at ad
theorem RY {av:I} (h:qg C s T A x y=some (av,s1)):Loc (x.U++y.U) (x.U++y.U) (λs=>qg C s T A x y) s av s1:=by
 rw[D0]at h;split at h
 .rename_i e aq;split at h
  .rename_i ai;split at h
   .rename_i sz xs s2 ab;split at h
    .rename_i eJ;split at h
     .rename_i bm nG ad;split at h
      .rename_i mu;simp only[Option.some.injEq,Prod.mk.injEq]at h;obtain⟨rfl,rfl⟩:=h;obtain⟨om,rfl,a2,a3⟩:=RW ab;obtain⟨re,rfl,gA,iE⟩:=(RX ad).mono (DZ _ _) (DZ _ _);refine⟨om++re,(mb _ _ _).symm,?_,?_⟩
       .intro m hm;simp only[mem_append]at hm⊢;rcases hm with hm|hm
        .exact⟨.inl (a2 m hm).1,(a2 m hm).2⟩
        .exact⟨.inr (gA m hm).1,(gA m hm).2⟩
       .intro aA U;have aP:=a3 aA U.left;have aT:=iE (du om aA) (U.right.du om);simp only at aP aT;simp only[D0,aq,if_pos ai,aP,if_pos eJ,aT,if_pos mu,mb]
      .cases h
     .cases h
    .cases h
   .cases h
  .cases h
 .cases h
theorem RZ {aA:aw} {i:I} (h:dq x.U aA s):nB C aA T x i=nB C s T x i:=by
 cases x with
 |h y q=>cases i<;>simp only[nB,h y (by simp[I.U])]
 |_=>rfl
theorem R0 {i v:I} {s2:aw} (h:mw C s T x i v=some s2):Loc x.U x.U (λs=>(mw C s T x i v).map λs1=>(I.hole,s1)) s .hole s2:=by
 unfold mw at h;split at h
 .rename_i y q k b;split at h
  .rename_i m ae;split at h
   .rename_i iq;simp only[Option.some.injEq]at h;subst h;refine⟨[⟨.b6,y,I.put q (.dK (.mp (o1 k b m))) (s y)⟩],sI _ _ _,?_,λaA U=>?_⟩
    .intro n aU;simp only[mem_singleton]at aU;subst aU;exact⟨by simp[I.U],uw q _ _ _ ae (.inl rfl) λ_=>rfl⟩
    .have aP:aA y=s y:=U y (by simp[I.U]);simp only[mw,aP,ae,iq,if_true,Option.map_some];rw[<-sI]
   .cases h
  .cases h
 .cases h
theorem Kj {bG:dQ} {av:I} (h:bX C s bG=some (av,s1)):Loc (use s bG) (nF s bG) (λs=>bX C s bG) s av s1:=by
 cases bG with
 |shr bG=>simp[bX]at h
 |kd f args L=>simp[bX]at h
 |jF T x=>
  obtain⟨ms,ab,ad,aC⟩:=RT h;refine⟨ms,ab,ad,λaA U=>?_⟩;simp only[bX,bb.fQ (x:=x) U];exact aC aA (dq.bj U)
 |bad=>simp[bX]at h
 |iF eA x y=>
  simp only[bX,Option.map_eq_some_iff,Prod.mk.injEq]at h;obtain⟨d,ae,rfl,rfl⟩:=h;exact .pure λaA U=>by
   simp only[use]at U;simp only[bX,bb.fQ (x:=x) U.left,bb.fQ (x:=y) U.right,ae,Option.map_some]
 |cap T x=>
  simp only[bX]at h;split at h
  .rename_i e aq ar;simp only[Option.some.injEq,Prod.mk.injEq]at h;obtain⟨rfl,rfl⟩:=h;exact .pure λaA U=>by simp only[bX,bb.fQ (x:=x) U,aq,ar]
  .cases h
 |gC x=>
  simp only[bX,Option.some.injEq,Prod.mk.injEq]at h;obtain⟨rfl,rfl⟩:=h;exact .pure λaA U=>by simp only[bX,bb.fQ (x:=x) U]
 |kc x=>
  simp only[bX]at h;split at h
  .rename_i y q ar;obtain⟨ms,ab,ad,aC⟩:=ri h;refine⟨ms,ab,by simpa only[nF,ar]using ad,λaA U=>?_⟩;have e:=bb.fQ (x:=x) U;have aT:=aC aA (by rw[<-ar];exact dq.bj U);simp only[bX,e,ar];exact aT
  .rename_i R1;simp only[Option.some.injEq,Prod.mk.injEq]at h;obtain⟨rfl,rfl⟩:=h;refine .pure λaA U=>?_;have e:=bb.fQ (x:=x) U;simp only[bX,e]
 |pick c a b=>
  simp only[bX]at h;split at h
  .rename_i ff R;simp only[Option.some.injEq,Prod.mk.injEq]at h;obtain⟨rfl,rfl⟩:=h;refine .pure λaA U=>?_;simp only[use]at U;simp only[bX,bb.fQ (x:=c) U.left,bb.fQ (x:=a) U.right.left,bb.fQ (x:=b) U.right.right,R]
  .cases h
 |ka T=>
  simp only[bX,Option.map_eq_some_iff,Prod.mk.injEq]at h;obtain⟨d,ae,rfl,rfl⟩:=h;exact .pure λaA U=>by simp only[bX,ae,Option.map_some]
 |ht T x=>
  obtain⟨ms,ab,ad,aC⟩:=RS h;refine⟨ms,ab,ad,λaA U=>?_⟩;simp only[bX,bb.fQ (x:=x) U];exact aC aA (dq.bj U)
 |gr T ps=>
  obtain⟨ms,ab,ad,aC⟩:=RQ h;simp only[List.map_map,Function.comp_def]at ad aC;refine⟨ms,ab,ad,λaA U=>?_⟩;simp only[bX,bb.DW (ps:=ps) U];refine aC aA (U.sub λu hu=>?_);simp only[use];exact bb.zV u (by simpa [List.map_map,Function.comp_def]using hu)
 |f_ T n ps=>
  obtain⟨ms,ab,ad,aC⟩:=RR h;simp only[List.map_map,Function.comp_def]at ad aC;refine⟨ms,ab,ad,λaA U=>?_⟩;simp only[bX,bb.DW (ps:=ps) U];refine aC aA (U.sub λu hu=>?_);simp only[use];exact bb.zV u (by simpa [List.map_map,Function.comp_def]using hu)
 |e3 T x=>
  simp only[bX,Option.map_eq_some_iff,Prod.mk.injEq]at h;obtain⟨d,ae,rfl,rfl⟩:=h;exact .pure λaA U=>by simp only[bX,bb.fQ (x:=x) U,RF (dq.bj U),ae,Option.map_some]
 |iA T x y=>
  simp only[bX,Option.map_eq_some_iff,Prod.mk.injEq]at h;obtain⟨s2,ae,rfl,rfl⟩:=h;obtain⟨ms,ab,ad,aC⟩:=RU ae;refine⟨ms,ab,ad,λaA U=>?_⟩;simp only[use]at U;simp only[bX,bb.fQ (x:=x) U.left,bb.fQ (x:=y) U.right];exact aC aA (U.sub λu hu=>by simp only[mem_append]at hu⊢;exact hu.imp (bb.sJ u) (bb.sJ u))
 |kz x=>
  simp only[bX,Option.map_eq_some_iff,Prod.mk.injEq]at h;obtain⟨d,ae,rfl,rfl⟩:=h;exact .pure λaA U=>by simp only[bX,bb.fQ (x:=x) U,RN (dq.bj U),ae,Option.map_some]
 |el op T x y=>
  simp only[bX,Option.map_eq_some_iff,Prod.mk.injEq]at h;obtain⟨d,ae,rfl,rfl⟩:=h;refine .pure λaA U=>?_;simp only[use]at U;simp only[bX,bb.fQ (x:=x) U.left,bb.fQ (x:=y) U.right,RM (dq.bj U.left),ae,Option.map_some]
 |un op x=>
  simp only[bX,Option.map_eq_some_iff,Prod.mk.injEq]at h;obtain⟨d,ae,rfl,rfl⟩:=h;exact .pure λaA U=>by simp only[bX,bb.fQ (x:=x) U,ae,Option.map_some]
 |iD A B x=>
  simp only[bX,Option.map_eq_some_iff,Prod.mk.injEq]at h;obtain⟨d,ae,rfl,rfl⟩:=h;exact .pure λaA U=>by simp only[bX,bb.fQ (x:=x) U,RJ (dq.bj U),ae,Option.map_some]
 |mx f cs=>
  simp only[bX,Option.some.injEq,Prod.mk.injEq]at h;obtain⟨rfl,rfl⟩:=h;exact .pure λaA U=>by simp only[bX,bb.DV (xs:=cs) U]
 |en T l c=>
  simp only[bX,Option.map_eq_some_iff,Prod.mk.injEq]at h;obtain⟨d,ae,rfl,rfl⟩:=h;refine .pure λaA U=>?_;simp only[use]at U;simp only[bX,bb.fQ (x:=l) U.left,bb.fQ (x:=c) U.right,ae,Option.map_some]
 |gY T x eN ak=>
  simp only[bX]at h;obtain⟨ms,ab,ad,aC⟩:=RV h;refine⟨ms,ab,ad,λaA U=>?_⟩;simp only[use]at U;simp only[bX,bb.fQ (x:=x) U.left,Kb U.right.left,Kb U.right.right];exact aC aA (dq.bj U.left)
 |gW T x k=>
  simp only[bX,Option.map_eq_some_iff,Prod.mk.injEq]at h;obtain⟨d,ae,rfl,rfl⟩:=h;exact .pure λaA U=>by simp only[bX,bb.fQ (x:=x) U,RG (dq.bj U),ae,Option.map_some]
 |iz T x i=>
  simp only[bX,Option.map_eq_some_iff,Prod.mk.injEq]at h;obtain⟨d,ae,rfl,rfl⟩:=h;refine .pure λaA U=>?_;simp only[use]at U;simp only[bX,bb.fQ (x:=x) U.left,bb.fQ (x:=i) U.right,RH (dq.bj U.left),ae,Option.map_some]
 |idx T x i=>
  simp only[bX,Option.map_eq_some_iff,Prod.mk.injEq]at h;obtain⟨d,ae,rfl,rfl⟩:=h;refine .pure λaA U=>?_;simp only[use]at U;simp only[bX,bb.fQ (x:=x) U.left,bb.fQ (x:=i) U.right,ae,Option.map_some]
 |ex x k=>
  simp only[bX,Option.map_eq_some_iff,Prod.mk.injEq]at h;obtain⟨d,ae,rfl,rfl⟩:=h;exact .pure λaA U=>by simp only[bX,bb.fQ (x:=x) U,RP (dq.bj U),ae,Option.map_some]
 |wR=>
  simp only[bX,Option.some.injEq,Prod.mk.injEq]at h;obtain⟨rfl,rfl⟩:=h;exact .pure λaA U=>rfl
 |nB T x i=>
  simp only[bX,Option.map_eq_some_iff,Prod.mk.injEq]at h;obtain⟨d,ae,rfl,rfl⟩:=h;refine .pure λaA U=>?_;simp only[use]at U;simp only[bX,bb.fQ (x:=x) U.left,bb.fQ (x:=i) U.right,RZ (dq.bj U.left),ae,Option.map_some]
 |mw T x i v=>
  simp only[bX,Option.map_eq_some_iff,Prod.mk.injEq]at h;obtain⟨s2,ae,rfl,rfl⟩:=h;obtain⟨ms,ab,ad,aC⟩:=R0 ae;refine⟨ms,ab,ad,λaA U=>?_⟩;simp only[use]at U;simp only[bX,bb.fQ (x:=x) U.left,bb.fQ (x:=i) U.right.left,bb.fQ (x:=v) U.right.right];exact aC aA (dq.bj U.left)
 |l9 T x k=>
  simp only[bX,Option.bind_eq_some_iff]at h;obtain⟨d,ae,h⟩:=h;unfold wT at h;split at h
  .rename_i y q;have ar:=RO ae;obtain⟨ms,ab,ad,aC⟩:=ri h;refine⟨ms,ab,by simpa only[nF,ar,I.U]using ad,λaA U=>?_⟩;have aT:=aC aA (by rw[show(I.h y q).U=(bj s x).U from ar.symm];exact dq.bj U);simp only[bX,bb.fQ (x:=x) U,Kc (dq.bj U),ae,Option.bind_some,wT];exact aT
  .rename_i R1;simp only[Option.some.injEq,Prod.mk.injEq]at h;obtain⟨rfl,rfl⟩:=h;refine .pure λaA U=>?_;simp only[bX,bb.fQ (x:=x) U,Kc (dq.bj U),ae,Option.bind_some,wT]
 |call f args=>simp[bX]at h
 |len T x=>
  simp only[bX,Option.map_eq_some_iff,Prod.mk.injEq]at h;obtain⟨d,ae,rfl,rfl⟩:=h;exact .pure λaA U=>by simp only[bX,bb.fQ (x:=x) U,RI (dq.bj U),ae,Option.map_some]
 |app T cQ x y=>
  obtain⟨ms,ab,ad,aC⟩:=RY h;refine⟨ms,ab,ad,λaA U=>?_⟩;simp only[use]at U;simp only[bX,bb.fQ (x:=x) U.left,bb.fQ (x:=y) U.right];exact aC aA (U.sub λu hu=>by simp only[mem_append]at hu⊢;exact hu.imp (bb.sJ u) (bb.sJ u))
end
mutual
def view (s:aw):I->Option I
 | .h x q=>match I.sub q (s x)with
   |some d=>(match d with| .tuple _=>none| .dK _=>none| .fD _ _=>none|d=>if d.plain then none else some d.share)
   |none=>none
 | .an x q=>if I.fm q (s x)then(match I.sub q (s x)with
   |some d=>(match d with| .tuple _=>none|d=>some (.ref d.share))
   |none=>none)else none
 | .R _ _=>none
 | .fn f cap=>(views s cap).map (.fn f)
 | .hole=>none
 |d=>some d
def views (s:aw):ahB->Option ahB
 |[]=>some []
 |d::ds=>match view s d,views s ds with
  |some a,some b=>some (a::b)
  |_,_=>none
end
mutual
theorem D1:∀d:I,d.share.plain=true
 | .hole=>rfl
 | .bool _=>rfl
 | .fw=>rfl
 | .int _ _=>rfl
 | .str _=>rfl
 | .dr=>rfl
 | .bf=>rfl
 | .slice _=>rfl
 | .ao _ _=>rfl
 | .ref _=>rfl
 | .a1 _=>rfl
 | .agg az=>by simp only[I.share,I.plain];exact D2 az
 | .tuple az=>by simp only[I.share,I.plain];exact D2 az
 | .fn _ _=>rfl
 | .h _ _=>rfl
 | .an _ _=>rfl
 | .R _ _=>rfl
 | .dK _=>rfl
 | .fD _ _=>rfl
theorem D2:∀ds:ahB,I.dU (I.shares ds)=true
 |[]=>rfl
 |d::ds=>by simp only[I.shares,I.dU];rw[D1 d,D2 ds];rfl
end
theorem R2 {s:aw} {a d:I} (h:a.plain=true) (he:view s a=some d):d.plain=true:=by
 cases a with
 |h x q=>
  simp only[view]at he;split at he
  .rename_i e e2;cases e<;>simp only at he<;>first
    |(cases he;done)
    |(split at he
      .cases he
      .simp only[Option.some.injEq]at he;subst he;exact D1 _)
  .cases he
 |an x q=>
  simp only[view]at he;split at he
  .split at he
   .rename_i e e2;cases e<;>simp only at he<;>first
     |(cases he;done)
     |(simp only[Option.some.injEq]at he;subst he;rfl)
   .cases he
  .cases he
 |fn f cap=>
  simp only[view,Option.map_eq_some_iff]at he;obtain⟨ds,_,rfl⟩:=he;rfl
 |hole=>simp[view]at he
 |R y q=>simp[view]at he
 |_=>simp only[view,Option.some.injEq]at he;subst he;exact h
theorem D3 {d:I} {v:Value} (ab:∀vs,d≠.tuple vs) (h:dz d v):dz d.share v:=by
 cases d<;>first|exact h|exact(ab _ rfl).elim
theorem R3 (w:World):∀(q:ahw) (av d bp:I) (cs cD:ahz) (a cB:Option (Nat×Nat)),I.sub q av=some d->bp.wd=d.wd->dc w q av cs a=some (d,cD,cB)->
  dc w q (I.put q bp av) cs a=some (bp,cD,cB):=by
 intro q;induction q with
 |nil=>
  intro av d bp cs cD a cB ae hw h;simp only[dc,Option.some.injEq,Prod.mk.injEq]at h;obtain⟨rfl,rfl,rfl⟩:=h;simp only[I.put,dc]
 |cons k q ih=>
  intro av d bp cs cD a cB ae hw h;cases av with
  |agg az=>
   simp only[I.sub]at ae;split at ae
   .rename_i x ar;have aq:k<az.length:=(List.getElem?_eq_some_iff.1 ar).1;simp only[dc,ar]at h;simp only[I.put,ar,dc];rw[getElem?_set_self aq];simp only[take_set_of_le (Nat.le_refl k),I.ue q x d bp ae hw];exact ih _ _ _ _ _ _ _ ae hw h
   .cases ae
  |tuple az=>
   simp only[I.sub]at ae;split at ae
   .rename_i x ar;have aq:k<az.length:=(List.getElem?_eq_some_iff.1 ar).1;simp only[dc,ar]at h;simp only[I.put,ar,dc];rw[getElem?_set_self aq];simp only[take_set_of_le (Nat.le_refl k),I.ue q x d bp ae hw];exact ih _ _ _ _ _ _ _ ae hw h
   .cases ae
  |ao sz az=>
   simp only[I.sub]at ae;split at ae
   .rename_i x ar;have aq:k<az.length:=(List.getElem?_eq_some_iff.1 ar).1;have kV:(az.set k (I.put q bp x))[k]? =some (I.put q bp x):=getElem?_set_self aq;simp only[I.put,ar];rw[dc.eq_def]at h⊢;simp only[ar]at h;simp only;rw[kV];split at h
    .rename_i aP;simp only[Option.some.injEq]at aP;subst aP;exact ih _ _ _ _ _ _ _ ae hw h
    .cases h
   .cases ae
  |a1 x=>
   cases k with
   |zero=>
    simp only[I.sub]at ae;rw[dc.eq_def]at h⊢;simp only at h;simp only[I.put];split at h
    .rw[I.ue q x d bp ae hw];exact ih _ _ _ _ _ _ _ ae hw h
    .cases h
   |succ k=>simp[I.sub]at ae
  |_=>simp[I.sub]at ae
section
variable {w0 w aD:World} {F0 X F Fc:Nat->Prop} {S:Nat->Nat->Prop} {s aA:aw} {ay j9:Nat->Value}
theorem R4 (h:bx w0 F0 X F S s ay w) (a8:∀b,F b->Fc b):∀n,
  (∀(a:I) (v:Value) (d:I),SizeOf.sizeOf a<=n->(∀t∈a.U,∀b,S t b->Fc b)->view s a=some d->aF w F s ay a v (λ_=>False)->aF w Fc aA j9 d v (λ_=>False))/\
  (∀(as:ahB) (vs:ahz) (ds:ahB),SizeOf.sizeOf as<=n->(∀t∈I.dN as,∀b,S t b->Fc b)->views s as=some ds->dP w F s ay as vs->dP w Fc aA j9 ds vs):=by
 intro n;induction n with
 |zero=>exact⟨λa _ _ bR=>by cases a<;>simp at bR<;>omega,λas _ _ bR=>by cases as<;>simp at bR<;>omega⟩
 |succ n ih=>
  refine⟨λa v d bR bK he aI=>?_,λas vs ds bR bK he aI=>?_⟩
  .cases a with
   |h x q=>
    simp only[view]at he;split at he
    .rename_i e e2;have key:(∀az,e≠.tuple az)/\e.plain=false/\d=e.share/\(∀o,e≠.dK o)/\∀f c,e≠.fD f c:=by
      cases e<;>simp only at he<;>first
       |(cases he;done)
       |(split at he
         .cases he
         .rename_i fy;simp only[Option.some.injEq]at he;exact⟨(λ_ h=>by cases h),by simpa using fy,he.symm,(λ_ h=>by cases h),λ_ _ h=>by cases h⟩)
     obtain⟨my,fy,rfl,jC,D4⟩:=key;rw[aF]at aI;obtain⟨cD,cB,g1,g2,g3⟩:=aI e e2 fy;have aY:=hG e2 (.inl fy);have ar:=(aF.cr aY).1 (h.cW x);obtain⟨fO,a2,dW,e5,k0,bN,cc,eB,dB,e6⟩:=ctx q (s x) (b8 (ay x)) (S x) none e ar.2 e2;rw[g1]at k0;simp only[Option.some.injEq,Prod.mk.injEq,true_and]at k0;obtain⟨rfl,rfl⟩:=k0;have Dj:e.share.tree=true:=by cases e<;>first|rfl|(simp[I.plain]at fy;done)|exact(jC _ rfl).elim|exact(D4 _ _ rfl).elim
     have aH:=au.shared a8 e cD e5 (λb R=>bK x (by simp[I.U]) b (cc b R)) dB;exact(aF.cr Dj).2 ⟨D3 my g3,by rw[g2];exact aH⟩
    .cases he
   |an x q=>
    simp only[view]at he;split at he
    .rename_i oc;split at he
     .rename_i e e2;have key:(∀az,e≠.tuple az)/\d= .ref e.share:=by
       cases e<;>simp only at he<;>first
        |(cases he;done)
        |(simp only[Option.some.injEq]at he;exact⟨(λ_ h=>by cases h),he.symm⟩)
      obtain⟨my,rfl⟩:=key;rw[aF]at aI;obtain⟨cD,b,o,g1,rfl⟩:=aI e e2 oc;have aY:=hG e2 (.inr oc);have ar:=(aF.cr aY).1 (h.cW x);obtain⟨fO,a2,dW,e5,k0,bN,cc,eB,dB,e6⟩:=ctx q (s x) (b8 (ay x)) (S x) none e ar.2 e2;rw[g1]at k0;simp only[Option.some.injEq,Prod.mk.injEq,true_and]at k0;obtain⟨rfl,rfl⟩:=k0;have aH:=au.shared a8 e cD e5 (λb R=>bK x (by simp[I.U]) b (cc b R)) dB;rcases e6 with⟨l,r,_,aT,_⟩|⟨ff,cur,ty,fr,l,r,aP,aT,aR,b4,cz,_⟩
      .simp at aT
      .simp only[Option.some.injEq,Prod.mk.injEq]at aP;obtain⟨rfl,rfl⟩:=aP;refine(aF.cr rfl).2 ⟨rfl,?_⟩;rw[au];refine⟨b,l.length,cD,rfl,bK x (by simp[I.U]) b (bN b aT),?_,aH⟩;intro j c bQ;simp only[World.cell?,aR];have ai:cur[l.length+j]? =some c:=by
        rw[<-Array.getElem?_toList,cz,getElem?_append_right (by omega),getElem?_append_left (by
         have:=(List.getElem?_eq_some_iff.1 bQ).1;omega)]
        rw[<-bQ];congr 1;omega
       simpa using ai
     .cases he
    .cases he
   |fn f cap=>
    simp only[view,Option.map_eq_some_iff]at he;obtain⟨ds,jn,rfl⟩:=he;rw[aF]at aI;obtain⟨arr,rfl,ai⟩:=aI;rw[aF];exact⟨arr,rfl,ih.2 cap _ _ (by simp at bR;omega) (by simpa [I.U]using bK) jn ai⟩
   |hole=>simp[view]at he
   |R y q=>simp[view]at he
   |_=>
    simp only[view,Option.some.injEq]at he;subst he;have l8:=(aF.cr rfl).1 aI;exact(aF.cr rfl).2 ⟨l8.1,au.mono a8 _ _ _ _ (λ_ h=>h) l8.2⟩
  .cases as with
   |nil=>
    simp only[views,Option.some.injEq]at he;subst he;rw[dP]at aI⊢;exact aI
   |cons a as=>
    simp only[views]at he;split at he
    .rename_i d ds ab ad;simp only[Option.some.injEq]at he;subst he;rw[dP]at aI⊢;obtain⟨v,jB,rfl,g1,g2⟩:=aI;simp at bR;simp only[I.dN,mem_append]at bK;exact⟨v,jB,rfl,ih.1 a v d (by omega) (λt aY=>bK t (.inl aY)) ab g1,ih.2 as jB ds (by omega) (λt aY=>bK t (.inr aY)) ad g2⟩
    .cases he
theorem bx.ir (h:bx w0 F0 X F S s ay w) {x:Nat} {q:ahw} {d0 bp:I} {cD:ahz} {a:Option (Nat×Nat)} {Sn:Nat->Prop}
  (ae:I.sub q (s x)=some d0) (bd:dc w q (s x) (b8 (ay x)) none=some (d0,cD,a)) (ad:∀vs,bp≠.tuple vs) (aY:q=[]->bp.tree=true/\dz bp (ay x))
  (aC:∀k p,q=k::p->(s x).tree=true/\(∀v,h4 d0 v->h4 bp v)) (hw:bp.wd=d0.wd)
  (aI:au w F bp cD Sn) (ei:∀b,Sn b->b<w.heap.size) (a8:∀b,Sn b->¬F b) (bK:∀u b,Sn b->¬S u b) (aV:∀b,Sn b->X b\/w0.heap.size<=b):
  bx w0 F0 X F (fP S x (λb=>S x b\/Sn b)) (da (lK x s) x (I.put q bp (s x))) ay w:=by
 have dY:da ay x (ay x)=ay:=by funext u;simp only[da];split<;>simp_all
 have main:(I.put q bp (s x)).tree=true/\dz (I.put q bp (s x)) (ay x)/\au w F (I.put q bp (s x)) (b8 (ay x)) (λb=>S x b\/Sn b):=by
  cases q with
  |nil=>
   simp only[dc,Option.some.injEq,Prod.mk.injEq]at bd;obtain⟨aP,aT,aR⟩:=bd;obtain⟨g1,g2⟩:=aY rfl;simp only[I.put];refine⟨g1,?_,?_⟩
   .exact g2
   .rw[aT];exact au.mono (λ_ h=>h) _ _ _ _ (λb R=>.inr R) aI
  |cons k p=>
   obtain⟨g1,g2⟩:=aC k p rfl;have ar:=(aF.cr g1).1 (h.cW x);obtain⟨fO,a2,dW,e5,k0,bN,cc,eB,dB,e6⟩:=ctx (k::p) (s x) (b8 (ay x)) (S x) none d0 ar.2 ae;rw[bd]at k0;simp only[Option.some.injEq,Prod.mk.injEq,true_and]at k0;obtain⟨rfl,rfl⟩:=k0;refine⟨?_,?_,?_⟩
   .rcases q4 k p bp (s x)with⟨az,gs,aP,e⟩|⟨az,gs,aP,e⟩|⟨sz,xs,bm,aP,e⟩|⟨y,z,aP,e⟩|e<;>rw[e]<;>first|rfl|exact g1
   .refine wm ar.1 ae g2 (λ_ vs e=>(ad vs e).elim) hw
   .have mono:∀b,(dW b\/Sn b)->(S x b\/Sn b):=λb R=>R.imp (bN b) id;rcases e6 with⟨l,r,aP,aT,aR⟩|⟨b,cur,ty,fr,l,r,aP,aT,aR,b4,cz,bV⟩
    .rw[aP];exact au.mono (λ_ h=>h) _ _ _ _ mono (aR w bp cD Sn (λ_ _=>rfl) (λ_ _=>rfl) hw aI (λb R ai=>bK x b R (bN b ai)))
    .refine au.mono (λ_ h=>h) _ _ _ _ mono (bV w bp cD Sn (λ_ _=>rfl) (λ_ _ _=>rfl) ?_ hw aI (λb R ai=>bK x b R (bN b ai)));rw[aR,<-cz]
 have:=h.I3 (t:=x) main.1 main.2.1 main.2.2 (by rintro b (R|R);exact h.et x b R;exact ei b R) (by rintro b (R|R);exact h.fg x b R;exact a8 b R)
  (by rintro u b cO (R|R);exact λhu=>h.eT u x b cO hu R;exact bK u b R) (by rintro b (R|R);exact h.dy x b R;exact aV b R)
 rwa [dY]at this
end
mutual
def I.cF:I->Bool
 | .slice _=>false
 | .ref _=>false
 | .fn _ _=>false
 | .h _ _=>false
 | .an _ _=>false
 | .R _ _=>false
 | .ao _ xs=>I.gM xs
 | .a1 d=>d.cF
 | .agg az=>I.gM az
 | .tuple az=>I.gM az
 | .fD _ az=>I.gM az
 |_=>true
def I.gM:ahB->Bool
 |[]=>true
 |d::ds=>d.cF&&I.gM ds
end
mutual
theorem au.cF {w:World} {F bE:Nat->Prop}:∀(d:I) (cs:ahz) (S:Nat->Prop),d.cF=true->au w F d cs S->au w bE d cs S
 | .hole,_,_,_,h=>h
 | .bool _,_,_,_,h=>h
 | .fw,_,_,_,h=>h
 | .int _ _,_,_,_,h=>h
 | .str _,_,_,_,h=>h
 | .dr,_,_,_,h=>h
 | .bf,_,_,_,h=>h
 | .slice xs,cs,S,aU,h=>by simp[I.cF]at aU
 | .ref d,cs,S,aU,h=>by simp[I.cF]at aU
 | .ao sz xs,cs,S,aU,h=>by
   rw[au]at h⊢;rcases h with h|⟨b,cap,cur,e,fr,aN,ab,ad,aC,aW,bu,cy,cl,fM,h9,iS,lJ⟩
   .exact .inl h
   .exact .inr ⟨b,cap,cur,e,fr,aN,ab,ad,aC,aW,bu,cy,cl,fM,aZ.cF xs _ _ aU h9,iS,lJ⟩
 | .a1 d,cs,S,aU,h=>by
   rw[au]at h⊢;obtain⟨b,cur,e,fr,aN,ab,ad,aC,aW,bu,cy,cl⟩:=h;exact⟨b,cur,e,fr,aN,ab,ad,aC,aW,au.cF d _ _ aU bu,cy,cl⟩
 | .agg az,cs,S,aU,h=>by rw[au]at h⊢;exact aZ.cF az _ _ aU h
 | .tuple az,cs,S,aU,h=>by rw[au]at h⊢;exact aZ.cF az _ _ aU h
 | .fn _ _,_,_,aU,h=>by simp[I.cF]at aU
 | .h _ _,_,_,_,h=>h
 | .an _ _,_,_,_,h=>h
 | .R _ _,_,_,_,h=>h
 | .dK _,_,_,_,h=>h
 | .fD _ caps,cs,S,aU,h=>by
   rw[au]at h⊢;obtain⟨arr,ab,ad,aC⟩:=h;exact⟨arr,ab,ad,aZ.cF caps _ _ aU aC⟩
theorem aZ.cF {w:World} {F bE:Nat->Prop}:∀(ds:ahB) (cs:ahz) (S:Nat->Prop),I.gM ds=true->aZ w F ds cs S->aZ w bE ds cs S
 |[],_,_,_,h=>h
 |d::ds,cs,S,aU,h=>by
  simp only[I.gM,Bool.and_eq_true]at aU;rw[aZ]at h⊢;obtain⟨b2,c2,b3,dh,ab,ad,aC,aW,bu,cy⟩:=h;exact⟨b2,c2,b3,dh,ab,au.cF d _ _ aU.1 ad,aZ.cF ds _ _ aU.2 aC,aW,bu,cy⟩
end
theorem Kk:∀(q:ahw) (av d e:I),I.sub q av=some d->I.sub q (I.put q e av)=some e:=by
 intro q;induction q with
 |nil=>intro av d e _;simp[I.put,I.sub]
 |cons k q ih=>
  intro av d e h;cases av with
  |agg az=>
   simp only[I.sub]at h;split at h
   .rename_i x ar;have aq:k<az.length:=(List.getElem?_eq_some_iff.1 ar).1;simp only[I.put,ar,I.sub,getElem?_set_self aq];exact ih _ _ _ h
   .cases h
  |tuple az=>
   simp only[I.sub]at h;split at h
   .rename_i x ar;have aq:k<az.length:=(List.getElem?_eq_some_iff.1 ar).1;simp only[I.put,ar,I.sub,getElem?_set_self aq];exact ih _ _ _ h
   .cases h
  |ao sz az=>
   simp only[I.sub]at h;split at h
   .rename_i x ar;have aq:k<az.length:=(List.getElem?_eq_some_iff.1 ar).1;simp only[I.put,ar,I.sub,getElem?_set_self aq];exact ih _ _ _ h
   .cases h
  |a1 x=>
   cases k with
   |zero=>simp only[I.sub]at h;simp only[I.put,I.sub];exact ih _ _ _ h
   |succ k=>simp[I.sub]at h
  |_=>simp[I.sub]at h
structure ct where
 a:I
 g:Bool
 d:I
 o:I
def I.own:I->Bool
 | .ao _ _=>true
 | .a1 _=>true
 |_=>false
def I.gi:I->Bool
 | .ao _ _=>true
 | .a1 _=>true
 | .dK _=>true
 | .fD _ _=>true
 | .agg az=> !I.dU az
 |_=>false
def rj (d o:I):Bool:=match d,o with
 | .agg a,.agg b=>I.dT a==I.dT b
 | .agg _,_=>false
 |_,.agg _=>false
 |_,_=>true
theorem qi {d:I} (h:d.gi=true):d.plain=false/\d.tree=true/\∀vs,d≠.tuple vs:=by
 cases d<;>simp[I.gi]at h<;>first|exact⟨rfl,rfl,λvs e=>by cases e⟩|exact⟨by simp only[I.plain];exact h,rfl,λvs e=>by cases e⟩
theorem R5 {d o:I} (h:d.gi=true) (b1:o.gi=true) (hl:rj d o=true):o.wd=d.wd/\(∀v,dz d v->dz o v)/\∀v,h4 d.cS v->h4 o v:=by
 cases d<;>simp[I.gi]at h<;>cases o<;>simp[I.gi]at b1<;>simp[rj]at hl<;>first
  |exact⟨rfl,λ_ h=>h,λ_ h=>h⟩
  |exact⟨by simp only[I.wd];exact hl.symm,λ_ h=>h,λ_ h=>h⟩
def ct.ok (s:aw) (p:ct):Prop:=
 if p.g then(match p.a with| .h x q=>I.sub q (s x)=some p.d/\p.d.gi=true/\(p.o= .hole\/(p.o.gi=true/\rj p.d p.o=true))|_=>False)
 else view s p.a=some p.d
def hP:List ct->Bool
 |[]=>true
 |p::r=>(r.all λcv=> !(p.g||cv.g)||(p.a.U.all λu=> !cv.a.U.contains u))&&hP r
def ct.take (s:aw) (p:ct):aw:=
 if p.g then(match p.a with| .h x q=>da (hM x s) x (I.put q p.d.cS (s x))|_=>s)else s
def ct.ir (s:aw) (p:ct):aw:=
 if p.g then(match p.a,p.o with|_,.hole=>s| .h x q,o=>da (lK x s) x (I.put q o (s x))|_,_=>s)else s
def eO (s:aw) (ps:List ct):aw:=ps.foldl ct.take s
def g_ (s:aw) (ps:List ct):aw:=ps.foldl ct.ir s
section
variable {w0 w aD:World} {F0 X F Fc:Nat->Prop} {S:Nat->Nat->Prop} {s aA:aw} {ay j9:Nat->Value}
def R6 (w:World) (F:Nat->Prop) (s1:aw) (ay:Nat->Value) (p:ct) (v:Value) (Sn:Nat->Prop):Prop:=
 ∃x q a0,p.a= .h x q/\I.sub q (s1 x)=some p.d.cS/\dc w q (s1 x) (b8 (ay x)) none=some (p.d.cS,b8 v,a0)/\(s1 x).U=[]/\(q=[]->dz p.d (ay x))/\(q≠[]->(s1 x).tree=true)/\
  dz p.d v/\au w F p.d (b8 v) Sn
theorem R7 {p:ct} {x:Nat} (h:(s x).U=[]) (an:p.g=true->x∉p.a.U):ct.take s p x=s x:=by
 unfold ct.take;split
 .rename_i hg;cases bM:p.a with
  |h y q=>
   have:x≠y:=by
    have:=an hg;rw[bM]at this;simpa [I.U]using this
   simp only;rw[iV _ _ this];exact wV _ (by rw[h];simp)
  |_=>rfl
 .rfl
theorem D5:∀{ps:List ct} {s:aw} {x:Nat},(s x).U=[]->(∀p∈ps,p.g=true->x∉p.a.U)->eO s ps x=s x:=by
 intro ps;induction ps with
 |nil=>intros;rfl
 |cons p ps ih=>
  intro s x h an;have e:=R7 (s:=s) (p:=p) h (an p (by simp));show eO (ct.take s p) ps x=s x;rw[ih (by rw[e];exact h) (λcv ev=>an cv (by simp[ev])),e]
theorem sK {d:I} (h:d.own=true):d.plain=false/\d.tree=true/\d.cS= .hole/\d.one=true/\d.wd=1/\(∀v,dz d v↔Value.fY v=true):=by
 cases d<;>simp[I.own]at h<;>exact⟨rfl,rfl,rfl,rfl,rfl,λv=>Iff.rfl⟩
theorem R8:∀(ps:List ct) (vs:ahz) (s:aw) (S:Nat->Nat->Prop),bx w0 F0 X F S s ay w->ps.length=vs.length->
  (∀(i:Nat) (p:ct) (v:Value),ps[i]? =some p->vs[i]? =some v->p.a.plain=true/\aF w F s ay p.a v (λ_=>False)/\(p.g=true->p.ok s))->hP ps=true->
  ∃(Sn b3:Nat->Nat->Prop),bx w0 F0 X F b3 (eO s ps) ay w/\(∀u b,b3 u b->S u b)/\
   (∀(i:Nat) (p:ct) (v:Value),ps[i]? =some p->vs[i]? =some v->p.g=true->R6 w F (eO s ps) ay p v (Sn i))/\
   (∀i b,Sn i b->∃p,ps[i]? =some p/\p.g=true)/\
   (∀i b,Sn i b->∃u,S u b)/\(∀i u b,Sn i b->¬b3 u b)/\(∀i j b,i≠j->Sn i b->¬Sn j b)/\
   (∀(bp:I) (fX:Value) (aN:Nat->Prop),(∀p∈ps,p.g=true->∀u∈p.a.U,u∉bp.U)->aF w F s ay bp fX aN->aF w F (eO s ps) ay bp fX aN):=by
 intro ps;induction ps with
 |nil=>
  intro vs s S h hl _ _;exact⟨λ_ _=>False,S,h,λ_ _ h=>h,λi p v an=>by simp at an,λ_ _ h=>h.elim,λ_ _ h=>h.elim,λ_ _ _ h=>h.elim,λ_ _ _ _ h=>h.elim,λ_ _ _ _ h=>h⟩
 |cons p ps ih=>
  intro vs s S h hl wP kb;cases vs with
  |nil=>simp at hl
  |cons v vs=>
   simp only[length_cons,Nat.add_right_cancel_iff]at hl;simp only[hP,Bool.and_eq_true,List.all_eq_true,Bool.or_eq_true,Bool.not_eq_true']at kb;obtain⟨oo,nH⟩:=kb;have uy:∀cv∈ps,(p.g=true\/cv.g=true)->∀u∈p.a.U,u∉cv.a.U:=by
    intro cv ev hg u hu;rcases oo cv ev with e|e
    .rcases hg with hg|hg<;>simp[hg]at e
    .simpa using e u hu
   obtain⟨f1,f2,f3⟩:=wP 0 p v rfl rfl;cases hg:p.g with
   |false=>
    have fE:ct.take s p=s:=by simp[ct.take,hg]
    obtain⟨Sn,b3,g1,g2,g3,g4,g5,g6,g7,g8⟩:=ih vs s S h hl (λi cv fX an aI=>wP (i+1) cv fX (by simpa using an) (by simpa using aI)) nH;have aP:eO s (p::ps)=eO s ps:=by show eO (ct.take s p) ps=_;rw[fE]
    rw[aP];refine⟨λi=>match i with|0=>λ_=>False|i+1=>Sn i,b3,g1,g2,?_,?_,?_,?_,?_,λbp fX aN ae=>g8 bp fX aN λcv ev=>ae cv (by simp[ev])⟩
    .intro i cv fX an aI gZ;cases i with
     |zero=>simp at an;subst an;rw[hg]at gZ;cases gZ
     |succ i=>exact g3 i cv fX (by simpa using an) (by simpa using aI) gZ
    .intro i b R;cases i with
     |zero=>exact R.elim
     |succ i=>simpa using g4 i b R
    .intro i b R;cases i with
     |zero=>exact R.elim
     |succ i=>exact g5 i b R
    .intro i u b R;cases i with
     |zero=>exact R.elim
     |succ i=>exact g6 i u b R
    .intro i j b cO ak bQ;cases i with
     |zero=>exact ak.elim
     |succ i=>
      cases j with
      |zero=>exact bQ.elim
      |succ j=>exact g7 i j b (by omega) ak bQ
   |true=>
    have e7:=f3 hg;simp only[ct.ok,hg,if_true]at e7;split at e7
    .rename_i x q bM;obtain⟨e2,wX,sl⟩:=e7;obtain⟨lR,jR,oq⟩:=qi wX;have D6:cH s p.a=some (p.d,da (hM x s) x (I.put q p.d.cS (s x))):=by
      rw[bM];simp only[cH,e2,lR];rfl
     obtain⟨b3,t1,t2,t3,R9,t4,t5,t6,t7,t8,t9,t10,t11⟩:=o5 h f1 f2 D6;have fE:ct.take s p=da (hM x s) x (I.put q p.d.cS (s x)):=by simp[ct.take,hg,bM]
     have pg:∀cv∈ps,x∉cv.a.U:=λcv ev=>uy cv ev (.inl hg) x (by rw[bM];simp[I.U]);have D7:ct.take s p x=I.put q p.d.cS (s x):=by rw[fE,lL]
     have zW:(ct.take s p x).U=[]:=by
      rw[D7];exact uw q _ _ _ e2 (.inl lR) (λ_=>by cases ae:p.d<;>first|rfl|(rw[ae]at wX;simp[I.gi]at wX))
     obtain⟨Sn,dh,g1,g2,g3,g4,g5,g6,g7,g8⟩:=ih vs (ct.take s p) b3 (by rw[fE];exact t1) hl (by
      intro i cv fX an aI;obtain⟨bN,cc,eB⟩:=wP (i+1) cv fX (by simpa using an) (by simpa using aI);have hm:cv∈ps:=mem_of_getElem? an;refine⟨bN,?_,?_⟩
      .have:=t11 _ _ _ cc;rw[bM]at this;rw[fE];simp only[I.owner,ku]at this
       rwa [wV _ (pg cv hm)]at this
      .intro gZ;have:=eB gZ;simp only[ct.ok,gZ,if_true]at this⊢;split at this
       .rename_i y jl sL;have cO:y≠x:=λe=>pg cv hm (by rw[sL,e];simp[I.U]);rw[fE,iV _ _ cO];have aY:=hG this.1 (.inl (qi this.2.1).1);simp only[hM,C_ aY];exact this
       .exact this.elim) nH
     have aP:eO s (p::ps)=eO (ct.take s p) ps:=rfl;have rk:eO (ct.take s p) ps x=I.put q p.d.cS (s x):=by
      rw[D5 zW (λcv ev _=>pg cv ev),D7]
     rw[aP];refine⟨λi=>match i with|0=>R9|i+1=>Sn i,dh,g1,λu b R=>t9 u b (g2 u b R),?_,?_,?_,?_,?_,?_⟩
     rotate_left 5
     .intro bp fX aN ae iu;refine g8 bp fX aN (λcv ev=>ae cv (by simp[ev])) ?_;have:=t11 _ _ _ iu;rw[bM]at this;rw[fE];simp only[I.owner,ku]at this
      rwa [wV _ (ae p (by simp) hg x (by rw[bM];simp[I.U]))]at this
     .intro i cv fX an aI gZ;cases i with
      |zero=>
       simp at an aI;subst an aI;have zX:=f2;rw[bM,aF]at zX;obtain⟨cD,a0,b2,c2,c3⟩:=zX _ e2 lR;refine⟨x,q,a0,bM,?_,?_,?_,?_,?_,t3,t4⟩
       .rw[rk];exact Kk q _ _ _ e2
       .rw[rk,c2];exact R3 w q _ _ _ _ _ _ _ e2 (I.q3 _) b2
       .rw[rk,<-D7];exact zW
       .intro b_;subst b_;simp only[I.sub,Option.some.injEq]at e2;have:=(aF.cr (by rw[e2];exact jR)).1 (h.cW x);rw[e2]at this;exact this.1
       .intro b_;have aY:=hG e2 (.inl lR);rw[rk];cases q with
        |nil=>exact(b_ rfl).elim
        |cons k q=>rcases q4 k q p.d.cS (s x)with⟨az,gs,aP,e⟩|⟨az,gs,aP,e⟩|⟨sz,xs,bm,aP,e⟩|⟨y,z,aP,e⟩|e<;>rw[e]<;>first|rfl|exact aY
      |succ i=>exact g3 i cv fX (by simpa using an) (by simpa using aI) gZ
     .intro i b R;cases i with
      |zero=>exact⟨p,rfl,hg⟩
      |succ i=>simpa using g4 i b R
     .intro i b R;cases i with
      |zero=>exact t10 b R
      |succ i=>obtain⟨u,hu⟩:=g5 i b R;exact⟨u,t9 u b hu⟩
     .intro i u b R;cases i with
      |zero=>exact λhu=>t7 u b R (g2 u b hu)
      |succ i=>exact g6 i u b R
     .intro i j b cO ak bQ;cases i with
      |zero=>
       cases j with
       |zero=>exact cO rfl
       |succ j=>obtain⟨u,hu⟩:=g5 j b bQ;exact t7 u b ak hu
      |succ i=>
       cases j with
       |zero=>obtain⟨u,hu⟩:=g5 i b ak;exact t7 u b bQ hu
       |succ j=>exact g7 i j b (by omega) ak bQ
    .exact e7.elim
end
def nI:ahB->ahB->ahB
 |d::ds,.hole::us=>(if d.plain=true then d else .hole)::nI ds us
 |_::ds,u::us=>u::nI ds us
 |_,us=>us
def zY:I->I->I
 | .fD _ ds,.fD g us=>.fD g (nI ds us)
 |_,o=>o
theorem R_ {d o:I} (h:(zY d o).tree=true):o.tree=true:=by
 cases d<;>cases o<;>first|exact h|rfl
theorem Kl {d:I} (h:d.one=true):d.wd=1:=by cases d<;>first|rfl|(simp[I.one]at h)
theorem Km {w aD:World} {F ll:Nat->Prop} (a8:∀b,F b->ll b) (hw:∀b,F b->aD.heap[b]? =w.heap[b]?):∀(ds us:ahB) (cs:ahz) (S aN:Nat->Prop),(∀d∈ds,d.one=true)->(∀d∈us,d.one=true)->
  aZ w F ds cs S->aZ aD ll us cs aN->aZ aD ll (nI ds us) cs aN/\∀d∈nI ds us,d.one=true
 |[],us,cs,S,aN,_,ab,_,aC=>by
  have e:nI [] us=us:=by cases us<;>rfl
  rw[e];exact⟨aC,ab⟩
 |d::ds,[],cs,S,aN,_,_,_,aC=>by
  have e:nI (d::ds) []=[]:=rfl;rw[e];exact⟨aC,λd h=>by cases h⟩
 |d::ds,u::us,cs,S,aN,aV,ab,ad,aC=>by
  rw[aZ]at ad aC;obtain⟨b2,c2,b3,dh,aP,J,a2,a3,a4,a5⟩:=ad;obtain⟨iC,gA,Kn,Ko,aT,bN,cc,eB,dB,e6⟩:=aC;have gh:=au.length _ _ _ J;have l2:=au.length _ _ _ bN;rw[Kl (aV d (by simp))]at gh;rw[Kl (ab u (by simp))]at l2;have aR:b2=iC/\c2=gA:=append_inj (aP.symm.trans aT) (by rw[gh,l2]);obtain⟨rfl,rfl⟩:=aR;obtain⟨dm,a7⟩:=Km a8 hw ds us c2 dh Ko (λd ae=>aV d (by simp[ae])) (λd ae=>ab d (by simp[ae])) a2 cc;have key:∀y:I,au aD ll y b2 Kn->y.one=true->aZ aD ll (y::nI ds us) cs aN/\∀d∈y::nI ds us,d.one=true:=by
   intro y hy Dw;rw[aZ];exact⟨⟨b2,c2,Kn,Ko,aT,hy,dm,eB,dB,e6⟩,λd ae=>by
    rcases mem_cons.1 ae with rfl|ae
    .exact Dw
    .exact a7 d ae⟩
  by_cases hu:u= .hole
  .subst hu;simp only[nI];by_cases an:d.plain=true
   .rw[if_pos an];exact key d (au.plain _ _ _ _ an (au.mono a8 _ _ _ _ (λ_ h=>h) (au.frame hw _ _ (λ_=>False) (λ_ h=>h.elim) (au.plain _ _ _ _ an J)))) (aV d (by simp))
   .rw[if_neg an];exact key .hole bN rfl
  .have e:nI (d::ds) (u::us)=u::nI ds us:=by cases u<;>first|rfl|exact(hu rfl).elim
   rw[e];exact key u bN (ab u (by simp))
theorem Sa {w aD:World} {F ll:Nat->Prop} {d o:I} {cs:ahz} {S aN:Nat->Prop} (a8:∀b,F b->ll b) (hw:∀b,F b->aD.heap[b]? =w.heap[b]?) (ab:au w F d cs S) (ad:au aD ll o cs aN):au aD ll (zY d o) cs aN:=by
 cases d with
 |fD f ds=>
  cases o with
  |fD g us=>
   simp only[zY];rw[au]at ab ad⊢;obtain⟨arr,rfl,a2,a3⟩:=ab;obtain⟨af5,e,gA,iE⟩:=ad;simp only[cons.injEq,Value.func.injEq,and_true]at e;obtain⟨aP,aT,aR⟩:=e;subst aR;obtain⟨dm,a7⟩:=Km a8 hw ds us _ _ _ a2 gA a3 iE;exact⟨arr,by simp_all,a7,dm⟩
  |_=>exact ad
 |_=>cases o<;>exact ad
def eU (l:ahB):aw:=λi=>l.getD i .hole
def gj (l:ahz):Nat->Value:=λi=>l.getD i undef
def mz (P:Program) (f:FuncId) (args:Array Value) (w:World) (jS:Value->World->Prop):Prop:=
 ((callFunc f args).run P w= .ok (.enter f args) w/\Calls P f args w (λe aD=>∃v,e= .returned v/\jS v aD))\/
 ∃v aD,(callFunc f args).run P w= .ok (.value v) aD/\jS v aD
theorem mz.mono {P:Program} {f:FuncId} {args:Array Value} {w:World} {jS Kp:Value->World->Prop} (h:mz P f args w jS) (aH:∀v aD,jS v aD->Kp v aD):mz P f args w Kp:=by
 rcases h with⟨ab,ad⟩|⟨v,aD,ab,ad⟩
 .exact .inl ⟨ab,Calls.mono ad λe aD ⟨v,e,h⟩=>⟨v,e,aH v aD h⟩⟩
 .exact .inr ⟨v,aD,ab,aH v aD ad⟩
def aX (C:bW) (f:FuncId) (as:ahB) (r:I) (outs:ahB):Prop:=
 ∀(w:World) (F X:Nat->Prop) (S:Nat->Nat->Prop) (vs:ahz),vs.length=as.length->bx w F X F S (eU as) (gj vs) w->
  mz C.P f vs.toArray w λv aD=>∃bE aN,bx w F X bE aN (eU (r::outs)) (gj (v::vs)) aD
def I.res:I->Bool
 | .h _ _=>false
 | .an _ _=>false
 | .R _ _=>false
 | .fn _ _=>false
 |_=>true
theorem D8 {d:I} (h:d.tree=true):d.U=[]:=by cases d<;>first|rfl|(simp[I.tree]at h)
mutual
theorem D9 {s aA:aw}:∀(a:I) (d:I),(∀u∈a.U,(s u).tree=true->aA u=s u)->view s a=some d->view aA a=some d
 | .h x q,d,hu,h=>by
   have aY:(s x).tree=true:=by
    simp only[view]at h;split at h
    .rename_i e e2;cases e<;>simp only at h<;>first
      |(cases h;done)
      |(split at h
        .cases h
        .rename_i an;exact hG e2 (.inl (by simpa using an)))
    .cases h
   simp only[view]at h⊢;rw[hu x (by simp[I.U]) aY];exact h
 | .an x q,d,hu,h=>by
   have aY:(s x).tree=true:=by
    simp only[view]at h;split at h
    .rename_i ai;split at h
     .rename_i e e2;exact hG e2 (.inr ai)
     .cases h
    .cases h
   simp only[view]at h⊢;rw[hu x (by simp[I.U]) aY];exact h
 | .R x q,d,hu,h=>by simp[view]at h
 | .fn f cap,d,hu,h=>by
   simp only[view,Option.map_eq_some_iff]at h⊢;obtain⟨ds,ab,ad⟩:=h;exact⟨ds,Kq cap ds (by simpa [I.U]using hu) ab,ad⟩
 | .hole,d,hu,h=>h
 | .bool _,d,hu,h=>h
 | .fw,d,hu,h=>h
 | .int _ _,d,hu,h=>h
 | .str _,d,hu,h=>h
 | .dr,d,hu,h=>h
 | .bf,d,hu,h=>h
 | .slice _,d,hu,h=>h
 | .ao _ _,d,hu,h=>h
 | .ref _,d,hu,h=>h
 | .a1 _,d,hu,h=>h
 | .agg _,d,hu,h=>h
 | .tuple _,d,hu,h=>h
 | .dK _,d,hu,h=>h
 | .fD _ _,d,hu,h=>h
theorem Kq {s aA:aw}:∀(as:ahB) (ds:ahB),(∀u∈I.dN as,(s u).tree=true->aA u=s u)->views s as=some ds->views aA as=some ds
 |[],ds,hu,h=>h
 |a::as,ds,hu,h=>by
  simp only[I.dN,mem_append]at hu;simp only[views]at h⊢;split at h
  .rename_i x y ab ad;rw[D9 a x (λu hm=>hu u (.inl hm)) ab,Kq as y (λu hm=>hu u (.inr hm)) ad];exact h
  .cases h
end
section
variable {C:bW} {w0 w aD:World} {F0 X F Fc:Nat->Prop} {S:Nat->Nat->Prop} {s aA:aw} {ay j9:Nat->Value}
def Sb (w:World) (F:Nat->Prop) (s:aw) (ay:Nat->Value) (p:ct) (v:Value) (So:Nat->Prop):Prop:=
 p.g=true->p.o= .hole\/∃x q a0 d0,p.a= .h x q/\I.sub q (s x)=some d0/\dc w q (s x) (b8 (ay x)) none=some (d0,b8 v,a0)/\(s x).U=[]/\
  (q=[]->dz p.o (ay x))/\(q≠[]->(s x).tree=true)/\p.o.gi=true/\au w F p.o (b8 v) So/\p.o.wd=d0.wd/\∀v,h4 d0 v->h4 p.o v
theorem Sc:∀(ps:List ct) (vs:ahz) (s:aw) (S So:Nat->Nat->Prop),bx w0 F0 X F S s ay w->ps.length=vs.length->
  (∀(i:Nat) (p:ct) (v:Value),ps[i]? =some p->vs[i]? =some v->Sb w F s ay p v (So i))->
  (∀i b,So i b->b<w.heap.size/\¬F b/\(X b\/w0.heap.size<=b)/\∀u,¬S u b)->(∀i j b,i≠j->So i b->¬So j b)->hP ps=true->
  ∃dh,bx w0 F0 X F dh (g_ s ps) ay w/\∀u b,dh u b->S u b\/∃i,So i b:=by
 intro ps;induction ps with
 |nil=>intro vs s S So h _ _ _ _ _;exact⟨S,h,λu b R=>.inl R⟩
 |cons p ps ih=>
  intro vs s S So h hl qj R ae kb;cases vs with
  |nil=>simp at hl
  |cons v vs=>
   simp only[length_cons,Nat.add_right_cancel_iff]at hl;simp only[hP,Bool.and_eq_true,List.all_eq_true,Bool.or_eq_true,Bool.not_eq_true']at kb;obtain⟨oo,nH⟩:=kb;have uy:∀cv∈ps,(p.g=true\/cv.g=true)->∀u∈p.a.U,u∉cv.a.U:=by
    intro cv ev hg u hu;rcases oo cv ev with e|e
    .rcases hg with hg|hg<;>simp[hg]at e
    .simpa using e u hu
   have skip:ct.ir s p=s->∃dh,bx w0 F0 X F dh (g_ s (p::ps)) ay w/\∀u b,dh u b->S u b\/∃i,So i b:=by
    intro fE;obtain⟨dh,g1,g2⟩:=ih vs s S (λi=>So (i+1)) h hl (λi cv fX an aI=>qj (i+1) cv fX (by simpa using an) (by simpa using aI)) (λi b h=>R (i+1) b h)
     (λi j b cO=>ae (i+1) (j+1) b (by omega)) nH
    refine⟨dh,?_,λu b hu=>(g2 u b hu).imp id λ⟨i,ak⟩=>⟨i+1,ak⟩⟩;show bx _ _ _ _ _ (g_ (ct.ir s p) ps) _ _;rw[fE];exact g1
   cases hg:p.g with
   |false=>exact skip (by simp[ct.ir,hg])
   |true=>
    rcases qj 0 p v rfl rfl hg with b1|⟨x,q,a0,d0,bM,b2,c2,c3,c4,c5,eo,D_,iG,c9⟩
    .exact skip (by simp only[ct.ir,hg,b1,if_true])
    .obtain⟨lR,jR,rl⟩:=qi eo;have fE:ct.ir s p=da (lK x s) x (I.put q p.o (s x)):=by
      simp only[ct.ir,hg,if_true,bM];cases Sd:p.o<;>first|rfl|(rw[Sd]at eo;simp[I.gi]at eo)
     have step:=h.ir (x:=x) (q:=q) (bp:=p.o) b2 c2 rl (λb_=>⟨jR,c4 b_⟩) (λk r b_=>⟨c5 (by rw[b_];simp),c9⟩) iG D_
      (λb h=>(R 0 b h).1) (λb h=>(R 0 b h).2.1) (λu b h=>(R 0 b h).2.2.2 u) (λb h=>(R 0 b h).2.2.1)
     rw[<-fE]at step;obtain⟨dh,g1,g2⟩:=ih vs (ct.ir s p) _ (λi=>So (i+1)) step hl (by
      intro i cv fX an aI gZ;have hm:cv∈ps:=mem_of_getElem? an;rcases qj (i+1) cv fX (by simpa using an) (by simpa using aI) gZ with b1|⟨y,jl,J,d1,bN,cc,eB,dB,e6,cZ,iW,fF,l_⟩
      .exact .inl b1
      .have cO:y≠x:=λe=>uy cv hm (.inl hg) x (by rw[bM];simp[I.U]) (by rw[bN,e];simp[I.U]);have mQ:ct.ir s p y=s y:=by
        rw[fE,iV _ _ cO];exact DS _ (by rw[dB];simp)
       exact .inr ⟨y,jl,J,d1,bN,by rw[mQ];exact cc,by rw[mQ];exact eB,by rw[mQ];exact dB,e6,by rw[mQ];exact cZ,iW,fF,l_⟩)
      (by
       intro i b ak;obtain⟨iC,gA,iE,bO⟩:=R (i+1) b ak;refine⟨iC,gA,iE,λu hu=>?_⟩;simp only[fP]at hu;split at hu
       .rcases hu with hu|hu
        .exact bO _ hu
        .exact ae 0 (i+1) b (by omega) hu ak
       .exact bO _ hu)
      (λi j b cO=>ae (i+1) (j+1) b (by omega)) nH
     refine⟨dh,g1,λu b hu=>?_⟩;rcases g2 u b hu with hu|⟨i,ak⟩
     .simp only[fP]at hu;split at hu
      .rename_i e;subst e;exact hu.imp id λh=>⟨0,h⟩
      .exact .inl hu
     .exact .inr ⟨i+1,ak⟩
def jG (ps:List ct):Bool:=ps.any λp=> !p.g&& !p.a.U.isEmpty
theorem Se (h:bx w0 F0 X F S s ay w) {ps:List ct} {vs Kr:ahz} {os:ahB} {f:FuncId} {r:I} (hl:ps.length=vs.length) (Ks:∀(i:Nat) (p:ct),ps[i]? =some p->∃o,os[i]? =some o/\(p.o=o\/p.o=zY p.d o))
  (iu:∀(i:Nat) (p:ct) (v:Value),ps[i]? =some p->vs[i]? =some v->p.a.plain=true/\aF w F s ay p.a v (λ_=>False))
  (e7:∀p∈ps,p.ok s) (kb:hP ps=true) (bd:∀(Fc kA:Nat->Prop) (dW:Nat->Nat->Prop),(∀b,F b->Fc b)->(∀b,kA b->∃u,S u b)->bx w Fc kA Fc dW (eU (ps.map (·.d))) (gj vs) w->
   mz C.P f Kr.toArray w λv aD=>∃bE aN,bx w Fc kA bE aN (eU (r::os)) (gj (v::vs)) aD) (aH:r.res=true)
  (aU:jG ps=true->r.cF=true/\∀(i:Nat) (p:ct) (o:I),ps[i]? =some p->os[i]? =some o->p.g=true->o.cF=true):
  mz C.P f Kr.toArray w λv aD=>∃bE aN,bx w0 F0 X bE aN (g_ (eO s ps) ps) ay aD/\kR w0 X bE aN (g_ (eO s ps) ps) ay aD r v/\∀b,F b->bE b/\aD.heap[b]? =w.heap[b]? :=by
 obtain⟨Sn,b3,g1,g2,g3,g4,g5,g6,g7,g8⟩:=R8 ps vs s S h hl (λi p v an aI=>⟨(iu i p v an aI).1,(iu i p v an aI).2,λ_=>e7 p (mem_of_getElem? an)⟩) kb;have apart:∀(i j:Nat) (p cv:ct),ps[i]? =some p->ps[j]? =some cv->i≠j->(p.g=true\/cv.g=true)->∀u∈p.a.U,u∉cv.a.U:=by
  clear iu e7 bd aU g1 g3 g4 g8 hl Ks;induction ps with
  |nil=>intro i j p cv an;simp at an
  |cons hr ps ih=>
   simp only[hP,Bool.and_eq_true,List.all_eq_true,Bool.or_eq_true,Bool.not_eq_true']at kb;obtain⟨oo,nH⟩:=kb;have uy:∀cv∈ps,(hr.g=true\/cv.g=true)->∀u∈hr.a.U,u∉cv.a.U:=by
    intro cv ev hg u hu;rcases oo cv ev with e|e
    .rcases hg with hg|hg<;>simp[hg]at e
    .simpa using e u hu
   intro i j p cv an ev cO hg u hu;cases i with
   |zero=>
    simp at an;subst an;cases j with
    |zero=>exact(cO rfl).elim
    |succ j=>exact uy cv (mem_of_getElem? (by simpa using ev)) hg u hu
   |succ i=>
    cases j with
    |zero=>
     simp at ev;subst ev;exact λwY=>uy p (mem_of_getElem? (by simpa using an)) hg.symm u wY hu
    |succ j=>exact ih nH i j p cv (by simpa using an) (by simpa using ev) (by omega) hg u hu
 let Fc:Nat->Prop:=λb=>F b\/(jG ps=true/\∃u,b3 u b)
 let kA:Nat->Prop:=λb=>∃i,Sn i b
 have zZ:∀b,F b->¬kA b:=λb a8 ⟨i,ak⟩=>by obtain⟨u,hu⟩:=g5 i b ak;exact h.fg u b hu a8
 have wZ:∀u b,b3 u b->¬kA b:=λu b hu ⟨i,ak⟩=>g6 i u b ak hu;have aS:∀b,kA b->(X b\/w0.heap.size<=b)/\b<w.heap.size:=λb ⟨i,ak⟩=>by obtain⟨u,hu⟩:=g5 i b ak;exact⟨h.dy u b hu,h.et u b hu⟩
 have pre:bx w Fc kA Fc Sn (eU (ps.map (·.d))) (gj vs) w:=by
  refine⟨λ_ h=>h,λ_ h=>.inl h,?_,λi b ak=>(aS b ⟨i,ak⟩).2,?_,λi j b cO=>g7 i j b cO,λi b ak=>.inl ⟨i,ak⟩,?_,λ_ _ _=>rfl,Nat.le_refl _,rfl,rfl,Out.refl _,h.fW.next h.size h.old λb R=>(aS b R).1⟩
  .rintro b (R|⟨_,u,hu⟩)
   .exact h.eK b R
   .exact g1.et u b hu
  .rintro i b ak (R|⟨_,u,hu⟩)
   .exact zZ b R ⟨i,ak⟩
   .exact g6 i u b ak hu
  .intro t;cases an:ps[t]? with
   |none=>
    have:eU (ps.map (·.d)) t= .hole:=by simp[eU,List.getD,an]
    rw[this,aF];trivial
   |some p=>
    have ei:t<vs.length:=by rw[<-hl];exact(List.getElem?_eq_some_iff.1 an).1
    have aI:vs[t]? =some vs[t]:=getElem?_eq_getElem ei;have aP:eU (ps.map (·.d)) t=p.d:=by simp[eU,List.getD,an]
    have aT:gj vs t=vs[t]:=by simp[gj,List.getD,aI]
    rw[aP,aT];have hm:p∈ps:=mem_of_getElem? an;have aq:=e7 p hm;cases hg:p.g with
    |true=>
     obtain⟨x,q,a0,bN,cc,eB,dB,e6,cZ,iW,fF⟩:=g3 t p _ an aI hg;simp only[ct.ok,hg,if_true,bN]at aq;exact(aF.cr (qi aq.2.1).2.1).2 ⟨iW,au.mono (λb R=>.inl R) _ _ _ _ (λ_ h=>h) fF⟩
    |false=>
     simp only[ct.ok,hg]at aq;obtain⟨f1,f2⟩:=iu t p _ an aI;have Kt:∀cv∈ps,cv.g=true->∀u∈cv.a.U,u∉p.a.U:=by
      intro cv ev gZ u hu;obtain⟨j,bQ⟩:=getElem?_of_mem ev;refine apart j t cv p bQ an (λe=>?_) (.inl gZ) u hu;subst e;rw[an]at bQ;simp only[Option.some.injEq]at bQ;rw[bQ,gZ]at hg;cases hg
     have zX:=g8 _ _ _ Kt f2;have kV:view (eO s ps) p.a=some p.d:=D9 _ _ (λu hu aY=>D5 (D8 aY) (λcv ev gZ wY=>Kt cv ev gZ u wY hu)) (by simpa using aq);refine aF.nothing (R2 f1 kV) ((R4 g1 (Fc:=Fc) (λb R=>.inl R) (SizeOf.sizeOf p.a)).1 p.a _ p.d (Nat.le_refl _) ?_ kV zX);intro u hu b R;refine .inr ⟨?_,u,R⟩;simp only[jG,List.any_eq_true];refine⟨p,hm,?_⟩;cases gy:p.a.U with
     |nil=>rw[gy]at hu;cases hu
     |cons _ _=>simp[hg]
 refine mz.mono (bd Fc kA Sn (λb R=>.inl R) (λb ⟨i,ak⟩=>g5 i b ak) pre) ?_;rintro v aD ⟨bE,aN,ai⟩;have keep:∀b,b<w.heap.size->¬kA b->aD.heap[b]? =w.heap[b]? :=ai.old;let ot:Nat->Prop:=λb=>if jG ps=true then F b else bE b
 have Ku:∀b,F b->bE b:=λb R=>ai.gq b (.inl R);have sM:∀b,F b->ot b:=λb R=>by
  simp only[ot];split
  .exact R
  .exact Ku b R
 have ll:∀b,ot b->bE b:=λb R=>by
  simp only[ot]at R;split at R
  .exact Ku b R
  .exact R
 have Kv:∀b,ot b->F b\/kA b\/w.heap.size<=b:=λb R=>by
  simp only[ot]at R;split at R
  .exact .inl R
  .rename_i ra;rcases ai.gK b R with(R|⟨ab,_⟩)|R|R
   .exact .inl R
   .exact(ra ab).elim
   .exact .inr (.inl R)
   .exact .inr (.inr R)
 have mid:bx w0 F0 X ot b3 (eO s ps) ay aD:=by
  refine⟨λb R=>sM b (g1.gq b R),?_,λb R=>ai.eK b (ll b R),λt b R=>Nat.lt_of_lt_of_le (g1.et t b R) ai.size,?_,g1.eT,g1.dy,?_,?_,Nat.le_trans g1.size ai.size,ai.os.trans g1.os,ai.tape.trans g1.tape,ai.output.trans g1.output,g1.fW⟩
  .intro b R;rcases Kv b R with R|R|R
   .exact g1.gK b R
   .rcases(aS b R).1 with h|h
    .exact .inr (.inl h)
    .exact .inr (.inr h)
   .exact .inr (.inr (Nat.le_trans g1.size R))
  .intro t b aY R;rcases Kv b R with R|R|R
   .exact g1.fg t b aY R
   .exact wZ t b aY R
   .exact absurd (g1.et t b aY) (by omega)
  .intro t;exact aF.frame (Sx:=b3) (λb R=>keep b (h.eK b R) (zZ b R)) sM (λx b R=>keep b (g1.et x b R) (wZ x b R)) g1.cW _ _ _ (λb R=>keep b (g1.et t b R) (wZ t b R)) (g1.cW t)
  .intro b R j_;refine(keep b (Nat.lt_of_lt_of_le R g1.size) λar=>?_).trans (g1.old b R j_);rcases(aS b ar).1 with h|h
   .exact j_ h
   .omega
 have Kw:∀(d:I) (cs:ahz) (dy:Nat->Prop),(jG ps=true->d.cF=true)->au aD bE d cs dy->au aD ot d cs dy:=by
  intro d cs dy Sf gp;by_cases hle:jG ps=true
  .exact au.cF d cs dy (Sf hle) gp
  .exact au.mono (λb R=>by simp only[ot];rw[if_neg hle];exact R) _ _ _ _ (λ_ h=>h) gp
 have bound:∀i b,aN i b->b<aD.heap.size/\¬ot b/\(X b\/w0.heap.size<=b)/\∀u,¬b3 u b:=by
  intro i b R;refine⟨ai.et i b R,λa8=>ai.fg i b R (ll b a8),?_,λu hu=>?_⟩
  .rcases ai.dy i b R with ar|ar
   .exact(aS b ar).1
   .exact .inr (Nat.le_trans g1.size ar)
  .rcases ai.dy i b R with ar|ar
   .exact wZ u b hu ar
   .exact absurd (g1.et u b hu) (by omega)
 obtain⟨dh,bN,cc⟩:=Sc ps vs (eO s ps) b3 (λi=>aN (i+1)) mid hl (by
  intro i p fX an aI hg;have hm:p∈ps:=mem_of_getElem? an;have aq:=e7 p hm;obtain⟨x,q,a0,aP,aT,aR,b4,cz,bV,bF,gL⟩:=g3 i p fX an aI hg;simp only[ct.ok,hg,if_true,aP]at aq;rcases aq.2.2 with b1|b1
  .exact .inl b1
  .obtain⟨gh,l2,w1⟩:=R5 aq.2.1 b1.1 b1.2;refine .inr ⟨x,q,a0,p.d.cS,aP,aT,?_,b4,λb_=>l2 _ (cz b_),bV,b1.1,?_,gh.trans (I.q3 _).symm,w1⟩
   .cases q with
    |nil=>simpa only[dc]using aR
    |cons k q=>
     have aY:=bV (by simp);rw[zs (k::q) _ _ (b3 x) none _ ((aF.cr aY).1 (g1.cW x)).2 aT (λb R=>keep b (g1.et x b R) (wZ x b R))];exact aR
   .have:=ai.cW (i+1);obtain⟨o,lR,jR⟩:=Ks i p an;have kT:eU (r::os) (i+1)=o:=by simp[eU,List.getD,lR]
    have lO:gj (v::vs) (i+1)=fX:=by simp[gj,List.getD,aI]
    rw[kT,lO]at this;have Sg:o.tree=true:=by
     rcases jR with e|e
     .rw[<-e];exact(qi b1.1).2.1
     .exact R_ (d:=p.d) (by rw[<-e];exact(qi b1.1).2.1)
    have ab:=Kw _ _ _ (λhle=>(aU hle).2 i p o an lR hg) ((aF.cr Sg).1 this).2;rcases jR with e|e
    .rw[e];exact ab
    .rw[e];exact Sa sM (λb R=>keep b (h.eK b R) (zZ b R)) gL ab)
  (λi b R=>bound (i+1) b R) (λi j b cO=>ai.eT (i+1) (j+1) b (by omega)) kb
 refine⟨ot,dh,bN,?_,λb R=>⟨sM b R,keep b (h.eK b R) (zZ b R)⟩⟩;have aV:=ai.cW 0;have kT:eU (r::os) 0=r:=rfl;have lO:gj (v::vs) 0=v:=rfl;rw[kT,lO]at aV;cases aY:r.tree with
 |false=>
  cases r<;>first
   |(simp[I.tree]at aY;done)
   |(simp[I.res]at aH;done)
   |exact .inl ⟨rfl,by rw[aF];trivial⟩
 |true=>
  obtain⟨s1,s2⟩:=(aF.cr aY).1 aV;have nG:=Kw _ _ _ (λhle=>(aU hle).1) s2;refine .inr ⟨aY,s1,aN 0,nG,λb R=>(bound 0 b R).1,λb R=>(bound 0 b R).2.1,λu b R hu=>?_,λb R=>(bound 0 b R).2.2.1⟩;rcases cc u b hu with hu|⟨i,ak⟩
  .exact(bound 0 b R).2.2.2 u hu
  .exact ai.eT 0 (i+1) b (by omega) R ak
theorem Kx (h:bx w0 F0 X F S s ay w) {ps:List ct} {vs:ahz} {f:FuncId} {r:I} (hl:ps.length=vs.length)
  (iu:∀(i:Nat) (p:ct) (v:Value),ps[i]? =some p->vs[i]? =some v->p.a.plain=true/\aF w F s ay p.a v (λ_=>False))
  (e7:∀p∈ps,p.ok s) (kb:hP ps=true) (bd:∀(Fc kA:Nat->Prop) (dW:Nat->Nat->Prop),(∀b,F b->Fc b)->(∀b,kA b->∃u,S u b)->bx w Fc kA Fc dW (eU (ps.map (·.d))) (gj vs) w->
   mz C.P f vs.toArray w λv aD=>∃bE aN,bx w Fc kA bE aN (eU (r::ps.map (·.o))) (gj (v::vs)) aD) (aH:r.res=true)
  (aU:jG ps=true->r.cF=true/\∀p∈ps,p.o.cF=true):
  mz C.P f vs.toArray w λv aD=>∃bE aN,bx w0 F0 X bE aN (g_ (eO s ps) ps) ay aD/\kR w0 X bE aN (g_ (eO s ps) ps) ay aD r v/\∀b,F b->bE b/\aD.heap[b]? =w.heap[b]? :=
 Se h hl (λi p an=>⟨p.o,by simp[an],.inl rfl⟩) iu e7 kb bd aH λhle=>⟨(aU hle).1,λi p o an b1 _=>by
  rw[getElem?_map,an]at b1;have:=Option.some.inj b1;subst this;exact(aU hle).2 p (mem_of_getElem? an)⟩
theorem Sh (h:bx w0 F0 X F S s ay w) {ps:List ct} {vs:ahz} {f:FuncId} {r:I} (hl:ps.length=vs.length)
  (iu:∀(i:Nat) (p:ct) (v:Value),ps[i]? =some p->vs[i]? =some v->p.a.plain=true/\aF w F s ay p.a v (λ_=>False))
  (e7:∀p∈ps,p.ok s) (kb:hP ps=true) (bd:aX C f (ps.map (·.d)) r (ps.map (·.o))) (aH:r.res=true)
  (aU:jG ps=true->r.cF=true/\∀p∈ps,p.o.cF=true):
  mz C.P f vs.toArray w λv aD=>∃bE aN,bx w0 F0 X bE aN (g_ (eO s ps) ps) ay aD/\kR w0 X bE aN (g_ (eO s ps) ps) ay aD r v/\∀b,F b->bE b/\aD.heap[b]? =w.heap[b]? :=
 Kx h hl iu e7 kb (λFc kA dW _ _ an=>bd w Fc kA dW vs (by simp[hl]) an) aH aU
end
structure b7 where
 dst:Option Nat
 bG:dQ
 guard:Option (Nat×Bool)
def w2 (ops:Array Oper):Option (Nat×Bool)->Option (Option (Nat×Bool))
 |none=>some none
 |some (j,b)=>match(ops[j]?).bind (·.dst)with
  |some t=>some (some (t,b))
  |none=>none
structure Fr where
 n:Nat
 fx:ahw
def ln (n:Fr):Option Nat->Bool
 |none=>true
 |some t=>decide (t<n.n)&& !n.fx.contains t
def ou (op:Op):dQ:=match cK op with
 |some bG=>bG
 |none=>.bad
def ph (n:Fr) (ops:Array Oper) (o:Oper):Option b7:=
 if ln n o.dst=true then match w2 ops o.guard with
  |some g=>some ⟨o.dst,ou o.op,g⟩
  |none=>none
 else none
def pj (n:Fr) (ops:Array Oper):List Oper->Option (List b7)
 |[]=>some []
 |o::os=>match ph n ops o,pj n ops os with
  |some r,some rs=>some (r::rs)
  |_,_=>none
def Ea (C:bW) (s:aw) (f:bb) (args:List bb) (K:I->aw->Prop):Prop:=
 ∃(g:FuncId) (caps:ahB) (ps:List ct) (r:I),bj s f= .fn g caps/\I.dU caps=true/\ps.map (·.a)=args.map (bj s)++caps/\(∀p∈ps,p.ok s)/\hP ps=true/\
   aX C g (ps.map (·.d)) r (ps.map (·.o))/\r.res=true/\(jG ps=true->r.cF=true/\∀p∈ps,p.o.cF=true)/\K r (g_ (eO s ps) ps)
mutual
def I.fh (s:aw):I->Bool
 | .h x q=>q.isEmpty&&(s x).own
 | .R x _=> !(s x).plain
 | .an _ _=>false
 | .hole=>true
 | .fn _ cap=>I.nJ s cap
 |d=>d.plain
def I.nJ (s:aw):ahB->Bool
 |[]=>true
 |d::ds=>d.fh s&&I.nJ s ds
end
def mA (s:aw):ahA->aw
 |[]=>s
 |p::L=>mA (da s p.1 p.2) L
def lo (s:aw):ahA->Bool
 |[]=>true
 |p::L=>p.2.fh s&&lo s L
def iX (s:aw) (us:ahw):ahA:=us.map λu=>(u,s u)
def nK (C:bW) (s:aw) (bG:dQ) (K:I->aw->Prop):Prop:=
 match bG with
 | .call f args=>∃(g:FuncId) (caps:ahB) (ps:List ct) (r:I),bj s f= .fn g caps/\I.dU caps=true/\ps.map (·.a)=args.map (bj s)++caps/\(∀p∈ps,p.ok s)/\hP ps=true/\
   aX C g (ps.map (·.d)) r (ps.map (·.o))/\r.res=true/\(jG ps=true->r.cF=true/\∀p∈ps,p.o.cF=true)/\K r (g_ (eO s ps) ps)
 | .shr bG=>∃av s1,bX C s bG=some (av,s1)/\av.tree=true/\(∀vs,av≠.tuple vs)/\K av.share s1
 | .kd f args us=>lo s (iX s us)=true/\Ea C s f args λav s1=>lo s1 (iX s us)=true/\K av (mA s1 (iX s us))
 |bG=>∃av s1,bX C s bG=some (av,s1)/\K av s1
theorem z1 {C:bW} {s:aw} {bG:dQ} {K de:I->aw->Prop} (h:nK C s bG K) (aq:∀av s,K av s->de av s):nK C s bG de:=by
 cases bG with
 |call f args=>
  obtain⟨g,caps,ps,r,ab,gN,ad,aC,aW,bu,cy,cl,fM⟩:=h;exact⟨g,caps,ps,r,ab,gN,ad,aC,aW,bu,cy,cl,aq _ _ fM⟩
 |shr bG=>
  obtain⟨av,s1,ab,ad,aC,aW⟩:=h;exact⟨av,s1,ab,ad,aC,aq _ _ aW⟩
 |kd f args us=>
  obtain⟨cc,g,caps,ps,r,ab,gN,ad,aC,aW,bu,cy,cl,fM,h9⟩:=h;exact⟨cc,g,caps,ps,r,ab,gN,ad,aC,aW,bu,cy,cl,fM,aq _ _ h9⟩
 |_=>
  obtain⟨av,s1,ab,ad⟩:=h;exact⟨av,s1,ab,aq _ _ ad⟩
def lS (C:bW) (s:aw) (o:b7) (K:aw->Prop):Prop:=
 match o.guard with
 |none=>nK C s o.bG λav s1=>K (fin s1 o.dst av)
 |some (t,b)=>match s t with
  | .bool ff=>if ff=b then nK C s o.bG (λav s1=>K (fin s1 o.dst av))else K (fin s o.dst (.tuple []))
  | .tuple []=>K (fin s o.dst (.tuple []))
  |_=>False
def lp (C:bW) (s:aw):List b7->(aw->Prop)->Prop
 |[],K=>K s
 |o::os,K=>lS C s o λs1=>lp C s1 os K
def jT (C:bW) (ros:List b7) (s:aw):ahw->(aw->Prop)->Prop
 |[],K=>K s
 |i::l,K=>match ros[i]? with
  |none=>jT C ros s l K
  |some o=>lS C s o λs1=>jT C ros s1 l K
theorem Si (C:bW) (K:aw->Prop):∀(rs pre:List b7) (s:aw),lp C s rs K->jT C (pre++rs) s ((range rs.length).map (·+pre.length)) K:=by
 intro rs;induction rs with
 |nil=>intro pre s h;exact h
 |cons r rs ih=>
  intro pre s h;rw[length_cons,range_succ_eq_map,map_cons,List.map_map];simp only[jT,Nat.zero_add];rw[getElem?_append_right (Nat.le_refl _)];simp only[Nat.sub_self,getElem?_cons_zero];have key:∀s1,lp C s1 rs K->jT C (pre++r::rs) s1 ((range rs.length).map ((λx=>x+pre.length)∘succ)) K:=by
   intro s1 ab;have:=ih (pre++[r]) s1 ab;simp only[append_assoc,singleton_append,length_append,length_singleton]at this;have e:((λx=>x+pre.length)∘succ)=λx=>x+(pre.length+1):=by funext x;simp;omega
   rw[e];exact this
  simp only[lp]at h;unfold lS at h⊢;split
  .rename_i hg;rw[hg]at h;exact z1 h λav s1=>key _
  .rename_i t b hg;rw[hg]at h;simp only at h;split
   .rename_i ff U;rw[U]at h;simp only at h;split
    .rename_i R;rw[if_pos R]at h;exact z1 h λav s1=>key _
    .rename_i R;rw[if_neg R]at h;exact key _ h
   .rename_i U;rw[U]at h;exact key _ h
   .rename_i ab ad;split at h
    .exact ab _ (by assumption)
    .exact ad (by assumption)
    .exact h
structure Rel (w0:World) (F0 X:Nat->Prop) (n:Fr) (ρ:Nat->Value) (s:aw) (a:Act) (w:World):Prop where
 defers:a.defers=[]
 size:a.tmps.size=n.n
 fixed:∀i∈n.fx,a.tmps.getD i undef=ρ i
 rel:∃F S,bx w0 F0 X F S s (λt=>a.tmps.getD t undef) w
section
variable {C:bW} {w0 w:World} {F0 X:Nat->Prop} {n:Fr} {ρ:Nat->Value} {s s1:aw} {a:Act} {av:I} {Q:Exit->Act->World->Prop}
theorem w3 {dst:Option Nat} (v:Value) (U:a.tmps.size=n.n) (ae:ln n dst=true):
  (λt=>(a.put dst v).tmps.getD t undef)=mP (λt=>a.tmps.getD t undef) dst v/\(a.put dst v).tmps.size=n.n/\(a.put dst v).defers=a.defers:=by
 cases dst with
 |none=>exact⟨rfl,U,rfl⟩
 |some d=>
  simp only[ln,Bool.and_eq_true,decide_eq_true_eq]at ae;refine⟨?_,by simp[Act.put,U],rfl⟩;funext t;simp only[Act.put,mP,da,Array.getD_eq_getD_getElem?];by_cases h:t=d
  .subst h;rw[if_pos rfl,Array.getElem?_setIfInBounds_self_of_lt (by omega)];rfl
  .rw[if_neg h,Array.getElem?_setIfInBounds_ne (λe=>h e.symm)]
theorem Rel.put {F S} (ae:a.defers=[]) (U:a.tmps.size=n.n) (bd:∀i∈n.fx,a.tmps.getD i undef=ρ i) {aD:World} (aH:bx w0 F0 X F S s (λt=>a.tmps.getD t undef) aD) {v:Value} (aI:kR w0 X F S s (λt=>a.tmps.getD t undef) aD av v)
  {dst:Option Nat} (e7:ln n dst=true):Rel w0 F0 X n ρ (fin s dst av) (a.put dst v) aD:=by
 obtain⟨aP,aT,aR⟩:=w3 (n:=n) (dst:=dst) v U e7;obtain⟨aN,bc⟩:=aH.fin aI dst;refine⟨aR.trans ae,aT,λi ak=>?_,F,aN,by rw[aP];exact bc⟩;rw[congrFun aP i];cases dst with
 |none=>exact bd i ak
 |some d=>
  simp only[ln,Bool.and_eq_true,Bool.not_eq_true',contains_eq_mem,decide_eq_false_iff_not]at e7;have cO:i≠d:=λe=>e7.2 (by rw[<-e];exact ak);simp only[mP];rw[iV _ _ cO];exact bd i ak
theorem Rel.skip (h:Rel w0 F0 X n ρ s a w) {dst:Option Nat} (e7:ln n dst=true):Rel w0 F0 X n ρ (fin s dst (.tuple [])) (a.put dst undef) w:=by
 obtain⟨ae,U,bd,F,S,aH⟩:=h;refine Rel.put (av:=.tuple []) ae U bd aH (.inl ⟨rfl,(aF.cr (d:=.tuple []) rfl).2 ⟨?_,?_⟩⟩) e7
 .exact⟨#[],rfl,rfl,λk d x aq=>by simp at aq⟩
 .rw[au,aZ];rfl
theorem Ky {F:Nat->Prop} {ay:Nat->Value} {w:World}:∀{ds es:ahB} {vs us:ahz},dP w F s ay ds vs->dP w F s ay es us->dP w F s ay (ds++es) (vs++us):=by
 intro ds;induction ds with
 |nil=>intro es vs us ab ad;rw[dP]at ab;subst ab;exact ad
 |cons d ds ih=>
  intro es vs us ab ad;rw[dP]at ab;obtain⟨v,jB,rfl,g1,g2⟩:=ab;rw[cons_append,cons_append,dP];exact⟨v,_,rfl,g1,ih g2 ad⟩
theorem Kz {F:Nat->Prop} {ay:Nat->Value} {w:World}:∀{ds:ahB} {vs:ahz},dP w F s ay ds vs->ds.length=vs.length/\∀(i:Nat) (d:I) (v:Value),ds[i]? =some d->vs[i]? =some v->aF w F s ay d v (λ_=>False):=by
 intro ds;induction ds with
 |nil=>intro vs h;rw[dP]at h;subst h;exact⟨rfl,λi d v h=>by simp at h⟩
 |cons d ds ih=>
  intro vs h;rw[dP]at h;obtain⟨v,jB,rfl,g1,g2⟩:=h;obtain⟨bN,cc⟩:=ih g2;refine⟨by simp[bN],λi bp fX ae aI=>?_⟩;cases i with
  |zero=>simp at ae aI;subst ae aI;exact g1
  |succ i=>exact cc i bp fX (by simpa using ae) (by simpa using aI)
theorem qk {op:Op} {bG:dQ} (h:ou op=bG):bG= .bad\/cK op=some bG:=by
 unfold ou at h;split at h
 .subst h;right;assumption
 .exact .inl h.symm
theorem Sj {op:Op} {bG:dQ}:cK op≠some (.shr bG):=by
 intro h;unfold cK at h;split at h<;>(try split at h)<;>(try split at h)<;>(try split at h)<;>(try simp[Option.map_eq_some_iff]at h)
theorem Sk {op:Op} {f:bb} {args:List bb} {us:ahw}:cK op≠some (.kd f args us):=by
 intro h;unfold cK at h;split at h<;>(try split at h)<;>(try split at h)<;>(try split at h)<;>(try simp[Option.map_eq_some_iff]at h)
theorem Sl {op:Op} {T:TypeId} {x:bb}:cK op≠some (.jF T x):=by
 intro h;unfold cK at h;split at h<;>(try split at h)<;>(try split at h)<;>(try split at h)<;>(try simp[Option.map_eq_some_iff]at h)
theorem bx.alias {F:Nat->Prop} {S:Nat->Nat->Prop} {ay:Nat->Value} {u x:Nat} (h:bx w0 F0 X F S s ay w) (hu:s u= .hole) (ar:(s x).own=true) (aI:b8 (ay u)=b8 (ay x)) (ab:Value.fY (ay u)=true):
  bx w0 F0 X F (fP S u (λ_=>False)) (da s u (.h x [])) ay w:=by
 have dY:da ay u (ay u)=ay:=by funext y;simp only[da];split<;>simp_all
 have:=h.ug (t:=u) (d:=.h x []) (v:=ay u) rfl (by
  rw[aF];intro d ae an;simp only[I.sub,Option.some.injEq]at ae;subst ae;exact⟨b8 (ay x),none,rfl,aI,((sK ar).2.2.2.2.2 _).2 ab⟩)
 rwa [dY]at this
theorem kR.less {F:Nat->Prop} {S aN:Nat->Nat->Prop} {ay:Nat->Value} {s1:aw} {v:Value} (bK:∀u b,aN u b->S u b) (aH:av.res=true) (h:kR w0 X F S s ay w av v):kR w0 X F aN s1 ay w av v:=by
 rcases h with⟨ab,ad⟩|⟨ab,ad,Sn,aC,aW,bu,cy,cl⟩
 .refine .inl ⟨ab,?_⟩;cases av<;>first
   |(simp[I.res]at aH;done)
   |(rw[aF];trivial)
   |(rw[aF]at ad⊢;exact ad)
 .exact .inr ⟨ab,ad,Sn,aC,aW,bu,λu b R hu=>cy u b R (bK u b hu),cl⟩
theorem KA (bk:C.eF) (h:Rel w0 F0 X n ρ s a w) {o:Oper} {f:bb} {args:List bb} (cu:cK o.op=some (.call f args)) (ae:ln n o.dst=true) {K:I->aw->Prop} {L:aw->Prop} {next:Act->World->Prop}
  (hw:Ea C s f args K) (lT:∀F S bE aN w aD av s1 v,bx w0 F0 X F S s (λt=>a.tmps.getD t undef) w->K av s1->av.res=true->bx w0 F0 X bE aN s1 (λt=>a.tmps.getD t undef) aD->kR w0 X bE aN s1 (λt=>a.tmps.getD t undef) aD av v->(∀b,F b->bE b/\aD.heap[b]? =w.heap[b]?)->
   ∃s2 dh,L (fin s2 o.dst av)/\bx w0 F0 X bE dh s2 (λt=>a.tmps.getD t undef) aD/\kR w0 X bE dh s2 (λt=>a.tmps.getD t undef) aD av v)
  (aU:∀aA cB aD,L aA->Rel w0 F0 X n ρ aA cB aD->next cB aD):o.wp C.P a w next Q:=by
 have hrel:=h;obtain⟨kB,eJ,iH,F,S,aH⟩:=h;obtain⟨g,caps,ps,r,ab,gN,ad,aC,aW,bu,cy,cl,fM⟩:=hw;obtain⟨dst,op,ty,pos,after,guard⟩:=o;simp only at cu ae lT;cases op with
 |call c=>
  obtain⟨callee,mB,argTypes⟩:=c;simp only[cK]at cu;split at cu
  .split at cu
   .rename_i w4 _ _ Sm xs bd pg;simp only[Option.some.injEq,dQ.call.injEq]at cu;obtain⟨rfl,rfl⟩:=cu;obtain⟨f1,f2⟩:=fz aH (λ_=>rfl) bd;rw[ab,aF]at f2;obtain⟨arr,f3,f4⟩:=f2;have w5:execOp a.eval {dst,op:=.call {callee:=.value w4,args:=mB,argTypes},type:=ty,pos,after,guard}=callFunc g ((mB.toList.map a.eval++arr.toList).toArray):=by
     have:a.eval w4= .func (.func g) #[] arr:=f3;simp only[execOp,resolve,this,Deferred.ofValue,pure_bind,invoke];congr 1;apply Array.ext';simp
    unfold Oper.wp;rw[w5];have w6:dP w F s (λt=>a.tmps.getD t undef) (xs.map (bj s)++caps) (mB.toList.map a.eval++arr.toList):=Ky (zU aH (λ_=>rfl) _ _ (sH pg)) f4;rw[<-ad]at w6;obtain⟨gh,l2⟩:=Kz w6;have fy:∀d∈xs.map (bj s)++caps,d.plain=true:=by
     intro d ae;rcases mem_append.1 ae with ae|ae
     .obtain⟨x,ar,rfl⟩:=mem_map.1 ae;exact I9 s x λav e=>by
       subst e;have hm:=sH pg;have:some (bb.c av)∈xs.map some:=mem_map.2 ⟨_,ar,rfl⟩;rw[<-hm]at this;obtain⟨o,_,b1⟩:=mem_map.1 this;cases o with
       |const v=>simp only[dt,Option.map_eq_some_iff]at b1;obtain⟨c,ai,e⟩:=b1;cases e;exact Dh ai
       |tmp n=>simp[dt]at b1
       |func g=>simp[dt]at b1
       |global g=>simp[dt]at b1
     .obtain⟨k,aq⟩:=getElem?_of_mem ae;exact zr gN aq
    have Eb:=Sh (C:=C) aH (ps:=ps) (vs:=mB.toList.map a.eval++arr.toList) (f:=g) (r:=r) (by simpa using gh)
     (λi p v an aI=>⟨fy p.a (by rw[<-ad];exact mem_map.2 ⟨p,mem_of_getElem? an,rfl⟩),l2 i p.a v (by simp[an]) aI⟩) aC aW bu cy cl
    rcases Eb with⟨dm,a7⟩|⟨v,aD,dm,bE,aN,a7,db,bJ⟩
    .rw[dm,Oper.upon_enter];refine Calls.mono a7 ?_;rintro e aD ⟨v,rfl,bE,aN,bN,cc,eB⟩;obtain⟨s2,dh,m1,m2,m3⟩:=lT _ _ _ _ _ _ _ _ _ aH fM cy bN cc eB;exact aU _ _ _ m1 (Rel.put kB eJ iH m2 m3 ae)
    .rw[dm,Oper.upon_value];obtain⟨s2,dh,m1,m2,m3⟩:=lT _ _ _ _ _ _ _ _ _ aH fM cy a7 db bJ;exact aU _ _ _ m1 (Rel.put kB eJ iH m2 m3 ae)
   .cases cu
  .split at cu
   .simp only[Option.map_eq_some_iff]at cu;obtain⟨_,_,cu⟩:=cu;cases cu
   .cases cu
  .split at cu
   .simp only[Option.map_eq_some_iff]at cu;obtain⟨_,_,cu⟩:=cu;cases cu
   .cases cu
  iterate 3
   .split at cu
    .split at cu<;>cases cu
    .cases cu
  .cases cu
 |makeFunc fn first cs=>
  cases fn<;>simp only[cK]at cu<;>first|(cases cu;done)|(split at cu<;>simp at cu)
 |slice T x eN ak eA=>
  cases eA<;>simp only[cK]at cu<;>first|(cases cu;done)|(split at cu<;>simp at cu)
 |makeMap T r=>cases r<;>simp only[cK]at cu<;>simp at cu
 |lookup T x i c=>cases c<;>simp only[cK]at cu<;>first|(cases cu;done)|(split at cu<;>simp at cu)
 |_=>simp only[cK]at cu<;>first|(cases cu;done)|(simp at cu;done)|(split at cu<;>simp at cu)
theorem Sp (bk:C.eF) (h:Rel w0 F0 X n ρ s a w) {o:Oper} {bG:dQ} (cu:cK o.op=some bG) (ae:ln n o.dst=true) {K:aw->Prop} {next:Act->World->Prop}
  (hw:nK C s bG λav s1=>K (fin s1 o.dst av)) (aU:∀aA cB aD,K aA->Rel w0 F0 X n ρ aA cB aD->next cB aD):o.wp C.P a w next Q:=by
 have hrel:=h;obtain⟨kB,eJ,iH,F,S,aH⟩:=h;have plain:∀av s1,bX C s bG=some (av,s1)->K (fin s1 o.dst av)->o.wp C.P a w next Q:=by
  intro av s1 he aq;obtain⟨r,aD,v,bE,aN,ab,ad,aC,aW⟩:=J0 (a:=a) bk aH (λ_=>rfl) cu he;unfold Oper.wp;rw[ab];rcases ad with rfl|⟨rfl,rfl⟩
  .exact aU _ _ _ aq (Rel.put kB eJ iH aC aW ae)
  .exact aU _ _ _ aq (Rel.put kB eJ iH aC aW ae)
 cases bG with
 |shr bG=>exact(Sj cu).elim
 |call f args=>exact KA bk ⟨kB,eJ,iH,F,S,aH⟩ cu ae (K:=λav s1=>K (fin s1 o.dst av)) hw (λ_ _ _ aN _ _ _ s1 _ _ ad _ aC aW _=>⟨s1,aN,ad,aC,aW⟩) aU
 |kd f args L=>exact(Sk cu).elim
 |jF T x=>exact(Sl cu).elim
 |_=>
  obtain⟨av,s1,he,aq⟩:=hw;exact plain av s1 he aq
theorem kR.share {F:Nat->Prop} {S:Nat->Nat->Prop} {ay:Nat->Value} {v:Value} (h:bx w0 F0 X F S s ay w) (aI:kR w0 X F S s ay w av v) (aY:av.tree=true) (aU:∀vs,av≠.tuple vs):
  ∃bE,bx w0 F0 X bE S s ay w/\kR w0 X bE S s ay w av.share v:=by
 obtain⟨Sn,fA,fp,gX,hv,mv,rm⟩:∃Sn:Nat->Prop,dz av v/\au w F av (b8 v) Sn/\(∀b,Sn b->b<w.heap.size)/\(∀b,Sn b->¬F b)/\(∀u b,Sn b->¬S u b)/\(∀b,Sn b->X b\/w0.heap.size<=b):=by
  rcases aI with⟨ab,ad⟩|⟨_,ad,Sn,aC,aW,bu,cy,cl⟩
  .rw[aF.cr aY]at ad;exact⟨λ_=>False,ad.1,ad.2,λ_ h=>h.elim,λ_ h=>h.elim,λ_ _ h=>h.elim,λ_ h=>h.elim⟩
  .exact⟨Sn,ad,aC,aW,bu,cy,cl⟩
 refine⟨λb=>F b\/Sn b,?_,.inl ⟨D1 av,?_⟩⟩
 .exact {
   gq:=λb R=>.inl (h.gq b R)
   gK:=λb R=>by
    rcases R with R|R
    .exact h.gK b R
    .exact .inr (rm b R)
   eK:=λb R=>R.elim (h.eK b) (gX b)
   et:=h.et
   fg:=λt b R bd=>bd.elim (h.fg t b R) (λU=>mv t b U R)
   eT:=h.eT
   dy:=h.dy
   cW:=λt=>aF.frame (λ_ _=>rfl) (λb R=>.inl R) (λ_ _ _=>rfl) h.cW _ _ _ (λ_ _=>rfl) (h.cW t)
   old:=h.old
   size:=h.size
   os:=h.os
   tape:=h.tape
   output:=h.output
   fW:=h.fW}
 .by_cases b1:∃o,av= .dK o
  .obtain⟨o,rfl⟩:=b1;rw[I.share,aF];trivial
  by_cases sN:∃f c,av= .fD f c
  .obtain⟨f,c,rfl⟩:=sN;rw[I.share,aF];trivial
  have Sq:av.share.tree=true:=by cases av<;>first|exact aY|rfl|exact(b1 ⟨_,rfl⟩).elim|exact(sN ⟨_,_,rfl⟩).elim
  rw[aF.cr Sq];exact⟨D3 aU fA,au.shared (λb R=>.inl R) av _ Sn (λb R=>.inr R) fp⟩
theorem Sr {op:Op} {T:TypeId} {x:bb} (h:cK op=some (.ht T x)):∃a,op= .box T a/\dt a=some x:=by
 cases op with
 |box Ec a=>
  simp only[cK,Option.map_eq_some_iff,dQ.ht.injEq]at h;obtain⟨y,hy,rfl,rfl⟩:=h;exact⟨a,rfl,hy⟩
 |_=>
  exfalso;unfold cK at h;split at h<;>(try split at h)<;>(try split at h)<;>(try split at h)<;>(try simp[Option.map_eq_some_iff]at h)<;>contradiction
theorem Ss {aD:World} {F bE:Nat->Prop} {s s1:aw} {ay:Nat->Value} (a8:∀b,F b->bE b/\aD.heap[b]? =w.heap[b]?):∀(n:Nat),
  (∀(d:I) (v:Value) (S:Nat->Prop),SizeOf.sizeOf d<=n->d.fh s=true->d.fh s1=true->aF w F s ay d v S->aF aD bE s1 ay d v (λ_=>False))/\
  (∀(ds:ahB) (vs:ahz),SizeOf.sizeOf ds<=n->I.nJ s ds=true->I.nJ s1 ds=true->dP w F s ay ds vs->dP aD bE s1 ay ds vs):=by
 intro n;induction n with
 |zero=>
  refine⟨λd v S bR=>?_,λds vs bR=>?_⟩
  .cases d<;>simp at bR<;>omega
  .cases ds<;>simp at bR<;>omega
 |succ n ih=>
  refine⟨λd v S bR bN cc h=>?_,λds vs bR bN cc h=>?_⟩
  .cases d with
   |hole=>rw[aF];trivial
   |h x q=>
    simp only[I.fh,Bool.and_eq_true,isEmpty_iff]at bN cc;obtain⟨rfl,bN⟩:=bN;rw[aF]at h⊢;obtain⟨cD,a,fl,gJ,h3⟩:=h (s x) (by simp only[I.sub]) (sK bN).1;simp only[dc,Option.some.injEq,Prod.mk.injEq,true_and]at fl;intro d ae _;simp only[I.sub,Option.some.injEq]at ae;subst ae;exact⟨b8 (ay x),none,by simp only[dc],by rw[gJ,<-fl.1],((sK cc.2).2.2.2.2.2 _).2 (((sK bN).2.2.2.2.2 _).1 h3)⟩
   |an x q=>simp[I.fh]at bN
   |R x k=>
    simp only[I.fh,Bool.not_eq_true']at bN;rw[aF]at h⊢;obtain⟨b,cur,e,fr,ab,ad,aC,aW⟩:=h bN;exact λ_=>⟨b,cur,e,fr,ab,(a8 b ad).1,(a8 b ad).2.trans aC,aW⟩
   |fn f cap=>
    simp only[I.fh]at bN cc;rw[aF]at h⊢;obtain⟨arr,rfl,ai⟩:=h;exact⟨arr,rfl,ih.2 _ _ (by simp at bR;omega) bN cc ai⟩
   |_=>
    simp only[I.fh]at bN;have bc:=(aF.cr rfl).1 h;exact(aF.cr rfl).2 ⟨bc.1,au.mono (λb R=>(a8 b R).1) _ _ _ _ (λ_ h=>h) (au.frame (λb R=>(a8 b R).2) _ _ _ (λ_ h=>h.elim) (au.plain _ _ _ _ bN bc.2))⟩
  .cases ds with
   |nil=>rw[dP]at h⊢;exact h
   |cons d ds=>
    simp only[I.nJ,Bool.and_eq_true]at bN cc;rw[dP]at h⊢;obtain⟨v,jB,rfl,ab,ad⟩:=h;simp at bR;exact⟨v,jB,rfl,ih.1 _ _ _ (by omega) bN.1 cc.1 ab,ih.2 _ _ (by omega) bN.2 cc.2 ad⟩
theorem St {s:aw} {d:I} (h:d.fh s=true):d.plain=true:=by
 cases d<;>first|rfl|(simpa [I.fh]using h)
theorem bx.mA {F:Nat->Prop} {ay:Nat->Value}:∀(L:ahA) (s:aw) (S:Nat->Nat->Prop),bx w0 F0 X F S s ay w->(∀p∈L,p.2.plain=true/\aF w F s ay p.2 (ay p.1) (λ_=>False))->
  ∃aN,bx w0 F0 X F aN (c_.mA s L) ay w/\∀u b,aN u b->S u b:=by
 intro L;induction L with
 |nil=>intro s S h _;exact⟨S,h,λ_ _ h=>h⟩
 |cons p L ih=>
  intro s S h lT;obtain⟨ab,ad⟩:=lT p (by simp);have dY:da ay p.1 (ay p.1)=ay:=by funext u;simp only[da];split<;>simp_all
  have aC:=h.ug (t:=p.1) ab ad;rw[dY]at aC;have gS:∀x,x≠p.1->(da s p.1 p.2 x).tree=true->da s p.1 p.2 x=s x/\ay x=ay x:=λx ar _=>⟨iV _ _ ar,rfl⟩
  obtain⟨aN,g1,g2⟩:=ih _ _ aC (λq b_=>⟨(lT q (by simp[b_])).1,(aF.void (t:=p.1) gS (by rw[lL];exact ab) _).1 _ _ _ (Nat.le_refl _) (lT q (by simp[b_])).2⟩);refine⟨aN,g1,λu b R=>?_⟩;have:=g2 u b R;simp only[fP]at this;split at this
  .exact this.elim
  .exact this
theorem Ed {s:aw}:∀{L:ahA},lo s L=true->∀p∈L,p.2.fh s=true
 |q::L,ab,p,an=>by
  simp only[lo,Bool.and_eq_true]at ab;rcases mem_cons.1 an with rfl|an
  .exact ab.1
  .exact Ed ab.2 p an
theorem Su {s:aw} {us:ahw} {p:Nat×I} (h:p∈iX s us):p.1∈us/\s p.1=p.2:=by
 obtain⟨u,hu,rfl⟩:=mem_map.1 h;exact⟨hu,rfl⟩
theorem Sv (bk:C.eF) (h:Rel w0 F0 X n ρ s a w) {o:Oper} {bG:dQ} (cu:ou o.op=bG.base) (ae:ln n o.dst=true) {K:aw->Prop} {next:Act->World->Prop}
  (hw:nK C s bG λav s1=>K (fin s1 o.dst av)) (aU:∀aA cB aD,K aA->Rel w0 F0 X n ρ aA cB aD->next cB aD):o.wp C.P a w next Q:=by
 cases bG with
 |shr bG=>
  obtain⟨av,s1,he,aY,my,aq⟩:=hw;rcases qk cu with cu|cu
  .change bG= .bad at cu;subst cu;cases he
  obtain⟨kB,eJ,iH,F,S,aH⟩:=h;obtain⟨r,aD,v,bE,aN,ab,ad,aC,aW⟩:=J0 (a:=a) bk aH (λ_=>rfl) cu he;obtain⟨ll,g3,g4⟩:=kR.share aC aW aY my;unfold Oper.wp;rw[ab];rcases ad with rfl|⟨rfl,rfl⟩
  .exact aU _ _ _ aq (Rel.put kB eJ iH g3 g4 ae)
  .exact aU _ _ _ aq (Rel.put kB eJ iH g3 g4 ae)
 |bad=>obtain⟨av,s1,he,_⟩:=hw;cases he
 |kd f args L=>
  obtain⟨aT,hw⟩:=hw;rcases qk cu with R|R
  .cases R
  .refine KA bk h R ae hw ?_ aU;rintro F S bE aN w aD av s1 v fA ⟨fp,hv⟩ mv rm uz z6;obtain⟨dh,g1,g2⟩:=rm.mA (iX s L) s1 aN (λp an=>by
    have dm:=(Su an).2;have a7:=Ed aT p an;have db:=Ed fp p an;refine⟨St a7,(Ss z6 _).1 _ _ (S p.1) (Nat.le_refl _) a7 db ?_⟩;have:=fA.cW p.1;rw[dm]at this;exact this)
   exact⟨_,dh,hv,g1,uz.less g2 mv⟩
 |jF T x=>
  obtain⟨av,s1,he,aq⟩:=hw;rcases qk cu with R|R
  .cases R
  .obtain⟨cf,KB,ar⟩:=Sr R;obtain⟨kB,eJ,iH,F,S,aH⟩:=h;obtain⟨dst,op,ty,pos,after,guard⟩:=o;simp only at KB ae aq;subst KB;obtain⟨r,aD,v,bE,aN,ab,ad,aC,aW⟩:Next C w0 F0 X (λt=>a.tmps.getD t undef) w (execOp a.eval ⟨dst,.box T cf,ty,pos,after,guard⟩) av s1:=(QA (T:=T) aH (fz aH (λ_=>rfl) ar).2 he).next;unfold Oper.wp;rw[ab];rcases ad with rfl|⟨rfl,rfl⟩
   .exact aU _ _ _ aq (Rel.put kB eJ iH aC aW ae)
   .exact aU _ _ _ aq (Rel.put kB eJ iH aC aW ae)
 |_=>
  rcases qk cu with R|R
  .cases R
  .exact Sp bk h R ae hw aU
end
end Go.c_
