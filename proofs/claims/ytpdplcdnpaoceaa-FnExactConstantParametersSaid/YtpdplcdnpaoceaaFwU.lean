/- Part of a proof that a law returns true for every input. No condition. -/
import Derived.Test.YtpdplcdnpaoceaaFwL
namespace Go.cM
open List Go.IntKind Nat Or
section
variable {C:bA} {w0 w:World} {F0 X F:Nat->Prop} {S:Nat->Nat->Prop} {n:Fr} {ρ:Nat->Value} {s:ah} {a:Act} {aq:Nat->Value}
theorem OM {P:Program} {t e ty:TypeId} {z u:Value} {w:World} (aN:P.underlying t=some (.slice e)) (aD:∀w,(zeroValue e).run P w= .ok z w) (bz:z.cells= #[u]) {b o m c:Nat} (hm:0<m) {az:World}
  (k1:(storeCells ⟨b,o,none⟩ (replicate m u) 0).run P w= .ok () az):(Builtin.clear_ #[t] ty #[.slice (some ⟨b,o,none⟩) m c]).run P w= .ok (.tuple #[]) az:=by
 have jh:(Builtin.zeroCells z.cells m).toList=replicate m u:=by
  rw[bz];simp[Builtin.zeroCells];apply ext_getElem
  .simp
  .intro i ab ad;simp[mod_one]
 obtain⟨m,rfl⟩:∃k,m=k+1:=⟨m-1,by omega⟩
 simp[Builtin.clear_,run_underlying aN,aD,jh,k1]
theorem Hd {k:IntKind}:∀(m:Nat) (aF:Nat->Prop),aQ w F (replicate m (.int k 0)) (replicate m (.int k 0)) aF
 |0,aF=>by simp[aQ]
 |m+1,aF=>by
  rw[replicate_succ,replicate_succ,aQ];exact⟨[.int k 0],replicate m (.int k 0),λ_=>False,aF,rfl,by rw[al],Hd m aF,λ_ h=>h.elim,λ_ h=>h,λ_ h=>h.elim⟩
theorem ON (a0:C.dm) {T e:TypeId} {y m:Nat} {xs:Xy} {k:IntKind} {fi:Value} (h:bg w0 F0 X F S s aq w) (ai:(C.T T).k= .slice e) (jx:(C.T e).ok=true) (cK:(C.T e).sz=1) (rE:(C.T e).zero= .int k 0)
  (a2:s y= .aw 1 xs) (hm:m<=xs.length) (aD:aA w F s aq (.h y []) fi (λ_=>False)):
  ∃v,(Instr.sliceAt T fi (some (.int .i64 (m:Int))) none none).run C.P w= .ok v w/\∀(s2:ah) (ha:Nat->Value) (S2:Nat->Nat->Prop),s2 y=s y->ha y=aq y->bg w0 F0 X F S2 s2 ha w->∀ty,∃az,(Builtin.clear_ #[T] ty #[v]).run C.P w= .ok (.tuple #[]) az/\
   ∃aF,bg w0 F0 X F aF (fin (cl (ft y s2) y .hole) (some y) (.aw 1 (xs.take m++replicate (xs.length-m) (.int k 0)))) ha az:=by
 obtain⟨i,d,z,aM,aS,aV,bK,cn,bB,bt⟩:=a0.info (ev ai (by simp));rw[ai]at bt;have:=je bt;subst this;obtain⟨nd,a7,nf,f1,f2,f3,f4,f5,f6,f7⟩:=a0.info jx;have jh:=f5 [.int k 0] (by rw[rE];rfl);have dK:I.sub [] (s y)=some (.aw 1 xs):=by rw[a2];rfl
 rw[aA]at aD;obtain⟨b4,a4,aO,a3,bJ⟩:=aD _ dK rfl;simp only[cu,a2,Option.some.injEq,Prod.mk.injEq]at aO;obtain⟨-,OO,-⟩:=aO;have rG:bL (aq y)=[fi]:=by rw[OO,<-a3,eV bJ]
 have He:(C.T T).flat=true:=qf ai (by simp) (by simp);have Hf:∀(len cap:Nat),m<=len->len<=cap->(Instr.sliceBounds true len cap (some (.int .i64 (m:Int))) none none).run C.P w= .ok (m,len,cap) w:=by
  intro len cap ab ad;simp[Instr.sliceBounds,Instr.sliceBound,asIntOf,ab]
 have key:∀(s2:ah) (ha:Nat->Value) (S2:Nat->Nat->Prop),s2 y=s y->ha y=aq y->bg w0 F0 X F S2 s2 ha w->
   ∃S1,bg w0 F0 X F S1 (cl (ft y s2) y .hole) ha w/\∃Sn,al w F (.aw 1 xs) [fi] Sn/\(∀b,Sn b->b<w.heap.size)/\(∀b,Sn b->¬F b)/\(∀u b,Sn b->¬S1 u b)/\(∀b,Sn b->X b\/w0.heap.size<=b):=by
  intro s2 ha S2 jn lg ad;have w1:=ad.cE y;rw[jn,a2,lg]at w1;have w1:=(aA.bY (d:=.aw 1 xs) rfl).1 w1;have A3:aA w F s2 ha (.h y []) (ha y) (λ_=>False):=by
   rw[aA];intro d af ao;rw[jn,a2]at af;simp only[I.sub,Option.some.injEq]at af;subst af;exact⟨bL (ha y),none,by simp[cu,jn,a2],rfl,by rw[lg];exact w1.1⟩
  have rU:b9 s2 (.h y [])=some (.aw 1 xs,cl (ft y s2) y .hole):=by
   simp[b9,jn,a2,I.sub,I.plain,I.put,I.cj]
  obtain⟨S1,lL,gX,fv,Sn,fZ,gA,jU,kV,l1,_⟩:=mw ad rfl A3 rU;rw[lg,rG]at fZ;exact⟨S1,lL,Sn,fZ,gA,jU,kV,l1⟩
 obtain⟨S1,lL,Sn,fZ,gA,jU,kV,l1⟩:=key s aq S rfl rfl h;rw[al]at fZ;rcases fZ with⟨rfl,J,gZ⟩|⟨b,cap,cur,fb,fr,aF,gZ,bM,b1,cZ,cF,dL,dj,hk,dp,jW,mC⟩
 .simp only[cons.injEq,and_true]at gZ;subst gZ;have OP:m=0:=by simpa using hm
  subst OP;refine⟨.slice J 0 0,?_,λs2 ha S2 jn lg ad ty=>⟨w,?_,?_⟩⟩
  .rw[pb a0 He];have:=Hf 0 0 (Nat.le_refl _) (Nat.le_refl _);simp only[Int.natCast_zero]at this;cases J<;>simp[Instr.slice,run_underlying bB,this,hY f1,f2]
  .cases J<;>simp[Builtin.clear_,run_underlying bB]
  .obtain⟨S1,lL,Sn,fZ,gA,jU,kV,l1⟩:=key s2 ha S2 jn lg ad;have cX:ha y= .slice J 0 0:=by
    have:=rG;rw[<-lg]at this;have ab:=(aA.bY (d:=.aw 1 []) rfl).1 (by have:=ad.cE y;rw[jn,a2]at this;exact this);rw[eV ab.1]at this;simpa using this
   obtain⟨sa,aI⟩:=lL.fin (av:=.aw 1 []) (v:=.slice J 0 0) (.inr ⟨rfl,rfl,Sn,by simpa [bL,gk]using fZ,gA,jU,kV,l1⟩) (some y);refine⟨sa,?_⟩;have e:jd ha (some y) (.slice J 0 0)=ha:=by
    funext u;by_cases hu:u=y
    .subst hu;rw[cX];simp[jd,cl]
    .simp[jd,cl,hu]
   rw[e]at aI;exact aI
 .simp only[cons.injEq,and_true]at gZ;subst gZ;have back:∀(s2:ah) (ha:Nat->Value) (S2:Nat->Nat->Prop),s2 y=s y->ha y=aq y->bg w0 F0 X F S2 s2 ha w->jd ha (some y) (.slice (some ⟨b,0,none⟩) xs.length cap)=ha:=by
   intro s2 ha S2 jn lg ad;have:=rG;rw[<-lg]at this;have ab:=(aA.bY (d:=.aw 1 xs) rfl).1 (by have:=ad.cE y;rw[jn,a2]at this;exact this);rw[eV ab.1]at this;have cX:ha y= .slice (some ⟨b,0,none⟩) xs.length cap:=by simpa using this
   funext u;by_cases hu:u=y
   .subst hu;rw[cX];simp[jd,cl]
   .simp[jd,cl,hu]
  have qQ:(Instr.sliceAt T (.slice (some ⟨b,0,none⟩) xs.length cap) (some (.int .i64 (m:Int))) none none).run C.P w= .ok (.slice (if cap=m then some ⟨b,0,none⟩else some ⟨b,0+m*1,none⟩) (xs.length-m) (cap-m)) w:=by
   rw[pb a0 He];simp[Instr.slice,run_underlying bB,Hf xs.length cap hm cF,hY f1,f2,cK,Addr.add_lit]
  refine⟨_,qQ,λs2 ha S2 jn lg ad ty=>?_⟩;obtain⟨S1,lL,Sn,fZ,gA,jU,kV,l1⟩:=key s2 ha S2 jn lg ad;have w2:=back s2 ha S2 jn lg ad;by_cases Hg:m=xs.length
  .refine⟨w,?_,?_⟩
   .rw[Hg,Nat.sub_self];split<;>simp[Builtin.clear_,run_underlying bB]
   .obtain⟨sa,aI⟩:=lL.fin (av:=.aw 1 xs) (v:=.slice (some ⟨b,0,none⟩) xs.length cap) (.inr ⟨rfl,rfl,Sn,by simpa only[bL,gk]using fZ,gA,jU,kV,l1⟩) (some y);rw[w2]at aI;refine⟨sa,?_⟩;rw[Hg,take_length,Nat.sub_self,replicate_zero,append_nil];exact aI
  .have c8:m<xs.length:=by omega
   rw[if_neg (by omega)];rw[al]at fZ;rcases fZ with⟨rfl,J,gZ⟩|⟨eh,Wm,kF,Hh,rA,sa,gZ,dS,e9,fX,ni,et,i_,A4,OQ,OR,Hi⟩
   .simp at c8
   .simp only[cons.injEq,and_true,Value.slice.injEq,Option.some.injEq,Addr.mk.injEq,true_and]at gZ;obtain⟨rfl,rfl⟩:=gZ;rw[e9]at b1;simp only[Option.some.injEq,Obj.cells.injEq]at b1;obtain⟨rfl,rfl,rfl⟩:=b1;have wU:kF.toList.length=cap:=by simp[i_]
    obtain⟨bx,bE,fM,e3,aj,dZ,fj,gQ,jT,la⟩:=aQ.split m xs _ _ OQ;have tG:bx.length=m:=by
     rw[aQ.length _ _ _ dZ,n4 _ (λd af=>A4 d (mem_of_mem_take af)),length_take];omega
    have rF:bE.length=xs.length-m:=by
     rw[aQ.length _ _ _ fj,n4 _ (λd af=>A4 d (mem_of_mem_drop af)),length_drop];omega
    have iz:kF.toList=bx++(bE++kF.toList.drop (xs.length*1)):=by
     rw[<-append_assoc,<-aj,take_append_drop]
    obtain⟨az,aO,OS,A5,cN,dD,gp,gW⟩:=vN (P:=C.P) (b:=b) (o:=0+m*1) (e:=Hh) (fr:=rA) (replicate (xs.length-m) (.int k 0)) 0 kF w bx bE (kF.toList.drop (xs.length*1)) e9 fX.low iz (by omega) (by rw[rF,length_replicate]) (by
     intro v aD;rw[eq_of_mem_replicate aD];rfl)
    refine⟨az,OM bB (λw=>o8 f1 f4 w) jh (by omega) aO,?_⟩;have OT:=lL.turn A5 cN dD gp gW (jU b dS) (λu hu=>kV u b dS hu) (l1 b dS);have mz:∀c,F c->az.heap[c]? =w.heap[c]? :=λc aj=>A5 c (by rintro rfl;exact jU _ dS aj);have hlen:(xs.take m++replicate (xs.length-m) (I.int k 0)).length=xs.length:=by
     rw[length_append,length_take,length_replicate];omega
    have Hj:(bx++(replicate (xs.length-m) (Value.int k 0)++kF.toList.drop (xs.length*1))).toArray.size=kF.size:=by
     have aM:kF.size=kF.toList.length:=by simp
     rw[aM];conv=>rhs;rw[iz]
     simp[rF]
    obtain⟨vS,aI⟩:=OT.fin (av:=.aw 1 (xs.take m++replicate (xs.length-m) (I.int k 0))) (v:=.slice (some ⟨b,0,none⟩) xs.length cap) (.inr ⟨rfl,rfl,Sn,by
     simp only[bL,gk];rw[al];refine .inr ⟨b,cap,_,Hh,rA,sa,by rw[hlen],dS,OS,by rw[Hj];exact fX,by rw[hlen];exact ni,et,by rw[Hj];exact i_,?_,?_,OR,Hi⟩
     .intro d af;rcases mem_append.1 af with af|af
      .exact A4 d (mem_of_mem_take af)
      .rw[eq_of_mem_replicate af];rfl
     .have aN:(bx++(replicate (xs.length-m) (Value.int k 0)++kF.toList.drop (xs.length*1))).toArray.toList.take ((xs.take m++replicate (xs.length-m) (I.int k 0)).length*1)=bx++replicate (xs.length-m) (Value.int k 0):=by
       rw[<-append_assoc];exact take_left' (by rw[hlen,length_append,tG,length_replicate];omega)
      rw[aN];refine aQ.append (S1:=sa) (S2:=λ_=>False) (aQ.mono (λ_ h=>h) _ _ _ _ gQ (aQ.frame mz _ _ _ (λc aj=>A5 c (by rintro rfl;exact Hi (gQ _ aj))) dZ)) (Hd _ _) (λ_ h=>h) (λ_ h=>h.elim) (λ_ _ h=>h.elim),by
     rw[cN];exact gA,jU,kV,l1⟩) (some y)
    rw[w2]at aI;exact⟨vS,aI⟩
theorem OU {op:Op} {T:TypeId} {x:aX} {c9 aE:Option aX} (h:cp op=some (.eb T x c9 aE)):∃cf qn oo,op= .slice T cf qn oo none/\cD cf=some x/\ns qn=some c9/\ns oo=some aE:=by
 cases op with
 |slice bC cf qn oo fL=>
  cases fL with
  |some m=>simp[cp]at h
  |none=>
   simp only[cp]at h;split at h
   .rename_i y l k ab ad aB;simp only[Option.some.injEq,cU.eb.injEq]at h;obtain⟨rfl,rfl,rfl,rfl⟩:=h;exact⟨_,_,_,rfl,ab,ad,aB⟩
   .cases h
 |call c=>
  obtain⟨callee,args,argTypes⟩:=c;simp only[cp]at h;split at h<;>(try split at h)<;>(try split at h)<;>(try simp[Option.map_eq_some_iff]at h)
 |makeFunc f first cs=>cases f<;>simp only[cp]at h<;>first|(cases h;done)|(split at h<;>simp[Option.map_eq_some_iff]at h)
 |makeMap T r=>cases r<;>simp only[cp]at h<;>simp at h
 |lookup T x i c=>cases c<;>simp only[cp]at h<;>first|(cases h;done)|(split at h<;>simp at h)
 |_=>simp only[cp]at h<;>first|(cases h;done)|(simp[Option.map_eq_some_iff]at h;done)|(split at h<;>simp at h)
def Hk (x i:aX) (t1 t2 t3:Nat) (T:TypeId):aL:=.eM [⟨some t1,.fc x,none⟩,⟨some t2,.fc i,none⟩,⟨some t3,.eb T (.t t1) (some (.t t2)) none,none⟩,⟨none,.bad,none⟩] none
def qT (C:bA) (t1 t2 t3:Nat) (T:TypeId) (dd:Xt) (P:Xx->Prop) (s1:ah):Prop:=
 ∃(y:Nat) (xs:Xy) (m:Nat) (e:TypeId) (k:IntKind),a6 s1 (.t t1)= .h y []/\a6 s1 (.t t2)= .int .i64 (m:Int)/\s1 y= .aw 1 xs/\m<=xs.length/\y≠t3/\t1≠t3/\(C.T T).k= .slice e/\(C.T e).ok=true/\(C.T e).sz=1/\(C.T e).zero= .int k 0/\
  P (fB dd (fin (cl (ft y (fin s1 (some t3) .hole)) y .hole) (some y) (.aw 1 (xs.take m++replicate (xs.length-m) (.int k 0)))))
def uD (C:bA) (x i:aX) (t1 t2 t3:Nat) (T:TypeId) (dd:Xt):(Exit->ah->Prop)->ah->Prop:=
 λQ s=>cw C s [⟨some t1,.fc x,none⟩,⟨some t2,.fc i,none⟩] none λ_ s1=>qT C t1 t2 t3 T dd (λl=>dC (Q .normal) (au l)) s1
def w3 (T:TypeId) (t3:Nat) (o:Oper):Bool:=match o.op with
 | .call c=>(match c.callee with| .builtin .clear=>true|_=>false)&&(match c.args.toList,c.argTypes.toList with|[.tmp t],[bC]=>t==t3&&bC==T|_,_=>false)
 |_=>false
def OV (R:List (Array Oper)) (T:TypeId) (t3:Nat):Bool:=R.all λops=>match ops.toList with
 |[_,_,hM,kS]=> !(hM.dst==some t3)||w3 T t3 kS
 |_=>true
def w4 (C:bA) (R:List (Array Oper)) (T:(Exit->ah->Prop)->ah->Prop) (b:aL):Prop:=
 ∃(x i:aX) (t1 t2 t3:Nat) (ty:TypeId) (dd:Xt),T=uD C x i t1 t2 t3 ty dd/\b=Hk x i t1 t2 t3 ty/\OV R ty t3=true
theorem OW {T:TypeId} {t3:Nat} {o:Oper} (h:w3 T t3 o=true):o.op= .call ⟨.builtin .clear,#[.tmp t3],#[T]⟩:=by
 unfold w3 at h;split at h
 .rename_i c aj;obtain⟨callee,args,argTypes⟩:=c;simp only[Bool.and_eq_true]at h;obtain⟨ab,ad⟩:=h;split at ab
  .split at ad
   .rename_i t bC aM aS;simp only[Bool.and_eq_true,beq_iff_eq]at ad;obtain⟨rfl,rfl⟩:=ad;have ag:args= #[.tmp t]:=by apply Array.ext';simpa using aM
    have a4:argTypes= #[bC]:=by apply Array.ext';simpa using aS
    rw[aj];simp_all
   .cases ad
  .cases ab
 .cases h
theorem OX {α:Type}:∀{l:List α},l.length=4->∃a b c d,l=[a,b,c,d]
 |[a,b,c,d],_=>⟨a,b,c,d,rfl⟩
theorem OY (a0:C.dm) {R:List (Array Oper)} {c:Code} {T:(Exit->ah->Prop)->ah->Prop} {b:aL} {Q:Exit->ah->Prop} (dT:∀r∈kW c,r∈R) (ey:w4 C R T b) (aa:eN n c=some b.strip) (h:T Q s) (aI:Rel w0 F0 X n ρ s a w):
  c.wp C.P (l6 w0 F0 X n ρ Q) a w:=by
 obtain⟨x,i,t1,t2,t3,ty,dd,rfl,rfl,iN⟩:=ey;obtain⟨id,ops,rfl,ny⟩:=GZ aa;have jH:ops∈R:=dT _ (by simp[kW]);obtain⟨hl,l3⟩:=wt ny;have A6:ops.toList.length=4:=hl;obtain⟨oF,jA,hM,kS,uE⟩:=OX A6;have OZ:ops[2]? =some hM:=by rw[<-Array.getElem?_toList,uE];rfl
 have O0:ops[3]? =some kS:=by rw[<-Array.getElem?_toList,uE];rfl
 obtain⟨br,wE,jn⟩:=l3 2 hM (by rw[uE];rfl);obtain⟨e5,wV,O1⟩:=l3 3 kS (by rw[uE];rfl);simp only[map_cons,map_nil,getElem?_cons_succ,getElem?_cons_zero,Option.some.injEq]at wE wV;subst wE wV;obtain⟨dS,e9,fX,ni⟩:=uz (r:=⟨some t3,.eb ty (.t t1) (some (.t t2)) none,none⟩) rfl jn;obtain⟨gX,fv,fZ,gA⟩:=uz (r:=⟨none,.bad,none⟩) rfl O1;have O2:w3 ty t3 kS=true:=by
  have:=List.all_eq_true.1 iN ops jH;rw[uE]at this;simp only[<-dS,beq_self_eq_true,Bool.not_true,Bool.false_or]at this;exact this
 have AS:cp hM.op=some (.eb ty (.t t1) (some (.t t2)) none):=by
  rcases po fX with h|h
  .cases h
  .exact h
 obtain⟨cf,qn,oo,pq,lR,A7,Hl⟩:=OU AS;have lR:=AN lR;obtain⟨c9,rfl,jV⟩:∃c9,qn=some c9/\cD c9=some (.t t2):=by
  cases qn with
  |none=>simp[ns]at A7
  |some c9=>
   simp only[ns,Option.map_eq_some_iff,Option.some.injEq]at A7;obtain⟨y,a2,rfl⟩:=A7;exact⟨c9,rfl,a2⟩
 have jV:=AN jV;have kN:oo=none:=by
  cases oo with
  |none=>rfl
  |some k=>
   simp only[ns,Option.map_eq_some_iff]at Hl;obtain⟨y,_,a2⟩:=Hl;cases a2
 subst lR jV kN;refine wp_region ?_;have AQ:range ops.size=[0,1]++[2,3]:=by
  have:ops.size=4:=by simpa using A6
  rw[this];rfl
 rw[AQ];have gx:=uh (K:=qT C t1 t2 t3 ty dd (λl=>dC (Q .normal) (au l))) (λ_ _ h=>h) h;have hw:=AL C _ [⟨some t1,.fc x,none⟩,⟨some t2,.fc i,none⟩] [] [] _ gx;refine wv (Q:=l6 w0 F0 X n ρ Q) a0 (ops:=ops) (ros:=[⟨some t1,.fc x,none⟩,⟨some t2,.fc i,none⟩]) (l2:=[2,3]) (K:=qT C t1 t2 t3 ty dd (λl=>dC (Q .normal) (au l))) ?_ [0,1] (λj b6=>?_) s a w (by simpa [range_succ]using hw) aI
 ·
  rintro s1 ag iG ⟨y,xs,m,e,k,wB,z6,a2,hm,Hm,Wn,ai,jx,cK,rE,bs⟩ nz;obtain⟨ij,wU,g0,F,S,j1⟩:=nz;have Hn:=(dU (a:=ag) j1 (λ_=>rfl) (show cD (.tmp t1)=some (.t t1)from rfl)).2;have Ho:=(dU (a:=ag) j1 (λ_=>rfl) (show cD (.tmp t2)=some (.t t2)from rfl)).2;rw[wB]at Hn;rw[z6]at Ho;have A3:=lP Ho;obtain⟨v,n8,O3⟩:=ON a0 j1 ai jx cK rE a2 hm Hn;have O4:(execOp ag.eval hM).run C.P iG= .ok (.value v) iG:=by
   obtain⟨dst,op,AM,pos,after,guard⟩:=hM;simp only at pq;subst pq;simp[execOp,A3,n8]
  refine G1 OZ e9 ?_;unfold Oper.wp;rw[O4];show wpOps C.P ops (l6 w0 F0 X n ρ Q) [3] (ag.put hM.dst v) iG;rw[<-dS];obtain⟨w5,O5,O6⟩:=wo (n:=n) (dst:=some t3) v wU (by rw[<-dS]at ni;exact ni);obtain⟨S2,Hp⟩:=j1.fin (av:=.hole) (v:=v) (.inl ⟨rfl,by rw[aA];trivial⟩) (some t3);rw[<-w5]at Hp;have ov:(ag.put (some t3) v).eval (.tmp t3)=v:=by
   have:=congrFun w5 t3;simp only[jd,cl,if_true]at this;exact this
  have vM:(fin s1 (some t3) .hole) y=s1 y:=by
   simp only[fin,I.plain,if_true];exact hg _ _ Hm
  have O7:(ag.put (some t3) v).tmps.getD y undef=ag.tmps.getD y undef:=by
   have:=congrFun w5 y;simp only[jd]at this;rw[this];exact hg _ _ Hm
  have AU:∀j∈n.fx,(ag.put (some t3) v).tmps.getD j undef=ρ j:=by
   intro j b6;have:=congrFun w5 j;simp only[jd]at this;rw[this,hg _ _ ?_]
   .exact g0 j b6
   .rintro rfl;rw[<-dS]at ni;simp only[jZ,Bool.and_eq_true,Bool.not_eq_true',contains_eq_mem,decide_eq_false_iff_not]at ni;exact ni.2 b6
  obtain⟨az,kJ,vS,O8⟩:=O3 _ (λt=>(ag.put (some t3) v).tmps.getD t undef) S2 vM O7 Hp kS.type;have O9:(execOp (ag.put (some t3) v).eval kS).run C.P iG= .ok (.value (.tuple #[])) az:=by
   have aB:=OW O2;obtain⟨dst,op,AM,pos,after,guard⟩:=kS;simp only at aB kJ;subst aB;simp[execOp,resolve,invoke,builtin,ov,kJ]
  refine G1 O0 fv ?_;unfold Oper.wp;rw[O9];show wpOps C.P ops (l6 w0 F0 X n ρ Q) [] ((ag.put (some t3) v).put kS.dst (.tuple #[])) az;rw[<-gX];simp only[wpOps];have hW:(ag.put (some t3) v).put none (.tuple #[])=ag.put (some t3) v:=rfl;rw[hW];have O_:Rel w0 F0 X n ρ _ (ag.put (some t3) v) az:=⟨O6.trans ij,O5,AU,F,vS,O8⟩
  have w6:dC (dC (Q .normal)) _:=.inr ⟨_,GY dd _,bs⟩;obtain⟨s2,aO,a3⟩:=O_.dC w6;exact a3.dC aO
 .refine⟨λja=>?_,λo bG=>?_⟩
  .have:=Array.getElem?_eq_none_iff.1 ja;have aY:ops.size=4:=by simpa using A6
   simp only[mem_cons,not_mem_nil,or_false]at b6;omega
  .obtain⟨aC,gw,ad⟩:=l3 j o (by simpa using bG);simp only[mem_cons,not_mem_nil,or_false]at b6;rcases b6 with rfl|rfl
   .simp only[map_cons,getElem?_cons_zero,Option.some.injEq]at gw;subst gw;exact⟨_,rfl,ad⟩
   .simp only[map_cons,getElem?_cons_succ,getElem?_cons_zero,Option.some.injEq]at gw;subst gw;exact⟨_,rfl,ad⟩
end
theorem bb.Pa {C:bA} (a0:C.dm) {f:FuncId} {fn:Func} {c:Code} {dt:aL} {fx:Xt} {as outs:Xy} {r:I} (dr:List ResultVar) (l:Xx) (bk:C.P.funcs[f]? =some fn) (U:fn.body=some c)
  (jF:(fn.name== "runtime.NumGoroutine")=false) (aa:eN ⟨fn.ntmps,fx⟩ c=some dt.strip) (aU:as.length<=fn.ntmps) (ai:dt.l5 (w4 C (kW c))) (e7:fn.results.toList=dr) (hl:num 0 as=l)
  (h:∀Q:Exit->ah->Prop,(∀s,dC (Ends C fx dr r outs) s->Q .ret s)->(∀s,dC (Ends C fx dr r outs) s->Q .normal s)->bc C dt Q (au l)):bb C f as r outs:=by
 subst e7 hl;intro w F X S vs hl aI;refine Ac (fx:=fx) a0 bk U jF aU hl aI λa j1 cX=>?_;refine Fj a0 (H:=w4 C (kW c)) (R:=kW c) (λc T b Q s a w dT gx qQ aN aI=>OY a0 dT gx qQ aN aI) c (λ_ h=>h) (by rw[aL.z7];exact aa) (aL.z8 dt ai) (Aa dt ?_) j1;rw[wF];exact h _ (λs h=>⟨.inr rfl,h⟩) (λs h=>⟨.inl rfl,h⟩)
theorem Pb {C:bA} {Q:Exit->ah->Prop} {l:Xx} {x i:aX} {t1 t2 t3:Nat} {T:TypeId} {dd:Xt} {b:aL} (bU:Xx)
  (h:∀P:Xx->Prop,P bU->cw C (au l) [⟨some t1,.fc x,none⟩,⟨some t2,.fc i,none⟩] none λ_ s1=>qT C t1 t2 t3 T dd P s1) (ai:dC (Q .normal) (au bU)):bc C (.g_ (uD C x i t1 t2 t3 T dd) b) Q (au l):=
 λde Pc=>h (λl=>dC (de .normal) (au l)) (qA (λ_ h=>Pc _ _ h) _ ai)
theorem Pd {C:bA} {Q:Exit->ah->Prop} {l:Xx} {x i:aX} {t1 t2 t3:Nat} {T:TypeId} {dd:Xt} {b e:aL} (bU:Xx)
  (h:∀P:Xx->Prop,P bU->cw C (au l) [⟨some t1,.fc x,none⟩,⟨some t2,.fc i,none⟩] none λ_ s1=>qT C t1 t2 t3 T dd P s1) (ai:dC (bc C e Q) (au bU)):bc C (.seq (.g_ (uD C x i t1 t2 t3 T dd) b) e) Q (au l):=
 Pb (b:=b) bU h (.inl ai)
theorem Pe {C:bA} {Q:Exit->ah->Prop} {l:Xx} {x i:aX} {t1 t2 t3:Nat} {T:TypeId} {dd:Xt} {b e:aL} (bU:Xx)
  (h:∀P:Xx->Prop,P bU->cw C (au l) [⟨some t1,.fc x,none⟩,⟨some t2,.fc i,none⟩] none λ_ s1=>qT C t1 t2 t3 T dd P s1) (ai:bc C e Q (au bU)):bc C (.seq (.g_ (uD C x i t1 t2 t3 T dd) b) e) Q (au l):=
 Pd (b:=b) bU h (.inl ai)
theorem Pf {C:bA} {l:Xx} {t1 t2 t3 y:Nat} {T e:TypeId} {dd:Xt} {P:Xx->Prop} {xs z:Xs} {i:Int} {f:Int->I} {k:IntKind} (he:fF xs 0 i=some z) (bk:f 0= .int k 0)
  (ab:a6 (au l) (.t t1)= .h y []) (ad:a6 (au l) (.t t2)= .int .i64 i) (aB:au l y= .aw 1 (xs.map f)) (aY:y≠t3) (bn:t1≠t3) (ai:(C.T T).k= .slice e) (jx:(C.T e).ok=true) (cK:(C.T e).sz=1) (bz:(C.T e).zero= .int k 0)
  (bs:P (fB dd (fin (cl (ft y (fin (au l) (some t3) .hole)) y .hole) (some y) (.aw 1 ((z++replicate (xs.length-z.length) 0).map f))))):qT C t1 t2 t3 T dd P (au l):=by
 unfold fF at he;split at he
 .rename_i U;simp only[Option.some.injEq]at he;obtain⟨m,rfl⟩:=Int.eq_ofNat_of_zero_le (show 0<=i by omega);have hm:m<=xs.length:=by omega
  refine⟨y,xs.map f,m,e,k,ab,ad,aB,by simpa using hm,aY,bn,ai,jx,cK,bz,?_⟩;have zx:z=xs.take m:=by rw[<-he];simp
  subst zx;rw[length_take,Nat.min_eq_left hm,map_append,map_take,map_replicate,bk]at bs
  rwa [length_map]
 .cases he
end Go.cM
