/- Part of a proof that a law returns true for every input. No condition. -/
import Derived.Test.YtndfcecbamffaaaGreatFwL
namespace Go.c3
open List Go.IntKind Nat Or
section
variable {C:bH} {w0 w:World} {F0 X F:Nat->Prop} {S:Nat->Nat->Prop} {n:Fr} {ρ:Nat->Value} {s:ak} {a:Act} {aw:Nat->Value}
theorem T5 {P:Program} {t e ty:TypeId} {z u:Value} {w:World} (aP:P.underlying t=some (.slice e)) (aH:∀w,(zeroValue e).run P w= .ok z w) (bF:z.cells= #[u]) {b o m c:Nat} (hm:0<m) {aB:World}
  (mG:(storeCells ⟨b,o,none⟩ (replicate m u) 0).run P w= .ok () aB):(Builtin.clear_ #[t] ty #[.slice (some ⟨b,o,none⟩) m c]).run P w= .ok (.tuple #[]) aB:=by
 have ky:(Builtin.zeroCells z.cells m).toList=replicate m u:=by
  rw[bF];simp[Builtin.zeroCells];apply ext_getElem
  .simp
  .intro i ae af;simp[mod_one]
 obtain⟨m,rfl⟩:∃k,m=k+1:=⟨m-1,by omega⟩
 simp[Builtin.clear_,run_underlying aP,aH,ky,mG]
theorem LY {k:IntKind}:∀(m:Nat) (aO:Nat->Prop),aX w F (replicate m (.int k 0)) (replicate m (.int k 0)) aO
 |0,aO=>by simp[aX]
 |m+1,aO=>by
  rw[replicate_succ,replicate_succ,aX];exact⟨[.int k 0],replicate m (.int k 0),λ_=>False,aO,rfl,by rw[ao],LY m aO,λ_ h=>h.elim,λ_ h=>h,λ_ h=>h.elim⟩
theorem T6 (a9:C.dL) {T e:TypeId} {y m:Nat} {xs:afh} {k:IntKind} {fD:Value} (h:bw w0 F0 X F S s aw w) (aj:(C.T T).k= .slice e) (kQ:(C.T e).ok=true) (cO:(C.T e).sz=1) (lJ:(C.T e).zero= .int k 0)
  (a5:s y= .ag 1 xs) (hm:m<=xs.length) (aH:aG w F s aw (.h y []) fD (λ_=>False)):
  ∃v,(Instr.sliceAt T fD (some (.int .i64 (m:Int))) none none).run C.P w= .ok v w/\∀(s2:ak) (iu:Nat->Value) (S2:Nat->Nat->Prop),s2 y=s y->iu y=aw y->bw w0 F0 X F S2 s2 iu w->∀ty,∃aB,(Builtin.clear_ #[T] ty #[v]).run C.P w= .ok (.tuple #[]) aB/\
   ∃aO,bw w0 F0 X F aO (fin (cg (e0 y s2) y .hole) (some y) (.ag 1 (xs.take m++replicate (xs.length-m) (.int k 0)))) iu aB:=by
 obtain⟨i,d,z,aT,a3,aY,b1,cI,bQ,bL⟩:=a9.info (fv aj (by simp));rw[aj]at bL;have:=ks bL;subst this;obtain⟨ml,bh,mX,f1,f2,f3,f4,f5,f6,f7⟩:=a9.info kQ;have ky:=f5 [.int k 0] (by rw[lJ];rfl);have eG:I.sub [] (s y)=some (.ag 1 xs):=by rw[a5];rfl
 rw[aG]at aH;obtain⟨b7,aW,aV,ba,bT⟩:=aH _ eG rfl;simp only[cj,a5,Option.some.injEq,Prod.mk.injEq]at aV;obtain⟨-,T7,-⟩:=aV;have uu:bX (aw y)=[fD]:=by rw[T7,<-ba,fX bT]
 have LZ:(C.T T).flat=true:=sG aj (by simp) (by simp);have L0:∀(len cap:Nat),m<=len->len<=cap->(Instr.sliceBounds true len cap (some (.int .i64 (m:Int))) none none).run C.P w= .ok (m,len,cap) w:=by
  intro len cap ae af;simp[Instr.sliceBounds,Instr.sliceBound,asIntOf,ae]
 have key:∀(s2:ak) (iu:Nat->Value) (S2:Nat->Nat->Prop),s2 y=s y->iu y=aw y->bw w0 F0 X F S2 s2 iu w->
   ∃S1,bw w0 F0 X F S1 (cg (e0 y s2) y .hole) iu w/\∃Sn,ao w F (.ag 1 xs) [fD] Sn/\(∀b,Sn b->b<w.heap.size)/\(∀b,Sn b->¬F b)/\(∀u b,Sn b->¬S1 u b)/\(∀b,Sn b->X b\/w0.heap.size<=b):=by
  intro s2 iu S2 kF m6 af;have Aw:=af.cV y;rw[kF,a5,m6]at Aw;have Aw:=(aG.cd (d:=.ag 1 xs) rfl).1 Aw;have EL:aG w F s2 iu (.h y []) (iu y) (λ_=>False):=by
   rw[aG];intro d ai au;rw[kF,a5]at ai;simp only[I.sub,Option.some.injEq]at ai;subst ai;exact⟨bX (iu y),none,by simp[cj,kF,a5],rfl,by rw[m6];exact Aw.1⟩
  have qH:cr s2 (.h y [])=some (.ag 1 xs,cg (e0 y s2) y .hole):=by
   simp[cr,kF,a5,I.sub,I.plain,I.put,I.ct]
  obtain⟨S1,nS,gj,fQ,Sn,gJ,gK,ku,mw,n8,_⟩:=mW af rfl EL qH;rw[m6,uu]at gJ;exact⟨S1,nS,Sn,gJ,gK,ku,mw,n8⟩
 obtain⟨S1,nS,Sn,gJ,gK,ku,mw,n8⟩:=key s aw S rfl rfl h;rw[ao]at gJ;rcases gJ with⟨rfl,J,h3⟩|⟨b,cap,cur,fE,fr,aO,h3,bU,ch,dd,cW,ed,dn,h4,cL,lk,m3⟩
 .simp only[cons.injEq,and_true]at h3;subst h3;have T8:m=0:=by simpa using hm
  subst T8;refine⟨.slice J 0 0,?_,λs2 iu S2 kF m6 af ty=>⟨w,?_,?_⟩⟩
  .rw[rG a9 LZ];have:=L0 0 0 (Nat.le_refl _) (Nat.le_refl _);simp only[Int.natCast_zero]at this;cases J<;>simp[Instr.slice,run_underlying bQ,this,iR f1,f2]
  .cases J<;>simp[Builtin.clear_,run_underlying bQ]
  .obtain⟨S1,nS,Sn,gJ,gK,ku,mw,n8⟩:=key s2 iu S2 kF m6 af;have dt:iu y= .slice J 0 0:=by
    have:=uu;rw[<-m6]at this;have ae:=(aG.cd (d:=.ag 1 []) rfl).1 (by have:=af.cV y;rw[kF,a5]at this;exact this);rw[fX ae.1]at this;simpa using this
   obtain⟨s4,aR⟩:=nS.fin (av:=.ag 1 []) (v:=.slice J 0 0) (.inr ⟨rfl,rfl,Sn,by simpa [bX,hj]using gJ,gK,ku,mw,n8⟩) (some y);refine⟨s4,?_⟩;have e:kr iu (some y) (.slice J 0 0)=iu:=by
    funext u;by_cases hu:u=y
    .subst hu;rw[dt];simp[kr,cg]
    .simp[kr,cg,hu]
   rw[e]at aR;exact aR
 .simp only[cons.injEq,and_true]at h3;subst h3;have back:∀(s2:ak) (iu:Nat->Value) (S2:Nat->Nat->Prop),s2 y=s y->iu y=aw y->bw w0 F0 X F S2 s2 iu w->kr iu (some y) (.slice (some ⟨b,0,none⟩) xs.length cap)=iu:=by
   intro s2 iu S2 kF m6 af;have:=uu;rw[<-m6]at this;have ae:=(aG.cd (d:=.ag 1 xs) rfl).1 (by have:=af.cV y;rw[kF,a5]at this;exact this);rw[fX ae.1]at this;have dt:iu y= .slice (some ⟨b,0,none⟩) xs.length cap:=by simpa using this
   funext u;by_cases hu:u=y
   .subst hu;rw[dt];simp[kr,cg]
   .simp[kr,cg,hu]
  have o5:(Instr.sliceAt T (.slice (some ⟨b,0,none⟩) xs.length cap) (some (.int .i64 (m:Int))) none none).run C.P w= .ok (.slice (if cap=m then some ⟨b,0,none⟩else some ⟨b,0+m*1,none⟩) (xs.length-m) (cap-m)) w:=by
   rw[rG a9 LZ];simp[Instr.slice,run_underlying bQ,L0 xs.length cap hm cW,iR f1,f2,cO,Addr.add_lit]
  refine⟨_,o5,λs2 iu S2 kF m6 af ty=>?_⟩;obtain⟨S1,nS,Sn,gJ,gK,ku,mw,n8⟩:=key s2 iu S2 kF m6 af;have Ax:=back s2 iu S2 kF m6 af;by_cases L1:m=xs.length
  .refine⟨w,?_,?_⟩
   .rw[L1,Nat.sub_self];split<;>simp[Builtin.clear_,run_underlying bQ]
   .obtain⟨s4,aR⟩:=nS.fin (av:=.ag 1 xs) (v:=.slice (some ⟨b,0,none⟩) xs.length cap) (.inr ⟨rfl,rfl,Sn,by simpa only[bX,hj]using gJ,gK,ku,mw,n8⟩) (some y);rw[Ax]at aR;refine⟨s4,?_⟩;rw[L1,take_length,Nat.sub_self,replicate_zero,append_nil];exact aR
  .have c5:m<xs.length:=by omega
   rw[if_neg (by omega)];rw[ao]at gJ;rcases gJ with⟨rfl,J,h3⟩|⟨eN,ad0,mh,L2,uh,s4,h3,dD,ej,fV,pD,dE,ia,EM,T9,T_,L3⟩
   .simp at c5
   .simp only[cons.injEq,and_true,Value.slice.injEq,Option.some.injEq,Addr.mk.injEq,true_and]at h3;obtain⟨rfl,rfl⟩:=h3;rw[ej]at ch;simp only[Option.some.injEq,Obj.cells.injEq]at ch;obtain⟨rfl,rfl,rfl⟩:=ch;have uX:mh.toList.length=cap:=by simp[ia]
    obtain⟨bA,bK,g1,gg,an,el,fJ,gU,jT,j9⟩:=aX.split m xs _ _ T9;have wW:bA.length=m:=by
     rw[aX.length _ _ _ el,oE _ (λd ai=>EM d (mem_of_mem_take ai)),length_take];omega
    have ur:bK.length=xs.length-m:=by
     rw[aX.length _ _ _ fJ,oE _ (λd ai=>EM d (mem_of_mem_drop ai)),length_drop];omega
    have iz:mh.toList=bA++(bK++mh.toList.drop (xs.length*1)):=by
     rw[<-append_assoc,<-an,take_append_drop]
    obtain⟨aB,aV,Ua,EN,c6,ea,gy,g9⟩:=uq (P:=C.P) (b:=b) (o:=0+m*1) (e:=L2) (fr:=uh) (replicate (xs.length-m) (.int k 0)) 0 mh w bA bK (mh.toList.drop (xs.length*1)) ej fV.low iz (by omega) (by rw[ur,length_replicate]) (by
     intro v aH;rw[eq_of_mem_replicate aH];rfl)
    refine⟨aB,T5 bQ (λw=>rA f1 f4 w) ky (by omega) aV,?_⟩;have Ub:=nS.turn EN c6 ea gy g9 (ku b dD) (λu hu=>mw u b dD hu) (n8 b dD);have oI:∀c,F c->aB.heap[c]? =w.heap[c]? :=λc an=>EN c (by rintro rfl;exact ku _ dD an);have hlen:(xs.take m++replicate (xs.length-m) (I.int k 0)).length=xs.length:=by
     rw[length_append,length_take,length_replicate];omega
    have L4:(bA++(replicate (xs.length-m) (Value.int k 0)++mh.toList.drop (xs.length*1))).toArray.size=mh.size:=by
     have aT:mh.size=mh.toList.length:=by simp
     rw[aT];conv=>rhs;rw[iz]
     simp[ur]
    obtain⟨zA,aR⟩:=Ub.fin (av:=.ag 1 (xs.take m++replicate (xs.length-m) (I.int k 0))) (v:=.slice (some ⟨b,0,none⟩) xs.length cap) (.inr ⟨rfl,rfl,Sn,by
     simp only[bX,hj];rw[ao];refine .inr ⟨b,cap,_,L2,uh,s4,by rw[hlen],dD,Ua,by rw[L4];exact fV,by rw[hlen];exact pD,dE,by rw[L4];exact ia,?_,?_,T_,L3⟩
     .intro d ai;rcases mem_append.1 ai with ai|ai
      .exact EM d (mem_of_mem_take ai)
      .rw[eq_of_mem_replicate ai];rfl
     .have aP:(bA++(replicate (xs.length-m) (Value.int k 0)++mh.toList.drop (xs.length*1))).toArray.toList.take ((xs.take m++replicate (xs.length-m) (I.int k 0)).length*1)=bA++replicate (xs.length-m) (Value.int k 0):=by
       rw[<-append_assoc];exact take_left' (by rw[hlen,length_append,wW,length_replicate];omega)
      rw[aP];refine aX.append (S1:=s4) (S2:=λ_=>False) (aX.mono (λ_ h=>h) _ _ _ _ gU (aX.frame oI _ _ _ (λc an=>EN c (by rintro rfl;exact L3 (gU _ an))) el)) (LY _ _) (λ_ h=>h) (λ_ h=>h.elim) (λ_ _ h=>h.elim),by
     rw[c6];exact gK,ku,mw,n8⟩) (some y)
    rw[Ax]at aR;exact⟨zA,aR⟩
theorem Uc {op:Op} {T:TypeId} {x:a6} {dI aC:Option a6} (h:cz op=some (.e2 T x dI aC)):∃cw sR n3,op= .slice T cw sR n3 none/\cY cw=some x/\pK sR=some dI/\pK n3=some aC:=by
 cases op with
 |slice bP cw sR n3 g0=>
  cases g0 with
  |some m=>simp[cz]at h
  |none=>
   simp only[cz]at h;split at h
   .rename_i y l k ae af aF;simp only[Option.some.injEq,di.e2.injEq]at h;obtain⟨rfl,rfl,rfl,rfl⟩:=h;exact⟨_,_,_,rfl,ae,af,aF⟩
   .cases h
 |call c=>
  obtain⟨callee,args,argTypes⟩:=c;simp only[cz]at h;split at h<;>(try split at h)<;>(try split at h)<;>(try simp[Option.map_eq_some_iff]at h)
 |makeFunc f first cs=>cases f<;>simp only[cz]at h<;>first|(cases h;done)|(split at h<;>simp[Option.map_eq_some_iff]at h)
 |makeMap T r=>cases r<;>simp only[cz]at h<;>simp at h
 |lookup T x i c=>cases c<;>simp only[cz]at h<;>first|(cases h;done)|(split at h<;>simp at h)
 |_=>simp only[cz]at h<;>first|(cases h;done)|(simp[Option.map_eq_some_iff]at h;done)|(split at h<;>simp at h)
def EO (x i:a6) (t1 t2 t3:Nat) (T:TypeId):aM:=.eI [⟨some t1,.eP x,none⟩,⟨some t2,.eP i,none⟩,⟨some t3,.e2 T (.t t1) (some (.t t2)) none,none⟩,⟨none,.bad,none⟩] none
def tn (C:bH) (t1 t2 t3:Nat) (T:TypeId) (c9:afc) (P:afg->Prop) (s1:ak):Prop:=
 ∃(y:Nat) (xs:afh) (m:Nat) (e:TypeId) (k:IntKind),a7 s1 (.t t1)= .h y []/\a7 s1 (.t t2)= .int .i64 (m:Int)/\s1 y= .ag 1 xs/\m<=xs.length/\y≠t3/\t1≠t3/\(C.T T).k= .slice e/\(C.T e).ok=true/\(C.T e).sz=1/\(C.T e).zero= .int k 0/\
  P (fR c9 (fin (cg (e0 y (fin s1 (some t3) .hole)) y .hole) (some y) (.ag 1 (xs.take m++replicate (xs.length-m) (.int k 0)))))
def u3 (C:bH) (x i:a6) (t1 t2 t3:Nat) (T:TypeId) (c9:afc):(Exit->ak->Prop)->ak->Prop:=
 λQ s=>cy C s [⟨some t1,.eP x,none⟩,⟨some t2,.eP i,none⟩] none λ_ s1=>tn C t1 t2 t3 T c9 (λl=>dG (Q .normal) (ar l)) s1
def Ay (T:TypeId) (t3:Nat) (o:Oper):Bool:=match o.op with
 | .call c=>(match c.callee with| .builtin .clear=>true|_=>false)&&(match c.args.toList,c.argTypes.toList with|[.tmp t],[bP]=>t==t3&&bP==T|_,_=>false)
 |_=>false
def Ud (R:List (Array Oper)) (T:TypeId) (t3:Nat):Bool:=R.all λops=>match ops.toList with
 |[_,_,iF,lp]=> !(iF.dst==some t3)||Ay T t3 lp
 |_=>true
def xQ (C:bH) (R:List (Array Oper)) (T:(Exit->ak->Prop)->ak->Prop) (b:aM):Prop:=
 ∃(x i:a6) (t1 t2 t3:Nat) (ty:TypeId) (c9:afc),T=u3 C x i t1 t2 t3 ty c9/\b=EO x i t1 t2 t3 ty/\Ud R ty t3=true
theorem Ue {T:TypeId} {t3:Nat} {o:Oper} (h:Ay T t3 o=true):o.op= .call ⟨.builtin .clear,#[.tmp t3],#[T]⟩:=by
 unfold Ay at h;split at h
 .rename_i c an;obtain⟨callee,args,argTypes⟩:=c;simp only[Bool.and_eq_true]at h;obtain⟨ae,af⟩:=h;split at ae
  .split at af
   .rename_i t bP aT a3;simp only[Bool.and_eq_true,beq_iff_eq]at af;obtain⟨rfl,rfl⟩:=af;have ab:args= #[.tmp t]:=by apply Array.ext';simpa using aT
    have aW:argTypes= #[bP]:=by apply Array.ext';simpa using a3
    rw[an];simp_all
   .cases af
  .cases ae
 .cases h
theorem Uf {α:Type}:∀{l:List α},l.length=4->∃a b c d,l=[a,b,c,d]
 |[a,b,c,d],_=>⟨a,b,c,d,rfl⟩
theorem Ug (a9:C.dL) {R:List (Array Oper)} {c:Code} {T:(Exit->ak->Prop)->ak->Prop} {b:aM} {Q:Exit->ak->Prop} (eH:∀r∈lT c,r∈R) (eB:xQ C R T b) (aa:fp n c=some b.strip) (h:T Q s) (aR:Rel w0 F0 X n ρ s a w):
  c.wp C.P (my w0 F0 X n ρ Q) a w:=by
 obtain⟨x,i,t1,t2,t3,ty,c9,rfl,rfl,j7⟩:=eB;obtain⟨id,ops,rfl,mx⟩:=ED aa;have iH:ops∈R:=eH _ (by simp[lT]);obtain⟨hl,lR⟩:=xf mx;have EP:ops.toList.length=4:=hl;obtain⟨iY,j_,iF,lp,xR⟩:=Uf EP;have Uh:ops[2]? =some iF:=by rw[<-Array.getElem?_toList,xR];rfl
 have Ui:ops[3]? =some lp:=by rw[<-Array.getElem?_toList,xR];rfl
 obtain⟨bx,uO,kF⟩:=lR 2 iF (by rw[xR];rfl);obtain⟨e1,uY,ER⟩:=lR 3 lp (by rw[xR];rfl);simp only[map_cons,map_nil,getElem?_cons_succ,getElem?_cons_zero,Option.some.injEq]at uO uY;subst uO uY;obtain⟨dD,ej,fV,pD⟩:=xK (r:=⟨some t3,.e2 ty (.t t1) (some (.t t2)) none,none⟩) rfl kF;obtain⟨gj,fQ,gJ,gK⟩:=xK (r:=⟨none,.bad,none⟩) rfl ER;have Uj:Ay ty t3 lp=true:=by
  have:=List.all_eq_true.1 j7 ops iH;rw[xR]at this;simp only[<-dD,beq_self_eq_true,Bool.not_true,Bool.false_or]at this;exact this
 have EA:cz iF.op=some (.e2 ty (.t t1) (some (.t t2)) none):=by
  rcases oU fV with h|h
  .cases h
  .exact h
 obtain⟨cw,sR,n3,kd,lh,ES,L5⟩:=Uc EA;have lh:=xI lh;obtain⟨dI,rfl,lj⟩:∃dI,sR=some dI/\cY dI=some (.t t2):=by
  cases sR with
  |none=>simp[pK]at ES
  |some dI=>
   simp only[pK,Option.map_eq_some_iff,Option.some.injEq]at ES;obtain⟨y,a5,rfl⟩:=ES;exact⟨dI,rfl,a5⟩
 have lj:=xI lj;have mn:n3=none:=by
  cases n3 with
  |none=>rfl
  |some k=>
   simp only[pK,Option.map_eq_some_iff]at L5;obtain⟨y,_,a5⟩:=L5;cases a5
 subst lh lj mn;refine wp_region ?_;have xL:range ops.size=[0,1]++[2,3]:=by
  have:ops.size=4:=by simpa using EP
  rw[this];rfl
 rw[xL];have gS:=ta (K:=tn C t1 t2 t3 ty c9 (λl=>dG (Q .normal) (ar l))) (λ_ _ h=>h) h;have hw:=xH C _ [⟨some t1,.eP x,none⟩,⟨some t2,.eP i,none⟩] [] [] _ gS;refine uK (Q:=my w0 F0 X n ρ Q) a9 (ops:=ops) (ros:=[⟨some t1,.eP x,none⟩,⟨some t2,.eP i,none⟩]) (l2:=[2,3]) (K:=tn C t1 t2 t3 ty c9 (λl=>dG (Q .normal) (ar l))) ?_ [0,1] (λj bZ=>?_) s a w (by simpa [range_succ]using hw) aR
 ·
  rintro s1 ab hW ⟨y,xs,m,e,k,kW,DW,a5,hm,L6,ad1,aj,kQ,cO,lJ,bm⟩ mz;obtain⟨hz,uX,gB,F,S,hrel⟩:=mz;have L7:=(eg (a:=ab) hrel (λ_=>rfl) (show cY (.tmp t1)=some (.t t1)from rfl)).2;have L8:=(eg (a:=ab) hrel (λ_=>rfl) (show cY (.tmp t2)=some (.t t2)from rfl)).2;rw[kW]at L7;rw[DW]at L8;have EL:=nV L8;obtain⟨v,qv,ET⟩:=T6 a9 hrel aj kQ cO lJ a5 hm L7;have Uk:(execOp ab.eval iF).run C.P hW= .ok (.value v) hW:=by
   obtain⟨dst,op,Ew,pos,after,guard⟩:=iF;simp only at kd;subst kd;simp[execOp,EL,qv]
  refine LK Uh ej ?_;unfold Oper.wp;rw[Uk];show wpOps C.P ops (my w0 F0 X n ρ Q) [3] (ab.put iF.dst v) hW;rw[<-dD];obtain⟨Az,Ul,Um⟩:=z1 (n:=n) (dst:=some t3) v uX (by rw[<-dD]at pD;exact pD);obtain⟨S2,L9⟩:=hrel.fin (av:=.hole) (v:=v) (.inl ⟨rfl,by rw[aG];trivial⟩) (some t3);rw[<-Az]at L9;have qK:(ab.put (some t3) v).eval (.tmp t3)=v:=by
   have:=congrFun Az t3;simp only[kr,cg,if_true]at this;exact this
  have zu:(fin s1 (some t3) .hole) y=s1 y:=by
   simp only[fin,I.plain,if_true];exact h2 _ _ L6
  have Un:(ab.put (some t3) v).tmps.getD y undef=ab.tmps.getD y undef:=by
   have:=congrFun Az y;simp only[kr]at this;rw[this];exact h2 _ _ L6
  have EB:∀j∈n.fx,(ab.put (some t3) v).tmps.getD j undef=ρ j:=by
   intro j bZ;have:=congrFun Az j;simp only[kr]at this;rw[this,h2 _ _ ?_]
   .exact gB j bZ
   .rintro rfl;rw[<-dD]at pD;simp only[kV,Bool.and_eq_true,Bool.not_eq_true',contains_eq_mem,decide_eq_false_iff_not]at pD;exact pD.2 bZ
  obtain⟨aB,i6,zA,Uo⟩:=ET _ (λt=>(ab.put (some t3) v).tmps.getD t undef) S2 zu Un L9 lp.type;have Up:(execOp (ab.put (some t3) v).eval lp).run C.P hW= .ok (.value (.tuple #[])) aB:=by
   have aF:=Ue Uj;obtain⟨dst,op,Ew,pos,after,guard⟩:=lp;simp only at aF i6;subst aF;simp[execOp,resolve,invoke,builtin,qK,i6]
  refine LK Ui fQ ?_;unfold Oper.wp;rw[Up];show wpOps C.P ops (my w0 F0 X n ρ Q) [] ((ab.put (some t3) v).put lp.dst (.tuple #[])) aB;rw[<-gj];simp only[wpOps];have iP:(ab.put (some t3) v).put none (.tuple #[])=ab.put (some t3) v:=rfl;rw[iP];have Uq:Rel w0 F0 X n ρ _ (ab.put (some t3) v) aB:=⟨Um.trans hz,Ul,EB,F,zA,Uo⟩
  have AA:dG (dG (Q .normal)) _:=.inr ⟨_,EC c9 _,bm⟩;obtain⟨s2,aV,ba⟩:=Uq.dG AA;exact ba.dG aV
 .refine⟨λjn=>?_,λo bO=>?_⟩
  .have:=Array.getElem?_eq_none_iff.1 jn;have a1:ops.size=4:=by simpa using EP
   simp only[mem_cons,not_mem_nil,or_false]at bZ;omega
  .obtain⟨aE,gp,af⟩:=lR j o (by simpa using bO);simp only[mem_cons,not_mem_nil,or_false]at bZ;rcases bZ with rfl|rfl
   .simp only[map_cons,getElem?_cons_zero,Option.some.injEq]at gp;subst gp;exact⟨_,rfl,af⟩
   .simp only[map_cons,getElem?_cons_succ,getElem?_cons_zero,Option.some.injEq]at gp;subst gp;exact⟨_,rfl,af⟩
end
theorem bk.L_ {C:bH} (a9:C.dL) {f:FuncId} {fn:Func} {c:Code} {dO:aM} {fx:afc} {as outs:afh} {r:I} (dU:List ResultVar) (l:afg) (a8:C.P.funcs[f]? =some fn) (U:fn.body=some c)
  (jt:(fn.name== "runtime.NumGoroutine")=false) (aa:fp ⟨fn.ntmps,fx⟩ c=some dO.strip) (a4:as.length<=fn.ntmps) (aj:dO.lS (xQ C (lT c))) (fF:fn.results.toList=dU) (hl:num 0 as=l)
  (h:∀Q:Exit->ak->Prop,(∀s,dG (Ends C fx dU r outs) s->Q .ret s)->(∀s,dG (Ends C fx dU r outs) s->Q .normal s)->bj C dO Q (ar l)):bk C f as r outs:=by
 subst fF hl;intro w F X S vs hl aR;refine Ac (fx:=fx) a9 a8 U jt a4 hl aR λa hrel dt=>?_;refine Ka a9 (H:=xQ C (lT c)) (R:=lT c) (λc T b Q s a w eH gS o5 aP aR=>Ug a9 eH gS o5 aP aR) c (λ_ h=>h) (by rw[aM.z8];exact aa) (aM.z9 dO aj) (z_ dO ?_) hrel;rw[xp];exact h _ (λs h=>⟨.inr rfl,h⟩) (λs h=>⟨.inl rfl,h⟩)
theorem Ur {C:bH} {Q:Exit->ak->Prop} {l:afg} {x i:a6} {t1 t2 t3:Nat} {T:TypeId} {c9:afc} {b:aM} (b2:afg)
  (h:∀P:afg->Prop,P b2->cy C (ar l) [⟨some t1,.eP x,none⟩,⟨some t2,.eP i,none⟩] none λ_ s1=>tn C t1 t2 t3 T c9 P s1) (aj:dG (Q .normal) (ar b2)):bj C (.hb (u3 C x i t1 t2 t3 T c9) b) Q (ar l):=
 λdN EU=>h (λl=>dG (dN .normal) (ar l)) (rP (λ_ h=>EU _ _ h) _ aj)
theorem Us {C:bH} {Q:Exit->ak->Prop} {l:afg} {x i:a6} {t1 t2 t3:Nat} {T:TypeId} {c9:afc} {b e:aM} (b2:afg)
  (h:∀P:afg->Prop,P b2->cy C (ar l) [⟨some t1,.eP x,none⟩,⟨some t2,.eP i,none⟩] none λ_ s1=>tn C t1 t2 t3 T c9 P s1) (aj:dG (bj C e Q) (ar b2)):bj C (.seq (.hb (u3 C x i t1 t2 t3 T c9) b) e) Q (ar l):=
 Ur (b:=b) b2 h (.inl aj)
theorem Ma {C:bH} {Q:Exit->ak->Prop} {l:afg} {x i:a6} {t1 t2 t3:Nat} {T:TypeId} {c9:afc} {b e:aM} (b2:afg)
  (h:∀P:afg->Prop,P b2->cy C (ar l) [⟨some t1,.eP x,none⟩,⟨some t2,.eP i,none⟩] none λ_ s1=>tn C t1 t2 t3 T c9 P s1) (aj:bj C e Q (ar b2)):bj C (.seq (.hb (u3 C x i t1 t2 t3 T c9) b) e) Q (ar l):=
 Us (b:=b) b2 h (.inl aj)
theorem Mb {C:bH} {l:afg} {t1 t2 t3 y:Nat} {T e:TypeId} {c9:afc} {P:afg->Prop} {xs z:afb} {i:Int} {f:Int->I} {k:IntKind} (he:gw xs 0 i=some z) (a8:f 0= .int k 0)
  (ae:a7 (ar l) (.t t1)= .h y []) (af:a7 (ar l) (.t t2)= .int .i64 i) (aF:ar l y= .ag 1 (xs.map f)) (a1:y≠t3) (bt:t1≠t3) (aj:(C.T T).k= .slice e) (kQ:(C.T e).ok=true) (cO:(C.T e).sz=1) (bF:(C.T e).zero= .int k 0)
  (bm:P (fR c9 (fin (cg (e0 y (fin (ar l) (some t3) .hole)) y .hole) (some y) (.ag 1 ((z++replicate (xs.length-z.length) 0).map f))))):tn C t1 t2 t3 T c9 P (ar l):=by
 unfold gw at he;split at he
 .rename_i U;simp only[Option.some.injEq]at he;obtain⟨m,rfl⟩:=Int.eq_ofNat_of_zero_le (show 0<=i by omega);have hm:m<=xs.length:=by omega
  refine⟨y,xs.map f,m,e,k,ae,af,aF,by simpa using hm,a1,bt,aj,kQ,cO,bF,?_⟩;have w5:z=xs.take m:=by rw[<-he];simp
  subst w5;rw[length_take,Nat.min_eq_left hm,map_append,map_take,map_replicate,a8]at bm
  rwa [length_map]
 .cases he
end Go.c3
