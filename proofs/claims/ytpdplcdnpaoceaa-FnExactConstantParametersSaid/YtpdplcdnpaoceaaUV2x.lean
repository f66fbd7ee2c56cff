/- Part of a proof that a law returns true for every input. No condition. -/
import Derived.Test.YtpdplcdnpaoceaaUV1x
namespace Go.nI
open Option Go.IntKind Nat Or
open Go Go.cM
def n1 (S:Int->Bool) (st:Xs) (t:aK):aK:=cond ((t.Kind==1)&&S t.Value) ⟨0,st.getD t.Value.toNat 0⟩ t
def jM (S:Int->Bool) (st:Xs) (e:XD):XD:=e.map (n1 S st)
theorem Vn (e:XD) (h:e.length<=1048576):sf e=some e:=by
 unfold sf;rw[ml (by omega) (by omega)];rfl
theorem C_ {α:Type} (v:List α) (i:Nat) (x:α) (h:bR v (i:Int)=some x):v.set i x=v:=by
 have:=c2 h;rw[Int.toNat_natCast]at this;obtain⟨ab,ad⟩:=List.getElem?_eq_some_iff.1 this;rw[<-ad];exact List.set_getElem_self ab
theorem Da {α:Type} {v:List α} {t:Int} (d:α) (ab:0<=t) (ad:t<(v.length:Nat)):bR v t=some (v.getD t.toNat d):=by
 obtain⟨i,aE⟩:∃i:Nat,t=(i:Int):=⟨t.toNat,by omega⟩
 rw[aE];exact pR v i d (by omega)
theorem Vo (S:Xs) (v:Int) (h:S.length<=1048576):xN S v=some (decide (v∈S)):=by
 unfold xN BN;rw[I1 S (λx=>v==x) (λm=>by
  simp only[uZ,BM];rw[fT (Nat.le_refl _)];rfl) (λi aE m=>by
  simp only[uZ,BM];rw[g3 aE,hf _ i aE,gh i _ aE (by omega)];simp only[cond_true,bind_some])]
 simp only[bind_some];rw[s9];congr 1;rw[Bool.eq_iff_iff];simp
section
variable {S:Int->Bool}
theorem Vp (e:XD) (M:List Bool) (st:Xs) (hl:st.length=M.length) (he:e.length<=1048576) (gM:M.length<=1000) (aD:∀t∈e,t.Kind=1->0<=t.Value) (bm:∀v,0<=v->S v=M.getD v.toNat false):
  xi e M st=some (jM S st e):=by
 unfold xi;rw[Vn e he,bind_some];refine U3 (L:=qW M st) e (n1 S st) some (λm w hw=>?_) (λi aE m w hw bf=>?_)
 .simp only[qW,Bn];rw[fT (by omega)];rfl
 .simp only[qW,Bn,sg];rw[g3 (by omega),bf,gh i e.length aE (by omega)];simp only[cond_true,bind_some,n1,Int.toNat_natCast];by_cases ai:e[i].Kind=1
  .have ba:=aD _ (List.getElem_mem aE) ai;have kC:(e[i].Kind==1)=true:=by simp[ai]
   rw[kC,cond_true,Bool.true_and,bm _ ba];by_cases c8:e[i].Value<(M.length:Int)
   .rw[decide_eq_true c8,cond_true,Da false ba c8,bind_some];cases M.getD e[i].Value.toNat false
    .rw[cond_false,cond_false,C_ w i _ bf]
    .rw[cond_true,cond_true,Da 0 ba (by omega),bind_some]
   .rw[decide_eq_false c8,cond_false];have:M.getD e[i].Value.toNat false=false:=by
     rw[List.getD_eq_getElem?_getD,List.getElem?_eq_none (by omega)];rfl
    rw[this,cond_false,C_ w i _ bf]
  .have kC:(e[i].Kind==1)=false:=by simpa using ai
   rw[kC,cond_false,Bool.false_and,cond_false,C_ w i _ bf]
theorem Vq (l:cq) (e:XD) (K:Xs) (he:e.length<=1048576) (hK:K.length<=1048576) (jH:∀v∈K,0<=v/\v<(l.Start.length:Nat)) (bm:∀v,S v=decide (v∈K)):
  xO l e K=some (jM S l.Start e):=by
 unfold xO BR;have:=UY (L:=oL e K l) e (n1 S l.Start) 0 some (λm w hw=>?_) (λi aE m w hw=>?_) [] (by simp)
 .rw[this];rfl
 .simp only[oL,BQ];rw[fT (Nat.le_refl _)];rfl
 .simp only[oL,BQ,oK,BP];rw[g3 aE,hf _ i aE,gh i _ aE (by omega)];simp only[cond_true,bind_some,n1];have dx:∀x:aK,room 16 (w.length+[x].length)=some ():=λx=>ml (by simp only[List.length_cons,List.length_nil];omega) (by simp only[List.length_cons,List.length_nil];omega);by_cases ai:e[i].Kind=1
  .have kC:(e[i].Kind==1)=true:=by simp[ai]
   rw[kC,cond_true,Bool.true_and,Vo K _ hK,bm];by_cases hm:e[i].Value∈K
   .obtain⟨ab,ad⟩:=jH _ hm;rw[decide_eq_true hm,Da 0 ab ad];simp only[cond_true,bind_some,BO,Option.elim,List.isEmpty_cons,cond_false,dx]
   .rw[decide_eq_false hm];simp only[cond_false,bind_some,Option.elim,dx]
  .have kC:(e[i].Kind==1)=false:=by simpa using ai
   rw[kC];simp only[Bool.false_and,cond_false,dx,bind_some]
theorem Vr (st:Xs) (t:aK):fU (n1 S st t)=fU t:=by
 unfold n1;by_cases h:t.Kind=1
 .cases S t.Value<;>simp[h,fU]
 .have:(t.Kind==1)=false:=by simpa using h
  rw[this];rfl
theorem Vs {st:Xs} {v:Int} {t:aK} (k1:∀n∈st,0<=n/\n<=63) (h:mm t v=true):mm (n1 S st t) v=true:=by
 unfold n1;by_cases ab:t.Kind=1
 .have kC:(t.Kind==1)=true:=by simp[ab]
  rw[kC,Bool.true_and];cases S t.Value
  .exact h
  .have:0<=st.getD t.Value.toNat 0/\st.getD t.Value.toNat 0<=63:=by
    rw[List.getD_eq_getElem?_getD];cases an:st[t.Value.toNat]? with
    |none=>simp
    |some z=>exact k1 z (List.mem_of_getElem? an)
   simp only[cond_true,mm,beq_self_eq_true,gL,Bool.and_eq_true,decide_eq_true_eq];exact this
 .have kC:(t.Kind==1)=false:=by simpa using ab
  rw[kC];exact h
theorem Jd {st:Xs} {v:Int} (k1:∀n∈st,0<=n/\n<=63):∀(e:XD) (k:Nat),kg v e k=true->kg v (jM S st e) k=true
 |[],k,h=>h
 |t::r,k,h=>by
  simp only[kg,Bool.and_eq_true]at h;simp only[jM,List.map_cons,kg,Bool.and_eq_true,Vr];exact⟨h.1,Vs k1 h.2.1,Jd k1 r _ h.2.2⟩
theorem Vt {st:Xs} {v:Int} {e:XD} (k1:∀n∈st,0<=n/\n<=63) (h:hx e v 60=true):hx (jM S st e) v 60=true:=by
 simp only[hx,Bool.and_eq_true,decide_eq_true_eq]at h⊢;exact⟨by simp only[jM,List.length_map];exact h.1,Jd k1 e 1 h.2⟩
end
theorem Je {v:Int}:∀(e:XD) (k:Nat),kg v e k=true->∀t∈e,mm t v=true
 |[],_,_,t,aN=>by cases aN
 |u::r,k,h,t,aN=>by
  simp only[kg,Bool.and_eq_true]at h;rcases List.mem_cons.1 aN with rfl|aN
  .exact h.2.1
  .exact Je r _ h.2.2 t aN
theorem Jf {e:XD} {v:Int} (h:hx e v 60=true):e.length<=60/\∀t∈e,t.Kind=1->0<=t.Value:=by
 simp only[hx,Bool.and_eq_true,decide_eq_true_eq]at h;refine⟨by omega,λt aN ai=>?_⟩;have:=Je e 1 h.2 t aN;unfold mm at this;have fb:(t.Kind==0)=false:=by rw[ai];rfl
 have aM:(t.Kind==1)=true:=by rw[ai];rfl
 rw[fb,aM]at this;simp only[cond_false,cond_true,gL,Bool.and_eq_true,decide_eq_true_eq]at this;exact this.1
open Classical in
noncomputable def o2 (e:XD):bq:=if h:∃x,i7 x/\dX x=e then h.choose else .mk ⟨0,0⟩ []
theorem Vu {e:XD} {v most:Int} (h:hx e v most=true):i7 (o2 e)/\dX (o2 e)=e:=by
 have an:=U4 h;unfold o2;rw[dif_pos an];exact an.choose_spec
theorem Vv (n:Nat):∀x,fE x<=n->i7 x->(dQ x).term.Kind=0->∀t∈dX x,t.Kind≠1:=by
 induction n with
 |zero=>intro x h;have:=o1 x;omega
 |succ n ih=>
  intro x aU hw ai t aN;have Jg:=(rq x).1 hw;rw[yG]at ai;rw[m5]at aN;by_cases ba:x.args.length=0
  .rw[if_pos ba]at ai;have:x.args=[]:=List.length_eq_zero_iff.1 ba;rw[this]at aN;simp only[eL,List.mem_cons,List.not_mem_nil,or_false]at aN;subst aN;omega
  .rw[if_neg ba]at ai;have Vw:fU x.term≠0:=by rw[<-Jg.1];exact ba
   have Jh:=kinds Vw;by_cases iN:(x.args.map dQ).all isNum=true
   .rcases List.mem_cons.1 aN with rfl|aN
    .rcases Jh with⟨h,_⟩|⟨h,_⟩<;>omega
    .have mem:∀a:List bq,t∈eL a->∃y∈a,t∈dX y:=by
      intro a;induction a with
      |nil=>intro h;simp[eL]at h
      |cons y r Vx=>
       intro h;simp only[eL,List.mem_append]at h;rcases h with h|h
       .exact⟨y,by simp,h⟩
       .obtain⟨z,bz,h⟩:=Vx h;exact⟨z,by simp[bz],h⟩
     obtain⟨y,a2,Vy⟩:=mem _ aN;have Vz:isNum (dQ y)=true:=List.all_eq_true.1 iN _ (List.mem_map_of_mem a2);have cK:fE y<=n:=by
      have ab:=yE y a2;have ad:=yF x;omega
     exact ih y cK (yD Jg.2 y a2) (by simpa [isNum]using Vz) t Vy
   .rw[if_neg iN]at ai;change x.term.Kind=0 at ai;rcases Jh with⟨h,_⟩|⟨h,_⟩<;>omega
noncomputable def ta (l:cq) (S:Int->Bool) (p:Nat) (s:bD):Bool:=
 ((dQ (o2 (jM S l.Start (s.Next.getD p [])))).term.Kind==0)&&((dQ (o2 (jM S l.Start (s.Next.getD p [])))).term.Value==l.Start.getD p 0)
noncomputable def iy (l:cq) (S:Int->Bool) (p:Nat):Bool:=l.cY.all (ta l S p)
structure js (l:cq) (P:Nat):Prop where
 par:l.c1=(P:Int)
 le:P<=21
 st:l.Start.length=P
 VA:∀n∈l.Start,0<=n/\n<=63
 len:l.cY.length<=60
 Db:∀s∈l.cY,s.Next.length=P
 aq:∀s∈l.cY,∀e∈s.Next,∃v,hx e v 60=true
theorem Dc {l:cq} (h:nZ l=true):∃P,js l P:=by
 simp only[nZ,pX,gL,Bool.and_eq_true,beq_iff_eq,decide_eq_true_eq,List.all_eq_true]at h;obtain⟨⟨ab,ad⟩,⟨aB,aY⟩,bn,cb⟩:=h;refine⟨l.c1.toNat,by omega,by omega,by omega,aY,bn,λs aa=>?_,λs aa e he=>?_⟩
 .have:=cb s aa;simp only[nY,Bool.and_eq_true,beq_iff_eq]at this;have:=this.2.2.1;omega
 .have:=cb s aa;simp only[nY,Bool.and_eq_true,lG,List.all_eq_true]at this;exact⟨_,this.2.2.2.2.2 e he⟩
section
variable {l:cq} {P:Nat}
theorem js.Dd (h:js l P) {s:bD} (aa:s∈l.cY) {p:Nat} (ao:p<P):∃v,hx (s.Next.getD p []) v 60=true:=by
 have hl:=h.Db s aa;have:s.Next.getD p []=s.Next[p]'(by omega):=by rw[List.getD_eq_getElem?_getD,List.getElem?_eq_getElem (by omega)];rfl
 rw[this];exact h.aq s aa _ (List.getElem_mem _)
theorem js.tree (h:js l P) {s:bD} (aa:s∈l.cY) {p:Nat} (ao:p<P) (S:Int->Bool):
  i7 (o2 (jM S l.Start (s.Next.getD p [])))/\dX (o2 (jM S l.Start (s.Next.getD p [])))=jM S l.Start (s.Next.getD p []):=by
 obtain⟨v,aD⟩:=h.Dd aa ao;exact Vu (Vt h.VA aD)
theorem De (h:js l P) {S aF:Int->Bool} (bm:∀v,S v=true->aF v=true) {p:Nat} (ao:p<P) (ai:iy l S p=true):iy l aF p=true:=by
 simp only[iy,List.all_eq_true]at ai⊢;intro s aa;have oG:=ai s aa;obtain⟨t1,t2⟩:=h.tree aa ao S;have e:jM aF l.Start (s.Next.getD p [])=jM S l.Start (s.Next.getD p []):=by
  simp only[ta,Bool.and_eq_true,beq_iff_eq]at oG;have aU:=Vv _ _ (Nat.le_refl _) t1 oG.1;rw[t2]at aU;simp only[jM]at aU⊢;apply List.map_congr_left;intro t aN;have:=aU _ (List.mem_map_of_mem aN);unfold n1 at this⊢;by_cases ab:t.Kind=1
  .have kC:(t.Kind==1)=true:=by simp[ab]
   rw[kC,Bool.true_and]at this⊢;rw[Bool.true_and];cases k1:S t.Value
   .rw[k1,cond_false]at this;exact absurd ab this
   .rw[bm _ k1]
  .have kC:(t.Kind==1)=false:=by simpa using ab
   rw[kC];rfl
 simp only[ta]at oG⊢;rw[e];exact oG
theorem VB (h:js l P) (M:List Bool) (gM:M.length=P) (S:Int->Bool) (bm:∀v,0<=v->S v=M.getD v.toNat false) (p:Nat) (ao:p<P):xm l M (p:Int)=some (iy l S p):=by
 unfold xm iy;have hle:=h.le;have k1:=h.st;refine yy l.cY (ta l S p) (λm=>?_) λi aE m=>?_
 .simp only[uV,Bq];rw[fT (Nat.le_refl _)];rfl
 .simp only[uV,Bq];have aa:=List.getElem_mem aE;have hl:=h.len;have aU:=h.Db _ aa;rw[g3 aE,hf _ i aE,gh i _ aE (by omega)];simp only[cond_true,bind_some];obtain⟨v,aD⟩:=h.Dd aa ao;obtain⟨C7,C8⟩:=Jf aD;rw[pR _ p [] (by omega),bind_some,Vp _ M l.Start (by omega) (by omega) (by omega) C8 bm,bind_some];obtain⟨t1,t2⟩:=h.tree aa ao S;have cK:fE (o2 (jM S l.Start (l.cY[i].Next.getD p [])))<=60:=by
   rw[<-o0,t2];simp only[jM,List.length_map];exact C7
  have Ji:=Vm _ t1 (by omega);rw[t2]at Ji;rw[Ji,bind_some];have hw:=Ja _ t1;simp only[ta];generalize dQ (o2 (jM S l.Start (l.cY[i].Next.getD p [])))=y at hw;rw[m5];have a2:=(rq y).1 hw;by_cases ai:y.term.Kind=0
  .have bQ:y.args=[]:=by
    have:fU y.term=0:=by simp[fU,ai]
    rw[this]at a2;exact List.length_eq_zero_iff.1 a2.1
   have d1:(((y.term::eL y.args).length:Int) !=1)=false:=by rw[bQ];simp[eL]
   have d2:(y.term.Kind !=0)=false:=by simp[ai]
   have d3:(y.term.Kind==0)=true:=by simp[ai]
   rw[d1,cond_false,pS,bind_some,d2,cond_false,pR _ p 0 (by omega),bind_some,d3,Bool.true_and];cases aD:y.term.Value==l.Start.getD p 0
   .have:(y.term.Value !=l.Start.getD p 0)=true:=by simpa [bne]using aD
    rw[this];rfl
   .have:(y.term.Value !=l.Start.getD p 0)=false:=by simpa [bne]using aD
    rw[this];rfl
  .have d3:(y.term.Kind==0)=false:=by simpa using ai
   rw[d3,Bool.false_and,cond_false];cases aj:(((y.term::eL y.args).length:Int) !=1)
   .rw[cond_false,pS,bind_some];have d2:(y.term.Kind !=0)=true:=by simpa using ai
    rw[d2];rfl
   .rfl
theorem VC (h:js l P) (K:Xs) (hK:K.length<=1048576) (jH:∀v∈K,0<=v/\v<P) (S:Int->Bool) (bm:∀v,S v=decide (v∈K)) (p:Nat) (ao:p<P):q4 (p:Int) l K=some (!iy l S p):=by
 unfold q4 B0 BZ;have k1:=h.st;have hle:=h.le;have hl:=h.len;rw[vt (f:=λs=>xU s l (p:Int) K) l.cY (λs=> !ta l S p s) (λm i=>by simp only[xV,Hu]) (λs aa=>by
  unfold xU;have aU:=h.Db _ aa;obtain⟨v,aD⟩:=h.Dd aa ao;obtain⟨C7,C8⟩:=Jf aD;obtain⟨t1,t2⟩:=h.tree aa ao S;have wD:=U7 _ t1;rw[t2]at wD;rw[pR _ p [] (by omega),bind_some,Vq l _ K (by omega) hK (by rw[k1];exact jH) bm,bind_some,wD,bind_some,I9,Vd _ t1,bind_some,pR _ p 0 (by omega),bind_some];rfl) (by omega)]
 simp only[bind_some];rw[s9,yz];rfl
def vA (l:cq) (P:Nat) (T:Int->Bool):Prop:=∀v,T v=true->0<=v/\v<P/\iy l T v.toNat=true
open Classical in
noncomputable def mn (l:cq) (P:Nat) (v:Int):Bool:=decide (∃T,vA l P T/\T v=true)
theorem Df {v:Int}:mn l P v=true↔∃T,vA l P T/\T v=true:=by simp[mn]
theorem yJ (h:js l P):vA l P (mn l P):=by
 intro v aD;obtain⟨T,gx,aD⟩:=Df.1 aD;obtain⟨ab,ad,aB⟩:=gx v aD;exact⟨ab,ad,De h (λu hu=>Df.2 ⟨T,gx,hu⟩) (by omega) aB⟩
theorem Jj (h:js l P) {T:Int->Bool} (gx:vA l P T) (bf:∀v,mn l P v=true->T v=true) (v:Int):T v=mn l P v:=by
 rw[Bool.eq_iff_iff];exact⟨λaD=>Df.2 ⟨T,gx,aD⟩,bf v⟩
end
def lH (M:List Bool) (v:Int):Bool:=decide (0<=v)&&M.getD v.toNat false
theorem VD (M:List Bool):∀v,0<=v->lH M v=M.getD v.toNat false:=λv h=>by simp[lH,h]
noncomputable def jN (l:cq) (P:Nat):Nat->List Bool->List Bool
 |0,M=>M
 |r+1,M=>jN l P r (if M.getD (P-(r+1)) false=true/\iy l (lH M) (P-(r+1))=false then M.set (P-(r+1)) false else M)
noncomputable def m6 (l:cq) (P:Nat):Nat->List Bool->List Bool
 |0,M=>M
 |k+1,M=>m6 l P k (jN l P P M)
def lI:List Bool->Nat
 |[]=>0
 |b::r=>(if b=true then 1 else 0)+lI r
theorem Jk:∀M:List Bool,lI M<=M.length
 |[]=>Nat.le_refl _
 |b::r=>by have:=Jk r;simp only[lI,List.length_cons];split<;>omega
theorem Dg:∀(M:List Bool) (i:Nat),M.getD i false=true->lI (M.set i false)+1=lI M
 |[],i,h=>by simp at h
 |b::r,0,h=>by
  have:b=true:=by simpa using h
  subst this;simp only[List.set_cons_zero,lI];simp;omega
 |b::r,i+1,h=>by
  have:=Dg r i (by simpa using h);simp only[List.set_cons_succ,lI];omega
theorem VE (M:List Bool) (i j:Nat):(M.set i false).getD j false=if i=j then false else M.getD j false:=by
 rw[List.getD_eq_getElem?_getD,List.getD_eq_getElem?_getD,List.getElem?_set];by_cases h:i=j
 .subst h;by_cases ad:i<M.length
  .simp[ad]
  .simp[ad]
 .simp[h]
section
variable {l:cq} {P:Nat}
theorem Dh:∀(r:Nat) (M:List Bool),(jN l P r M).length=M.length
 |0,M=>rfl
 |r+1,M=>by
  simp only[jN];rw[Dh r];split<;>simp
def Inv (l:cq) (P:Nat) (M:List Bool):Prop:=∀v,mn l P v=true->lH M v=true
theorem Jl (h:js l P):∀(r:Nat) (M:List Bool),r<=P->Inv l P M->Inv l P (jN l P r M)
 |0,M,_,gM=>gM
 |r+1,M,aI,gM=>by
  simp only[jN];refine Jl h r _ (by omega) ?_;split
  .rename_i aj;intro v aD;have ab:=gM v aD;have U:=yJ h v aD;simp only[lH,Bool.and_eq_true,decide_eq_true_eq]at ab⊢;refine⟨ab.1,?_⟩;rw[VE];split
   .rename_i e;have ai:=De h gM (show v.toNat<P by omega) U.2.2;rw[<-e,aj.2]at ai;cases ai
   .exact ab.2
  .exact gM
theorem Jm:∀(r:Nat) (M:List Bool),lI (jN l P r M)<=lI M
 |0,M=>Nat.le_refl _
 |r+1,M=>by
  simp only[jN];refine Nat.le_trans (Jm r _) ?_;split
  .rename_i aj;have:=Dg M _ aj.1;omega
  .exact Nat.le_refl _
def vB (l:cq) (P:Nat) (M:List Bool) (i:Nat):Prop:=∀j,i<=j->j<P->M.getD j false=true->iy l (lH M) j=true
theorem Jn:∀(r:Nat) (M:List Bool),r<=P->(jN l P r M=M/\vB l P M (P-r))\/lI (jN l P r M)<lI M
 |0,M,_=>.inl ⟨rfl,λj ab ad=>by omega⟩
 |r+1,M,aI=>by
  simp only[jN];split
  .rename_i aj;right;have:=Dg M _ aj.1;have:=Jm (l:=l) (P:=P) r (M.set (P-(r+1)) false);omega
  .rename_i aj;rcases Jn r M (by omega)with⟨ab,ad⟩|ab
   .refine .inl ⟨ab,λj E3 z1 hm=>?_⟩;by_cases e:j=P-(r+1)
    .subst e;cases ai:iy l (lH M) (P-(r+1))with
     |true=>rfl
     |false=>exact absurd ⟨hm,ai⟩ aj
    .exact ad j (by omega) z1 hm
   .exact .inr ab
theorem Jo:∀(r:Nat) (M:List Bool),r<=P->vB l P M 0->jN l P r M=M
 |0,M,_,_=>rfl
 |r+1,M,aI,bk=>by
  simp only[jN];rw[if_neg]
  .exact Jo r M (by omega) bk
  .rintro⟨ab,ad⟩;rw[bk _ (zero_le _) (by omega) ab]at ad;cases ad
theorem Jp:∀(k:Nat) (M:List Bool),vB l P M 0->m6 l P k M=M
 |0,M,_=>rfl
 |k+1,M,bk=>by
  simp only[m6];rw[Jo P M (Nat.le_refl _) bk,Jp k M bk]
theorem Jq:∀(k:Nat) (M:List Bool),(m6 l P k M).length=M.length
 |0,M=>rfl
 |k+1,M=>by simp only[m6];rw[Jq k,Dh]
theorem Jr (h:js l P):∀(k:Nat) (M:List Bool),Inv l P M->Inv l P (m6 l P k M)
 |0,M,gM=>gM
 |k+1,M,gM=>Jr h k _ (Jl h P M (Nat.le_refl _) gM)
theorem Js:∀(k:Nat) (M:List Bool),vB l P (m6 l P k M) 0\/lI (m6 l P k M)+k<=lI M
 |0,M=>.inr (Nat.le_refl _)
 |k+1,M=>by
  simp only[m6];rcases Jn (l:=l) (P:=P) P M (Nat.le_refl _)with⟨ab,ad⟩|ab
  .rw[Nat.sub_self]at ad;rw[ab,Jp k M ad];exact .inl ad
  .rcases Js k (jN l P P M)with ad|ad
   .exact .inl ad
   .exact .inr (by omega)
noncomputable def ru (l:cq) (P:Nat):List Bool:=m6 l P (P+1) (List.replicate P true)
theorem Di:(ru l P).length=P:=by unfold ru;rw[Jq,List.length_replicate]
theorem VF (h:js l P) (v:Int):lH (ru l P) v=mn l P v:=by
 have hinv:Inv l P (ru l P):=Jr h _ _ λv aD=>by
  obtain⟨ab,ad,_⟩:=yJ h v aD;simp only[lH,Bool.and_eq_true,decide_eq_true_eq];refine⟨ab,?_⟩;rw[List.getD_eq_getElem?_getD,List.getElem?_replicate,if_pos (by omega)];rfl
 have bk:vB l P (ru l P) 0:=by
  rcases Js (l:=l) (P:=P) (P+1) (List.replicate P true)with ab|ab
  .exact ab
  .have:=Jk (List.replicate P true);rw[List.length_replicate]at this;omega
 refine Jj h (λv aD=>?_) hinv v;simp only[lH,Bool.and_eq_true,decide_eq_true_eq]at aD;have c8:v.toNat<P:=by
  have:=Di (l:=l) (P:=P);by_cases aj:v.toNat<P
  .exact aj
  .rw[List.getD_eq_getElem?_getD,List.getElem?_eq_none (by omega)]at aD;simp at aD
 exact⟨aD.1,by omega,bk v.toNat (zero_le _) c8 aD.2⟩
theorem VG (h:js l P) (jI:List Bool->Int->Option (List Bool)) (yK:Int) (M:List Bool) (gM:M.length=P):cC (λm=>pJ jI l m M yK 0)=jI (jN l P P M) (i64.wrap (yK+1)):=by
 have hle:=h.le;have key:∀r,r<=P->∀(M:List Bool) m,M.length=P->r<m->pJ jI l m M yK ((P-r:Nat):Int)=jI (jN l P r M) (i64.wrap (yK+1)):=by
  intro r;induction r with
  |zero=>
   intro _ M m gM hm;obtain⟨m,rfl⟩:∃j,m=j+1:=⟨m-1,by omega⟩
   simp only[pJ,Br];rw[h.par,Nat.sub_zero,fT (Nat.le_refl _)];rfl
  |succ r ih=>
   intro aI M m gM hm;obtain⟨m,rfl⟩:∃j,m=j+1:=⟨m-1,by omega⟩
   have aE:P-(r+1)<P:=by omega
   simp only[pJ,Br,uW];rw[h.par,g3 aE,pR M (P-(r+1)) false (by omega),gh (P-(r+1)) P aE (by omega),show P-(r+1)+1=P-r by omega];simp only[cond_true,bind_some,jN,Int.toNat_natCast];cases bf:M.getD (P-(r+1)) false
   .rw[cond_false,if_neg (by simp),ih (by omega) M m gM (by omega)]
   .rw[cond_true,VB h M gM (lH M) (VD M) _ aE,bind_some];cases ai:iy l (lH M) (P-(r+1))
    .rw[if_pos ⟨rfl,rfl⟩];exact ih (by omega) _ m (by simpa using gM) (by omega)
    .rw[if_neg (by simp)];exact ih (by omega) M m gM (by omega)
 refine fV (P+1) λm hm=>?_;have:=key P (Nat.le_refl _) M m gM (by omega);rw[Nat.sub_self]at this;exact this
theorem VH (h:js l P):xn l=some (ru l P):=by
 have hle:=h.le;unfold xn;rw[h.par,vm 1 (n:=P) (by omega) (by decide),bind_some,Int.toNat_natCast];have jI:∀k,k<=P+1->∀(M:List Bool) m,M.length=P->k<m->oJ l m M ((P+1-k:Nat):Int)=some (m6 l P k M):=by
  intro k;induction k with
  |zero=>
   intro _ M m gM hm;obtain⟨m,rfl⟩:∃j,m=j+1:=⟨m-1,by omega⟩
   simp only[oJ,Bs];rw[h.par,show decide (((P+1-0:Nat):Int)<=(P:Int))=false by simp only[decide_eq_false_iff_not];omega];rfl
  |succ k ih=>
   intro ai M m gM hm;obtain⟨m,rfl⟩:∃j,m=j+1:=⟨m-1,by omega⟩
   simp only[oJ,Bs];rw[h.par,show decide (((P+1-(k+1):Nat):Int)<=(P:Int))=true by simp only[decide_eq_true_eq];omega,cond_true,VG h _ _ M gM,gh (P+1-(k+1)) (P+1) (by omega) (by omega),show P+1-(k+1)+1=P+1-k by omega];exact ih (by omega) _ m (by rw[Dh];exact gM) (by omega)
 have dp:∀r,r<=P->∀m,r<m->sq l m (List.replicate (P-r) true++List.replicate r false) ((P-r:Nat):Int)=some (ru l P):=by
  intro r;induction r with
  |zero=>
   intro _ m hm;obtain⟨m,rfl⟩:∃j,m=j+1:=⟨m-1,by omega⟩
   simp only[sq,Bt];rw[h.par,Nat.sub_zero,fT (Nat.le_refl _),cond_false,List.replicate_zero,List.append_nil];refine fV (P+2) λm hm=>?_;have:=jI (P+1) (Nat.le_refl _) (List.replicate P true) m (by simp) (by omega);rw[Nat.sub_self]at this;exact this
  |succ r ih=>
   intro aI m hm;obtain⟨m,rfl⟩:∃j,m=j+1:=⟨m-1,by omega⟩
   have aE:P-(r+1)<P:=by omega
   simp only[sq,Bt];rw[h.par,g3 aE,pR _ (P-(r+1)) false (by simp only[List.length_append,List.length_replicate];omega),gh (P-(r+1)) P aE (by omega)];simp only[cond_true,bind_some,Int.toNat_natCast];rw[List.set_append_right _ _ (by simp),List.length_replicate,Nat.sub_self,List.replicate_succ,List.set_cons_zero];have e:List.replicate (P-(r+1)) true++true::List.replicate r false=List.replicate (P-r) true++List.replicate r false:=by
    rw[show P-r=(P-(r+1))+1 by omega,List.replicate_succ',List.append_assoc];rfl
   rw[e,show P-(r+1)+1=P-r by omega];exact ih (by omega) m (by omega)
 refine fV (P+1) λm hm=>?_;have:=dp P (Nat.le_refl _) m (by omega);rw[Nat.sub_self,List.replicate_zero,List.nil_append]at this;exact this
end
theorem VI (M:List Bool) (gM:M.length<=1000000):xp M true=some (((List.range M.length).filter λi=>M.getD i false).map λ(i:Nat)=>(i:Int)):=by
 unfold xp;have key:∀i,i<=M.length->∀(out:Xs) m,M.length-i<m->out.length<=i->qX M true m out (i:Int)=some (out++(((List.range M.length).drop i).filter λi=>M.getD i false).map λ(i:Nat)=>(i:Int)):=by
  refine down M.length ?_ ?_
  .intro out m hm bG;obtain⟨m,rfl⟩:∃j,m=j+1:=⟨m-1,by omega⟩
   simp only[qX,Bu];rw[fT (Nat.le_refl _),List.drop_of_length_le (by simp)];simp
  .intro i aE ih out m hm bG;obtain⟨m,rfl⟩:∃j,m=j+1:=⟨m-1,by omega⟩
   simp only[qX,Bu,xo];rw[g3 aE,pR M i false aE,gh i _ aE (by omega),drop_cons _ i (by simpa using aE),List.getElem_range];simp only[cond_true,bind_some,List.filter_cons];cases bf:M.getD i false
   .simp only[Bool.false_eq_true,if_false,show(false==true)=false from rfl,cond_false];exact ih out m (by omega) (by omega)
   .simp only[if_true,beq_self_eq_true,cond_true];rw[ml (by omega) (by omega),bind_some,ih _ m (by omega) (by simp only[List.length_append,List.length_cons,List.length_nil];omega),List.append_assoc];rfl
 refine fV (M.length+1) λm hm=>?_;have:=key 0 (zero_le _) [] m (by omega) (by simp);simpa using this
def jO (K:Xs) (v:Int):Bool:=decide (v∈K)
theorem VJ (e:Xs) (h:e.length<=1048576):xM e=some e:=by
 unfold xM;rw[ml (by omega) (by omega)];cases e with
 |nil=>simp[both]
 |cons x r=>rfl
def fz (P:Nat):Xs:=(List.range P).map λ(i:Nat)=>(i:Int)
theorem VK (P:Nat) (bs:P<=1000000):xL (P:Int)=some (fz P):=by
 unfold xL;have key:∀i,i<=P->∀m,P-i<m->sA (P:Int) m (fz i) (i:Int)=some (fz P):=by
  refine down P ?_ ?_
  .intro m hm;obtain⟨m,rfl⟩:∃j,m=j+1:=⟨m-1,by omega⟩
   simp only[sA,BL];rw[fT (Nat.le_refl _)];rfl
  .intro i aE ih m hm;obtain⟨m,rfl⟩:∃j,m=j+1:=⟨m-1,by omega⟩
   simp only[sA,BL];rw[g3 aE,gh i _ aE (by omega),ml (by simp only[fz,List.length_map,List.length_range];omega) (by simp only[fz,List.length_map,List.length_range];omega)];simp only[cond_true,bind_some];have e:fz i++[(i:Int)]=fz (i+1):=by simp[fz,List.range_succ]
   rw[e];exact ih m (by omega)
 refine fV (P+1) λm hm=>?_;exact key 0 (zero_le _) m (by omega)
theorem Jt {p:Int->Bool}:∀(a:Xs) (i:Nat),kh p i a= -1->∀x∈a,p x=false
 |[],_,_,x,an=>by cases an
 |y::r,i,h,x,an=>by
  simp only[kh]at h;by_cases a2:p y=true
  .rw[if_pos a2]at h;omega
  .rw[if_neg a2]at h;rcases List.mem_cons.1 an with rfl|an
   .simpa using a2
   .exact Jt r _ h x an
theorem Ju {p:Int->Bool}:∀(a:Xs) (i:Nat),kh p i a≠-1->∃k,kh p i a=((i+k:Nat):Int)/\k<a.length/\(∀x∈a.take k,p x=false)/\∃y,a[k]? =some y/\p y=true
 |[],_,h=>by simp[kh]at h
 |y::r,i,h=>by
  simp only[kh]at h⊢;by_cases a2:p y=true
  .rw[if_pos a2];exact⟨0,by simp,by simp,by simp,y,rfl,a2⟩
  .rw[if_neg a2]at h⊢;obtain⟨k,ab,ad,aB,aY⟩:=Ju r (i+1) h;refine⟨k+1,by rw[ab];omega,by simpa using ad,?_,by simpa using aY⟩;intro x an;rw[List.take_succ_cons]at an;rcases List.mem_cons.1 an with rfl|an
   .simpa using a2
   .exact aB x an
section
variable {l:cq} {P:Nat}
theorem VL (a:Xs) (K:Xs) (g:Int->Bool) (bQ:a.length<=1000000) (bk:∀x∈a,q4 x l K=some (!g x)):
  xY a l K=some (a.filter g):=by
 unfold xY B1;rw[vt (f:=λx=>q4 x l K) a (λx=> !g x) (λm i=>by simp only[xW,Hv]) bk (by omega)];simp only[bind_some];by_cases aE:kh (λx=> !g x) 0 a= -1
 .rw[aE];have:=Jt a 0 aE;simp only[beq_self_eq_true,cond_true];rw[List.filter_eq_self.2 λx an=>by simpa using this x an]
 .obtain⟨k,ab,ad,aB,y,aY,bn⟩:=Ju a 0 aE;have U:(kh (λx=> !g x) 0 a== -1)=false:=by simpa using aE
  rw[U,cond_false,ab];simp only[Nat.zero_add];have key:∀j,j<=a.length->∀(v:Xs) (c:Nat) m,a.length-j<m->v.length=a.length->c<=j->v.take c=(a.take j).filter g->v.drop j=a.drop j->
    q5 l K m v (c:Int) (j:Int)=some (a.filter g):=by
   refine down a.length ?_ ?_
   .intro v c m hm aD aj aN af;obtain⟨m,rfl⟩:∃j,m=j+1:=⟨m-1,by omega⟩
    simp only[q5,B2];rw[aD,fT (Nat.le_refl _),cond_false,IB v c (by omega)];simp only[bind_some];rw[IB _ c (by simp only[List.length_append,List.length_take,List.length_replicate];omega)];have e:(v.take c++List.replicate (a.length-(v.take c).length) 0).take c=v.take c:=List.take_left' (by rw[List.length_take];omega);rw[e,aN,List.take_length];rfl
   .intro j b6 ih v c m hm aD aj aN af;obtain⟨m,rfl⟩:∃j,m=j+1:=⟨m-1,by omega⟩
    have Dj:j<v.length:=by omega
    have an:v[j]=a[j]:=by
     have ab:=drop_cons v j Dj;have ad:=drop_cons a j b6;rw[af,ad]at ab;exact(List.cons.inj ab).1.symm
    have nj:v.drop (j+1)=a.drop (j+1):=by
     have ab:=drop_cons v j Dj;have ad:=drop_cons a j b6;rw[af,ad]at ab;exact(List.cons.inj ab).2.symm
    have rU:a.take (j+1)=a.take j++[a[j]]:=by rw[List.take_add_one,List.getElem?_eq_getElem b6];rfl
    simp only[q5,B2,xX];rw[aD,g3 b6,cond_true,hf v j Dj,an,bind_some,bk _ (List.getElem_mem b6),bind_some,Bool.not_not,gh j a.length b6 (by omega)];cases bf:g a[j]
    .rw[cond_false];refine ih v c m (by omega) aD (by omega) ?_ nj;rw[rU,List.filter_append,aN];simp[bf]
    .rw[cond_true,hf v c (by omega),bind_some,gh c a.length (by omega) (by omega),Int.toNat_natCast];refine ih _ (c+1) m (by omega) (by simpa using aD) (by omega) ?_ ?_
     .rw[rU,List.filter_append,<-aN];simp only[List.filter_cons,bf,if_true,List.filter_nil];rw[List.take_add_one,List.getElem?_set_self (by omega),List.take_set_of_le (Nat.le_refl _)];rfl
     .rw[List.drop_set_of_lt (by omega)];exact nj
  have oG:i64.wrap ((k:Int)+1)=((k+1:Nat):Int):=gh k a.length ad (by omega);rw[oG];refine fV (a.length+1) λm hm=>?_;refine key (k+1) (by omega) a k m (by omega) rfl (by omega) ?_ rfl;obtain⟨cb,cc⟩:=List.getElem?_eq_some_iff.1 aY;have yI:g a[k]=false:=by rw[cc];simpa using bn
  rw[List.take_add_one,List.getElem?_eq_getElem ad,List.filter_append];have aM:(a.take k).filter g=a.take k:=List.filter_eq_self.2 λx an=>by simpa using aB x an
  rw[aM];simp[yI]
noncomputable def n2 (l:cq):Nat->Xs->Xs
 |0,K=>K
 |n+1,K=>if(K.filter λv=>iy l (jO K) v.toNat).length=K.length then K else n2 l n (K.filter λv=>iy l (jO K) v.toNat)
theorem Jv (h:js l P):∀(n:Nat) (K:Xs),K.length<=n->(∀v∈K,0<=v/\v<P)->(∀v,mn l P v=true->v∈K)->
  (∃f:Int->Bool,n2 l n K=K.filter f)/\vA l P (jO (n2 l n K))/\∀v,mn l P v=true->v∈n2 l n K
 |0,K,aU,jH,bf=>by
  have:K=[]:=List.length_eq_zero_iff.1 (by omega);subst this;exact⟨⟨λ_=>true,rfl⟩,λv aD=>by simp[n2,jO]at aD,bf⟩
 |n+1,K,aU,jH,bf=>by
  simp only[n2];split
  .rename_i he;refine⟨⟨λ_=>true,(List.filter_eq_self.2 λ_ _=>rfl).symm⟩,λv aD=>?_,bf⟩;have hm:v∈K:=by simpa [jO]using aD
   have iN:=(List.length_filter_eq_length_iff).1 he v hm;exact⟨(jH v hm).1,(jH v hm).2,iN⟩
  .rename_i he;have hle:=List.length_filter_le (λv=>iy l (jO K) v.toNat) K;obtain⟨⟨f,bk⟩,ad,aB⟩:=Jv h n (K.filter λv=>iy l (jO K) v.toNat) (by omega) (λv aD=>jH v (List.mem_filter.1 aD).1) λv aD=>by
    obtain⟨aO,a3,bJ⟩:=yJ h v aD;exact List.mem_filter.2 ⟨bf v aD,De h (λu hu=>by simpa [jO]using bf u hu) (by omega) bJ⟩
   exact⟨⟨λv=>iy l (jO K) v.toNat&&f v,by rw[bk,List.filter_filter];congr 1;funext v;rw[Bool.and_comm]⟩,ad,aB⟩
theorem Jw (h:js l P):∀(n:Nat) (K:Xs),K.length<=n->n<=1000->(∀v∈K,0<=v/\v<P)->∀m,n<m->sH l m K=some (n2 l n K)
 |n,K,aU,Xo,jH,m,hm=>by
  obtain⟨m,rfl⟩:∃j,m=j+1:=⟨m-1,by omega⟩
  simp only[sH,Hw];rw[VJ K (by omega),bind_some,VL K K (λv=>iy l (jO K) v.toNat) (by omega) (λx an=>by
   obtain⟨ab,ad⟩:=jH x an;have:=VC h K (by omega) jH (jO K) (λ_=>rfl) x.toNat (by omega)
   rwa [show((x.toNat:Nat):Int)=x by omega]at this),bind_some]
  have hle:=List.length_filter_le (λv=>iy l (jO K) v.toNat) K;by_cases he:(K.filter λv=>iy l (jO K) v.toNat).length=K.length
  .have d:(((K.filter λv=>iy l (jO K) v.toNat).length:Int)==(K.length:Int))=true:=by simp[he]
   rw[d,cond_true];cases n with
   |zero=>rfl
   |succ n=>simp only[n2];rw[if_pos he]
  .have d:(((K.filter λv=>iy l (jO K) v.toNat).length:Int)==(K.length:Int))=false:=by
    rw[beq_eq_false_iff_ne];omega
   rw[d,cond_false];cases n with
   |zero=>omega
   |succ n=>
    simp only[n2];rw[if_neg he];exact Jw h n _ (by omega) (by omega) (λv aD=>jH v (List.mem_filter.1 aD).1) m (by omega)
theorem VM (h:js l P):xZ l=some ((fz P).filter (mn l P)):=by
 have hle:=h.le;unfold xZ;rw[h.par,VK P (by omega),bind_some];have hlen:(fz P).length=P:=by simp[fz]
 have jH:∀v∈fz P,0<=v/\v<P:=by
  intro v aD;simp only[fz,List.mem_map,List.mem_range]at aD;obtain⟨i,aE,rfl⟩:=aD;omega
 have pB:∀v,mn l P v=true->v∈fz P:=by
  intro v aD;obtain⟨ab,ad,_⟩:=yJ h v aD;simp only[fz,List.mem_map,List.mem_range];exact⟨v.toNat,by omega,by omega⟩
 obtain⟨⟨f,bk⟩,ad,aB⟩:=Jv h P (fz P) (by omega) jH pB;have dT:cC (λm=>sH l m (fz P))=some (n2 l P (fz P)):=fV (P+1) λm hm=>Jw h P _ (by omega) (by omega) jH m (by omega);rw[dT,bk];congr 1;apply List.filter_congr;intro v aD;have:=Jj h ad (λv aD=>by simpa [jO]using aB v aD) v;rw[<-this];simp only[jO,bk,List.mem_filter,aD,true_and];cases f v<;>simp
end
noncomputable def pZ (l:cq):Xs×Int:=cond (nZ l) ((fz l.c1.toNat).filter (mn l l.c1.toNat),0) ([],1)
theorem VN (l:cq) (h:vv l):xq l=some (pZ l):=by
 unfold xq pZ;rw[UN l h];cases aD:nZ l
 .rfl
 .obtain⟨P,bs⟩:=Dc aD;have hle:=bs.le;simp only[bind_some,Bool.not_true,cond_false,cond_true];rw[VH bs,bind_some,VI _ (by rw[Di];omega),bind_some,Di,bs.par,Int.toNat_natCast];congr 2;rw[fz,List.filter_map];congr 1;apply List.filter_congr;intro i aE;simp only[Function.comp_apply];rw[<-VF bs];simp[lH]
theorem VO (l:cq) (h:vv l):u0 l=some (pZ l):=by
 unfold u0 pZ;rw[UU l h];cases aD:nZ l
 .rfl
 .obtain⟨P,bs⟩:=Dc aD;simp only[bind_some,Bool.not_true,cond_false,cond_true];rw[VM bs,bs.par,Int.toNat_natCast];rfl
theorem VP (l:cq):(pZ l).1.length<=1000:=by
 unfold pZ;cases aD:nZ l
 .simp
 .obtain⟨P,bs⟩:=Dc aD;have hle:=bs.le;simp only[cond_true];refine Nat.le_trans (List.length_filter_le _ _) ?_;rw[bs.par,Int.toNat_natCast];simp only[fz,List.length_map,List.length_range];omega
theorem T3 (a:kx) (bQ:w7 a):Cb a=some true:=by
 unfold Cb;rw[Uk a 1048576 bQ (by omega) (by omega)];simp only[bind_some];rcases Nat.lt_or_ge 1048576 (pV a)with h|h
 .rw[yq (by omega)];rfl
 rw[CS (by omega)];have aM:decide ((1048576:Int)-((pV a:Nat):Int)<0)=false:=by simp only[decide_eq_false_iff_not];omega
 rw[aM,cond_false,Uq a h];simp only[bind_some];have hl:nW (vq a)<=1048576:=by rw[Up];exact h
 generalize vq a=x at hl;have an:=UW x hl;have aI:=VP x;obtain⟨g1,gC,h3,c,bx,dZ⟩:=Uy x 1 (by omega) (by omega);obtain⟨u,f,f1,gQ,jT⟩:=C0 (pZ x).1 1 (by omega) (by omega);simp only[VN x an,VO x an,bind_some,CZ _ (show(pZ x).1.length+0<=1048576 by omega),Uu x hl,dZ,gQ,jT,Bool.not_true,bne_self_eq_false,Bool.or_self,cond_false,IH (k:=1+(c:Int)) (by omega),IH (k:=1+(f:Int)) (by omega)]
end Go.nI
