/- Part of a proof that a law returns true for every input. No condition. -/
import Derived.Test.YtndfcecbamffaaaGreatUV2x
import Derived.Test.YtndfcecbamffaaaGreatUV1x
namespace Go.ob
open Option Go.IntKind Nat Or
open Go Go.dD
theorem JE {α:Type} {f:α->Nat} {c:Nat}:∀{l:List α},(∀x∈l,f x<=c)->eX f l<=l.length*c
 |[],_=>by simp[eX]
 |x::r,h=>by
  have af:=h x (by simp);have ag:=JE (l:=r) λy bu=>h y (by simp[bu]);simp only[eX,List.length_cons,Nat.add_mul];omega
theorem JF {α:Type} {f:α->Nat} {c k:Nat} {l:List α} (hl:l.length<=k) (h:∀x∈l,f x<=c):gb f l<=k*(c+1):=by
 have af:=JE h;have ag:l.length*c<=k*c:=mul_le_mul_right c hl;simp only[gb,Nat.mul_add,Nat.mul_one];omega
theorem DK {es:ahK} {v:Int} (h:ni es v=true):∀e∈es,e.length+0<=60:=by
 intro e he;simp only[ni,List.all_eq_true]at h;have:=h e he;simp only[kL,Bool.and_eq_true,decide_eq_true_eq]at this;omega
theorem afq {x:aN} {p:Int} (h:jn x p=true) (aw:p<=21):ku x<=1600:=by
 have qs:=DJ h;simp only[jn,Bool.and_eq_true]at h;obtain⟨af,ag,_,a_,bC,cw⟩:=h;simp only[oA,Bool.and_eq_true,decide_eq_true_eq]at af;simp only[kL,Bool.and_eq_true,decide_eq_true_eq]at ag;have lh:x.Name.length<=10/\x.aW.length<=2:=by
  split at a_
  .rename_i aZ;rw[aZ];simp only[decide_eq_true_eq]at a_;simp[tK,a_]
  .simp only[jF,tI,Bool.and_eq_true,decide_eq_true_eq]at a_;omega
 have er:=JF lh.2 (DK bC);have hd:=JF (k:=21) (by omega) (DK cw);unfold ku;omega
theorem afr {l:a8} (h:jo l=true):mL l<=1048576:=by
 obtain⟨fp,fP,ha,qD,e9⟩:=rh h;have:=JF (f:=ku) qD (λx aA=>afq (e9 x aA) fP);unfold mL;omega
theorem afs (n:Int) (bA:0<=n) (h:n<=1099511627776):CP n=some []:=by
 unfold CP HS CO;have fV:i64.wrap 0=0:=gg 0 (by omega);have a1:i64.wrap (n-0)=n:=by rw[gg (n-0) (by omega)];omega
 have d:decide (n<0)=false:=by simp only[decide_eq_false_iff_not];omega
 rw[d,fV,a1,show lv 16 n=some () by unfold lv;rw[if_pos ⟨by omega,by omega,by omega⟩]];cases decide (0<n)<;>rfl
theorem Q1 (ls:ahK) (h:ls.length<=1048576) (ae:fE ls<=1099511627776):zV ls=some ls.flatten:=by
 have m9:cm (λn=>vc ls n [] 0)=some ls.flatten:=by
  have key:∀i,i<=ls.length->∀(v:ahO) m,v.length+fE (ls.drop i)<=1099511627776->ls.length-i<m->vc ls m v (i:Int)=some (v++(ls.drop i).flatten):=by
   refine down ls.length ?_ ?_
   .intro v m _ hm;obtain⟨m,rfl⟩:∃az,m=az+1:=⟨m-1,by omega⟩
    simp only[vc,HU];rw[dY (Nat.le_refl _),List.drop_of_length_le (Nat.le_refl _)];simp
   .intro i aq ih v m aP hm;obtain⟨m,rfl⟩:∃az,m=az+1:=⟨m-1,by omega⟩
    rw[drop_cons ls i aq]at aP⊢;simp only[fE,eX]at aP;simp only[vc,HU];rw[eP aq,fD _ i aq,eW i _ aq (by omega)];simp only[cond_true,bind_some];rw[gl (by omega) (by omega)];simp only[bind_some];rw[ih _ m (by simp only[List.length_append,fE];omega) (by omega)];simp only[List.flatten_cons,List.append_assoc]
  refine hT (ls.length+1) λm hm=>?_;have:=key 0 (by omega) [] m (by simpa using ae) (by omega);simpa using this
 unfold zV;have key:∀i,i<=ls.length->∀(v:Int) m,0<=v->v+fE (ls.drop i)<=1099511627776->ls.length-i<m->vd ls m v (i:Int)=some ls.flatten:=by
  refine down ls.length ?_ ?_
  .intro v m bA aP hm;obtain⟨m,rfl⟩:∃az,m=az+1:=⟨m-1,by omega⟩
   simp only[vd,HV];rw[dY (Nat.le_refl _),afs v bA (by omega)];simp only[cond_false,bind_some];exact m9
  .intro i aq ih v m bA aP hm;obtain⟨m,rfl⟩:∃az,m=az+1:=⟨m-1,by omega⟩
   rw[drop_cons ls i aq]at aP;simp only[fE,eX]at aP;simp only[vd,HV,HT];rw[eP aq,fD _ i aq,eW i _ aq (by omega)];simp only[cond_true,bind_some];have e:i64.wrap (v+(ls[i].length:Int))=v+(ls[i].length:Int):=gg (v+(ls[i].length:Int)) ⟨by omega,by omega⟩;have d:decide (v+(ls[i].length:Int)<0)=false:=by simp only[decide_eq_false_iff_not];omega
   rw[e,d,cond_false];exact ih _ m (by omega) (by simp only[fE];omega) (by omega)
 refine hT (ls.length+1) λm hm=>?_;exact key 0 (by omega) 0 m (by omega) (by rw[List.drop_zero];omega) (by omega)
theorem Q2 (es:ahK) (a b:a8) (x:aN) (h:pn es):zS es a b x=some (es.map (fT a.aE b.aE)):=by
 unfold zS;have:=k8 (L:=xi es x a b) es (fT a.aE b.aE) 0 some (λm v aP=>?_) (λi aq m v aP=>?_) [] (by simp)
 .simpa using this
 .simp only[xi,HO];rw[dY (Nat.le_refl _)];rfl
 .have af:=h.1;simp only[xi,HO,zR];rw[eP aq,fD _ i aq,eW i _ aq (by omega)];simp only[cond_true,bind_some];rw[tM _ _ _ (h.2 _ (List.getElem_mem aq))];simp only[bind_some];rw[gl (by omega) (by omega)];rfl
theorem aft (l a b:a8) (h:kh l):CM l a b=some ⟨l.aE,l.Start,l.aU.map (gM a.aE b.aE)⟩:=by
 obtain⟨af,ag,aJ⟩:=h;unfold CM;rw[tN _ af];simp only[bind_some];refine k8 (L:=xj l a b l.Start) l.aU (gM a.aE b.aE) 0 (λv=>some ⟨l.aE,l.Start,v⟩) (λm v aP=>?_) (λi aq m v aP=>?_) [] (by simp)
 .simp only[xj,HP];rw[dY (Nat.le_refl _)];rfl
 .obtain⟨aa,ak,aL,a2,aY⟩:=aJ _ (List.getElem_mem aq);simp only[xj,HP,zR];rw[eP aq,fD _ i aq,eW i _ aq (by omega)];simp only[cond_true,bind_some];rw[tN _ aa,tM _ _ _ ak,Q2 _ a b _ a2,Q2 _ a b _ aY];simp only[bind_some];rw[gl (by omega) (by omega)];rfl
def oD (g:ahO->ahO) (x:aN):aN:=⟨x.a5,g x.Guard,x.Name,x.aW.map g,x.Next.map g⟩
def ml (p q k:Int) (e:ahO):ahO:=fT 0 p (fT q k e)
theorem DL (f b:Int) (e:ahO):(fT f b e).length=e.length:=List.length_map ..
theorem JG (p q k:Int) (e:ahO):(ml p q k e).length=e.length:=by rw[ml,DL,DL]
theorem Q3 (a b:a8) (x y:aN) (e:ahO) (h:e.length<=1048576):zT y e b x a=some (ml a.aE b.aE (x.a5.length:Int) e):=by
 unfold zT;rw[tM _ _ _ h];simp only[bind_some];rw[tM _ _ _ (by rw[DL];exact h)];rfl
theorem Q4 (es:ahK) (a b:a8) (x y:aN) (h:pn es):zU es b x a y=some (es.map (ml a.aE b.aE (x.a5.length:Int))):=by
 unfold zU;have:=k8 (L:=xk es y b x a) es (ml a.aE b.aE (x.a5.length:Int)) 0 some (λm v aP=>?_) (λi aq m v aP=>?_) [] (by simp)
 .simpa using this
 .simp only[xk,HQ];rw[dY (Nat.le_refl _)];rfl
 .have af:=h.1;simp only[xk,HQ];rw[eP aq,fD _ i aq,eW i _ aq (by omega)];simp only[cond_true,bind_some];rw[Q3 _ _ _ _ _ (h.2 _ (List.getElem_mem aq))];simp only[bind_some];rw[gl (by omega) (by omega)];rfl
theorem afu (l a b:a8) (x:aN) (h:kh l):CN l b x a=some ⟨l.aE,l.Start,l.aU.map (oD (ml a.aE b.aE (x.a5.length:Int)))⟩:=by
 obtain⟨af,ag,aJ⟩:=h;unfold CN;rw[tN _ af];simp only[bind_some];refine k8 (L:=xl l b x a l.Start) l.aU (oD (ml a.aE b.aE (x.a5.length:Int))) 0 (λv=>some ⟨l.aE,l.Start,v⟩) (λm v aP=>?_) (λi aq m v aP=>?_) [] (by simp)
 .simp only[xl,HR];rw[dY (Nat.le_refl _)];rfl
 .obtain⟨aa,ak,aL,a2,aY⟩:=aJ _ (List.getElem_mem aq);simp only[xl,HR];rw[eP aq,fD _ i aq,eW i _ aq (by omega)];simp only[cond_true,bind_some];rw[tN _ aa,Q3 _ _ _ _ _ ak,Q4 _ a b x _ a2,Q4 _ a b x _ aY];simp only[bind_some];rw[gl (by omega) (by omega)];rfl
theorem Q5 {v:Int}:∀(e:ahO) (k:Nat),so v e k=true->∀t∈e,t.Kind=1->0<=t.Value/\t.Value<=v-1
 |[],_,_,t,aZ,_=>by simp at aZ
 |x::r,k,h,t,aZ,au=>by
  simp only[so,Bool.and_eq_true]at h;rcases List.mem_cons.1 aZ with rfl|aZ
  .have:=h.2.1;simpa [tH,au,iX]using this
  .exact Q5 r _ h.2.2 t aZ au
theorem afv {e:ahO} {v m:Int} (h:kL e v m=true):∀t∈e,t.Kind=1->0<=t.Value/\t.Value<=v-1:=by
 simp only[kL,Bool.and_eq_true]at h;exact Q5 e 1 h.2
def AL (e:ahO):Prop:=∀t∈e,t.Kind=1->0<=t.Value/\t.Value<=1000
theorem JH {e:ahO} {v m:Int} (h:kL e v m=true) (aP:v<=1000):AL e:=λt aZ au=>by
 have:=afv h t aZ au;omega
theorem afw (p q k:Int) (aw:0<=p/\p<=1000) (cM:0<=q/\q<=1000) (au:0<=k/\k<=1000) (t:ar) (h:t.Kind=1->0<=t.Value/\t.Value<=1000):rf (i64.wrap (p+q)) k (rf 0 p t)=rf 0 p (rf q k t):=by
 rw[gg (p+q) (by omega)];unfold rf;by_cases af:t.Kind=1
 .obtain⟨ag,aJ⟩:=h af;have a1:(t.Kind==1)=true:=by simpa using af
  have d0:decide (0<=t.Value)=true:=decide_eq_true ag;have J:i64.wrap (t.Value+p)=t.Value+p:=gg _ (by omega);by_cases Q6:q<=t.Value
  .have d1:decide (q<=t.Value)=true:=decide_eq_true Q6;have aB:i64.wrap (t.Value+k)=t.Value+k:=gg _ (by omega);have d2:decide (p+q<=t.Value+p)=true:=decide_eq_true (by omega);have d3:decide (0<=t.Value+k)=true:=decide_eq_true (by omega);simp only[a1,d0,d1,J,aB,d2,d3,Bool.and_self,cond_true];rw[show t.Value+k+p=t.Value+p+k by omega]
  .have d1:decide (q<=t.Value)=false:=decide_eq_false Q6;have d2:decide (p+q<=t.Value+p)=false:=decide_eq_false (by omega);simp only[a1,d0,d1,J,d2,Bool.and_self,Bool.and_false,cond_true,cond_false]
 .have a1:(t.Kind==1)=false:=by simpa using af
  simp only[a1,Bool.false_and,cond_false]
theorem afx (p q k:Int) (aw:0<=p/\p<=1000) (cM:0<=q/\q<=1000) (au:0<=k/\k<=1000) (e:ahO) (h:AL e):fT (i64.wrap (p+q)) k (fT 0 p e)=ml p q k e:=by
 unfold ml fT;rw[List.map_map,List.map_map];exact List.map_congr_left λt aZ=>afw p q k aw cM au t (h t aZ)
theorem afy {x:aN} {q:Int} (h:jn x q=true) (cM:q<=21):AL x.Guard/\(∀e∈x.aW,AL e)/\(∀e∈x.Next,AL e):=by
 simp only[jn,Bool.and_eq_true]at h;obtain⟨af,ag,_,_,bC,cw⟩:=h;simp only[oA,Bool.and_eq_true,decide_eq_true_eq]at af;simp only[ni,List.all_eq_true]at bC cw;exact⟨JH ag (by omega),λe he=>JH (bC e he) (by omega),λe he=>JH (cw e he) (by omega)⟩
theorem afz (p q k:Int) (aw:0<=p/\p<=21) (cM:0<=q/\q<=21) (au:0<=k/\k<=8) (y:aN) (h:jn y q=true):gM (i64.wrap (p+q)) k (gM 0 p y)=oD (ml p q k) y:=by
 obtain⟨v1,v2,Fq⟩:=afy h cM.2;have r:=λe he=>afx p q k (by omega) (by omega) (by omega) e he;have bc:(y.aW.map (fT 0 p)).map (fT (i64.wrap (p+q)) k)=y.aW.map (ml p q k):=by
  rw[List.map_map];exact List.map_congr_left λe he=>r e (v2 e he)
 have bb:(y.Next.map (fT 0 p)).map (fT (i64.wrap (p+q)) k)=y.Next.map (ml p q k):=by
  rw[List.map_map];exact List.map_congr_left λe he=>r e (Fq e he)
 show aN.mk _ _ _ ((y.aW.map (fT 0 p)).map (fT (i64.wrap (p+q)) k)) ((y.Next.map (fT 0 p)).map (fT (i64.wrap (p+q)) k))=_;rw[bc,bb];simp only[gM];rw[r _ v1];rfl
def oE (x:aN):Prop:=x.a5.length<=8/\x.Guard.length<=60/\(x.aW.length<=2/\∀e∈x.aW,e.length<=60)/\(x.Next.length<=21/\∀e∈x.Next,e.length<=60)
theorem xW {x:aN} {p:Int} (h:jn x p=true) (aw:p<=21):oE x:=by
 have qs:=DJ h;simp only[jn,Bool.and_eq_true]at h;obtain⟨af,ag,_,a_,bC,cw⟩:=h;simp only[oA,Bool.and_eq_true,decide_eq_true_eq]at af;simp only[kL,Bool.and_eq_true,decide_eq_true_eq]at ag;have hX:x.aW.length<=2:=by
  split at a_
  .simp only[decide_eq_true_eq]at a_;omega
  .simp only[Bool.and_eq_true,decide_eq_true_eq]at a_;exact a_.2
 exact⟨af.1,by omega,⟨hX,λe he=>by have:=DK bC e he;omega⟩,⟨by omega,λe he=>by have:=DK cw e he;omega⟩⟩
theorem DM {x:aN} (g:ahO->ahO) (bP:∀e,(g e).length=e.length) (h:oE x):oE (oD g x):=by
 obtain⟨af,ag,⟨aJ,a_⟩,⟨bC,cw⟩⟩:=h;refine⟨af,?_,⟨?_,?_⟩,⟨?_,?_⟩⟩
 .show(g x.Guard).length<=60;rw[bP];exact ag
 .show(x.aW.map g).length<=2;rw[List.length_map];exact aJ
 .intro e he;obtain⟨u,hu,rfl⟩:=List.mem_map.1 he;rw[bP];exact a_ u hu
 .show(x.Next.map g).length<=21;rw[List.length_map];exact bC
 .intro e he;obtain⟨u,hu,rfl⟩:=List.mem_map.1 he;rw[bP];exact cw u hu
def vC (a b:ahO):ahO:=([⟨2,3⟩]++a)++b
def nW:ahK->ahO
 |[]=>[]
 |[e]=>e
 |e::f::r=>⟨2,7⟩::(e++nW (f::r))
theorem JI:∀es:ahK,(nW es).length<=fE es+es.length
 |[]=>by simp[nW]
 |[e]=>by simp[nW,fE,eX]
 |e::f::r=>by
  have:=JI (f::r);simp only[nW,fE,eX,List.length_cons,List.length_append]at this⊢;omega
theorem afA (es:ahK) (ba:es≠[]) (h:es.length<=1048576) (ae:fE es<=1048576):w3 es=some (nW es):=by
 unfold w3;have fV:((es.length:Int)==0)=false:=by
  cases es with
  |nil=>exact absurd rfl ba
  |cons x r=>simp only[List.length_cons,beq_eq_false_iff_ne,ne_eq];omega
 rw[fV,cond_false];have key:∀i,i<=es.length->∀(v:ahO) m,v.length+fE (es.drop i)+(es.length-i)<=4194304->es.length-i<m->u2 es m v (i:Int)=some (v++nW (es.drop i)):=by
  refine down es.length ?_ ?_
  .intro v m _ hm;obtain⟨m,rfl⟩:∃az,m=az+1:=⟨m-1,by omega⟩
   simp only[u2,G7];rw[dY (Nat.le_refl _),List.drop_of_length_le (Nat.le_refl _)];simp[nW]
  .intro i aq ih v m aP hm;obtain⟨m,rfl⟩:∃az,m=az+1:=⟨m-1,by omega⟩
   rw[drop_cons es i aq]at aP⊢;simp only[fE,eX]at aP;simp only[u2,G7,Cg];rw[eP aq,fD _ i aq,eW i _ aq (by omega)];simp only[cond_true,bind_some];by_cases hl:i+1<es.length
   .rw[eP hl];simp only[cond_true];rw[gl (by omega) (by omega)];simp only[bind_some];rw[gl (by simp only[List.length_append,List.length_cons,List.length_nil];omega) (by simp only[List.length_append,List.length_cons,List.length_nil];omega)];simp only[bind_some];rw[ih _ m (by simp only[List.length_append,List.length_cons,List.length_nil,fE];omega) (by omega),drop_cons es (i+1) hl];simp only[nW,List.append_assoc,List.cons_append,List.nil_append]
   .rw[dY (show es.length<=i+1 by omega)];simp only[cond_false];rw[gl (by omega) (by omega)];simp only[bind_some];rw[ih _ m (by simp only[List.length_append,fE];omega) (by omega),List.drop_of_length_le (show es.length<=i+1 by omega)];simp[nW]
 refine hT (es.length+1) λm hm=>?_;have:=key 0 (by omega) [] m (by rw[List.drop_zero];simp only[List.length_nil];omega) (by omega);simpa using this
theorem Q7:∀(es:ahK),es≠[]->es.length<=1048576->fE es<=1048576->∀n,es.length<n->zW n es=some (nW es)
 |[],h,_,_,_,_=>absurd rfl h
 |[e],_,_,ae,n,ba=>by
  obtain⟨n,rfl⟩:∃az,n=az+1:=⟨n-1,by omega⟩
  simp only[fE,eX]at ae;show xm _ [e]=_;unfold xm;have mr:((([e]:ahK).length:Int)==0)=false:=rfl;have b1:((([e]:ahK).length:Int)==1)=true:=rfl;rw[mr,b1,xQ];simp only[cond_true,cond_false,bind_some];rw[QN e (by omega)];rfl
 |e::f::r,_,h,ae,n,ba=>by
  obtain⟨n,rfl⟩:∃az,n=az+1:=⟨n-1,by omega⟩
  have aC:=JI (f::r);simp only[fE,eX,List.length_cons]at ae h ba aC;show xm _ (e::f::r)=_;unfold xm;have mr:(((e::f::r).length:Int)==0)=false:=by simp only[List.length_cons,beq_eq_false_iff_ne,ne_eq];omega
  have b1:(((e::f::r).length:Int)==1)=false:=by simp only[List.length_cons,beq_eq_false_iff_ne,ne_eq];omega
  rw[mr,b1,xQ,aej];simp only[cond_false,bind_some];rw[Q7 (f::r) (by simp) (by simp only[List.length_cons];omega) (by simp only[fE,eX];omega) n (by simp only[List.length_cons];omega)];simp only[bind_some];rw[Q1 _ (by simp) (by simp only[fE,eX,List.length_cons,List.length_nil];omega)];simp[nW]
theorem afB (es:ahK) (ba:es≠[]) (h:es.length<=1048576) (ae:fE es<=1048576):xn es=some (nW es):=by
 unfold xn;exact hT (es.length+1) λm hm=>Q7 es ba h ae m (by omega)
theorem afC (a b:ahO) (bY:a.length<=1048576) (U:b.length<=1048576):CQ a b=some (vC a b):=by
 unfold CQ;rw[Q1 _ (by simp) (by simp only[fE,eX,List.length_cons,List.length_nil];omega)];simp[vC]
def po (x y:aN):ahK:=(x.aW.zip y.aW).map λz=>vC z.1 z.2
def tP (x y:aN) (h6:ahz):aN:=⟨x.a5++y.a5,nW ([x.Guard,y.Guard]++po x y),h6,x.aW,x.Next++y.Next⟩
def Q8 (s:aN):ahB×ahO×ahz×ahK×ahK:=(s.a5,s.Guard,s.Name,s.aW,s.Next)
def qu (p q:Int) (x y:aN) (h6:ahz):aN:=tP (gM p q x) (oD (ml p q (x.a5.length:Int)) y) h6
theorem JJ (x y:aN) (aA:oE x) (bu:oE y):([x.Guard,y.Guard]++po x y).length<=4/\fE ([x.Guard,y.Guard]++po x y)<=484:=by
 obtain⟨aa,ak,⟨aL,a2⟩,⟨aY,bj⟩⟩:=aA;obtain⟨fg,gd,⟨tD,oz⟩,⟨AE,DN⟩⟩:=bu;have hl:([x.Guard,y.Guard]++po x y).length<=4:=by
  simp only[po,List.length_append,List.length_map,List.length_zip,List.length_cons,List.length_nil];omega
 refine⟨hl,?_⟩;have h:=JE (f:=List.length) (c:=121) (l:=[x.Guard,y.Guard]++po x y) (λe he=>by
  simp only[List.mem_append,List.mem_cons,List.not_mem_nil,or_false,po,List.mem_map]at he;rcases he with(rfl|rfl)|⟨z,b3,rfl⟩
  .omega
  .omega
  .have J:=a2 _ (List.of_mem_zip b3).1;have aB:=oz _ (List.of_mem_zip b3).2;simp only[vC,List.length_append,List.length_cons,List.length_nil];omega)
 have ag:([x.Guard,y.Guard]++po x y).length*121<=4*121:=mul_le_mul_right _ hl;simp only[fE];omega
theorem Q9 (x y:aN):[x.Guard,y.Guard]++po x y≠[]:=by simp
theorem afD (h6:ahz) (p:Int) (J:ahB) (aB:ahP) (q:Int) (gr:ahB) (dL:ahP) (oZ:ahB) (s1:ahO) (s2:ahz) (kV k_:ahK) (aD:ahB) (dZ:ahO) (bD:ahz) (dS cG:ahK) (x y:aN) (aA:oE x) (bu:oE y) (hl:x.aW.length=y.aW.length):
  cm (λn=>u3 h6 p J aB q gr dL oZ s1 s2 kV k_ aD dZ bD dS cG x y n (List.map (λx=>(false,x)) y.aW) [x.Guard,y.Guard] 0)=some (Q8 (tP x y h6)):=by
 obtain⟨o3,rY⟩:=JJ x y aA bu;obtain⟨aa,ak,⟨aL,a2⟩,⟨aY,bj⟩⟩:=aA;obtain⟨fg,gd,⟨tD,oz⟩,⟨AE,DN⟩⟩:=bu;rw[DF];have b3:(x.aW.zip y.aW).length=x.aW.length:=by rw[List.length_zip,hl,Nat.min_self]
 refine(k8 (L:=λm v i=>u3 h6 p J aB q gr dL oZ s1 s2 kV k_ aD dZ bD dS cG x y m (oB y.aW i) v i) (x.aW.zip y.aW) (λz=>vC z.1 z.2) 2 (λv=>(w3 v).bind λbj=>(room 24 (x.Next.length+y.Next.length)).bind λ_=>some (x.a5++y.a5,bj,h6,x.aW,x.Next++y.Next)) (λm v aP=>?_) (λi aq m v aP=>?_) [x.Guard,y.Guard] (by simp)).trans ?_
 .rw[b3];simp only[u3,G8];rw[dY (Nat.le_refl _)];rfl
 .have n4:i<x.aW.length:=by omega
  have rQ:i<y.aW.length:=by omega
  have di:=a2 _ (List.getElem_mem n4);have l2:=oz _ (List.getElem_mem rQ);simp only[u3,G8];rw[eP n4,fD _ i n4,DG _ i rQ,eW i _ n4 (by omega)];simp only[cond_true,bind_some,Bool.not_false,show nk true=some ()from rfl,DH _ i rQ];rw[gl (by omega) (by omega)];simp only[bind_some];rw[gl (by simp only[List.length_append,List.length_cons,List.length_nil];omega) (by simp only[List.length_append,List.length_cons,List.length_nil];omega)];simp only[bind_some];rw[gl (by omega) (by omega)];simp only[bind_some,List.getElem_zip,vC]
 .show(w3 ([x.Guard,y.Guard]++po x y)).bind _=_;rw[afA _ (Q9 x y) (by omega) (by omega)];simp only[bind_some];rw[gl (by omega) (by omega)];rfl
theorem afE (h6:ahz) (x y:aN) (aA:oE x) (bu:oE y) (hl:x.aW.length=y.aW.length):cm (λn=>ve h6 x y n [x.Guard,y.Guard] 0)=some (tP x y h6):=by
 obtain⟨o3,rY⟩:=JJ x y aA bu;obtain⟨aa,ak,⟨aL,a2⟩,⟨aY,bj⟩⟩:=aA;obtain⟨fg,gd,⟨tD,oz⟩,⟨AE,DN⟩⟩:=bu;have b3:(x.aW.zip y.aW).length=x.aW.length:=by rw[List.length_zip,hl,Nat.min_self]
 refine(k8 (L:=ve h6 x y) (x.aW.zip y.aW) (λz=>vC z.1 z.2) 2 (λv=>(ti [x.a5,y.a5]).bind λcn=>(xn v).bind λcC=>(tk [x.Next,y.Next]).bind λdw=>some ⟨cn,cC,h6,x.aW,dw⟩) (λm v aP=>?_) (λi aq m v aP=>?_) [x.Guard,y.Guard] (by simp)).trans ?_
 .rw[b3];simp only[ve,HW];rw[dY (Nat.le_refl _)];rfl
 .have n4:i<x.aW.length:=by omega
  have rQ:i<y.aW.length:=by omega
  have di:=a2 _ (List.getElem_mem n4);have l2:=oz _ (List.getElem_mem rQ);simp only[ve,HW];rw[eP n4,fD _ i n4,fD _ i rQ,eW i _ n4 (by omega)];simp only[cond_true,bind_some];rw[afC _ _ (by omega) (by omega)];simp only[bind_some];rw[gl (by omega) (by omega)];simp only[bind_some,List.getElem_zip]
 .show(ti [x.a5,y.a5]).bind (λcn=>(xn ([x.Guard,y.Guard]++po x y)).bind _)=_;rw[QT _ _ (by omega) (by omega),afB _ (Q9 x y) (by omega) (by omega),Jz _ _ (by omega) (by omega)];rfl
theorem afF {x:aN} (h:oE x) (ba:x.Name.length<=1048576):k7 x:=by
 obtain⟨af,ag,⟨aJ,a_⟩,⟨bC,cw⟩⟩:=h;exact⟨by omega,by omega,ba,⟨by omega,λe he=>by have:=a_ e he;omega⟩,⟨by omega,λe he=>by have:=cw e he;omega⟩⟩
theorem DO {x:aN} (f b:Int) (h:oE x):oE (gM f b x):=DM (fT f b) (DL f b) h
theorem afG (p q:Int) (aw:0<=p/\p<=21) (cM:0<=q/\q<=21) (J:ahB) (aB:ahP) (gr:ahB) (dL:ahP) (x y:aN) (h6:ahz) (aA:k7 x) (bu:k7 y) (ff:jn x p=true) (gP:jn y q=true) (hl:x.aW.length=y.aW.length):
  Ch p J aB q gr dL x.a5 x.Guard x.Name x.aW x.Next y.a5 y.Guard y.Name y.aW y.Next h6=some (Q8 (qu p q x y h6)):=by
 have vD:=xW ff aw.2;have ty:=xW gP cM.2;have t1:=vD.1;unfold Ch;rw[AH _ _ _ (show k7 (aN.mk x.a5 x.Guard x.Name x.aW x.Next)from aA),AH _ _ _ (show k7 (aN.mk y.a5 y.Guard y.Name y.aW y.Next)from bu)];simp only[bind_some];rw[AH _ _ _ (afF (DO 0 p (show oE (aN.mk y.a5 y.Guard y.Name y.aW y.Next)from ty)) bu.2.2.1)];rw[afz p q _ aw cM (by omega) (aN.mk y.a5 y.Guard y.Name y.aW y.Next) gP];simp only[bind_some];rw[gl (by have:=ty.1;simp only[gM,oD];omega) (by have:=ty.1;simp only[gM,oD];omega)];simp only[bind_some];exact afD h6 p J aB q gr dL _ _ _ _ _ _ _ _ _ _ (gM p q x) (oD (ml p q (x.a5.length:Int)) y) (DO p q vD) (DM _ (JG p q _) ty) (by simpa [gM,oD]using hl)
theorem afH (a b:a8) (aw:0<=a.aE/\a.aE<=21) (cM:0<=b.aE/\b.aE<=21) (x y:aN) (h6:ahz) (aA:k7 x) (bu:k7 y) (ff:jn x a.aE=true) (gP:jn y b.aE=true) (hl:x.aW.length=y.aW.length):
  CS a b x y h6=some (qu a.aE b.aE x y h6):=by
 have vD:=xW ff aw.2;have ty:=xW gP cM.2;have Q_:∀(p:Int) (z:aN),k7 z->kh ⟨p,[],[z]⟩:=λp z b3=>⟨by simp,by simp,λw hw=>by
  have:w=z:=by simpa using hw
  rw[this];exact b3⟩
 unfold CS;rw[aft _ a b (Q_ _ x aA)];simp only[bind_some,List.map_cons,List.map_nil,xQ];rw[afu _ a b x (Q_ _ y bu)];simp only[bind_some,List.map_cons,List.map_nil,xQ];exact afE h6 (gM a.aE b.aE x) (oD (ml a.aE b.aE (x.a5.length:Int)) y) (DO _ _ vD) (DM _ (JG _ _ _) ty) (by simpa [gM,oD]using hl)
theorem afI (p q:Int) (aw:p<=21) (cM:q<=21) (x y:aN) (h6:ahz) (ba:h6.length<=1048576) (ff:jn x p=true) (gP:jn y q=true):k7 (qu p q x y h6):=by
 have vD:=DO p q (xW ff aw);have ty:=DM _ (JG p q (x.a5.length:Int)) (xW gP cM);obtain⟨o3,rY⟩:=JJ _ _ vD ty;have s8:=JI ([(gM p q x).Guard,(oD (ml p q (x.a5.length:Int)) y).Guard]++po (gM p q x) (oD (ml p q (x.a5.length:Int)) y));obtain⟨aa,ak,⟨aL,a2⟩,⟨aY,bj⟩⟩:=vD;obtain⟨fg,gd,⟨tD,oz⟩,⟨AE,DN⟩⟩:=ty;refine⟨by simp only[qu,tP,List.length_append];omega,by simp only[qu,tP];omega,ba,⟨by simp only[qu,tP];omega,λe he=>by have:=a2 e he;omega⟩,⟨by simp only[qu,tP,List.length_append];omega,λe he=>?_⟩⟩;simp only[qu,tP,List.mem_append]at he;rcases he with he|he
 .have:=bj e he;omega
 .have:=DN e he;omega
def pq (ms:ahQ) (x y:aN):Int:=kK (qt ms (g4 false x.Name y.Name) (g4 true x.Name y.Name)) 0 ms.length
def su (ms:ahQ) (x y:aN):Bool:= !(decide (pq ms x y<0))&&((x.aW.length:Int)==(y.aW.length:Int))
def AM (ms:ahQ) (p q:Int) (x y:aN):ahP:=cond (su ms x y) [qu p q x y (nj ms (pq ms x y))] []
def ri (ms:ahQ) (p q:Int) (x:aN) (b:ahP):ahP:=b.flatMap (AM ms p q x)
def kN (ms:ahQ) (p q:Int) (a b:ahP):ahP:=a.flatMap λx=>ri ms p q x b
theorem Ra (ms:ahQ) (p q:Int) (x y:aN) (b:ahP):ri ms p q x (y::b)=AM ms p q x y++ri ms p q x b:=by simp[ri]
theorem Rb (ms:ahQ) (p q:Int) (x:aN) (a b:ahP):kN ms p q (x::a) b=ri ms p q x b++kN ms p q a b:=by simp[kN]
theorem afJ {ms:ahQ} (gI:oC ms=true) (x y:aN):((nj ms (pq ms x y)==([]:ahz))||((x.aW.length:Int) !=(y.aW.length:Int)))= !(su ms x y):=by
 unfold su;have hl:=JD (qt ms (g4 false x.Name y.Name) (g4 true x.Name y.Name)) ms.length 0;have b3:pq ms x y<((0+ms.length:Nat):Int):=hl;cases h:decide (pq ms x y<0)
 .have bA:¬pq ms x y<0:=of_decide_eq_false h;have aV:=afp gI (pq ms x y).toNat (by omega);simp only[nj,h,cond_false,aV,Bool.false_or,Bool.not_false,Bool.true_and,bne]
 .simp only[nj,h,cond_true,Bool.not_true,Bool.false_and,Bool.not_false];rfl
abbrev vE:Type:=Int×ahB×ahP×Bool
def mm (K:ahP->Option vE):ahP->ahP->Option vE
 |[],v=>K v
 |s::r,v=>(room 112 (v.length+1)).bind λ_=>cond (decide (60<((v++[s]).length:Int))) (some (0,[],[],false)) (mm K r (v++[s]))
def lP (K:a8->Option a8):ahP->a8->Option a8
 |[],l=>K l
 |s::r,l=>cond (decide ((l.aU.length:Int)<=60)) ((room 112 (l.aU.length+1)).bind λ_=>lP K r ⟨l.aE,l.Start,l.aU++[s]⟩) (lP K r l)
theorem Rc (K:ahP->Option vE) (cr:ahP):∀xs v,mm K (xs++cr) v=mm (λw=>mm K cr w) xs v
 |[],v=>rfl
 |s::r,v=>by
  simp only[List.cons_append,mm];rw[Rc K cr r]
theorem JK (K:a8->Option a8) (cr:ahP):∀xs v,lP K (xs++cr) v=lP (λw=>lP K cr w) xs v
 |[],v=>rfl
 |s::r,v=>by
  simp only[List.cons_append,lP];rw[JK K cr r,JK K cr r]
def rj (p:Int) (a:ahP):Prop:=a.length<=1048576/\∀x∈a,k7 x/\jn x p=true
theorem afK (ms:ahQ) (hm:ms.length<=1048576) (gI:oC ms=true) (p q:Int) (aw:0<=p/\p<=21) (cM:0<=q/\q<=21) (J gr:ahB) (aB dL:ahP) (aa:a8) (sv:rj p aB) (qv:rj q dL)
  (c0:ahP->Int->Option vE) (i:Nat) (aq:i<aB.length) (v:ahP):
  cm (λn=>r3 c0 ms p J aB q gr dL aa n v (i:Int) 0)=mm (λw=>c0 w (i64.wrap ((i:Int)+1))) (ri ms p q aB[i] dL) v:=by
 have U:=qv.1;have key:∀az,az<=dL.length->∀v m,dL.length-az<m->r3 c0 ms p J aB q gr dL aa m v (i:Int) (az:Int)=mm (λw=>c0 w (i64.wrap ((i:Int)+1))) (ri ms p q aB[i] (dL.drop az)) v:=by
  refine down dL.length ?_ ?_
  .intro v m hm;obtain⟨m,rfl⟩:∃az,m=az+1:=⟨m-1,by omega⟩
   simp only[r3,G9];rw[dY (Nat.le_refl _),List.drop_of_length_le (Nat.le_refl _)];rfl
  .intro az ch ih v m JL;obtain⟨m,rfl⟩:∃az,m=az+1:=⟨m-1,by omega⟩
   obtain⟨pG,ff⟩:=sv.2 _ (List.getElem_mem aq);obtain⟨rC,gP⟩:=qv.2 _ (List.getElem_mem ch);rw[drop_cons dL az ch,Ra];simp only[r3,G9,Ci];rw[eP ch,fD _ i aq,fD _ az ch,eW az _ ch (by omega)];simp only[cond_true,bind_some];rw[afn ms hm];simp only[bind_some];rw[show kK (qt ms (g4 false aB[i].Name dL[az].Name) (g4 true aB[i].Name dL[az].Name)) 0 ms.length=pq ms aB[i] dL[az]from rfl,afJ gI];unfold AM;cases i9:su ms aB[i] dL[az]
   .simp only[Bool.not_false,cond_true,cond_false,List.nil_append];exact ih v m (by omega)
   .have hl:aB[i].aW.length=dL[az].aW.length:=by
     simp only[su,Bool.and_eq_true,beq_iff_eq]at i9;omega
    simp only[Bool.not_true,cond_false,cond_true,List.cons_append,List.nil_append];rw[afG p q aw cM J aB gr dL _ _ _ pG rC ff gP hl];generalize qu p q aB[i] dL[az] (nj ms (pq ms aB[i] dL[az]))=s;have e:=ih (v++[s]) m (by omega);show(room 112 (v.length+1)).bind (λ_=>cond (decide (60<((v++[s]).length:Int))) (some (0,[],[],false)) (r3 c0 ms p J aB q gr dL aa m (v++[s]) (i:Int) ((az+1:Nat):Int)))=_;rw[e];rfl
 refine hT (dL.length+1) λm hm=>?_;exact key 0 (by omega) v m (by omega)
noncomputable def xX (aa:a8) (v:ahP):Option vE:=(uY (a8.mk aa.aE aa.Start v)).bind λbj=>some (aa.aE,aa.Start,v,bj)
theorem afL (ms:ahQ) (hm:ms.length<=1048576) (gI:oC ms=true) (p q:Int) (aw:0<=p/\p<=21) (cM:0<=q/\q<=21) (J gr:ahB) (aB dL:ahP) (aa:a8) (sv:rj p aB) (qv:rj q dL) (v:ahP):
  cm (λn=>qb ms p J aB q gr dL aa n v 0)=mm (xX aa) (kN ms p q aB dL) v:=by
 have bY:=sv.1;have key:∀i,i<=aB.length->∀v m,aB.length-i<m->qb ms p J aB q gr dL aa m v (i:Int)=mm (xX aa) (kN ms p q (aB.drop i) dL) v:=by
  refine down aB.length ?_ ?_
  .intro v m hm;obtain⟨m,rfl⟩:∃az,m=az+1:=⟨m-1,by omega⟩
   simp only[qb,G_];rw[dY (Nat.le_refl _),List.drop_of_length_le (Nat.le_refl _)];rfl
  .intro i aq ih v m JL;obtain⟨m,rfl⟩:∃az,m=az+1:=⟨m-1,by omega⟩
   simp only[qb,G_];rw[eP aq,cond_true,afK ms hm gI p q aw cM J gr aB dL aa sv qv _ i aq v,eW i _ aq (by omega),drop_cons aB i aq,Rb,Rc];rw[show(λw=>qb ms p J aB q gr dL aa m w ((i+1:Nat):Int))=λw=>mm (xX aa) (kN ms p q (aB.drop (i+1)) dL) w from funext λw=>ih w m (by omega)]
 refine hT (aB.length+1) λm hm=>?_;exact key 0 (by omega) v m (by omega)
theorem afM (ms:ahQ) (hm:ms.length<=1048576) (a b:a8) (aw:0<=a.aE/\a.aE<=21) (cM:0<=b.aE/\b.aE<=21) (x:aN) (pG:k7 x) (ff:jn x a.aE=true) (qv:rj b.aE b.aU)
  (iD:a8->Int->Option a8) (z:Int) (v:a8):
  cm (λn=>tp iD a b ms x n v z 0)=lP (λw=>iD w (i64.wrap (z+1))) (ri ms a.aE b.aE x b.aU) v:=by
 have U:=qv.1;have key:∀az,az<=b.aU.length->∀v m,b.aU.length-az<m->tp iD a b ms x m v z (az:Int)=lP (λw=>iD w (i64.wrap (z+1))) (ri ms a.aE b.aE x (b.aU.drop az)) v:=by
  refine down b.aU.length ?_ ?_
  .intro v m hm;obtain⟨m,rfl⟩:∃az,m=az+1:=⟨m-1,by omega⟩
   simp only[tp,HX];rw[dY (Nat.le_refl _),List.drop_of_length_le (Nat.le_refl _)];rfl
  .intro az ch ih v m JL;obtain⟨m,rfl⟩:∃az,m=az+1:=⟨m-1,by omega⟩
   obtain⟨rC,gP⟩:=qv.2 _ (List.getElem_mem ch);rw[drop_cons b.aU az ch,Ra];simp only[tp,HX,CT];rw[eP ch,fD _ az ch,eW az _ ch (by omega)];simp only[cond_true,bind_some];rw[afo ⟨[],[],ms,[],[]⟩ hm x.Name b.aU[az].Name (pq ms x b.aU[az]) rfl];simp only[bind_some];rw[show(!(decide (pq ms x b.aU[az]<0))&&((x.aW.length:Int)==(b.aU[az].aW.length:Int)))=su ms x b.aU[az]from rfl];unfold AM;cases i9:su ms x b.aU[az]
   .simp only[Bool.false_and,cond_false,List.nil_append];exact ih v m (by omega)
   .have hl:x.aW.length=b.aU[az].aW.length:=by
     simp only[su,Bool.and_eq_true,beq_iff_eq]at i9;omega
    simp only[Bool.true_and,cond_true,List.cons_append,List.nil_append,lP];rw[afH a b aw cM x _ _ pG rC ff gP hl];simp only[bind_some];rw[ih _ m (by omega),ih v m (by omega)]
 refine hT (b.aU.length+1) λm hm=>?_;exact key 0 (by omega) v m (by omega)
theorem afN (ms:ahQ) (hm:ms.length<=1048576) (a b:a8) (aw:0<=a.aE/\a.aE<=21) (cM:0<=b.aE/\b.aE<=21) (sv:rj a.aE a.aU) (qv:rj b.aE b.aU) (v:a8):
  cm (λn=>qd a b ms n v 0)=lP some (kN ms a.aE b.aE a.aU b.aU) v:=by
 have bY:=sv.1;have key:∀i,i<=a.aU.length->∀v m,a.aU.length-i<m->qd a b ms m v (i:Int)=lP some (kN ms a.aE b.aE (a.aU.drop i) b.aU) v:=by
  refine down a.aU.length ?_ ?_
  .intro v m hm;obtain⟨m,rfl⟩:∃az,m=az+1:=⟨m-1,by omega⟩
   simp only[qd,HY];rw[dY (Nat.le_refl _),List.drop_of_length_le (Nat.le_refl _)];rfl
  .intro i aq ih v m JL;obtain⟨m,rfl⟩:∃az,m=az+1:=⟨m-1,by omega⟩
   obtain⟨pG,ff⟩:=sv.2 _ (List.getElem_mem aq);simp only[qd,HY];rw[eP aq,fD _ i aq];simp only[cond_true,bind_some];rw[afM ms hm a b aw cM _ pG ff qv _ _ v,eW i _ aq (by omega),drop_cons a.aU i aq,Rb,JK];rw[show(λw=>qd a b ms m w ((i+1:Nat):Int))=λw=>lP some (kN ms a.aE b.aE (a.aU.drop (i+1)) b.aU) w from funext λw=>ih w m (by omega)]
 refine hT (a.aU.length+1) λm hm=>?_;exact key 0 (by omega) v m (by omega)
theorem Rd {K:ahP->Option vE}:∀(ms v:ahP),v.length+ms.length<=60->mm K ms v=K (v++ms)
 |[],v,_=>by simp[mm]
 |s::r,v,h=>by
  simp only[List.length_cons]at h;have d:decide (60<((v++[s]).length:Int))=false:=decide_eq_false (by simp only[List.length_append,List.length_cons,List.length_nil];omega);simp only[mm];rw[gl (by omega) (by omega),d];simp only[bind_some,cond_false];rw[Rd r _ (by simp only[List.length_append,List.length_cons,List.length_nil];omega)];simp
theorem Re {K:ahP->Option vE}:∀(ms v:ahP),ms≠[]->v.length<=1048576->60<v.length+ms.length->mm K ms v=some (0,[],[],false)
 |[],_,h,_,_=>absurd rfl h
 |s::r,v,_,aP,h=>by
  simp only[List.length_cons]at h;simp only[mm];rw[gl (by omega) (by omega)];simp only[bind_some];by_cases hl:v.length+1<=60
  .have d:decide (60<((v++[s]).length:Int))=false:=decide_eq_false (by simp only[List.length_append,List.length_cons,List.length_nil];omega);rw[d,cond_false];refine Re r _ (λaV=>?_) (by simp only[List.length_append,List.length_cons,List.length_nil];omega) (by simp only[List.length_append,List.length_cons,List.length_nil];omega);subst aV;simp only[List.length_nil]at h;omega
  .have d:decide (60<((v++[s]).length:Int))=true:=decide_eq_true (by simp only[List.length_append,List.length_cons,List.length_nil];omega);rw[d];rfl
theorem Rf:∀(ms:ahP) (l:a8),l.aU.length+ms.length<=60->lP some ms l=some ⟨l.aE,l.Start,l.aU++ms⟩
 |[],l,_=>by simp[lP]
 |s::r,l,h=>by
  simp only[List.length_cons]at h;have d:decide ((l.aU.length:Int)<=60)=true:=decide_eq_true (by omega);simp only[lP];rw[gl (by omega) (by omega),d];simp only[bind_some,cond_true];rw[Rf r _ (by simp only[List.length_append,List.length_cons,List.length_nil];omega)];simp
theorem JM:∀(ms:ahP) (l:a8),60<l.aU.length+ms.length->l.aU.length<=1048576->(∀s∈l.aU,k7 s)->(∀s∈ms,k7 s)->∃w,lP some ms l=some ⟨l.aE,l.Start,w⟩/\60<w.length/\w.length<=1048576/\∀s∈w,k7 s
 |[],l,h,ag,aJ,_=>⟨l.aU,rfl,by simpa using h,ag,aJ⟩
 |s::r,l,h,ag,aJ,a_=>by
  simp only[List.length_cons]at h;simp only[lP];rw[gl (by omega) (by omega)];simp only[bind_some];by_cases hl:l.aU.length<=60
  .have d:decide ((l.aU.length:Int)<=60)=true:=decide_eq_true (by omega);rw[d,cond_true];exact JM r ⟨l.aE,l.Start,l.aU++[s]⟩ (by simp only[List.length_append,List.length_cons,List.length_nil];omega) (by simp only[List.length_append,List.length_cons,List.length_nil];omega) (λt aZ=>by
    rcases List.mem_append.1 aZ with aZ|aZ
    .exact aJ t aZ
    .have:t=s:=by simpa using aZ
     rw[this];exact a_ s (by simp)) (λt aZ=>a_ t (by simp[aZ]))
  .have d:decide ((l.aU.length:Int)<=60)=false:=decide_eq_false (by omega);rw[d,cond_false];exact JM r l (by omega) ag aJ (λt aZ=>a_ t (by simp[aZ]))
theorem afO {ms:ahQ} (h:sr ms) (z:Int):(nj ms z).length<=1048576:=by
 unfold nj;cases decide (z<0)
 .show(dB ms z.toNat).Result.length<=_;by_cases b3:z.toNat<ms.length
  .exact(QY h b3).2.2
  .have:dB ms z.toNat=⟨[],[],[]⟩:=by
    unfold dB;simp[List.getD,List.getElem?_eq_none (show ms.length<=z.toNat by omega)]
   rw[this];simp
 .simp
theorem Rg {ms:ahQ} (h:sr ms) {p q:Int} (aw:p<=21) (cM:q<=21) {a b:ahP} (sv:rj p a) (qv:rj q b):∀s∈kN ms p q a b,k7 s:=by
 intro s ae;simp only[kN,ri,List.mem_flatMap]at ae;obtain⟨x,aA,y,bu,ae⟩:=ae;unfold AM at ae;cases i9:su ms x y
 .rw[i9]at ae;simp at ae
 .rw[i9]at ae;have:s=qu p q x y (nj ms (pq ms x y)):=by simpa using ae
  rw[this];exact afI p q aw cM x y _ (afO h _) (sv.2 x aA).2 (qv.2 y bu).2
theorem DP {l:a8} (h:60<l.aU.length):jo l=false:=by
 unfold jo;have d:decide (l.aU.length<=60)=false:=decide_eq_false (by omega);rw[d];simp
def mn (a b:a8) (ms:ahQ):a8:=
 ⟨(hE a b a.aE.toNat b.aE.toNat).aE,(hE a b a.aE.toNat b.aE.toNat).Start,(hE a b a.aE.toNat b.aE.toNat).aU++kN ms a.aE b.aE a.aU b.aU⟩
def rk (a b:a8) (ms:ahQ):a8×Int:=
 cond (jo a) (cond (jo b) (cond (oC ms) (cond (jo (mn a b ms)) (mn a b ms,0) (⟨0,[],[]⟩,5)) (⟨0,[],[]⟩,2)) (⟨0,[],[]⟩,1)) (⟨0,[],[]⟩,1)
theorem tQ {a:a8} (bY:kh a) (mM:jo a=true):rj a.aE a.aU:=
 ⟨bY.2.1,λx aA=>⟨bY.2.2 x aA,(rh mM).2.2.2.2 x aA⟩⟩
theorem Rh {a b:a8} {ms:ahQ} (hm:sr ms) (bY:kh a) (U:kh b) (mM:jo a=true) (nX:jo b=true) (h:(mn a b ms).aU.length<=60):kh (mn a b ms):=by
 obtain⟨fp,fP,ha,qD,e9⟩:=rh mM;obtain⟨gu,fF,jb,iC,mx⟩:=rh nX;obtain⟨s1,s2,kV⟩:=JA a b a.aE.toNat b.aE.toNat bY U mM nX (by omega) (by omega);refine⟨s1,by omega,λx aA=>?_⟩;rcases List.mem_append.1 aA with aA|aA
 .exact kV x aA
 .exact Rg hm fP fF (tQ bY mM) (tQ U nX) x aA
theorem afP (a b:a8) (ms:ahQ) (bY:kh a) (U:kh b) (hm:sr ms):Cl a b ms=some ((rk a b ms).1.aE,(rk a b ms).1.Start,(rk a b ms).1.aU,(rk a b ms).2):=by
 unfold Cl rk;rw[DD a bY];simp only[bind_some];cases mM:jo a
 .rfl
 rw[DD b U];simp only[bind_some,Bool.not_true,cond_false,cond_true];cases nX:jo b
 .rfl
 rw[afk ms hm];simp only[bind_some,Bool.not_true,cond_false,cond_true];cases yz:oC ms
 .rfl
 obtain⟨fp,fP,ha,qD,e9⟩:=rh mM;obtain⟨gu,fF,jb,iC,mx⟩:=rh nX;obtain⟨s1,s2,kV⟩:=JA a b a.aE.toNat b.aE.toNat bY U mM nX (by omega) (by omega);have bN:Ck a.aE a.Start a.aU b.aE b.Start b.aU ms=mm (xX (hE a b a.aE.toNat b.aE.toNat)) (kN ms a.aE b.aE a.aU b.aU) (hE a b a.aE.toNat b.aE.toNat).aU:=by
  unfold Ck;rw[show(a8.mk a.aE a.Start a.aU)=a from rfl,show(a8.mk b.aE b.Start b.aU)=b from rfl,ae5 a b a.aE.toNat b.aE.toNat bY U (by omega) (by omega) (by omega) (by omega)];simp only[bind_some];exact afL ms hm.1 yz _ _ ⟨fp,fP⟩ ⟨gu,fF⟩ _ _ _ _ _ (tQ bY mM) (tQ U nX) _
 rw[bN];simp only[Bool.not_true,cond_false,cond_true];by_cases qs:(mn a b ms).aU.length<=60
 .have rl:(hE a b a.aE.toNat b.aE.toNat).aU.length+(kN ms a.aE b.aE a.aU b.aU).length<=60:=by
   simpa only[mn,List.length_append]using qs
  rw[Rd _ _ rl];unfold xX;rw[show(a8.mk (hE a b a.aE.toNat b.aE.toNat).aE (hE a b a.aE.toNat b.aE.toNat).Start ((hE a b a.aE.toNat b.aE.toNat).aU++kN ms a.aE b.aE a.aU b.aU))=mn a b ms from rfl,DD _ (Rh hm bY U mM nX qs)];simp only[bind_some];cases jo (mn a b ms)<;>rfl
 .have rl:60<(hE a b a.aE.toNat b.aE.toNat).aU.length+(kN ms a.aE b.aE a.aU b.aU).length:=by
   simp only[mn,List.length_append]at qs;omega
  rw[DP (l:=mn a b ms) (by omega)];by_cases hX:kN ms a.aE b.aE a.aU b.aU=[]
  .rw[hX];rw[hX]at rl;simp only[List.length_nil,Nat.add_zero]at rl;simp only[mm,xX];rw[show(a8.mk (hE a b a.aE.toNat b.aE.toNat).aE (hE a b a.aE.toNat b.aE.toNat).Start (hE a b a.aE.toNat b.aE.toNat).aU)=hE a b a.aE.toNat b.aE.toNat from rfl,DD _ ⟨s1,s2,kV⟩,DP rl];rfl
  .rw[Re _ _ hX s2 rl];rfl
theorem afQ (a b:a8) (ms:ahQ) (bY:kh a) (U:kh b) (hm:sr ms):zX a b ms=some (rk a b ms):=by
 unfold zX rk;rw[DE a bY];simp only[bind_some];cases mM:jo a
 .rfl
 rw[DE b U];simp only[bind_some,Bool.not_true,cond_false,cond_true];cases nX:jo b
 .rfl
 rw[afl ms hm];simp only[bind_some,Bool.not_true,cond_false,cond_true];cases yz:oC ms
 .rfl
 obtain⟨fp,fP,ha,qD,e9⟩:=rh mM;obtain⟨gu,fF,jb,iC,mx⟩:=rh nX;obtain⟨s1,s2,kV⟩:=JA a b a.aE.toNat b.aE.toNat bY U mM nX (by omega) (by omega);have bN:CV a b ms=lP some (kN ms a.aE b.aE a.aU b.aU) (hE a b a.aE.toNat b.aE.toNat):=by
  unfold CV;rw[ae_ a b a.aE.toNat b.aE.toNat bY U (by omega) (by omega) (by omega) (by omega)];simp only[bind_some];exact afN ms hm.1 a b ⟨fp,fP⟩ ⟨gu,fF⟩ (tQ bY mM) (tQ U nX) _
 rw[bN];simp only[Bool.not_true,cond_false,cond_true];by_cases qs:(mn a b ms).aU.length<=60
 .have rl:(hE a b a.aE.toNat b.aE.toNat).aU.length+(kN ms a.aE b.aE a.aU b.aU).length<=60:=by
   simpa only[mn,List.length_append]using qs
  rw[Rf _ _ rl];simp only[bind_some];rw[show(a8.mk (hE a b a.aE.toNat b.aE.toNat).aE (hE a b a.aE.toNat b.aE.toNat).Start ((hE a b a.aE.toNat b.aE.toNat).aU++kN ms a.aE b.aE a.aU b.aU))=mn a b ms from rfl,DE _ (Rh hm bY U mM nX qs)];simp only[bind_some];cases jo (mn a b ms)<;>rfl
 .have rl:60<(hE a b a.aE.toNat b.aE.toNat).aU.length+(kN ms a.aE b.aE a.aU b.aU).length:=by
   simp only[mn,List.length_append]at qs;omega
  rw[DP (l:=mn a b ms) (by omega)];obtain⟨w,hI,jR,o2,Au⟩:=JM _ _ rl s2 kV (Rg hm fP fF (tQ bY mM) (tQ U nX));rw[hI];simp only[bind_some];rw[DE ⟨(hE a b a.aE.toNat b.aE.toNat).aE,(hE a b a.aE.toNat b.aE.toNat).Start,w⟩ ⟨s1,o2,Au⟩,DP (l:=⟨(hE a b a.aE.toNat b.aE.toNat).aE,(hE a b a.aE.toNat b.aE.toNat).Start,w⟩) jR];rfl
theorem afR (a b:a8) (ms:ahQ):mL (rk a b ms).1<=1048576:=by
 have bA:mL ⟨0,[],[]⟩<=1048576:=by simp[mL,gb,eX]
 unfold rk;cases jo a
 .exact bA
 cases jo b
 .exact bA
 cases oC ms
 .exact bA
 cases h:jo (mn a b ms)
 .exact bA
 .exact afr h
theorem afS (ms:ahQ) (h:gb k6 ms<=1048576):sr ms:=
 ⟨Nat.le_trans (pj _ _) h,λm hm=>by
  have:=sj (f:=k6) hm;have ag:k6 m<=1048576:=by omega
  unfold k6 at ag;omega⟩
theorem ad3 (a b:l4) (c:ahN) (bY:wI a) (U:wI b) (aC:c.length<=9223372036854775807/\∀y∈c,wJ y):Ie a b c=some true:=by
 unfold Ie;rw[Qk a 1048576 bY (by omega) (by omega)];simp only[bind_some];rcases Nat.lt_or_ge 1048576 (mj a)with h|h
 .rw[xR (by omega)];rfl
 rw[Ax (by omega)];have a1:decide ((1048576:Int)-((mj a:Nat):Int)<0)=false:=by simp only[decide_eq_false_iff_not];omega
 rw[a1,cond_false,Qk b _ U (by omega) (by omega)];simp only[bind_some];rcases Int.lt_or_le (1048576-((mj a:Nat):Int)) ((mj b:Nat):Int)with ag|ag
 .rw[xR (by omega)];rfl
 rw[Ax (by omega)];have bc:decide ((1048576:Int)-((mj a:Nat):Int)-((mj b:Nat):Int)<0)=false:=by simp only[decide_eq_false_iff_not];omega
 have Ri:mj b<=1048576:=by omega
 rw[bc,cond_false,aeo c _ aC (by omega) (by omega)];simp only[bind_some];rcases Int.lt_or_le (1048576-((mj a:Nat):Int)-((mj b:Nat):Int)) ((gb nV c:Nat):Int)with aJ|aJ
 .rw[xR (by omega)];rfl
 rw[Ax (by omega)];have bb:decide ((1048576:Int)-((mj a:Nat):Int)-((mj b:Nat):Int)-((gb nV c:Nat):Int)<0)=false:=by simp only[decide_eq_false_iff_not];omega
 have nY:gb nV c<=1048576:=by omega
 rw[bb,cond_false,Qp a h,Qp b Ri,aev c nY];simp only[bind_some];have hl:mL (vw a)<=1048576:=by rw[Qo];exact h
 have au:mL (vw b)<=1048576:=by rw[Qo];exact Ri
 have ch:gb k6 (c.map tG)<=1048576:=by
  rw[Dt,show(λx=>k6 (tG x))=nV from funext aet];exact nY
 generalize vw a=x at hl;generalize vw b=y at au;generalize c.map tG=z at ch;have aA:=QK x hl;have bu:=QK y au;have b3:=afS z ch;have aV:=afR x y z;obtain⟨hy,fg,gd,d,d1,fY,_⟩:=Jr x 1 (by omega) (by omega);obtain⟨ahy,o3,rY,f,f1,g6,_⟩:=Jr y (1+(d:Int)) (by omega) (by omega);obtain⟨cL,g,aX,jt⟩:=aeC z (1+(d:Int)+(f:Int)) (by omega) (by omega);obtain⟨uC,rK,oQ,k,cv,mS,nt⟩:=Jr (rk x y z).1 1 (by omega) (by omega);have afT:=Jq _ aV;simp only[afP x y z aA bu b3,afQ x y z aA bu b3,bind_some,afT,Jq x hl,Jq y au,aeA z ch,fY,g6,jt,mS,nt,Bool.not_true,bne_self_eq_false,Bool.or_self,cond_false,sl (k:=1+(d:Int)+(f:Int)+(g:Int)) (by omega),sl (k:=1+(k:Int)) (by omega)]
end Go.ob
