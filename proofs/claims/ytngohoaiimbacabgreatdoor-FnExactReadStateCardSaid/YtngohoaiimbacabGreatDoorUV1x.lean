/- Part of a proof that a law returns true for every input. No condition. -/
import Derived.Test.YtngohoaiimbacabGreatDoorUV0x
import Derived.Test.YtngohoaiimbacabGreatDoorP3
namespace Go.lV
open Option Go.IntKind Nat Or
open Go Go.c_
theorem join_one (x s:aht):h8 [x] s=x:=by simp[h8,List.intercalate,List.intersperse]
theorem join_cons (x y:aht) (r:nq) (s:aht):h8 (x::y::r) s=x++(s++h8 (y::r) s):=by simp[h8,List.intercalate,List.intersperse]
theorem CH (c:UInt8) (k:Nat):∀l:nq,(∀x∈l,x.length<=k)->(h8 l [c]).length<=l.length*(k+1)
 |[],_=>by simp[h8,List.intercalate,List.intersperse]
 |[x],h=>by rw[join_one];have:=h x (by simp);simp only[List.length_cons,List.length_nil];omega
 |x::y::r,h=>by
  rw[join_cons];have ab:=h x (by simp);have ad:=CH c k (y::r) λz bR=>h z (by simp[bR]);simp only[List.length_append,List.length_cons,List.length_nil,Nat.add_mul]at ad⊢;omega
theorem O4 (n:Nat) (h:n<100):vq (n:Int)=some (l5 n):=by
 unfold vq yw;first
 |(rw[if_pos ⟨by omega,by omega,rfl⟩];rfl)
 |(rw[if_pos ⟨by omega,by omega,rfl⟩]
   unfold BJ l5 tu;rw[if_neg (by omega),Int.toNat_natCast];by_cases ab:n<10
   .rw[dif_pos ab,if_pos ab];rfl
   .unfold tu;rw[dif_neg ab,if_neg ab,dif_pos (by omega)];rfl)
theorem IA (n:Nat):(l5 n).length<=2:=by unfold l5;split<;>simp
theorem adr {α γ β:Type} {L:Nat->List γ->Int->Option β} (a:List α) (t:α->γ) (w:List γ) (hw:w.length=a.length) (E:List γ->Option β)
  (aV:∀m v,L (m+1) v (a.length:Int)=E v)
  (U:∀i (h:i<a.length) m v,v.length=a.length->L (m+1) v (i:Int)=L m (v.set i (t a[i])) ((i+1:Nat):Int)):ca (λm=>L m w 0)=E (a.map t):=by
 have key:∀i,i<=a.length->∀m,a.length-i<m->L m ((a.take i).map t++w.drop i) (i:Int)=E (a.map t):=by
  refine down a.length ?_ ?_
  .intro m hm;obtain⟨m,rfl⟩:∃j,m=j+1:=⟨m-1,by omega⟩
   rw[aV,List.take_length,List.drop_of_length_le (by omega),List.append_nil]
  .intro i ak ih m hm;obtain⟨m,rfl⟩:∃j,m=j+1:=⟨m-1,by omega⟩
   have e:((a.take i).map t).length=i:=by simp;omega
   rw[U i ak m _ (by simp only[List.length_append,e,List.length_drop];omega),<-ih m (by omega)];congr 1;rw[List.set_append_right i _ (by rw[e];omega),e,Nat.sub_self,drop_cons w i (by omega),List.set_cons_zero,List.take_succ_eq_append_getElem ak,List.map_append];simp
 refine hi (a.length+1) λm hm=>?_;have:=key 0 (by omega) m (by omega);simpa using this
def pY (n:Int):aht:=l5 n.toNat
theorem O5 (n:Int):(pY n).length<=2:=IA _
theorem ads {x:Int} (h:0<=x/\x<=63):vq x=some (pY x):=by
 have:=O4 x.toNat (by omega)
 rwa [Int.toNat_of_nonneg h.1]at this
theorem O6 (a:ahv) (h:a.length<=64) (aI:∀x∈a,0<=x/\x<=63):BK a [44]=some (h8 (a.map pY) [44]):=by
 unfold BK;rw[pV 16 (by omega) (by omega)];simp only[bind_some,Int.toNat_natCast];have bQ:strings_Join (a.map pY) [44]=some (h8 (a.map pY) [44]):=by
  unfold strings_Join;have:=CH 44 2 (a.map pY) λx ar=>by
   obtain⟨y,_,rfl⟩:=List.mem_map.1 ar;exact O5 y
  rw[List.length_map]at this;rw[if_pos ⟨by rw[List.length_map];omega,by omega⟩]
 rw[adr (L:=vr a [44]) a pY (List.replicate a.length []) (by simp) (λv=>(strings_Join v [44]).bind λa6=>some a6) (λm v=>?_) (λi ak m v hl=>?_),bQ]
 .rfl
 .simp only[vr,GF];rw[ez (Nat.le_refl _)];rfl
 .simp only[vr,GF];rw[e4 ak,fe _ i ak,e1 i _ ak (by omega),fe v i (by omega)];simp only[cond_true,bind_some];rw[ads (aI _ (List.getElem_mem ak))];simp only[bind_some,Int.toNat_natCast]
def small (c:UInt8):Bool:=decide (97<=(c.toNat:Int))&&decide ((c.toNat:Int)<=122)
def digit (c:UInt8):Bool:=decide (48<=(c.toNat:Int))&&decide ((c.toNat:Int)<=57)
def iP (s:aht):Bool:=decide (s.length<=10)&&(match s with|[]=>false|c::r=>small c&&r.all λc=>small c||digit c)
theorem IB (s:aht):u2 s=some (iP s):=by
 unfold u2;cases s with
 |nil=>rfl
 |cons c r=>
  have fE:((c::r)==([]:aht))=false:=rfl;rw[fE];simp only[cond_false];by_cases iS:10<(c::r).length
  .have:decide ((10:Int)<((c::r).length:Int))=true:=by simp at iS⊢;omega
   rw[this];have ad:decide ((c::r).length<=10)=false:=by simp at iS⊢;omega
   simp only[iP,ad];rfl
  .have:decide ((10:Int)<((c::r).length:Int))=false:=by simp at iS⊢;omega
   rw[this];have ad:decide ((c::r).length<=10)=true:=by simp at iS⊢;omega
   rw[CB];simp only[cond_false,bind_some,xU];simp only[iP,ad,Bool.true_and];show cond (!small c) _ _=_;cases U:small c with
   |false=>rfl
   |true=>
    simp only[Bool.not_true,cond_false];rw[tN (n:=(c::r).length) (λi=>some (((c::r).drop i).all λc=>small c||digit c))]
    .simp[U]
    .intro m;simp only[xV,FB];rw[ez (Nat.le_refl _)];simp
    .intro i ak m ih;simp only[xV,FB];rw[e4 ak,fe _ i ak,e1 i _ ak (by omega),ih,drop_cons _ i ak];simp only[cond_true,bind_some,xU,u1,List.all_cons];show cond (!small _) (cond (!digit _) _ _) _=_;cases small (c::r)[i]<;>cases digit (c::r)[i]<;>rfl
theorem O7 (s:aht) (U:s.length<=140737488355328):x9 s=some (iP s):=by
 unfold x9;have a8:∀m,s.length-1<m->1<=s.length->rP s m ((1:Nat):Int)=some (((s.drop 1).all λc=>small c||digit c)&&(decide (1<=(s.length:Int))&&decide ((s.length:Int)<=10))):=by
  intro m hm ab;refine down s.length (P:=λi=>1<=i->∀m,s.length-i<m->rP s m (i:Int)=some (((s.drop i).all λc=>small c||digit c)&&(decide (1<=(s.length:Int))&&decide ((s.length:Int)<=10)))) ?_ ?_ 1 ab (Nat.le_refl _) m hm
  .intro _ m hm;obtain⟨k,rfl⟩:∃k,m=k+1:=⟨m-1,by omega⟩
   simp only[rP,Bh];rw[ez (Nat.le_refl _)];simp
  .intro i ak ih xa m hm;obtain⟨k,rfl⟩:∃k,m=k+1:=⟨m-1,by omega⟩
   simp only[rP,Bh];rw[e4 ak,fe _ i ak,e1 i _ ak (by omega),ih (by omega) k (by omega),drop_cons _ i ak];have e:((i:Int)==0)=false:=by simp;omega
   rw[e];simp only[cond_true,cond_false,bind_some,F4,List.all_cons];show cond (!small _) (cond (!digit _) _ _) _=_;cases small s[i]<;>cases digit s[i]<;>rfl
 refine hi (s.length+1) λm hm=>?_;obtain⟨k,rfl⟩:∃k,m=k+1:=⟨m-1,by omega⟩
 simp only[rP,Bh];cases s with
 |nil=>rfl
 |cons c r=>
  have aq:=a8 k (by simp at hm⊢;omega) (by simp);rw[show((1:Nat):Int)=1 from rfl]at aq;rw[tM (by simp),CB,ac7,aq];have e:((0:Int)==0)=true:=rfl;rw[e];simp only[cond_true,iP];show cond (!small c) _ _=_;have ab:decide (1<=((c::r).length:Int))=true:=by simp;omega
  have ad:decide (((c::r).length:Int)<=10)=decide ((c::r).length<=10):=by
   by_cases h:(c::r).length<=10<;>simp at h⊢<;>omega
  rw[ab,ad];cases small c with
  |false=>simp
  |true=>simp[Bool.and_comm]
def tT (t:cj):Nat:=if t.Kind=2 then 2 else if t.Kind=3 then 1 else 0
theorem O8 (t:cj):tT t<=2:=by unfold tT;split<;>(try split)<;>omega
theorem O9 (t:cj):cond (t.Kind==2) (some 2) (cond (t.Kind==3) (some 1) (some 0))=some (tT t:Int):=by
 unfold tT;by_cases ad:t.Kind=2
 .simp[ad]
 .by_cases aC:t.Kind=3
  .simp[aC]
  .have aT:(t.Kind==2)=false:=by simpa using ad
   have aR:(t.Kind==3)=false:=by simpa using aC
   rw[aT,aR,if_neg ad,if_neg aC];rfl
def pZ (n eN ak:Int):Bool:=decide (eN<=n)&&decide (n<=ak)
def tU (t:cj) (v:Int):Bool:=cond (t.Kind==0) (pZ t.Value 0 63) (cond (t.Kind==1) (pZ t.Value 0 (v-1)) (cond (t.Kind==2) (pZ t.Value 0 8) (cond (t.Kind==3) (t.Value==0) false)))
def tV (v:Int):ahJ->Nat->Bool
 |[],k=>k==0
 |t::r,k=> !(k==0)&&(tU t v&&tV v r (k+tT t-1))
def tW (e:ahJ) (v most:Int):Bool:=decide ((e.length:Int)<=most)&&tV v e 1
theorem adt (t:cj) (v:Int) (aI: -1000000<=v/\v<=1000000):A0 t v=some (tU t v):=by
 unfold A0 j1 tU pZ;rw[eb (v-1) (by omega)];cases t.Kind==0<;>cases t.Kind==1<;>cases t.Kind==2<;>cases t.Kind==3<;>rfl
theorem adu (t:cj) (v:Int) (aI: -1000000<=v/\v<=1000000):Bn t v=some (tU t v):=by
 unfold Bn yc iw tU pZ;rw[eb (v-1) (by omega)];cases t.Kind==0<;>cases t.Kind==1<;>cases t.Kind==2<;>cases t.Kind==3<;>rfl
theorem adv (t:cj):FG t=some (tT t:Int):=O9 t
theorem adw (t:cj):F_ t=some (tT t:Int):=O9 t
theorem O_ {k a:Nat} (aq:1<=k) (ob:k<=100000000) (bM:a<=2):i64.wrap ((k:Int)+i64.wrap ((a:Int)-1))=((k+a-1:Nat):Int):=by
 rw[eb ((a:Int)-1) (by omega),eb _ (by omega)];omega
theorem vS (k:Nat):((k:Int)==0)=(k==0):=by
 by_cases h:k=0
 .subst h;rfl
 .have ab:((k:Int)==0)=false:=by simp;omega
  have ad:(k==0)=false:=by simpa using h
  rw[ab,ad]
theorem adx (e:ahJ) (v most:Int) (aI: -1000000<=v/\v<=1000000) (he:e.length<=1048576):A1 e v most=some (tW e v most):=by
 unfold A1 tW;by_cases hm:(e.length:Int)<=most
 .have d1:decide (most<(e.length:Int))=false:=by simp;omega
  have d2:decide ((e.length:Int)<=most)=true:=by simpa using hm
  rw[d1,d2,cond_false,Bool.true_and];have key:∀i,i<=e.length->∀(k:Nat) m,k<=1+2*i->e.length-i<m->u7 e v m (k:Int) (i:Int)=some (tV v (e.drop i) k):=by
   refine down e.length ?_ ?_
   .intro k m _ hm;obtain⟨m,rfl⟩:∃j,m=j+1:=⟨m-1,by omega⟩
    simp only[u7,FH];rw[ez (Nat.le_refl _),List.drop_of_length_le (Nat.le_refl _),vS];rfl
   .intro i ak ih k m aq hm;obtain⟨m,rfl⟩:∃j,m=j+1:=⟨m-1,by omega⟩
    simp only[u7,FH];rw[e4 ak,fe _ i ak,e1 i _ ak (by omega),drop_cons e i ak,vS];simp only[cond_true,bind_some,adt _ v aI,adv,tV];by_cases aV:k=0
    .subst aV;rfl
    .have R:(k==0)=false:=by simpa using aV
     have bM:=O8 e[i];rw[R,O_ (by omega) (by omega) bM,ih _ m (by omega) (by omega)];simp only[cond_false,Bool.not_false,Bool.true_and];cases tU e[i] v<;>rfl
  refine hi (e.length+1) λm hm=>?_;have:=key 0 (by omega) 1 m (by omega) (by omega);simpa using this
 .have d1:decide (most<(e.length:Int))=true:=by simp;omega
  have d2:decide ((e.length:Int)<=most)=false:=by simpa using hm
  rw[d1,d2];rfl
theorem ady (e:ahJ) (v most:Int) (aI:0<=v/\v<=29) (ahq:1<=most/\most<=60) (he:e.length<=1048576):Bo e v most=some (tW e v most):=by
 unfold Bo iw tW;have d1:(!(decide (0<=v)&&decide (v<=29)))=false:=by simp;omega
 have d2:(!(decide (1<=most)&&decide (most<=60)))=false:=by simp;omega
 simp only[bind_some,d1,d2,cond_false];by_cases ab:e.length=0
 .have:e=[]:=List.length_eq_zero_iff.1 ab;subst this;simp[tV]
 .by_cases hm:(e.length:Int)<=most
  .have d3:(!(decide ((1:Int)<=(e.length:Int))&&decide ((e.length:Int)<=most)))=false:=by simp;omega
   have d4:decide ((e.length:Int)<=most)=true:=by simpa using hm
   rw[d3,d4,cond_false,Bool.true_and];have key:∀i,i<=e.length->∀(k:Nat) m,k<=1+2*i->e.length-i<m->vj e v m (k:Int) (i:Int)=some (tV v (e.drop i) k):=by
    refine down e.length ?_ ?_
    .intro k m _ hm;obtain⟨m,rfl⟩:∃j,m=j+1:=⟨m-1,by omega⟩
     simp only[vj,Ga];rw[ez (Nat.le_refl _),List.drop_of_length_le (Nat.le_refl _),vS];rfl
    .intro i ak ih k m aq hm;obtain⟨m,rfl⟩:∃j,m=j+1:=⟨m-1,by omega⟩
     simp only[vj,Ga];rw[e4 ak,fe _ i ak,e1 i _ ak (by omega),drop_cons e i ak,vS];simp only[cond_true,bind_some,adu _ v (by omega),adw,tV];by_cases aV:k=0
     .subst aV;rfl
     .have R:(k==0)=false:=by simpa using aV
      have bM:=O8 e[i];rw[R,O_ (by omega) (by omega) bM,ih _ m (by omega) (by omega)];simp only[cond_false,Bool.not_false,Bool.true_and];cases tU e[i] v<;>rfl
   refine hi (e.length+1) λm hm=>?_;have:=key 0 (by omega) 1 m (by omega) (by omega);simpa using this
  .have d3:(!(decide ((1:Int)<=(e.length:Int))&&decide ((e.length:Int)<=most)))=true:=by simp;omega
   have d4:decide ((e.length:Int)<=most)=false:=by simpa using hm
   rw[d3,d4];rfl
def ej (p:bD):Nat:=if p.Kind=1\/p.Kind=3\/p.Kind=4 then 1 else if p.Kind=2 then 2 else 0
theorem vT (p:bD):ej p<=2:=by unfold ej;split<;>(try split)<;>omega
theorem Pa (p:bD) (K:Bool->ahy) (hK:∀b,K b=cond b (some 1) (cond (p.Kind==2) (some 2) (some 0))):
  cond (p.Kind==1) (K true) (cond (p.Kind==3) (K true) (K (p.Kind==4)))=some (ej p:Int):=by
 simp only[hK,ej];by_cases ab:p.Kind=1
 .simp[ab]
 .by_cases aC:p.Kind=3
  .simp[aC]
  .by_cases aW:p.Kind=4
   .simp[aW]
   .by_cases ad:p.Kind=2
    .simp[ad]
    .have aP:(p.Kind==1)=false:=by simpa using ab
     have aR:(p.Kind==3)=false:=by simpa using aC
     have b4:(p.Kind==4)=false:=by simpa using aW
     have aT:(p.Kind==2)=false:=by simpa using ad
     simp[aP,aR,b4,aT,ab,aC,aW,ad]
theorem Pb (p:bD):xX p=some (ej p:Int):=by
 unfold xX;exact Pa p (xW p) λ_=>rfl
theorem Pc (p:bD):yb p=some (ej p:Int):=by
 unfold yb;exact Pa p (ya p) λ_=>rfl
def r_:ahK->Nat->Bool
 |[],k=>k==0
 |p::r,k=> !(k==0)&&r_ r (k+ej p-1)
def eE:ahK->Nat->Option Nat
 |[],0=>some 0
 |[],_+1=>none
 |_::_,0=>some 0
 |p::r,k+1=>(eE r (k+ej p)).map (·+1)
theorem zh (l:ahK):eE l 0=some 0:=by cases l<;>rfl
theorem p0 {p:bD} {r:ahK} {a k:Nat}:eE (p::r) (a+1)=some k↔∃cI,eE r (a+ej p)=some cI/\k=cI+1:=by
 simp only[eE,map_eq_some_iff];constructor
 .rintro⟨cI,h,rfl⟩;exact⟨cI,h,rfl⟩
 .rintro⟨cI,h,rfl⟩;exact⟨cI,h,rfl⟩
theorem tX:∀{l:ahK} {a k:Nat},eE l a=some k->a<=k/\k<=l.length
 |[],0,k,h=>by simp only[eE,some.injEq]at h;subst h;simp
 |[],a+1,k,h=>by simp[eE]at h
 |_::_,0,k,h=>by simp only[eE,some.injEq]at h;subst h;simp
 |p::r,a+1,k,h=>by
  obtain⟨cI,bc,rfl⟩:=p0.1 h;have:=tX bc;simp only[List.length_cons];omega
theorem IC:∀(l:ahK) (k:Nat),r_ l k=(eE l k==some l.length)
 |[],0=>rfl
 |[],k+1=>rfl
 |p::r,0=>rfl
 |p::r,k+1=>by
  have e:k+1+ej p-1=k+ej p:=by omega
  simp only[r_,e,IC r (k+ej p)];have fE:(k+1==0)=false:=rfl;rw[fE];simp only[Bool.not_false,Bool.true_and,eE];cases eE r (k+ej p)with
  |none=>rfl
  |some n=>simp
theorem zi:∀{l:ahK} {a b k:Nat},eE l (a+b)=some k->∃bN cc,eE l a=some bN/\eE (l.drop bN) b=some cc/\k=bN+cc
 |l,0,b,k,h=>⟨0,k,zh l,by simpa using h,by omega⟩
 |[],a+1,b,k,h=>by rw[show a+1+b=(a+b)+1 by omega]at h;simp[eE]at h
 |p::r,a+1,b,k,h=>by
  rw[show a+1+b=(a+b)+1 by omega]at h;obtain⟨cI,bc,rfl⟩:=p0.1 h;rw[show a+b+ej p=(a+ej p)+b by omega]at bc;obtain⟨bN,cc,ab,ad,rfl⟩:=zi bc;exact⟨bN+1,cc,p0.2 ⟨bN,ab,rfl⟩,by simpa using ad,by omega⟩
theorem Pd:∀{l:ahK} {a k:Nat},eE l a=some k->∀i,i<k->∃m,1<=m/\eE (l.drop i) m=some (k-i)
 |[],0,k,h,i,ak=>by simp only[eE,some.injEq]at h;omega
 |[],a+1,k,h,i,ak=>by simp[eE]at h
 |_::_,0,k,h,i,ak=>by simp only[eE,some.injEq]at h;omega
 |p::r,a+1,k,h,i,ak=>by
  cases i with
  |zero=>exact⟨a+1,by omega,by simpa using h⟩
  |succ i=>
   obtain⟨cI,bc,rfl⟩:=p0.1 h;obtain⟨m,ab,ad⟩:=Pd bc i (by omega);exact⟨m,ab,by simp only[List.drop_succ_cons];rw[ad];congr 1;omega⟩
theorem adz {l:ahK} {a k i:Nat} (h:eE l a=some k) (ak:i<k):∃e,eE (l.drop i) 1=some e/\i+e<=k/\1<=e:=by
 obtain⟨m,ab,ad⟩:=Pd h i ak;obtain⟨m,rfl⟩:∃j,m=1+j:=⟨m-1,by omega⟩
 obtain⟨bN,cc,aC,aW,bu⟩:=zi ad;have:=tX aC;exact⟨bN,aC,by omega,by omega⟩
theorem ID {k a:Nat} (aq:1<=k) (ob:k<=100000000) (bM:a<=2):i64.wrap ((k:Int)+i64.wrap ((a:Int)-1))=((k+a-1:Nat):Int):=by
 rw[eb ((a:Int)-1) (by omega),eb _ (by omega)];omega
theorem adA (e:ahK) (he:e.length<=1048576):AX e=some ((decide (1<=e.length)&&decide (e.length<=20))&&r_ e 1):=by
 unfold AX;by_cases hm:1<=e.length/\e.length<=20
 .have d1:(((e.length:Int)==0)||decide ((20:Int)<(e.length:Int)))=false:=by
   rw[Bool.or_eq_false_iff,beq_eq_false_iff_ne,decide_eq_false_iff_not];omega
  have d2:(decide (1<=e.length)&&decide (e.length<=20))=true:=by simp;omega
  rw[d1,d2,cond_false,Bool.true_and];have key:∀i,i<=e.length->∀(k:Nat) m,k<=1+2*i->e.length-i<m->u3 e m (k:Int) (i:Int)=some (r_ (e.drop i) k):=by
   refine down e.length ?_ ?_
   .intro k m _ hm;obtain⟨m,rfl⟩:∃j,m=j+1:=⟨m-1,by omega⟩
    simp only[u3,FC];rw[ez (Nat.le_refl _),List.drop_of_length_le (Nat.le_refl _),vS];rfl
   .intro i ak ih k m aq hm;obtain⟨m,rfl⟩:∃j,m=j+1:=⟨m-1,by omega⟩
    simp only[u3,FC];rw[e4 ak,fe _ i ak,e1 i _ ak (by omega),drop_cons e i ak,vS];simp only[cond_true,bind_some,Pb,r_];by_cases aV:k=0
    .subst aV;rfl
    .have R:(k==0)=false:=by simpa using aV
     have bM:=vT e[i];rw[R,ID (by omega) (by omega) bM,ih _ m (by omega) (by omega)];simp only[cond_false,Bool.not_false,Bool.true_and]
  refine hi (e.length+1) λm hm=>?_;have:=key 0 (by omega) 1 m (by omega) (by omega);simpa using this
 .have d1:(((e.length:Int)==0)||decide ((20:Int)<(e.length:Int)))=true:=by
   by_cases h:e.length=0
   .simp[h]
   .have:decide ((20:Int)<(e.length:Int))=true:=by simp;omega
    rw[this,Bool.or_true]
  have d2:(decide (1<=e.length)&&decide (e.length<=20))=false:=by
   rw[Bool.and_eq_false_iff,decide_eq_false_iff_not,decide_eq_false_iff_not];omega
  rw[d1,d2];rfl
def p1 (i:Nat):Option Nat->Int
 |none=> -1
 |some n=>((i+n:Nat):Int)
theorem adB (d:bl) (ae:d.Body.length<=1048576) (i0:Nat) (aV:i0<=d.Body.length):Bk d (i0:Int)=some (p1 i0 (eE (d.Body.drop i0) 1)):=by
 unfold Bk;have key:∀i,i<=d.Body.length->∀(k:Nat) m,k<=1+2*i->d.Body.length-i<m->vh d m (i:Int) (k:Int)=some (p1 i (eE (d.Body.drop i) k)):=by
  refine down d.Body.length ?_ ?_
  .intro k m _ hm;obtain⟨m,rfl⟩:∃j,m=j+1:=⟨m-1,by omega⟩
   simp only[vh,F5];rw[List.drop_of_length_le (Nat.le_refl _)];cases k with
   |zero=>rw[tQ];simp[eE,p1]
   |succ k=>
    rw[tM (succ_pos k)];have:decide ((d.Body.length:Int)<=(d.Body.length:Int))=true:=by simp
    rw[this];rfl
  .intro i ak ih k m aq hm;obtain⟨m,rfl⟩:∃j,m=j+1:=⟨m-1,by omega⟩
   simp only[vh,F5];cases k with
   |zero=>rw[tQ,zh];simp[p1]
   |succ k=>
    have d1:decide ((d.Body.length:Int)<=(i:Int))=false:=by simp;omega
    rw[tM (succ_pos k),d1,fe _ i ak,e1 i _ ak (by omega),drop_cons _ i ak];simp only[cond_true,cond_false,bind_some,Pc];have bM:=vT d.Body[i];rw[ID (by omega) (by omega) bM,ih _ m (by omega) (by omega),show k+1+ej d.Body[i]-1=k+ej d.Body[i] by omega];simp only[eE];cases eE (d.Body.drop (i+1)) (k+ej d.Body[i])with
    |none=>rfl
    |some n=>simp only[map_some,p1];congr 2;omega
 refine hi (d.Body.length+1) λm hm=>?_;refine down d.Body.length (P:=λ_=>True) trivial (λ_ _ _=>trivial) 0 (zero_le _)|>λ_=>?_;have bN:=key i0 aV 1 m (by omega) (by omega);simpa using bN
theorem adC (b:ahK) (R:b.length<=1048576) (i0 n:Nat) (h:eE (b.drop i0) 1=some n):AZ b (i0:Int)=some ((i0+n:Nat):Int):=by
 unfold AZ;have aV:i0<b.length:=by
  have:=tX h;rw[List.length_drop]at this;omega
 have key:∀i,i<=b.length->∀(k n:Nat) m,k<=1+2*i->b.length-i<m->eE (b.drop i) k=some n->u4 b m (i:Int) (k:Int)=some ((i+n:Nat):Int):=by
  refine down b.length ?_ ?_
  .intro k n m _ hm he;obtain⟨m,rfl⟩:∃j,m=j+1:=⟨m-1,by omega⟩
   simp only[u4,FE];rw[List.drop_of_length_le (Nat.le_refl _)]at he;cases k with
   |zero=>rw[tQ];simp only[eE,some.injEq]at he;subst he;simp
   |succ k=>simp[eE]at he
  .intro i ak ih k n m aq hm he;obtain⟨m,rfl⟩:∃j,m=j+1:=⟨m-1,by omega⟩
   simp only[u4,FE];cases k with
   |zero=>rw[zh]at he;cases he;rw[tQ];simp
   |succ k=>
    rw[drop_cons _ i ak]at he;obtain⟨DN,mZ,rfl⟩:=p0.1 he;rw[tM (succ_pos k),fe _ i ak,e1 i _ ak (by omega)];simp only[cond_true,bind_some,Pb];have bM:=vT b[i];rw[ID (by omega) (by omega) bM,show k+1+ej b[i]-1=k+ej b[i] by omega,ih _ DN m (by omega) (by omega) mZ];congr 2;omega
 refine hi (b.length+1) λm hm=>?_;have bN:=key i0 (by omega) 1 n m (by omega) (by omega) h;simpa using bN
def below (p:bD) (s:cM):cM:=⟨if p.Kind=4 then s.scope+1 else s.scope,p.Kind==1⟩
def gw:ahK->ahP->ahP
 |[],_=>[]
 |_::_,[]=>[]
 |p::r,s::st=>s::gw r (List.replicate (ej p) (below p s)++st)
theorem adD (l:ahK):gw l []=[]:=by cases l<;>rfl
theorem vU:∀{l:ahK} {st:ahP} {k:Nat},eE l st.length=some k->(gw l st).length=k
 |[],[],k,h=>by simp only[List.length_nil,eE,some.injEq]at h;subst h;rfl
 |[],s::st,k,h=>by simp[eE]at h
 |p::r,[],k,h=>by simp only[List.length_nil,eE,some.injEq]at h;subst h;rfl
 |p::r,s::st,k,h=>by
  obtain⟨cI,bc,rfl⟩:=p0.1 h;simp only[gw,List.length_cons];rw[vU (k:=cI) (by rw[List.length_append,List.length_replicate,Nat.add_comm];exact bc)]
theorem Pe:∀{l:ahK} {s1 s2:ahP} {k:Nat},eE l s1.length=some k->gw l (s1++s2)=gw l s1++gw (l.drop k) s2
 |[],[],s2,k,h=>by simp only[List.length_nil,eE,some.injEq]at h;subst h;rfl
 |[],s::st,s2,k,h=>by simp[eE]at h
 |p::r,[],s2,k,h=>by simp only[List.length_nil,eE,some.injEq]at h;subst h;simp[gw]
 |p::r,s::st,s2,k,h=>by
  obtain⟨cI,bc,rfl⟩:=p0.1 h;simp only[gw,List.cons_append,List.drop_succ_cons];rw[<-List.append_assoc,Pe (k:=cI) (by rw[List.length_append,List.length_replicate,Nat.add_comm];exact bc)]
def patch (out:ahP) (i:Nat) (new:ahP):ahP:=out.take i++(new++out.drop (i+new.length))
theorem adE (out:ahP) (i:Nat):patch out i []=out:=by simp[patch]
theorem Pf {out:ahP} {i:Nat} {new:ahP} (h:i+new.length<=out.length):(patch out i new).length=out.length:=by
 simp[patch];omega
theorem Pg {out:ahP} {i j:Nat} {a b:ahP} (bQ:j=i+a.length) (h:i+a.length+b.length<=out.length):patch (patch out i a) j b=patch out i (a++b):=by
 subst bQ;unfold patch;have aP:(out.take i).length=i:=by rw[List.length_take];omega
 have t1:(out.take i++(a++out.drop (i+a.length))).take (i+a.length)=out.take i++a:=by
  rw[<-List.append_assoc,List.take_left' (by rw[List.length_append,aP])]
 have t2:(out.take i++(a++out.drop (i+a.length))).drop (i+a.length+b.length)=out.drop (i+a.length+b.length):=by
  rw[<-List.append_assoc,<-List.drop_drop,List.drop_left' (by rw[List.length_append,aP]),List.drop_drop]
 rw[t1,t2];simp only[List.append_assoc,List.length_append,Nat.add_assoc]
theorem adF {out:ahP} {i:Nat} {s:cM} (h:i<out.length):out.set i s=patch out i [s]:=by
 unfold patch;apply List.ext_getElem?;intro j;rw[List.getElem?_set];rcases Nat.lt_trichotomy i j with CI|CI|CI
 .rw[if_neg (by omega),List.getElem?_append_right (by simp;omega)];have aP:(out.take i).length=i:=by simp;omega
  rw[aP];obtain⟨d,rfl⟩:∃d,j=i+(d+1):=⟨j-i-1,by omega⟩
  rw[show i+(d+1)-i=d+1 by omega];simp only[List.singleton_append,List.getElem?_cons_succ,List.length_singleton,List.getElem?_drop];congr 1;omega
 .subst CI;rw[if_pos rfl,if_pos h,List.getElem?_append_right (by simp;omega)];have aP:(out.take i).length=i:=by simp;omega
  rw[aP];simp
 .rw[if_neg (by omega),List.getElem?_append_left (by simp;omega),List.getElem?_take,if_pos CI]
theorem adG (n:Int) (h:0<=n) (ad:n<=1000000):i64.wrap (n+1)=n+1:=eb _ (by omega)
theorem Ph {rec:Int->cM->ahP->bl->Option (Int×ahP)} {d:bl} {n:Nat} (ae:d.Body.length<=1048576)
  (Pj:∀(at_ k:Nat) (s:cM) (out:ahP),out.length=d.Body.length->eE (d.Body.drop at_) 1=some k->k<=n->0<=s.scope->s.scope+k<=1000000->
   rec (at_:Int) s out d=some (((at_+k:Nat):Int),patch out at_ (gw (d.Body.drop at_) [s])))
  (cX:Int) (p:bD) (f:Nat) (bd:f<=2):∀(c j at_ k:Nat) (out:ahP) (m:Nat),j+c=f->c<m->out.length=d.Body.length->eE (d.Body.drop at_) c=some k->k<=n->0<=cX->cX+k<=1000000->
   tl rec d cX p (f:Int) m out (at_:Int) (j:Int)=some (((at_+k:Nat):Int),patch out at_ (gw (d.Body.drop at_) (List.replicate c ⟨cX,p.Kind==1⟩)))
 |0,j,at_,k,out,m,bQ,hm,b1,he,aq,aV,ab=>by
  obtain⟨m,rfl⟩:∃i,m=i+1:=⟨m-1,by omega⟩
  rw[zh]at he;cases he;simp only[tl,F6];rw[ez (by omega)];simp[adD,adE]
 |c+1,j,at_,k,out,m,bQ,hm,b1,he,aq,aV,ab=>by
  obtain⟨m,rfl⟩:∃i,m=i+1:=⟨m-1,by omega⟩
  rw[Nat.add_comm c 1]at he;obtain⟨bN,cc,aP,aT,rfl⟩:=zi he;have gh:=tX aP;have l2:=tX aT;rw[List.length_drop]at gh;rw[List.drop_drop,List.length_drop]at l2;have hlen:(gw (d.Body.drop at_) [⟨cX,p.Kind==1⟩]).length=bN:=vU (st:=[_]) aP;simp only[tl,F6];rw[e4 (by omega),Pj at_ bN _ out b1 aP (by omega) aV (by show cX+(bN:Int)<=_;omega),e1 j f (by omega) (by omega)];simp only[cond_true,bind_some];have fy:(patch out at_ (gw (d.Body.drop at_) [⟨cX,p.Kind==1⟩])).length=d.Body.length:=by
   rw[Pf (by rw[hlen];omega),b1]
  rw[List.drop_drop]at aT;rw[Ph ae Pj cX p f bd c (j+1) (at_+bN) cc _ m (by omega) (by omega) fy aT (by omega) aV (by omega)];have adH:(gw (d.Body.drop (at_+bN)) (List.replicate c ⟨cX,p.Kind==1⟩)).length=cc:=vU (by rw[List.length_replicate];exact aT);have adI:gw (d.Body.drop at_) (List.replicate (c+1) ⟨cX,p.Kind==1⟩)=gw (d.Body.drop at_) [⟨cX,p.Kind==1⟩]++gw (d.Body.drop (at_+bN)) (List.replicate c ⟨cX,p.Kind==1⟩):=by
   rw[List.replicate_succ,<-List.singleton_append,Pe (k:=bN) (s1:=[_]) aP,List.drop_drop]
  rw[adI,Pg (by rw[hlen]) (by rw[hlen,adH];omega),Nat.add_assoc]
theorem Pk (d:bl) (ae:d.Body.length<=1048576):∀(n at_ k:Nat) (s:cM) (out:ahP),out.length=d.Body.length->eE (d.Body.drop at_) 1=some k->k<=n->0<=s.scope->s.scope+k<=1000000->
  tm n (at_:Int) s out d=some (((at_+k:Nat):Int),patch out at_ (gw (d.Body.drop at_) [s]))
 |0,at_,k,s,out,b1,he,aq,aV,ab=>by have:=tX he;omega
 |n+1,at_,k,s,out,b1,he,aq,aV,ab=>by
  have l:=tX he;rw[List.length_drop]at l;have ak:at_<d.Body.length:=by omega
  rw[drop_cons _ at_ ak]at he⊢;obtain⟨cI,mZ,rfl⟩:=p0.1 he;simp only[Nat.zero_add]at mZ;have bd:=vT d.Body[at_];have adJ:=Ph (n:=n) ae (Pk d ae n) (below d.Body[at_] s).scope d.Body[at_] (ej d.Body[at_]) bd (ej d.Body[at_]) 0 (at_+1) cI (patch out at_ [s]);have hlen:(gw (d.Body.drop (at_+1)) (List.replicate (ej d.Body[at_]) (below d.Body[at_] s)++[])).length=cI:=by
   rw[List.append_nil];exact vU (by rw[List.length_replicate];exact mZ)
  have adK:(at_+1+cI:Nat)=at_+(cI+1):=by omega
  have R:0<=(below d.Body[at_] s).scope/\(below d.Body[at_] s).scope+cI<=1000000:=by
   unfold below;simp only;split<;>omega
  have key:(ca λm=>tl (tm n) d (below d.Body[at_] s).scope d.Body[at_] ((ej d.Body[at_]:Nat):Int) m (List.set out (Int.toNat (at_:Int)) s) (i64.wrap ((at_:Int)+1)) 0)=
    some (((at_+(cI+1):Nat):Int),patch out at_ (gw (d.Body[at_]::d.Body.drop (at_+1)) [s])):=by
   refine hi (ej d.Body[at_]+1) λm hm=>?_;rw[Int.toNat_natCast,adF (by omega),e1 at_ _ ak (by omega)];have h:=adJ m (by omega) (by omega) (by rw[Pf (by simp;omega),b1]) mZ (by omega) R.1 R.2;rw[show((0:Nat):Int)=0 from rfl]at h;rw[h,adK];congr 2;have adL:(gw (d.Body.drop (at_+1)) (List.replicate (ej d.Body[at_]) ⟨(below d.Body[at_] s).scope,d.Body[at_].Kind==1⟩)).length=cI:=vU (by rw[List.length_replicate];exact mZ);rw[Pg (i:=at_) (a:=[s]) (j:=at_+1) rfl (by rw[adL,List.length_singleton];omega)];simp only[gw,List.append_nil,List.singleton_append];rfl
  simp only[tm,F7];rw[fe out at_ (by omega),fe _ at_ ak];simp only[bind_some,Bl,Pc];by_cases aW:d.Body[at_].Kind=4
  .have e:(d.Body[at_].Kind==4)=true:=by simpa using aW
   have aT:(below d.Body[at_] s).scope=s.scope+1:=by simp[below,aW]
   rw[e,cond_true,adG s.scope aV (by omega),<-aT];exact key
  .have e:(d.Body[at_].Kind==4)=false:=by simpa using aW
   have aT:(below d.Body[at_] s).scope=s.scope:=by simp[below,aW]
   rw[e,cond_false];conv=>lhs;rw[show s.scope=(below d.Body[at_] s).scope from aT.symm]
   exact key
theorem Pl (d:bl) (ae:d.Body.length<=1048576) (U:eE d.Body 1=some d.Body.length) (aV:0<=d.cU) (ab:d.cU+d.Body.length<=1000000):
  vi d=some (gw d.Body [⟨d.cU,false⟩]):=by
 unfold vi;rw[pV 16 ae (by decide)];simp only[bind_some];have hlen:(gw d.Body [⟨d.cU,false⟩]).length=d.Body.length:=vU (st:=[_]) U;have:Bm 0 ⟨d.cU,false⟩ (List.replicate (Int.toNat (d.Body.length:Int)) ⟨0,false⟩) d=some ((d.Body.length:Int),gw d.Body [⟨d.cU,false⟩]):=by
  unfold Bm;refine hi d.Body.length λm hm=>?_;have:=Pk d ae m 0 d.Body.length ⟨d.cU,false⟩ (List.replicate (Int.toNat (d.Body.length:Int)) ⟨0,false⟩) (by simp) (by simpa using U) hm aV ab;rw[show((0:Nat):Int)=0 from rfl]at this;rw[this,Nat.zero_add,List.drop_zero];congr 2;unfold patch;rw[Nat.zero_add,hlen,List.drop_of_length_le (by simp)];simp
 rw[this];rfl
def IE (l:ahK) (q:Nat):Bool:=match eE l 1 with
 |some e=>decide (q<e)
 |none=>false
def mL:ahK->Nat->Nat
 |[],_=>0
 |_::_,0=>0
 |p::r,q+1=>(if p.Kind=4/\IE (p::r) (q+1)=true then 1 else 0)+mL r q
theorem adM (l:ahK):mL l 0=0:=by cases l<;>rfl
theorem Pm:∀(l:ahK) (q:Nat),mL l q<=q
 |[],q=>by simp[mL]
 |_::_,0=>by simp[mL]
 |p::r,q+1=>by
  have:=Pm r q;simp only[mL];split<;>omega
theorem adN (d:bl) (ae:d.Body.length<=1048576) (U:eE d.Body 1=some d.Body.length) (aV: -1000000<=d.cU/\d.cU<=1000000) (q:Nat) (b_:q<d.Body.length):
  rL d (q:Int)=some (d.cU+(mL d.Body q:Nat)):=by
 unfold rL;have key:∀i,i<=q->∀(c:Int) m,-1000000<=c->c<=1000000+i->q-i<m->ta d (q:Int) m c (i:Int)=some (c+(mL (d.Body.drop i) (q-i):Nat)):=by
  refine down q ?_ ?_
  .intro c m _ _ hm;obtain⟨m,rfl⟩:∃j,m=j+1:=⟨m-1,by omega⟩
   simp only[ta,FF];rw[ez (Nat.le_refl _),Nat.sub_self,adM];simp
  .intro i ak ih c m mW mu hm;obtain⟨m,rfl⟩:∃j,m=j+1:=⟨m-1,by omega⟩
   simp only[ta,FF];have qS:i<d.Body.length:=by omega
   rw[e4 ak,fe _ i qS];simp only[cond_true,bind_some,xZ];obtain⟨e,xd,Ac,uC⟩:=adz U qS;rw[adC _ ae i e xd,e1 i q ak (by omega)];simp only[bind_some];have Pn:mL (d.Body.drop i) (q-i)=(if d.Body[i].Kind=4/\q<i+e then 1 else 0)+mL (d.Body.drop (i+1)) (q-(i+1)):=by
    have Po:=xd;rw[drop_cons _ i qS]at Po⊢;rw[show q-i=(q-(i+1))+1 by omega];simp only[mL,IE,Po];congr 1;by_cases aq:d.Body[i].Kind=4
    .by_cases qT:q<i+e
     .rw[if_pos ⟨aq,by simp;omega⟩,if_pos ⟨aq,qT⟩]
     .rw[if_neg (λh=>by simp at h;omega),if_neg (λh=>qT h.2)]
    .rw[if_neg (λh=>aq h.1),if_neg (λh=>aq h.1)]
   rw[Pn];by_cases aq:d.Body[i].Kind=4
   .have IF:(d.Body[i].Kind==4)=true:=by simpa using aq
    rw[IF,cond_true];by_cases qT:q<i+e
    .rw[e4 qT,cond_true,eb (c+1) (by omega),ih (c+1) m (by omega) (by omega) (by omega),if_pos ⟨aq,qT⟩];congr 1;omega
    .rw[ez (by omega),cond_false,ih c m mW (by omega) (by omega),if_neg (λh=>qT h.2)];congr 1;omega
   .have IF:(d.Body[i].Kind==4)=false:=by simpa using aq
    rw[IF,cond_false,ih c m mW (by omega) (by omega),if_neg (λh=>aq h.1)];congr 1;omega
 refine hi (q+1) λm hm=>?_;have:=key 0 (by omega) d.cU m (by omega) (by omega) (by omega);simpa using this
def sa:ahK->ahP->Nat->Option cM
 |_,[],_=>none
 |l,s::st,q=>match eE l 1 with
  |none=>none
  |some k=>if q<k then some s else sa (l.drop k) st (q-k)
theorem Pp:∀(f:Nat) (r:ahK) (b:cM) (st:ahP) (k q:Nat),eE r f=some k->sa r (List.replicate f b++st) q=if q<k then some b else sa (r.drop k) st (q-k)
 |0,r,b,st,k,q,h=>by rw[zh]at h;cases h;simp
 |f+1,r,b,st,k,q,h=>by
  rw[Nat.add_comm f 1]at h;obtain⟨bN,cc,ab,ad,rfl⟩:=zi h;rw[List.replicate_succ,List.cons_append];simp only[sa,ab];by_cases b_:q<bN
  .rw[if_pos b_,if_pos (by omega)]
  .rw[if_neg b_,Pp f _ b st cc (q-bN) ad];by_cases Pq:q-bN<cc
   .rw[if_pos Pq,if_pos (by omega)]
   .rw[if_neg Pq,if_neg (by omega),List.drop_drop,Nat.sub_sub]
theorem Pr:∀(l:ahK) (st:ahP) (k:Nat),eE l st.length=some k->∀q,q<k->∃s pl,sa l st q=some s/\(gw l st)[q]? =some pl/\pl.scope=s.scope+(mL l q:Nat)
 |[],[],k,h,q,b_=>by simp only[List.length_nil,eE,some.injEq]at h;omega
 |[],s::st,k,h,q,b_=>by simp[eE]at h
 |p::r,[],k,h,q,b_=>by simp only[List.length_nil,eE,some.injEq]at h;omega
 |p::r,s::st,k,h,q,b_=>by
  have aV:=h;obtain⟨cI,bc,rfl⟩:=p0.1 h;rw[List.length_cons,Nat.add_comm st.length 1]at aV;obtain⟨e,cc,he,ob,aq⟩:=zi aV;obtain⟨fV,mZ,rfl⟩:=p0.1 he;simp only[Nat.zero_add]at mZ;cases q with
  |zero=>
   refine⟨s,s,?_,rfl,?_⟩
   .simp only[sa,he];rw[if_pos (by omega)]
   .simp[mL]
  |succ q=>
   have hl:eE r (List.replicate (ej p) (below p s)++st).length=some cI:=by
    rw[List.length_append,List.length_replicate,Nat.add_comm];exact bc
   obtain⟨aA,pl,ab,ad,aC⟩:=Pr r _ cI hl q (by omega);rw[Pp _ _ _ _ fV q mZ]at ab;simp only[gw,List.getElem?_cons_succ,sa,he,mL,IE,decide_eq_true_eq];by_cases qT:q<fV
   .rw[if_pos qT]at ab;simp only[some.injEq]at ab;subst ab;refine⟨s,pl,by rw[if_pos (by omega)],ad,?_⟩;rw[aC];by_cases CJ:p.Kind=4
    .rw[if_pos ⟨CJ,by omega⟩];simp only[below,if_pos CJ];omega
    .rw[if_neg (λh=>CJ h.1)];simp only[below,if_neg CJ];omega
   .rw[if_neg qT]at ab;refine⟨aA,pl,?_,ad,?_⟩
    .rw[if_neg (by omega),List.drop_succ_cons,show q+1-(fV+1)=q-fV by omega];exact ab
    .rw[aC,if_neg (λh=>by omega)];omega
theorem adO {p:bD} (h:ej p=0):(p.Kind==1)=false:=by
 unfold ej at h;split at h
 .omega
 .rename_i aU;simp only[beq_eq_false_iff_ne];exact λe=>aU (.inl e)
theorem adP {p:bD} (h:ej p=2):(p.Kind==1)=false:=by
 unfold ej at h;split at h
 .omega
 .rename_i aU;simp only[beq_eq_false_iff_ne];exact λe=>aU (.inl e)
def IG (b:ahK):Nat->Bool
 |0=>false
 |q+1=>match b[q]? with
  |some p=>p.Kind==1
  |none=>false
theorem Ps:∀(l:ahK) (st:ahP),(∀s∈st.tail,s.behind=false)->∀(q:Nat) (pl:cM),(gw l st)[q]? =some pl->
  pl.behind=match q with
   |0=>match st with
    |s::_=>s.behind
    |[]=>false
   |q+1=>match l[q]? with
    |some p=>p.Kind==1
    |none=>false
 |[],st,_,q,pl,h=>by simp[gw]at h
 |p::r,[],_,q,pl,h=>by simp[gw]at h
 |p::r,s::st,CK,q,pl,h=>by
  cases q with
  |zero=>simp only[gw,List.getElem?_cons_zero,some.injEq]at h;subst h;rfl
  |succ q=>
   simp only[gw,List.getElem?_cons_succ]at h;have adQ:∀aA∈(List.replicate (ej p) (below p s)++st).tail,aA.behind=false:=by
    intro aA eV;have bd:=vT p;rcases(by omega:ej p=0\/ej p=1\/ej p=2)with bd|bd|bd
    .rw[bd]at eV;simp only[List.replicate_zero,List.nil_append]at eV;exact CK aA (by simpa using List.mem_of_mem_tail eV)
    .rw[bd]at eV;simp only[List.replicate_succ,List.replicate_zero,List.cons_append,List.nil_append,List.tail_cons]at eV;exact CK aA (by simpa using eV)
    .rw[bd]at eV;simp only[List.replicate_succ,List.replicate_zero,List.cons_append,List.nil_append,List.tail_cons,List.mem_cons]at eV;rcases eV with rfl|eV
     .exact adP bd
     .exact CK aA (by simpa using eV)
   have ih:=Ps r _ adQ q pl h;rw[ih];cases q with
   |succ q=>rfl
   |zero=>
    simp only[List.getElem?_cons_zero];have bd:=vT p;rcases(by omega:ej p=0\/ej p=1\/ej p=2)with bd|bd|bd
    .rw[bd,adO bd];simp only[List.replicate_zero,List.nil_append];cases st with
     |nil=>rfl
     |cons s2 st=>exact CK s2 (by simp)
    .rw[bd];rfl
    .rw[bd];rfl
theorem adR (l:ahK) (s:cM) (U:s.behind=false) (q:Nat) (pl:cM) (h:(gw l [s])[q]? =some pl):pl.behind=IG l q:=by
 rw[Ps l [s] (λs U=>by simp at U) q pl h];cases q with
 |zero=>exact U
 |succ q=>rfl
end Go.lV
