/- Part of a proof that a law returns true for every input. No condition. -/
import Derived.Test.YtocllehpepigpaaGreatUA
import Derived.Test.YtocllehpepigpaaGreatUB
namespace Go.eN
open Go Go.cZ
def eL (p:bJ):Nat:=if p.Kind=1∨p.Kind=3∨p.Kind=4 then 1 else if p.Kind=2 then 2 else 0
theorem xl (p:bJ):eL p≤2:=by unfold eL;split<;>(try split)<;>omega
theorem QL (p:bJ) (K:Bool→Option Int) (jT:∀b,K b=cond b (some 1) (cond (p.Kind==2) (some 2) (some 0))):
  cond (p.Kind==1) (K true) (cond (p.Kind==3) (K true) (K (p.Kind==4)))=some (eL p:Int):=by
 simp only[jT,eL]
 by_cases h1:p.Kind=1
 ·simp[h1]
 ·by_cases aC:p.Kind=3
  ·simp[aC]
  ·by_cases a8:p.Kind=4
   ·simp[a8]
   ·by_cases ah:p.Kind=2
    ·simp[ah]
    ·have aS:(p.Kind==1)=false:=by simpa using h1
     have aQ:(p.Kind==3)=false:=by simpa using aC
     have cF:(p.Kind==4)=false:=by simpa using a8
     have aZ:(p.Kind==2)=false:=by simpa using ah
     simp[aS,aQ,cF,aZ,h1,aC,a8,ah]
theorem QM (p:bJ):y9 p=some (eL p:Int):=by
 unfold y9
 exact QL p (y8 p) fun _=>rfl
theorem QN (p:bJ):zq p=some (eL p:Int):=by
 unfold zq
 exact QL p (zp p) fun _=>rfl
def sB:List bJ→Nat→Bool
 |[],k=>k==0
 |p::r,k=> !(k==0)&&sB r (k+eL p-1)
def e6:List bJ→Nat→Option Nat
 |[],0=>some 0
 |[],_+1=>none
 |_::_,0=>some 0
 |p::r,k+1=>(e6 r (k+eL p)).map (·+1)
theorem AG (l:List bJ):e6 l 0=some 0:=by cases l<;>rfl
theorem qx {p:bJ} {r:List bJ} {a k:Nat}:e6 (p::r) (a+1)=some k↔∃cW,e6 r (a+eL p)=some cW∧k=cW+1:=by
 simp only[e6,Option.map_eq_some_iff]
 constructor
 ·rintro⟨cW,h,rfl⟩;exact⟨cW,h,rfl⟩
 ·rintro⟨cW,h,rfl⟩;exact⟨cW,h,rfl⟩
theorem uY:∀{l:List bJ} {a k:Nat},e6 l a=some k→a≤k∧k≤l.length
 |[],0,k,h=>by simp only[e6,Option.some.injEq]at h;subst h;simp
 |[],a+1,k,h=>by simp[e6]at h
 |_::_,0,k,h=>by simp only[e6,Option.some.injEq]at h;subst h;simp
 |p::r,a+1,k,h=>by
  obtain⟨cW,bL,rfl⟩:=qx.1 h
  have:=uY bL
  simp only[List.length_cons];omega
theorem IZ:∀(l:List bJ) (k:Nat),sB l k=(e6 l k==some l.length)
 |[],0=>rfl
 |[],k+1=>rfl
 |p::r,0=>rfl
 |p::r,k+1=>by
  have e:k+1+eL p-1=k+eL p:=by omega
  simp only[sB,e,IZ r (k+eL p)]
  have gT:(k+1==0)=false:=rfl
  rw[gT]
  simp only[Bool.not_false,Bool.true_and,e6]
  cases e6 r (k+eL p)with
  |none=>rfl
  |some n=>simp
theorem AH:∀{l:List bJ} {a b k:Nat},e6 l (a+b)=some k→∃b8 cy,e6 l a=some b8∧e6 (l.drop b8) b=some cy∧k=b8+cy
 |l,0,b,k,h=>⟨0,k,AG l,by simpa using h,by omega⟩
 |[],a+1,b,k,h=>by rw[show a+1+b=(a+b)+1 by omega]at h;simp[e6]at h
 |p::r,a+1,b,k,h=>by
  rw[show a+1+b=(a+b)+1 by omega]at h
  obtain⟨cW,bL,rfl⟩:=qx.1 h
  rw[show a+b+eL p=(a+eL p)+b by omega]at bL
  obtain⟨b8,cy,h1,ah,rfl⟩:=AH bL
  exact⟨b8+1,cy,qx.2 ⟨b8,h1,rfl⟩,by simpa using ah,by omega⟩
theorem QO:∀{l:List bJ} {a k:Nat},e6 l a=some k→∀i,i<k→∃m,1≤m∧e6 (l.drop i) m=some (k-i)
 |[],0,k,h,i,ao=>by simp only[e6,Option.some.injEq]at h;omega
 |[],a+1,k,h,i,ao=>by simp[e6]at h
 |_::_,0,k,h,i,ao=>by simp only[e6,Option.some.injEq]at h;omega
 |p::r,a+1,k,h,i,ao=>by
  cases i with
  |zero=>exact⟨a+1,by omega,by simpa using h⟩
  |succ i=>
   obtain⟨cW,bL,rfl⟩:=qx.1 h
   obtain⟨m,h1,ah⟩:=QO bL i (by omega)
   exact⟨m,h1,by simp only[List.drop_succ_cons];rw[ah];congr 1;omega⟩
theorem aBW {l:List bJ} {a k i:Nat} (h:e6 l a=some k) (ao:i<k):∃e,e6 (l.drop i) 1=some e∧i+e≤k∧1≤e:=by
 obtain⟨m,h1,ah⟩:=QO h i ao
 obtain⟨m,rfl⟩:∃j,m=1+j:=⟨m-1,by omega⟩
 obtain⟨b8,cy,aC,a8,bK⟩:=AH ah
 have:=uY aC
 exact⟨b8,aC,by omega,by omega⟩
theorem I0 {k a:Nat} (hk:1≤k) (oZ:k≤100000000) (cE:a≤2):IntKind.i64.wrap ((k:Int)+IntKind.i64.wrap ((a:Int)-1))=((k+a-1:Nat):Int):=by
 rw[fl ((a:Int)-1) (by omega),fl _ (by omega)];omega
theorem aBX (e:List bJ) (he:e.length≤1048576):Cv e=some ((decide (1≤e.length)&&decide (e.length≤20))&&sB e 1):=by
 unfold Cv
 by_cases hm:1≤e.length∧e.length≤20
 ·have d1:(((e.length:Int)==0)||decide ((20:Int)<(e.length:Int)))=false:=by
   rw[Bool.or_eq_false_iff,beq_eq_false_iff_ne,decide_eq_false_iff_not];omega
  have d2:(decide (1≤e.length)&&decide (e.length≤20))=true:=by simp;omega
  rw[d1,d2,cond_false,Bool.true_and]
  have key:∀i,i≤e.length→∀(k:Nat) m,k≤1+2*i→e.length-i<m→tF e m (k:Int) (i:Int)=some (sB (e.drop i) k):=by
   refine down e.length ?_ ?_
   ·intro k m _ hm
    obtain⟨m,rfl⟩:∃j,m=j+1:=⟨m-1,by omega⟩
    simp only[tF,Cu]
    rw[fq (Nat.le_refl _),List.drop_of_length_le (Nat.le_refl _),xk];rfl
   ·intro i ao ih k m hk hm
    obtain⟨m,rfl⟩:∃j,m=j+1:=⟨m-1,by omega⟩
    simp only[tF,Cu]
    rw[gP ao,gm _ i ao,gA i _ ao (by omega),drop_cons e i ao,xk]
    simp only[cond_true,Option.bind_some,QM,sB]
    by_cases bf:k=0
    ·subst bf;rfl
    ·have ae:(k==0)=false:=by simpa using bf
     have cE:=xl e[i]
     rw[ae,I0 (by omega) (by omega) cE,ih _ m (by omega) (by omega)]
     simp only[cond_false,Bool.not_false,Bool.true_and]
  refine iX (e.length+1) fun m hm=> ?_
  have:=key 0 (by omega) 1 m (by omega) (by omega)
  simpa using this
 ·have d1:(((e.length:Int)==0)||decide ((20:Int)<(e.length:Int)))=true:=by
   by_cases h:e.length=0
   ·simp[h]
   ·have:decide ((20:Int)<(e.length:Int))=true:=by simp;omega
    rw[this,Bool.or_true]
  have d2:(decide (1≤e.length)&&decide (e.length≤20))=false:=by
   rw[Bool.and_eq_false_iff,decide_eq_false_iff_not,decide_eq_false_iff_not];omega
  rw[d1,d2];rfl
def qy (i:Nat):Option Nat→Int
 |none=> -1
 |some n=>((i+n:Nat):Int)
theorem aBY (d:bj) (aj:d.Body.length≤1048576) (i0:Nat) (bf:i0≤d.Body.length):C7 d (i0:Int)=some (qy i0 (e6 (d.Body.drop i0) 1)):=by
 unfold C7
 have key:∀i,i≤d.Body.length→∀(k:Nat) m,k≤1+2*i→d.Body.length-i<m→tT d m (i:Int) (k:Int)=some (qy i (e6 (d.Body.drop i) k)):=by
  refine down d.Body.length ?_ ?_
  ·intro k m _ hm
   obtain⟨m,rfl⟩:∃j,m=j+1:=⟨m-1,by omega⟩
   simp only[tT,C6]
   rw[List.drop_of_length_le (Nat.le_refl _)]
   cases k with
   |zero=>rw[uS];simp[e6,qy]
   |succ k=>
    rw[xc (Nat.succ_pos k)]
    have:decide ((d.Body.length:Int)≤(d.Body.length:Int))=true:=by simp
    rw[this];rfl
  ·intro i ao ih k m hk hm
   obtain⟨m,rfl⟩:∃j,m=j+1:=⟨m-1,by omega⟩
   simp only[tT,C6]
   cases k with
   |zero=>rw[uS,AG];simp[qy]
   |succ k=>
    have d1:decide ((d.Body.length:Int)≤(i:Int))=false:=by simp;omega
    rw[xc (Nat.succ_pos k),d1,gm _ i ao,gA i _ ao (by omega),drop_cons _ i ao]
    simp only[cond_true,cond_false,Option.bind_some,QN]
    have cE:=xl d.Body[i]
    rw[I0 (by omega) (by omega) cE,ih _ m (by omega) (by omega),show k+1+eL d.Body[i]-1=k+eL d.Body[i] by omega]
    simp only[e6]
    cases e6 (d.Body.drop (i+1)) (k+eL d.Body[i])with
    |none=>rfl
    |some n=>simp only[Option.map_some,qy];congr 2;omega
 refine iX (d.Body.length+1) fun m hm=> ?_
 refine down d.Body.length (P:=fun _=>True) trivial (fun _ _ _=>trivial) 0 (Nat.zero_le _)|>fun _=> ?_
 have b8:=key i0 bf 1 m (by omega) (by omega)
 simpa using b8
theorem aBZ (b:List bJ) (ae:b.length≤1048576) (i0 n:Nat) (h:e6 (b.drop i0) 1=some n):Cy b (i0:Int)=some ((i0+n:Nat):Int):=by
 unfold Cy
 have bf:i0<b.length:=by
  have:=uY h
  rw[List.length_drop]at this;omega
 have key:∀i,i≤b.length→∀(k n:Nat) m,k≤1+2*i→b.length-i<m→e6 (b.drop i) k=some n→tG b m (i:Int) (k:Int)=some ((i+n:Nat):Int):=by
  refine down b.length ?_ ?_
  ·intro k n m _ hm he
   obtain⟨m,rfl⟩:∃j,m=j+1:=⟨m-1,by omega⟩
   simp only[tG,Cx]
   rw[List.drop_of_length_le (Nat.le_refl _)]at he
   cases k with
   |zero=>rw[uS];simp only[e6,Option.some.injEq]at he;subst he;simp
   |succ k=>simp[e6]at he
  ·intro i ao ih k n m hk hm he
   obtain⟨m,rfl⟩:∃j,m=j+1:=⟨m-1,by omega⟩
   simp only[tG,Cx]
   cases k with
   |zero=>rw[AG]at he;cases he;rw[uS];simp
   |succ k=>
    rw[drop_cons _ i ao]at he
    obtain⟨FN,nI,rfl⟩:=qx.1 he
    rw[xc (Nat.succ_pos k),gm _ i ao,gA i _ ao (by omega)]
    simp only[cond_true,Option.bind_some,QM]
    have cE:=xl b[i]
    rw[I0 (by omega) (by omega) cE,show k+1+eL b[i]-1=k+eL b[i] by omega,ih _ FN m (by omega) (by omega) nI]
    congr 2;omega
 refine iX (b.length+1) fun m hm=> ?_
 have b8:=key i0 (by omega) 1 n m (by omega) (by omega) h
 simpa using b8
end Go.eN
