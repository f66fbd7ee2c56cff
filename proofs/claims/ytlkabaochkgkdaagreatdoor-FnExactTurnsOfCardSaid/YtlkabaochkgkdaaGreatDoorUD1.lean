/- Part of a proof that a law returns true for every input. No condition. -/
import Derived.Test.YtlkabaochkgkdaaGreatDoorUA
import Derived.Test.YtlkabaochkgkdaaGreatDoorUB
namespace Go.eU
open Go Go.c_
def fm (p:bH):Nat:=if p.Kind=1\/p.Kind=3\/p.Kind=4 then 1 else if p.Kind=2 then 2 else 0
theorem yu (p:bH):fm p<=2:=by unfold fm;split<;>(try split)<;>omega
theorem S6 (p:bH) (K:Bool->Option Int) (ke:∀b,K b=cond b (some 1) (cond (p.Kind==2) (some 2) (some 0))):
  cond (p.Kind==1) (K true) (cond (p.Kind==3) (K true) (K (p.Kind==4)))=some (fm p:Int):=by
 simp only[ke,fm];by_cases ag:p.Kind=1
 .simp[ag]
 .by_cases aN:p.Kind=3
  .simp[aN]
  .by_cases bg:p.Kind=4
   .simp[bg]
   .by_cases ah:p.Kind=2
    .simp[ah]
    .have aX:(p.Kind==1)=false:=by simpa using ag
     have aQ:(p.Kind==3)=false:=by simpa using aN
     have cC:(p.Kind==4)=false:=by simpa using bg
     have a6:(p.Kind==2)=false:=by simpa using ah
     simp[aX,aQ,cC,a6,ag,aN,bg,ah]
theorem S7 (p:bH):Ad p=some (fm p:Int):=by
 unfold Ad;exact S6 p (Ac p) λ_=>rfl
theorem S8 (p:bH):Au p=some (fm p:Int):=by
 unfold Au;exact S6 p (At p) λ_=>rfl
def tF:List bH->Nat->Bool
 |[],k=>k==0
 |p::r,k=> !(k==0)&&tF r (k+fm p-1)
def fb:List bH->Nat->Option Nat
 |[],0=>some 0
 |[],_+1=>none
 |_::_,0=>some 0
 |p::r,k+1=>(fb r (k+fm p)).map (·+1)
theorem BJ (l:List bH):fb l 0=some 0:=by cases l<;>rfl
theorem rk {p:bH} {r:List bH} {a k:Nat}:fb (p::r) (a+1)=some k↔∃di,fb r (a+fm p)=some di/\k=di+1:=by
 simp only[fb,Option.map_eq_some_iff];constructor
 .rintro⟨di,h,rfl⟩;exact⟨di,h,rfl⟩
 .rintro⟨di,h,rfl⟩;exact⟨di,h,rfl⟩
theorem vY:∀{l:List bH} {a k:Nat},fb l a=some k->a<=k/\k<=l.length
 |[],0,k,h=>by simp only[fb,Option.some.injEq]at h;subst h;simp
 |[],a+1,k,h=>by simp[fb]at h
 |_::_,0,k,h=>by simp only[fb,Option.some.injEq]at h;subst h;simp
 |p::r,a+1,k,h=>by
  obtain⟨di,bt,rfl⟩:=rk.1 h;have:=vY bt;simp only[List.length_cons];omega
theorem KY:∀(l:List bH) (k:Nat),tF l k=(fb l k==some l.length)
 |[],0=>rfl
 |[],k+1=>rfl
 |p::r,0=>rfl
 |p::r,k+1=>by
  have e:k+1+fm p-1=k+fm p:=by omega
  simp only[tF,e,KY r (k+fm p)];have gx:(k+1==0)=false:=rfl;rw[gx];simp only[Bool.not_false,Bool.true_and,fb];cases fb r (k+fm p)with
  |none=>rfl
  |some n=>simp
theorem BK:∀{l:List bH} {a b k:Nat},fb l (a+b)=some k->∃b7 cw,fb l a=some b7/\fb (l.drop b7) b=some cw/\k=b7+cw
 |l,0,b,k,h=>⟨0,k,BJ l,by simpa using h,by omega⟩
 |[],a+1,b,k,h=>by rw[show a+1+b=(a+b)+1 by omega]at h;simp[fb]at h
 |p::r,a+1,b,k,h=>by
  rw[show a+1+b=(a+b)+1 by omega]at h;obtain⟨di,bt,rfl⟩:=rk.1 h;rw[show a+b+fm p=(a+fm p)+b by omega]at bt;obtain⟨b7,cw,ag,ah,rfl⟩:=BK bt;exact⟨b7+1,cw,rk.2 ⟨b7,ag,rfl⟩,by simpa using ah,by omega⟩
theorem S9:∀{l:List bH} {a k:Nat},fb l a=some k->∀i,i<k->∃m,1<=m/\fb (l.drop i) m=some (k-i)
 |[],0,k,h,i,an=>by simp only[fb,Option.some.injEq]at h;omega
 |[],a+1,k,h,i,an=>by simp[fb]at h
 |_::_,0,k,h,i,an=>by simp only[fb,Option.some.injEq]at h;omega
 |p::r,a+1,k,h,i,an=>by
  cases i with
  |zero=>exact⟨a+1,by omega,by simpa using h⟩
  |succ i=>
   obtain⟨di,bt,rfl⟩:=rk.1 h;obtain⟨m,ag,ah⟩:=S9 bt i (by omega);exact⟨m,ag,by simp only[List.drop_succ_cons];rw[ah];congr 1;omega⟩
theorem aFO {l:List bH} {a k i:Nat} (h:fb l a=some k) (an:i<k):∃e,fb (l.drop i) 1=some e/\i+e<=k/\1<=e:=by
 obtain⟨m,ag,ah⟩:=S9 h i an;obtain⟨m,rfl⟩:∃j,m=1+j:=⟨m-1,by omega⟩
 obtain⟨b7,cw,aN,bg,bR⟩:=BK ah;have:=vY aN;exact⟨b7,aN,by omega,by omega⟩
theorem KZ {k a:Nat} (ay:1<=k) (nG:k<=100000000) (cf:a<=2):IntKind.i64.wrap ((k:Int)+IntKind.i64.wrap ((a:Int)-1))=((k+a-1:Nat):Int):=by
 rw[eC ((a:Int)-1) (by omega),eC _ (by omega)];omega
theorem aFP (e:List bH) (he:e.length<=1048576):Dw e=some ((decide (1<=e.length)&&decide (e.length<=20))&&tF e 1):=by
 unfold Dw;by_cases hm:1<=e.length/\e.length<=20
 .have d1:(((e.length:Int)==0)||decide ((20:Int)<(e.length:Int)))=false:=by
   rw[Bool.or_eq_false_iff,beq_eq_false_iff_ne,decide_eq_false_iff_not];omega
  have d2:(decide (1<=e.length)&&decide (e.length<=20))=true:=by simp;omega
  rw[d1,d2,cond_false,Bool.true_and];have key:∀i,i<=e.length->∀(k:Nat) m,k<=1+2*i->e.length-i<m->uJ e m (k:Int) (i:Int)=some (tF (e.drop i) k):=by
   refine down e.length ?_ ?_
   .intro k m _ hm;obtain⟨m,rfl⟩:∃j,m=j+1:=⟨m-1,by omega⟩
    simp only[uJ,Dv];rw[fh (Nat.le_refl _),List.drop_of_length_le (Nat.le_refl _),yt];rfl
   .intro i an ih k m ay hm;obtain⟨m,rfl⟩:∃j,m=j+1:=⟨m-1,by omega⟩
    simp only[uJ,Dv];rw[fX an,gN _ i an,fO i _ an (by omega),drop_cons e i an,yt];simp only[cond_true,Option.bind_some,S7,tF];by_cases ba:k=0
    .subst ba;rfl
    .have ad:(k==0)=false:=by simpa using ba
     have cf:=yu e[i];rw[ad,KZ (by omega) (by omega) cf,ih _ m (by omega) (by omega)];simp only[cond_false,Bool.not_false,Bool.true_and]
  refine ij (e.length+1) λm hm=>?_;have:=key 0 (by omega) 1 m (by omega) (by omega);simpa using this
 .have d1:(((e.length:Int)==0)||decide ((20:Int)<(e.length:Int)))=true:=by
   by_cases h:e.length=0
   .simp[h]
   .have:decide ((20:Int)<(e.length:Int))=true:=by simp;omega
    rw[this,Bool.or_true]
  have d2:(decide (1<=e.length)&&decide (e.length<=20))=false:=by
   rw[Bool.and_eq_false_iff,decide_eq_false_iff_not,decide_eq_false_iff_not];omega
  rw[d1,d2];rfl
def rl (i:Nat):Option Nat->Int
 |none=> -1
 |some n=>((i+n:Nat):Int)
theorem aFQ (d:bs) (aj:d.Body.length<=1048576) (i0:Nat) (ba:i0<=d.Body.length):Eb d (i0:Int)=some (rl i0 (fb (d.Body.drop i0) 1)):=by
 unfold Eb;have key:∀i,i<=d.Body.length->∀(k:Nat) m,k<=1+2*i->d.Body.length-i<m->uV d m (i:Int) (k:Int)=some (rl i (fb (d.Body.drop i) k)):=by
  refine down d.Body.length ?_ ?_
  .intro k m _ hm;obtain⟨m,rfl⟩:∃j,m=j+1:=⟨m-1,by omega⟩
   simp only[uV,Ea];rw[List.drop_of_length_le (Nat.le_refl _)];cases k with
   |zero=>rw[vR];simp[fb,rl]
   |succ k=>
    rw[vN (Nat.succ_pos k)];have:decide ((d.Body.length:Int)<=(d.Body.length:Int))=true:=by simp
    rw[this];rfl
  .intro i an ih k m ay hm;obtain⟨m,rfl⟩:∃j,m=j+1:=⟨m-1,by omega⟩
   simp only[uV,Ea];cases k with
   |zero=>rw[vR,BJ];simp[rl]
   |succ k=>
    have d1:decide ((d.Body.length:Int)<=(i:Int))=false:=by simp;omega
    rw[vN (Nat.succ_pos k),d1,gN _ i an,fO i _ an (by omega),drop_cons _ i an];simp only[cond_true,cond_false,Option.bind_some,S8];have cf:=yu d.Body[i];rw[KZ (by omega) (by omega) cf,ih _ m (by omega) (by omega),show k+1+fm d.Body[i]-1=k+fm d.Body[i] by omega];simp only[fb];cases fb (d.Body.drop (i+1)) (k+fm d.Body[i])with
    |none=>rfl
    |some n=>simp only[Option.map_some,rl];congr 2;omega
 refine ij (d.Body.length+1) λm hm=>?_;refine down d.Body.length (P:=λ_=>True) trivial (λ_ _ _=>trivial) 0 (Nat.zero_le _)|>λ_=>?_;have b7:=key i0 ba 1 m (by omega) (by omega);simpa using b7
theorem aFR (b:List bH) (ad:b.length<=1048576) (i0 n:Nat) (h:fb (b.drop i0) 1=some n):Dz b (i0:Int)=some ((i0+n:Nat):Int):=by
 unfold Dz;have ba:i0<b.length:=by
  have:=vY h;rw[List.length_drop]at this;omega
 have key:∀i,i<=b.length->∀(k n:Nat) m,k<=1+2*i->b.length-i<m->fb (b.drop i) k=some n->uK b m (i:Int) (k:Int)=some ((i+n:Nat):Int):=by
  refine down b.length ?_ ?_
  .intro k n m _ hm he;obtain⟨m,rfl⟩:∃j,m=j+1:=⟨m-1,by omega⟩
   simp only[uK,Dy];rw[List.drop_of_length_le (Nat.le_refl _)]at he;cases k with
   |zero=>rw[vR];simp only[fb,Option.some.injEq]at he;subst he;simp
   |succ k=>simp[fb]at he
  .intro i an ih k n m ay hm he;obtain⟨m,rfl⟩:∃j,m=j+1:=⟨m-1,by omega⟩
   simp only[uK,Dy];cases k with
   |zero=>rw[BJ]at he;cases he;rw[vR];simp
   |succ k=>
    rw[drop_cons _ i an]at he;obtain⟨Hy,ov,rfl⟩:=rk.1 he;rw[vN (Nat.succ_pos k),gN _ i an,fO i _ an (by omega)];simp only[cond_true,Option.bind_some,S7];have cf:=yu b[i];rw[KZ (by omega) (by omega) cf,show k+1+fm b[i]-1=k+fm b[i] by omega,ih _ Hy m (by omega) (by omega) ov];congr 2;omega
 refine ij (b.length+1) λm hm=>?_;have b7:=key i0 (by omega) 1 n m (by omega) (by omega) h;simpa using b7
end Go.eU
