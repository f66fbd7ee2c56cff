/- Part of a proof that a law returns true for every input. No condition. -/
import Derived.Test.YtlkabaochkgkdaaGreatDoorUG
import Derived.Test.YtlkabaochkgkdaaGreatDoorP3
namespace Go.eU
open Go Go.c_
def vU (t:b1):Nat:=if t.Kind=2 then 2 else if t.Kind=3 then 1 else 0
theorem S3 (t:b1):vU t<=2:=by unfold vU;split<;>(try split)<;>omega
theorem S4 (t:b1):cond (t.Kind==2) (some 2) (cond (t.Kind==3) (some 1) (some 0))=some (vU t:Int):=by
 unfold vU;by_cases ah:t.Kind=2
 .simp[ah]
 .by_cases aN:t.Kind=3
  .simp[aN]
  .have a6:(t.Kind==2)=false:=by simpa using ah
   have aQ:(t.Kind==3)=false:=by simpa using aN
   rw[a6,aQ,if_neg ah,if_neg aN];rfl
def sk (n dv an:Int):Bool:=decide (dv<=n)&&decide (n<=an)
def vV (t:b1) (v:Int):Bool:=cond (t.Kind==0) (sk t.Value 0 63) (cond (t.Kind==1) (sk t.Value 0 (v-1)) (cond (t.Kind==2) (sk t.Value 0 8) (cond (t.Kind==3) (t.Value==0) false)))
def vW (v:Int):List b1->Nat->Bool
 |[],k=>k==0
 |t::r,k=> !(k==0)&&(vV t v&&vW v r (k+vU t-1))
def vX (e:List b1) (v most:Int):Bool:=decide ((e.length:Int)<=most)&&vW v e 1
theorem aFI (t:b1) (v:Int) (aT: -1000000<=v/\v<=1000000):DB t v=some (vV t v):=by
 unfold DB kS vV sk;rw[eC (v-1) (by omega)];cases t.Kind==0<;>cases t.Kind==1<;>cases t.Kind==2<;>cases t.Kind==3<;>rfl
theorem aFJ (t:b1) (v:Int) (aT: -1000000<=v/\v<=1000000):Eg t v=some (vV t v):=by
 unfold Eg xM jj vV sk;rw[eC (v-1) (by omega)];cases t.Kind==0<;>cases t.Kind==1<;>cases t.Kind==2<;>cases t.Kind==3<;>rfl
theorem aFK (t:b1):Je t=some (vU t:Int):=S4 t
theorem aFL (t:b1):Jp t=some (vU t:Int):=S4 t
theorem S5 {k a:Nat} (ay:1<=k) (nG:k<=100000000) (cf:a<=2):IntKind.i64.wrap ((k:Int)+IntKind.i64.wrap ((a:Int)-1))=((k+a-1:Nat):Int):=by
 rw[eC ((a:Int)-1) (by omega),eC _ (by omega)];omega
theorem yt (k:Nat):((k:Int)==0)=(k==0):=by
 by_cases h:k=0
 .subst h;rfl
 .have ag:((k:Int)==0)=false:=by simp;omega
  have ah:(k==0)=false:=by simpa using h
  rw[ag,ah]
theorem aFM (e:List b1) (v most:Int) (aT: -1000000<=v/\v<=1000000) (he:e.length<=1048576):DD e v most=some (vX e v most):=by
 unfold DD vX;by_cases hm:(e.length:Int)<=most
 .have d1:decide (most<(e.length:Int))=false:=by simp;omega
  have d2:decide ((e.length:Int)<=most)=true:=by simpa using hm
  rw[d1,d2,cond_false,Bool.true_and];have key:∀i,i<=e.length->∀(k:Nat) m,k<=1+2*i->e.length-i<m->uL e v m (k:Int) (i:Int)=some (vW v (e.drop i) k):=by
   refine down e.length ?_ ?_
   .intro k m _ hm;obtain⟨m,rfl⟩:∃j,m=j+1:=⟨m-1,by omega⟩
    simp only[uL,DC];rw[fh (Nat.le_refl _),List.drop_of_length_le (Nat.le_refl _),yt];rfl
   .intro i an ih k m ay hm;obtain⟨m,rfl⟩:∃j,m=j+1:=⟨m-1,by omega⟩
    simp only[uL,DC];rw[fX an,gN _ i an,fO i _ an (by omega),drop_cons e i an,yt];simp only[cond_true,Option.bind_some,aFI _ v aT,aFK,vW];by_cases ba:k=0
    .subst ba;rfl
    .have ad:(k==0)=false:=by simpa using ba
     have cf:=S3 e[i];rw[ad,S5 (by omega) (by omega) cf,ih _ m (by omega) (by omega)];simp only[cond_false,Bool.not_false,Bool.true_and];cases vV e[i] v<;>rfl
  refine ij (e.length+1) λm hm=>?_;have:=key 0 (by omega) 1 m (by omega) (by omega);simpa using this
 .have d1:decide (most<(e.length:Int))=true:=by simp;omega
  have d2:decide ((e.length:Int)<=most)=false:=by simpa using hm
  rw[d1,d2];rfl
theorem aFN (e:List b1) (v most:Int) (aT:0<=v/\v<=29) (aI_:1<=most/\most<=60) (he:e.length<=1048576):Ei e v most=some (vX e v most):=by
 unfold Ei jj vX;have d1:(!(decide (0<=v)&&decide (v<=29)))=false:=by simp;omega
 have d2:(!(decide (1<=most)&&decide (most<=60)))=false:=by simp;omega
 simp only[Option.bind_some,d1,d2,cond_false];by_cases ag:e.length=0
 .have:e=[]:=List.length_eq_zero_iff.1 ag;subst this;simp[vW]
 .by_cases hm:(e.length:Int)<=most
  .have d3:(!(decide ((1:Int)<=(e.length:Int))&&decide ((e.length:Int)<=most)))=false:=by simp;omega
   have d4:decide ((e.length:Int)<=most)=true:=by simpa using hm
   rw[d3,d4,cond_false,Bool.true_and];have key:∀i,i<=e.length->∀(k:Nat) m,k<=1+2*i->e.length-i<m->uY e v m (k:Int) (i:Int)=some (vW v (e.drop i) k):=by
    refine down e.length ?_ ?_
    .intro k m _ hm;obtain⟨m,rfl⟩:∃j,m=j+1:=⟨m-1,by omega⟩
     simp only[uY,Eh];rw[fh (Nat.le_refl _),List.drop_of_length_le (Nat.le_refl _),yt];rfl
    .intro i an ih k m ay hm;obtain⟨m,rfl⟩:∃j,m=j+1:=⟨m-1,by omega⟩
     simp only[uY,Eh];rw[fX an,gN _ i an,fO i _ an (by omega),drop_cons e i an,yt];simp only[cond_true,Option.bind_some,aFJ _ v (by omega),aFL,vW];by_cases ba:k=0
     .subst ba;rfl
     .have ad:(k==0)=false:=by simpa using ba
      have cf:=S3 e[i];rw[ad,S5 (by omega) (by omega) cf,ih _ m (by omega) (by omega)];simp only[cond_false,Bool.not_false,Bool.true_and];cases vV e[i] v<;>rfl
   refine ij (e.length+1) λm hm=>?_;have:=key 0 (by omega) 1 m (by omega) (by omega);simpa using this
  .have d3:(!(decide ((1:Int)<=(e.length:Int))&&decide ((e.length:Int)<=most)))=true:=by simp;omega
   have d4:decide ((e.length:Int)<=most)=false:=by simpa using hm
   rw[d3,d4];rfl
end Go.eU
