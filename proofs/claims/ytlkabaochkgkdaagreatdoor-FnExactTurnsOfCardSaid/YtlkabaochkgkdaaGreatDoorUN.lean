/- Part of a proof that a law returns true for every input. No condition. -/
import Derived.Test.YtlkabaochkgkdaaGreatDoorUG
namespace Go.eU
open Go Go.c_
theorem rb {α:Type} (d:List α) (x:α) (r:List α):bF (d++x::r) (d.length:Int)=some x:=by
 rw[gN _ _ (by simp)];simp
theorem sf {α:Type} (d:List α) (x y:α) (r:List α):List.set (d++x::r) (Int.toNat (d.length:Int)) y=d++y::r:=by
 simp
theorem Sj {k:Int} (h:0<=k):decide (k<0)=false:=by simp;omega
theorem re {α:Type} (d:List α) (x:α) (r:List α):decide ((d.length:Int)<((d++x::r).length:Int))=true:=by simp;omega
theorem rf {α:Type} {d:List α} (h:d.length<=1099511627776):IntKind.i64.wrap ((d.length:Int)+1)=((d.length+1:Nat):Int):=by rw[eC _ (by omega)];omega
theorem tC {α:Type} (f:α->Nat):∀a:List α,hD (λx=>64*(f x+1)) a=64*dO f a
 |[]=>rfl
 |x::r=>by
  have:=tC f r;unfold dO at this⊢;simp only[hD,List.length_cons];omega
theorem KJ {α:Type} (n:Nat):∀a:List α,hD (λ_=>n) a=n*a.length
 |[]=>rfl
 |x::r=>by simp only[hD,KJ n r,List.length_cons,Nat.mul_add];omega
theorem tD {α:Type} {l:Nat->List α->Int->Int->Option (Int×List α)} (w:α->Nat) (ba:∀m (v:List α) k,l (m+1) v k (v.length:Int)=some (k,v))
  (ae:∀x (k:Int),0<=k->k+w x<=1099511627776->∃cA c,c<=w x/\∀m (d r:List α),d.length<=1099511627776->l (m+1) (d++x::r) k (d.length:Int)=l m (d++cA::r) (k+(c:Nat)) ((d.length+1:Nat):Int))
  (a:List α) (k:Int) (ay:0<=k) (hl:a.length<=1099511627776) (ad:k+hD w a<=1099511627776):∃c7 c,c<=hD w a/\cB (λn=>l n a k 0)=some (k+(c:Nat),c7):=by
 have key:∀(r:List α) (k:Int),0<=k->k+hD w r<=1099511627776->∃ik c,c<=hD w r/\∀(d:List α) (m:Nat),d.length+r.length<=1099511627776->r.length<m->l m (d++r) k (d.length:Int)=some (k+(c:Nat),d++ik):=by
  intro r;induction r with
  |nil=>
   intro k _ _;refine⟨[],0,Nat.le_refl _,λd m _ hm=>?_⟩;obtain⟨m,rfl⟩:∃j,m=j+1:=⟨m-1,by omega⟩
   rw[List.append_nil,ba];simp
  |cons x r ih=>
   intro k ag ah;simp only[hD]at ah;obtain⟨cA,c,cv,c2⟩:=ae x k ag (by omega);obtain⟨ik,sL,aX,a6⟩:=ih (k+c) (by omega) (by omega);refine⟨cA::ik,c+sL,by simp only[hD];omega,λd m aj hm=>?_⟩;simp only[List.length_cons]at aj hm;obtain⟨m,rfl⟩:∃j,m=j+1:=⟨m-1,by omega⟩
   rw[c2 m d r (by omega)];have:=a6 (d++[cA]) m (by simp only[List.length_append,List.length_cons,List.length_nil];omega) (by omega);simp only[List.length_append,List.length_cons,List.length_nil,List.append_assoc,List.cons_append,List.nil_append,Nat.zero_add]at this;rw[this];simp only[Option.some.injEq,Prod.mk.injEq,and_true];omega
 obtain⟨c7,c,aX,a6⟩:=key a k ay ad;refine⟨c7,c,aX,ij (a.length+1) λm hm=>?_⟩;have:=a6 [] m (by simpa using hl) (by omega);simpa using this
theorem aEa {α:Type} {l:Nat->List α->Int->Int->Option (Int×List α)} {hl:List α->Nat->Int->Int->Option Int} (w:α->Nat) (ba:∀m (v:List α) k,l (m+1) v k (v.length:Int)=some (k,v))
  (g0:∀(a:List α) m k,hl a (m+1) k (a.length:Int)=some k)
  (ae:∀x (k:Int),0<=k->k+w x<=1099511627776->∃cA c,c<=w x/\∀m (d r:List α),d.length<=1099511627776->l (m+1) (d++x::r) k (d.length:Int)=l m (d++cA::r) (k+(c:Nat)) ((d.length+1:Nat):Int)/\
   hl (d++cA::r) (m+1) k (d.length:Int)=hl (d++cA::r) m (k+(c:Nat)) ((d.length+1:Nat):Int))
  (a:List α) (k:Int) (ay:0<=k) (Sk:a.length<=1099511627776) (ad:k+hD w a<=1099511627776):∃c7 c,c<=hD w a/\cB (λn=>l n a k 0)=some (k+(c:Nat),c7)/\cB (λn=>hl c7 n k 0)=some (k+(c:Nat)):=by
 have key:∀(r:List α) (k:Int),0<=k->k+hD w r<=1099511627776->∃ik c,c<=hD w r/\ik.length=r.length/\∀(d:List α) (m:Nat),d.length+r.length<=1099511627776->r.length<m->l m (d++r) k (d.length:Int)=some (k+(c:Nat),d++ik)/\
   hl (d++ik) m k (d.length:Int)=some (k+(c:Nat)):=by
  intro r;induction r with
  |nil=>
   intro k _ _;refine⟨[],0,Nat.le_refl _,rfl,λd m _ hm=>?_⟩;obtain⟨m,rfl⟩:∃j,m=j+1:=⟨m-1,by omega⟩
   rw[List.append_nil,ba,g0];simp
  |cons x r ih=>
   intro k ag ah;simp only[hD]at ah;obtain⟨cA,c,cv,c2⟩:=ae x k ag (by omega);obtain⟨ik,sL,aX,aQ,a6⟩:=ih (k+c) (by omega) (by omega);refine⟨cA::ik,c+sL,by simp only[hD];omega,by simp only[List.length_cons,aQ],λd m aj hm=>?_⟩;simp only[List.length_cons]at aj hm;obtain⟨m,rfl⟩:∃j,m=j+1:=⟨m-1,by omega⟩
   rw[(c2 m d r (by omega)).1,(c2 m d ik (by omega)).2];have:=a6 (d++[cA]) m (by simp only[List.length_append,List.length_cons,List.length_nil];omega) (by omega);simp only[List.length_append,List.length_cons,List.length_nil,List.append_assoc,List.cons_append,List.nil_append,Nat.zero_add]at this;rw[this.1,this.2];simp only[Option.some.injEq,Prod.mk.injEq,and_true];exact⟨by omega,by omega⟩
 obtain⟨c7,c,aX,aQ,a6⟩:=key a k ay ad;refine⟨c7,c,aX,ij (a.length+1) λm hm=>?_,ij (a.length+1) λm hm=>?_⟩
 .have:=(a6 [] m (by simpa using Sk) (by omega)).1;simpa using this
 .have:=(a6 [] m (by simpa using Sk) (by omega)).2;simpa using this
end Go.eU
