/- Part of a proof that a law returns true for every input. No condition. -/
import Derived.Test.YtipllbfpaepajaaGreatDoorUH1
namespace Go.ff
open Go Go.ca
theorem G_ {α:Type} (a:List α) (x y:α) (b:List α):(a++x::b).set a.length y=a++y::b:=by
 rw[List.set_append_right _ _ (Nat.le_refl _),Nat.sub_self,List.set_cons_zero]
theorem A1 {α:Type} (a:List α) (x:α) (b:List α):cD (a++x::b) (a.length:Int)=some x:=by
 rw[gJ _ _ (by simp)];simp
theorem aaw {α:Type} (a:List α) (x:α) (b:List α):ea (a++x::b) 0 ((a.length+1:Nat):Int)=some (a++[x]):=by
 rw[qL _ _ (by simp)]
 congr 1
 rw[show a++x::b=(a++[x])++b by simp,List.take_left' (by simp)]
theorem aax (c:UInt8) (s:List UInt8) (U:s.length≤1048576) (N:Nat) (acG:N=s.count c+1):
  ∀(k:Nat) (r:List UInt8) (d:List (List UInt8)),r.count c=k→d.length+k+1=N→r.length≤s.length→∀m,k<m→
   o7 s [c] 0 (N:Int) m r (d++List.replicate (k+1) []) (d.length:Int)=some (d++dv c r):=by
 have ai:s.count c≤s.length:=List.count_le_length
 have Ha:eA false (N:Int) (IntKind.i64.wrap ((s.length:Int)+1))=(N:Int):=by
  rw[dq _ (by omega)]
  unfold eA
  simp;omega
 have aay:∀(r:List UInt8) (d:List (List UInt8)),d.length<N→c∉r→ud s [c] 0 (N:Int) r (d++List.replicate 1 []) (d.length:Int)=some (d++dv c r):=by
  intro r d ae aD
  unfold ud
  simp only[List.replicate_succ,List.replicate_zero]
  rw[A1,Option.bind_some,Int.toNat_natCast,G_,dq _ (by omega),show((d.length:Int)+1)=((d.length+1:Nat):Int) by omega,aaw,G3 c r aD]
  rfl
 intro k
 induction k with
 |zero=>
  intro r d aD ae hl m hm
  obtain⟨m,rfl⟩:∃j,m=j+1:=⟨m-1,by omega⟩
  simp only[o7,wA]
  have e:decide ((d.length:Int)<IntKind.i64.wrap (eA false (N:Int) (IntKind.i64.wrap ((s.length:Int)+1))-1))=false:=by
   rw[Ha,dq _ (by omega)];simp;omega
  rw[e,cond_false]
  exact aay r d (by omega) (List.count_eq_zero.1 aD)
 |succ k ih=>
  intro r d aD ae hl m hm
  obtain⟨m,rfl⟩:∃j,m=j+1:=⟨m-1,by omega⟩
  obtain⟨p,q,rfl,ak⟩:=AZ (c:=c) (s:=r) (List.count_pos_iff.1 (by omega))
  simp only[o7,wA]
  have e:decide ((d.length:Int)<IntKind.i64.wrap (eA false (N:Int) (IntKind.i64.wrap ((s.length:Int)+1))-1))=true:=by
   rw[Ha,dq _ (by omega)];simp;omega
  simp only[List.length_append,List.length_cons]at hl
  rw[e,cond_true,aar,G9 p q ak,Option.bind_some]
  have aJ:decide ((p.length:Int)<0)=false:=by simp
  rw[aJ,cond_false,dq ((p.length:Int)+0) (by omega),Int.add_zero,qL _ _ (by simp)]
  have aK:ea (p++c::q) (IntKind.i64.wrap ((p.length:Int)+([c].length:Int))) ((p++c::q).length:Int)=some q:=by
   rw[dq _ (by simp;omega)]
   have:=uR (p++[c]) q [] (i:=((p.length:Int)+([c].length:Int))) (j:=(((p++c::q).length:Nat):Int)) (by simp) (by simp;omega)
   simpa using this
  rw[Option.bind_some,List.take_left' rfl,show List.replicate (k+1+1) ([]:List UInt8)=[]::List.replicate (k+1) []from rfl,A1,Option.bind_some,aK,Option.bind_some,Int.toNat_natCast,G_,dq ((d.length:Int)+1) (by omega)]
  have aaz:q.count c=k:=by
   rw[List.count_append,List.count_cons_self,List.count_eq_zero.2 ak]at aD;omega
  have:=ih q (d++[p]) aaz (by simp;omega) (by omega) m (by omega)
  simp only[List.append_assoc,List.singleton_append,List.length_append,List.length_cons,List.length_nil]at this
  rw[G4 c p q ak,←this]
  congr 1
theorem aaA (c:UInt8) (s:List UInt8) (U:s.length≤1048576):wC s [c]=some (dv c s):=by
 have ai:s.count c≤s.length:=List.count_le_length
 unfold wC zS zR zQ wB
 have aH:((-1:Int)==0)=false:=by decide
 have aJ:([c]==([]:List UInt8))=false:=rfl
 have aK:decide ((-1:Int)<0)=true:=by decide
 have b0:(([c].length:Int)==0)=false:=rfl
 have b_:(([c].length:Int)==1)=true:=rfl
 rw[aH,aJ,aK,b0,b_]
 simp only[cond_false,cond_true,xw,Option.bind_some]
 rw[dq ((s.count c:Int)+1) (by omega),dq ((s.length:Int)+1) (by omega)]
 have hm:eA false ((s.count c:Int)+1) ((s.length:Int)+1)=((s.count c+1:Nat):Int):=by
  unfold eA
  simp;omega
 have al:mF 16 ((s.count c+1:Nat):Int)=some ():=by
  unfold mF
  rw[if_pos ⟨by omega,by omega,by omega⟩]
 have hl:dG (fun n=>o7 s [c] 0 ((s.count c:Int)+1) n s (List.replicate (s.count c+1) []) 0)=some (dv c s):=by
  refine iQ (s.count c+1) fun m hm=> ?_
  have:=aax c s U (s.count c+1) rfl (s.count c) s [] rfl (by simp) (Nat.le_refl _) m (by omega)
  simpa using this
 rw[hm,al]
 simp only[Option.bind_some,Int.toNat_natCast]
 rw[hl];rfl
theorem aaB (c:UInt8) (s:List UInt8) (U:s.length≤1048576):wg s c=some (dv c s):=by
 have key:∀i,i≤s.length→∀m,s.length-i<m→∀(v:List (List UInt8)) (f:Nat),f≤i→v.length≤i→
   o3 s c m v (f:Int) (i:Int)=some (v++glue ((s.take i).drop f) (dv c (s.drop i))):=by
  refine down s.length ?_ ?_
  ·intro m hm v f bk aG
   obtain⟨m,rfl⟩:∃j,m=j+1:=⟨m-1,by omega⟩
   simp only[o3,we]
   rw[im (Nat.le_refl _),cond_false]
   have e:ea s (f:Int) (s.length:Int)=some (s.drop f):=by
    unfold ea
    rw[if_pos ⟨by omega,by omega,by omega⟩];simp
   rw[e,Option.bind_some,sv (by omega) (by omega),Option.bind_some,List.take_length,List.drop_length]
   simp[dv,glue]
  ·intro i aA ih m hm v f bk aG
   obtain⟨m,rfl⟩:∃j,m=j+1:=⟨m-1,by omega⟩
   simp only[o3,we,wc]
   rw[jJ aA,cond_true,gJ s i aA,Option.bind_some,drop_cons s i aA]
   simp only[dv]
   by_cases ai:s[i]=c
   ·have e:((s[i].toNat:Int)==(c.toNat:Int))=true:=by rw[ai];simp
    have aJ:ea s (f:Int) (i:Int)=some ((s.take i).drop f):=by
     unfold ea
     rw[if_pos ⟨by omega,by omega,by omega⟩];simp
    rw[e,cond_true,aJ,Option.bind_some,sv (by omega) (by omega),Option.bind_some,if_pos ai,jo i s.length aA (by omega),ih m (by omega) _ (i+1) (Nat.le_refl _) (by simp;omega)]
    rw[List.drop_of_length_le (l:=List.take (i+1) s) (by rw[List.length_take];omega),G2 (sw _ _)]
    simp[glue]
   ·have e:((s[i].toNat:Int)==(c.toNat:Int))=false:=by
     simp only[beq_eq_false_iff_ne,ne_eq]
     intro h
     exact ai (UInt8.toNat_inj.1 (by omega))
    rw[e,cond_false,if_neg ai,jo i s.length aA (by omega),ih m (by omega) _ f (by omega) (by omega),aao]
    congr 3
    rw[List.take_succ_eq_append_getElem aA,List.drop_append_of_le_length (by simp;omega)]
 unfold wg
 refine iQ (s.length+1) fun m hm=> ?_
 have:=key 0 (by omega) m (by omega) [] 0 (Nat.le_refl _) (Nat.zero_le _)
 simpa [G2 (sw c s)]using this
end Go.ff
