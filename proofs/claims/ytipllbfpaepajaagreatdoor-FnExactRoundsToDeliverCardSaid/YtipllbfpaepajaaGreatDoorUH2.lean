/- Part of a proof that a law returns true for every input. No condition. -/
import Derived.Test.YtipllbfpaepajaaGreatDoorUH1
namespace Go.e3
open Go Go.b9
theorem F7 {α:Type} (a:List α) (x y:α) (b:List α):(a++x::b).set a.length y=a++y::b:=by
 rw[List.set_append_right _ _ (Nat.le_refl _),Nat.sub_self,List.set_cons_zero]
theorem Ag {α:Type} (a:List α) (x:α) (b:List α):cF (a++x::b) (a.length:Int)=some x:=by
 rw[gE _ _ (by simp)];simp
theorem X0 {α:Type} (a:List α) (x:α) (b:List α):ej (a++x::b) 0 ((a.length+1:Nat):Int)=some (a++[x]):=by
 rw[rX _ _ (by simp)]
 congr 1
 rw[show a++x::b=(a++[x])++b by simp,List.take_left' (by simp)]
theorem X1 (c:UInt8) (s:List UInt8) (U:s.length≤1048576) (N:Nat) (ZU:N=s.count c+1):
  ∀(k:Nat) (r:List UInt8) (d:List (List UInt8)),r.count c=k→d.length+k+1=N→r.length≤s.length→∀m,k<m→
   oH s [c] 0 (N:Int) m r (d++List.replicate (k+1) []) (d.length:Int)=some (d++dh c r):=by
 have ai:s.count c≤s.length:=List.count_le_length
 have F8:eo false (N:Int) (IntKind.i64.wrap ((s.length:Int)+1))=(N:Int):=by
  rw[dn _ (by omega)]
  unfold eo
  simp;omega
 have X2:∀(r:List UInt8) (d:List (List UInt8)),d.length<N→c∉r→tx s [c] 0 (N:Int) r (d++List.replicate 1 []) (d.length:Int)=some (d++dh c r):=by
  intro r d ae aC
  unfold tx
  simp only[List.replicate_succ,List.replicate_zero]
  rw[Ag,Option.bind_some,Int.toNat_natCast,F7,dn _ (by omega),show((d.length:Int)+1)=((d.length+1:Nat):Int) by omega,X0,FZ c r aC]
  rfl
 intro k
 induction k with
 |zero=>
  intro r d aC ae aJ m hm
  obtain⟨m,rfl⟩:∃j,m=j+1:=⟨m-1,by omega⟩
  simp only[oH,vH]
  have e:decide ((d.length:Int)<IntKind.i64.wrap (eo false (N:Int) (IntKind.i64.wrap ((s.length:Int)+1))-1))=false:=by
   rw[F8,dn _ (by omega)];simp;omega
  rw[e,cond_false]
  exact X2 r d (by omega) (List.count_eq_zero.1 aC)
 |succ k ih=>
  intro r d aC ae aJ m hm
  obtain⟨m,rfl⟩:∃j,m=j+1:=⟨m-1,by omega⟩
  obtain⟨p,q,rfl,ak⟩:=Ae (c:=c) (s:=r) (List.count_pos_iff.1 (by omega))
  simp only[oH,vH]
  have e:decide ((d.length:Int)<IntKind.i64.wrap (eo false (N:Int) (IntKind.i64.wrap ((s.length:Int)+1))-1))=true:=by
   rw[F8,dn _ (by omega)];simp;omega
  simp only[List.length_append,List.length_cons]at aJ
  rw[e,cond_true,XV,F6 p q ak,Option.bind_some]
  have aI:decide ((p.length:Int)<0)=false:=by simp
  rw[aI,cond_false,dn ((p.length:Int)+0) (by omega),Int.add_zero,rX _ _ (by simp)]
  have aL:ej (p++c::q) (IntKind.i64.wrap ((p.length:Int)+([c].length:Int))) ((p++c::q).length:Int)=some q:=by
   rw[dn _ (by simp;omega)]
   have:=ua (p++[c]) q [] (i:=((p.length:Int)+([c].length:Int))) (j:=(((p++c::q).length:Nat):Int)) (by simp) (by simp;omega)
   simpa using this
  rw[Option.bind_some,List.take_left' rfl,show List.replicate (k+1+1) ([]:List UInt8)=[]::List.replicate (k+1) []from rfl,Ag,Option.bind_some,aL,Option.bind_some,Int.toNat_natCast,F7,dn ((d.length:Int)+1) (by omega)]
  have X3:q.count c=k:=by
   rw[List.count_append,List.count_cons_self,List.count_eq_zero.2 ak]at aC;omega
  have:=ih q (d++[p]) X3 (by simp;omega) (by omega) m (by omega)
  simp only[List.append_assoc,List.singleton_append,List.length_append,List.length_cons,List.length_nil]at this
  rw[F1 c p q ak,←this]
  congr 1
theorem X4 (c:UInt8) (s:List UInt8) (U:s.length≤1048576):vJ s [c]=some (dh c s):=by
 have ai:s.count c≤s.length:=List.count_le_length
 unfold vJ zb za y_ vI
 have aF:((-1:Int)==0)=false:=by decide
 have aI:([c]==([]:List UInt8))=false:=rfl
 have aL:decide ((-1:Int)<0)=true:=by decide
 have bX:(([c].length:Int)==0)=false:=rfl
 have b7:(([c].length:Int)==1)=true:=rfl
 rw[aF,aI,aL,bX,b7]
 simp only[cond_false,cond_true,wL,Option.bind_some]
 rw[dn ((s.count c:Int)+1) (by omega),dn ((s.length:Int)+1) (by omega)]
 have hm:eo false ((s.count c:Int)+1) ((s.length:Int)+1)=((s.count c+1:Nat):Int):=by
  unfold eo
  simp;omega
 have ar:l3 16 ((s.count c+1:Nat):Int)=some ():=by
  unfold l3
  rw[if_pos ⟨by omega,by omega,by omega⟩]
 have aJ:en (fun n=>oH s [c] 0 ((s.count c:Int)+1) n s (List.replicate (s.count c+1) []) 0)=some (dh c s):=by
  refine ki (s.count c+1) fun m hm=> ?_
  have:=X1 c s U (s.count c+1) rfl (s.count c) s [] rfl (by simp) (Nat.le_refl _) m (by omega)
  simpa using this
 rw[hm,ar]
 simp only[Option.bind_some,Int.toNat_natCast]
 rw[aJ];rfl
theorem X5 (c:UInt8) (s:List UInt8) (U:s.length≤1048576):vt s c=some (dh c s):=by
 have key:∀i,i≤s.length→∀m,s.length-i<m→∀(v:List (List UInt8)) (f:Nat),f≤i→v.length≤i→
   oD s c m v (f:Int) (i:Int)=some (v++glue ((s.take i).drop f) (dh c (s.drop i))):=by
  refine down s.length ?_ ?_
  ·intro m hm v f bh aE
   obtain⟨m,rfl⟩:∃j,m=j+1:=⟨m-1,by omega⟩
   simp only[oD,vr]
   rw[ji (Nat.le_refl _),cond_false]
   have e:ej s (f:Int) (s.length:Int)=some (s.drop f):=by
    unfold ej
    rw[if_pos ⟨by omega,by omega,by omega⟩];simp
   rw[e,Option.bind_some,wM (by omega) (by omega),Option.bind_some,List.take_length,List.drop_length]
   simp[dh,glue]
  ·intro i aA ih m hm v f bh aE
   obtain⟨m,rfl⟩:∃j,m=j+1:=⟨m-1,by omega⟩
   simp only[oD,vr,vq]
   rw[jh aA,cond_true,gE s i aA,Option.bind_some,drop_cons s i aA]
   simp only[dh]
   by_cases ai:s[i]=c
   ·have e:((s[i].toNat:Int)==(c.toNat:Int))=true:=by rw[ai];simp
    have aI:ej s (f:Int) (i:Int)=some ((s.take i).drop f):=by
     unfold ej
     rw[if_pos ⟨by omega,by omega,by omega⟩];simp
    rw[e,cond_true,aI,Option.bind_some,wM (by omega) (by omega),Option.bind_some,if_pos ai,iR i s.length aA (by omega),ih m (by omega) _ (i+1) (Nat.le_refl _) (by simp;omega)]
    rw[List.drop_of_length_le (l:=List.take (i+1) s) (by rw[List.length_take];omega),FY (rZ _ _)]
    simp[glue]
   ·have e:((s[i].toNat:Int)==(c.toNat:Int))=false:=by
     simp only[beq_eq_false_iff_ne,ne_eq]
     intro h
     exact ai (UInt8.toNat_inj.1 (by omega))
    rw[e,cond_false,if_neg ai,iR i s.length aA (by omega),ih m (by omega) _ f (by omega) (by omega),XS]
    congr 3
    rw[List.take_succ_eq_append_getElem aA,List.drop_append_of_le_length (by simp;omega)]
 unfold vt
 refine ki (s.length+1) fun m hm=> ?_
 have:=key 0 (by omega) m (by omega) [] 0 (Nat.le_refl _) (Nat.zero_le _)
 simpa [FY (rZ c s)]using this
end Go.e3
