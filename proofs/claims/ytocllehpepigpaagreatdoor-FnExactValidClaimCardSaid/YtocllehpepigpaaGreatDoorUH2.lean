/- Part of a proof that a law returns true for every input. No condition. -/
import Derived.Test.YtocllehpepigpaaGreatDoorUH1
namespace Go.gB
open Go Go.cI
theorem Ks {α:Type} (a:List α) (x y:α) (b:List α):(a++x::b).set a.length y=a++y::b:=by
 rw[List.set_append_right _ _ (Nat.le_refl _),Nat.sub_self,List.set_cons_zero]
theorem Ab {α:Type} (a:List α) (x:α) (b:List α):bX (a++x::b) (a.length:Int)=some x:=by
 rw[fy _ _ (by simp)];simp
theorem akL {α:Type} (a:List α) (x:α) (b:List α):e1 (a++x::b) 0 ((a.length+1:Nat):Int)=some (a++[x]):=by
 rw[pK _ _ (by simp)]
 congr 1
 rw[show a++x::b=(a++[x])++b by simp,List.take_left' (by simp)]
theorem akM (c:UInt8) (s:List UInt8) (aa:s.length≤1048576) (N:Nat) (ane:N=s.count c+1):
  ∀(k:Nat) (r:List UInt8) (d:List (List UInt8)),r.count c=k→d.length+k+1=N→r.length≤s.length→∀m,k<m→
   qy s [c] 0 (N:Int) m r (d++List.replicate (k+1) []) (d.length:Int)=some (d++eC c r):=by
 have aj:s.count c≤s.length:=List.count_le_length
 have Kt:h3 false (N:Int) (IntKind.i64.wrap ((s.length:Int)+1))=(N:Int):=by
  rw[e0 _ (by omega)]
  unfold h3
  simp;omega
 have akN:∀(r:List UInt8) (d:List (List UInt8)),d.length<N→c∉r→vQ s [c] 0 (N:Int) r (d++List.replicate 1 []) (d.length:Int)=some (d++eC c r):=by
  intro r d ah aH
  unfold vQ
  simp only[List.replicate_succ,List.replicate_zero]
  rw[Ab,Option.bind_some,Int.toNat_natCast,Ks,e0 _ (by omega),show((d.length:Int)+1)=((d.length+1:Nat):Int) by omega,akL,Kl c r aH]
  rfl
 intro k
 induction k with
 |zero=>
  intro r d aH ah aO m hm
  obtain⟨m,rfl⟩:∃j,m=j+1:=⟨m-1,by omega⟩
  simp only[qy,yN]
  have e:decide ((d.length:Int)<IntKind.i64.wrap (h3 false (N:Int) (IntKind.i64.wrap ((s.length:Int)+1))-1))=false:=by
   rw[Kt,e0 _ (by omega)];simp;omega
  rw[e,cond_false]
  exact akN r d (by omega) (List.count_eq_zero.1 aH)
 |succ k ih=>
  intro r d aH ah aO m hm
  obtain⟨m,rfl⟩:∃j,m=j+1:=⟨m-1,by omega⟩
  obtain⟨p,q,rfl,ao⟩:=DQ (c:=c) (s:=r) (List.count_pos_iff.1 (by omega))
  simp only[qy,yN]
  have e:decide ((d.length:Int)<IntKind.i64.wrap (h3 false (N:Int) (IntKind.i64.wrap ((s.length:Int)+1))-1))=true:=by
   rw[Kt,e0 _ (by omega)];simp;omega
  simp only[List.length_append,List.length_cons]at aO
  rw[e,cond_true,akG,Kr p q ao,Option.bind_some]
  have aX:decide ((p.length:Int)<0)=false:=by simp
  rw[aX,cond_false,e0 ((p.length:Int)+0) (by omega),Int.add_zero,pK _ _ (by simp)]
  have aS:e1 (p++c::q) (IntKind.i64.wrap ((p.length:Int)+([c].length:Int))) ((p++c::q).length:Int)=some q:=by
   rw[e0 _ (by simp;omega)]
   have:=ua (p++[c]) q [] (i:=((p.length:Int)+([c].length:Int))) (j:=(((p++c::q).length:Nat):Int)) (by simp) (by simp;omega)
   simpa using this
  rw[Option.bind_some,List.take_left' rfl,show List.replicate (k+1+1) ([]:List UInt8)=[]::List.replicate (k+1) []from rfl,Ab,Option.bind_some,aS,Option.bind_some,Int.toNat_natCast,Ks,e0 ((d.length:Int)+1) (by omega)]
  have akO:q.count c=k:=by
   rw[List.count_append,List.count_cons_self,List.count_eq_zero.2 ao]at aH;omega
  have:=ih q (d++[p]) akO (by simp;omega) (by omega) m (by omega)
  simp only[List.append_assoc,List.singleton_append,List.length_append,List.length_cons,List.length_nil]at this
  rw[Km c p q ao,←this]
  congr 1
theorem akP (c:UInt8) (s:List UInt8) (aa:s.length≤1048576):yP s [c]=some (eC c s):=by
 have aj:s.count c≤s.length:=List.count_le_length
 unfold yP CP CO CN yO
 have aT:((-1:Int)==0)=false:=by decide
 have aX:([c]==([]:List UInt8))=false:=rfl
 have aS:decide ((-1:Int)<0)=true:=by decide
 have bQ:(([c].length:Int)==0)=false:=rfl
 have cp:(([c].length:Int)==1)=true:=rfl
 rw[aT,aX,aS,bQ,cp]
 simp only[cond_false,cond_true,zX,Option.bind_some]
 rw[e0 ((s.count c:Int)+1) (by omega),e0 ((s.length:Int)+1) (by omega)]
 have hm:h3 false ((s.count c:Int)+1) ((s.length:Int)+1)=((s.count c+1:Nat):Int):=by
  unfold h3
  simp;omega
 have ax:lz 16 ((s.count c+1:Nat):Int)=some ():=by
  unfold lz
  rw[if_pos ⟨by omega,by omega,by omega⟩]
 have aO:cY (fun n=>qy s [c] 0 ((s.count c:Int)+1) n s (List.replicate (s.count c+1) []) 0)=some (eC c s):=by
  refine j8 (s.count c+1) fun m hm=> ?_
  have:=akM c s aa (s.count c+1) rfl (s.count c) s [] rfl (by simp) (Nat.le_refl _) m (by omega)
  simpa using this
 rw[hm,ax]
 simp only[Option.bind_some,Int.toNat_natCast]
 rw[aO];rfl
theorem akQ (c:UInt8) (s:List UInt8) (aa:s.length≤1048576):yn s c=some (eC c s):=by
 have key:∀i,i≤s.length→∀m,s.length-i<m→∀(v:List (List UInt8)) (f:Nat),f≤i→v.length≤i→
   qs s c m v (f:Int) (i:Int)=some (v++glue ((s.take i).drop f) (eC c (s.drop i))):=by
  refine down s.length ?_ ?_
  ·intro m hm v f br aI
   obtain⟨m,rfl⟩:∃j,m=j+1:=⟨m-1,by omega⟩
   simp only[qs,ym]
   rw[iC (Nat.le_refl _),cond_false]
   have e:e1 s (f:Int) (s.length:Int)=some (s.drop f):=by
    unfold e1
    rw[if_pos ⟨by omega,by omega,by omega⟩];simp
   rw[e,Option.bind_some,z6 (by omega) (by omega),Option.bind_some,List.take_length,List.drop_length]
   simp[eC,glue]
  ·intro i ay ih m hm v f br aI
   obtain⟨m,rfl⟩:∃j,m=j+1:=⟨m-1,by omega⟩
   simp only[qs,ym,yl]
   rw[iB ay,cond_true,fy s i ay,Option.bind_some,drop_cons s i ay]
   simp only[eC]
   by_cases aj:s[i]=c
   ·have e:((s[i].toNat:Int)==(c.toNat:Int))=true:=by rw[aj];simp
    have aX:e1 s (f:Int) (i:Int)=some ((s.take i).drop f):=by
     unfold e1
     rw[if_pos ⟨by omega,by omega,by omega⟩];simp
    rw[e,cond_true,aX,Option.bind_some,z6 (by omega) (by omega),Option.bind_some,if_pos aj,h1 i s.length ay (by omega),ih m (by omega) _ (i+1) (Nat.le_refl _) (by simp;omega)]
    rw[List.drop_of_length_le (l:=List.take (i+1) s) (by rw[List.length_take];omega),Kk (ub _ _)]
    simp[glue]
   ·have e:((s[i].toNat:Int)==(c.toNat:Int))=false:=by
     simp only[beq_eq_false_iff_ne,ne_eq]
     intro h
     exact aj (UInt8.toNat_inj.1 (by omega))
    rw[e,cond_false,if_neg aj,h1 i s.length ay (by omega),ih m (by omega) _ f (by omega) (by omega),akD]
    congr 3
    rw[List.take_succ_eq_append_getElem ay,List.drop_append_of_le_length (by simp;omega)]
 unfold yn
 refine j8 (s.length+1) fun m hm=> ?_
 have:=key 0 (by omega) m (by omega) [] 0 (Nat.le_refl _) (Nat.zero_le _)
 simpa [Kk (ub c s)]using this
end Go.gB
