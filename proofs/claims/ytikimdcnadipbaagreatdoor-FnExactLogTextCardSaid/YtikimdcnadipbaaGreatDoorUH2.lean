/- Part of a proof that a law returns true for every input. No condition. -/
import Derived.Test.YtikimdcnadipbaaGreatDoorUH1
namespace Go.eL
open Go Go.bZ
theorem F1 {α:Type} (a:List α) (x y:α) (b:List α):(a++x::b).set a.length y=a++y::b:=by
 rw[List.set_append_right _ _ (Nat.le_refl _),Nat.sub_self,List.set_cons_zero]
theorem zY {α:Type} (a:List α) (x:α) (b:List α):c1 (a++x::b) (a.length:Int)=some x:=by
 rw[gP _ _ (by simp)];simp
theorem Xv {α:Type} (a:List α) (x:α) (b:List α):dZ (a++x::b) 0 ((a.length+1:Nat):Int)=some (a++[x]):=by
 rw[rE _ _ (by simp)]
 congr 1
 rw[show a++x::b=(a++[x])++b by simp,List.take_left' (by simp)]
theorem Xw (c:UInt8) (s:List UInt8) (U:s.length≤1048576) (N:Nat) (Zn:N=s.count c+1):
  ∀(k:Nat) (r:List UInt8) (d:List (List UInt8)),r.count c=k→d.length+k+1=N→r.length≤s.length→∀m,k<m→
   oy s [c] 0 (N:Int) m r (d++List.replicate (k+1) []) (d.length:Int)=some (d++dr c r):=by
 have af:s.count c≤s.length:=List.count_le_length
 have F2:fL false (N:Int) (IntKind.i64.wrap ((s.length:Int)+1))=(N:Int):=by
  rw[eO _ (by omega)]
  unfold fL
  simp;omega
 have pZ:∀(r:List UInt8) (d:List (List UInt8)),d.length<N→c∉r→th s [c] 0 (N:Int) r (d++List.replicate 1 []) (d.length:Int)=some (d++dr c r):=by
  intro r d ae aC
  unfold th
  simp only[List.replicate_succ,List.replicate_zero]
  rw[zY,Option.bind_some,Int.toNat_natCast,F1,eO _ (by omega),show((d.length:Int)+1)=((d.length+1:Nat):Int) by omega,Xv,FT c r aC]
  rfl
 intro k
 induction k with
 |zero=>
  intro r d aC ae aI m hm
  obtain⟨m,rfl⟩:∃j,m=j+1:=⟨m-1,by omega⟩
  simp only[oy,vB]
  have e:decide ((d.length:Int)<IntKind.i64.wrap (fL false (N:Int) (IntKind.i64.wrap ((s.length:Int)+1))-1))=false:=by
   rw[F2,eO _ (by omega)];simp;omega
  rw[e,cond_false]
  exact pZ r d (by omega) (List.count_eq_zero.1 aC)
 |succ k ih=>
  intro r d aC ae aI m hm
  obtain⟨m,rfl⟩:∃j,m=j+1:=⟨m-1,by omega⟩
  obtain⟨p,q,rfl,ah⟩:=zW (c:=c) (s:=r) (List.count_pos_iff.1 (by omega))
  simp only[oy,vB]
  have e:decide ((d.length:Int)<IntKind.i64.wrap (fL false (N:Int) (IntKind.i64.wrap ((s.length:Int)+1))-1))=true:=by
   rw[F2,eO _ (by omega)];simp;omega
  simp only[List.length_append,List.length_cons]at aI
  rw[e,cond_true,Xq,FZ p q ah,Option.bind_some]
  have aJ:decide ((p.length:Int)<0)=false:=by simp
  rw[aJ,cond_false,eO ((p.length:Int)+0) (by omega),Int.add_zero,rE _ _ (by simp)]
  have aN:dZ (p++c::q) (IntKind.i64.wrap ((p.length:Int)+([c].length:Int))) ((p++c::q).length:Int)=some q:=by
   rw[eO _ (by simp;omega)]
   have:=tL (p++[c]) q [] (i:=((p.length:Int)+([c].length:Int))) (j:=(((p++c::q).length:Nat):Int)) (by simp) (by simp;omega)
   simpa using this
  rw[Option.bind_some,List.take_left' rfl,show List.replicate (k+1+1) ([]:List UInt8)=[]::List.replicate (k+1) []from rfl,zY,Option.bind_some,aN,Option.bind_some,Int.toNat_natCast,F1,eO ((d.length:Int)+1) (by omega)]
  have Xx:q.count c=k:=by
   rw[List.count_append,List.count_cons_self,List.count_eq_zero.2 ah]at aC;omega
  have:=ih q (d++[p]) Xx (by simp;omega) (by omega) m (by omega)
  simp only[List.append_assoc,List.singleton_append,List.length_append,List.length_cons,List.length_nil]at this
  rw[FU c p q ah,←this]
  congr 1
theorem Xy (c:UInt8) (s:List UInt8) (U:s.length≤1048576):vD s [c]=some (dr c s):=by
 have af:s.count c≤s.length:=List.count_le_length
 unfold vD y2 y1 y0 vC
 have aF:((-1:Int)==0)=false:=by decide
 have aJ:([c]==([]:List UInt8))=false:=rfl
 have aN:decide ((-1:Int)<0)=true:=by decide
 have bt:(([c].length:Int)==0)=false:=rfl
 have bN:(([c].length:Int)==1)=true:=rfl
 rw[aF,aJ,aN,bt,bN]
 simp only[cond_false,cond_true,wB,Option.bind_some]
 rw[eO ((s.count c:Int)+1) (by omega),eO ((s.length:Int)+1) (by omega)]
 have hm:fL false ((s.count c:Int)+1) ((s.length:Int)+1)=((s.count c+1:Nat):Int):=by
  unfold fL
  simp;omega
 have al:mM 16 ((s.count c+1:Nat):Int)=some ():=by
  unfold mM
  rw[if_pos ⟨by omega,by omega,by omega⟩]
 have aI:dT (fun n=>oy s [c] 0 ((s.count c:Int)+1) n s (List.replicate (s.count c+1) []) 0)=some (dr c s):=by
  refine hM (s.count c+1) fun m hm=> ?_
  have:=Xw c s U (s.count c+1) rfl (s.count c) s [] rfl (by simp) (Nat.le_refl _) m (by omega)
  simpa using this
 rw[hm,al]
 simp only[Option.bind_some,Int.toNat_natCast]
 rw[aI];rfl
theorem Xz (c:UInt8) (s:List UInt8) (U:s.length≤1048576):vk s c=some (dr c s):=by
 have key:∀i,i≤s.length→∀m,s.length-i<m→∀(v:List (List UInt8)) (f:Nat),f≤i→v.length≤i→
   ou s c m v (f:Int) (i:Int)=some (v++glue ((s.take i).drop f) (dr c (s.drop i))):=by
  refine down s.length ?_ ?_
  ·intro m hm v f bc aD
   obtain⟨m,rfl⟩:∃j,m=j+1:=⟨m-1,by omega⟩
   simp only[ou,vj]
   rw[je (Nat.le_refl _),cond_false]
   have e:dZ s (f:Int) (s.length:Int)=some (s.drop f):=by
    unfold dZ
    rw[if_pos ⟨by omega,by omega,by omega⟩];simp
   rw[e,Option.bind_some,oL (by omega) (by omega),Option.bind_some,List.take_length,List.drop_length]
   simp[dr,glue]
  ·intro i ay ih m hm v f bc aD
   obtain⟨m,rfl⟩:∃j,m=j+1:=⟨m-1,by omega⟩
   simp only[ou,vj,vi]
   rw[jd ay,cond_true,gP s i ay,Option.bind_some,drop_cons s i ay]
   simp only[dr]
   by_cases af:s[i]=c
   ·have e:((s[i].toNat:Int)==(c.toNat:Int))=true:=by rw[af];simp
    have aJ:dZ s (f:Int) (i:Int)=some ((s.take i).drop f):=by
     unfold dZ
     rw[if_pos ⟨by omega,by omega,by omega⟩];simp
    rw[e,cond_true,aJ,Option.bind_some,oL (by omega) (by omega),Option.bind_some,if_pos af,iH i s.length ay (by omega),ih m (by omega) _ (i+1) (Nat.le_refl _) (by simp;omega)]
    rw[List.drop_of_length_le (l:=List.take (i+1) s) (by rw[List.length_take];omega),FR (rI _ _)]
    simp[glue]
   ·have e:((s[i].toNat:Int)==(c.toNat:Int))=false:=by
     simp only[beq_eq_false_iff_ne,ne_eq]
     intro h
     exact af (UInt8.toNat_inj.1 (by omega))
    rw[e,cond_false,if_neg af,iH i s.length ay (by omega),ih m (by omega) _ f (by omega) (by omega),Xn]
    congr 3
    rw[List.take_succ_eq_append_getElem ay,List.drop_append_of_le_length (by simp;omega)]
 unfold vk
 refine hM (s.length+1) fun m hm=> ?_
 have:=key 0 (by omega) m (by omega) [] 0 (Nat.le_refl _) (Nat.zero_le _)
 simpa [FR (rI c s)]using this
end Go.eL
