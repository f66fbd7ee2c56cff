/- Part of a proof that a law returns true for every input. No condition. -/
import Derived.Test.YtlkabaochkgkdaaGreatDoorUH1
namespace Go.eU
open Go Go.c_
theorem SD {α:Type} (a:List α) (x y:α) (b:List α):(a++x::b).set a.length y=a++y::b:=by
 rw[List.set_append_right _ _ (Nat.le_refl _),Nat.sub_self,List.set_cons_zero]
theorem KO {α:Type} (a:List α) (x:α) (b:List α):bF (a++x::b) (a.length:Int)=some x:=by
 rw[gN _ _ (by simp)];simp
theorem aFk {α:Type} (a:List α) (x:α) (b:List α):gB (a++x::b) 0 ((a.length+1:Nat):Int)=some (a++[x]):=by
 rw[tv _ _ (by simp)];congr 1;rw[show a++x::b=(a++[x])++b by simp,List.take_left' (by simp)]
theorem aFl (c:UInt8) (s:List UInt8) (ae:s.length<=1048576) (N:Nat) (aI9:N=s.count c+1):
  ∀(k:Nat) (r:List UInt8) (d:List (List UInt8)),r.count c=k->d.length+k+1=N->r.length<=s.length->∀m,k<m->
   tk s [c] 0 (N:Int) m r (d++List.replicate (k+1) []) (d.length:Int)=some (d++fI c r):=by
 have aq:s.count c<=s.length:=List.count_le_length;have SE:ju false (N:Int) (IntKind.i64.wrap ((s.length:Int)+1))=(N:Int):=by
  rw[eC _ (by omega)];unfold ju;simp;omega
 have BC:∀(r:List UInt8) (d:List (List UInt8)),d.length<N->c∉r->AG s [c] 0 (N:Int) r (d++List.replicate 1 []) (d.length:Int)=some (d++fI c r):=by
  intro r d aj aS;unfold AG;simp only[List.replicate_succ,List.replicate_zero];rw[KO,Option.bind_some,Int.toNat_natCast,SD,eC _ (by omega),show((d.length:Int)+1)=((d.length+1:Nat):Int) by omega,aFk,Sv c r aS];rfl
 intro k;induction k with
 |zero=>
  intro r d aS aj hl m hm;obtain⟨m,rfl⟩:∃j,m=j+1:=⟨m-1,by omega⟩
  simp only[tk,EI];have e:decide ((d.length:Int)<IntKind.i64.wrap (ju false (N:Int) (IntKind.i64.wrap ((s.length:Int)+1))-1))=false:=by
   rw[SE,eC _ (by omega)];simp;omega
  rw[e,cond_false];exact BC r d (by omega) (List.count_eq_zero.1 aS)
 |succ k ih=>
  intro r d aS aj hl m hm;obtain⟨m,rfl⟩:∃j,m=j+1:=⟨m-1,by omega⟩
  obtain⟨p,q,rfl,au⟩:=KL (c:=c) (s:=r) (List.count_pos_iff.1 (by omega));simp only[tk,EI];have e:decide ((d.length:Int)<IntKind.i64.wrap (ju false (N:Int) (IntKind.i64.wrap ((s.length:Int)+1))-1))=true:=by
   rw[SE,eC _ (by omega)];simp;omega
  simp only[List.length_append,List.length_cons]at hl;rw[e,cond_true,aFf,SC p q au,Option.bind_some];have a6:decide ((p.length:Int)<0)=false:=by simp
  rw[a6,cond_false,eC ((p.length:Int)+0) (by omega),Int.add_zero,tv _ _ (by simp)];have aQ:gB (p++c::q) (IntKind.i64.wrap ((p.length:Int)+([c].length:Int))) ((p++c::q).length:Int)=some q:=by
   rw[eC _ (by simp;omega)];have:=BA (p++[c]) q [] (i:=((p.length:Int)+([c].length:Int))) (j:=(((p++c::q).length:Nat):Int)) (by simp) (by simp;omega);simpa using this
  rw[Option.bind_some,List.take_left' rfl,show List.replicate (k+1+1) ([]:List UInt8)=[]::List.replicate (k+1) []from rfl,KO,Option.bind_some,aQ,Option.bind_some,Int.toNat_natCast,SD,eC ((d.length:Int)+1) (by omega)];have aFm:q.count c=k:=by
   rw[List.count_append,List.count_cons_self,List.count_eq_zero.2 au]at aS;omega
  have:=ih q (d++[p]) aFm (by simp;omega) (by omega) m (by omega);simp only[List.append_assoc,List.singleton_append,List.length_append,List.length_cons,List.length_nil]at this;rw[Sw c p q au,<-this];congr 1
theorem aFn (c:UInt8) (s:List UInt8) (ae:s.length<=1048576):EK s [c]=some (fI c s):=by
 have aq:s.count c<=s.length:=List.count_le_length;unfold EK JB JA Jz EJ;have aX:((-1:Int)==0)=false:=by decide
 have a6:([c]==([]:List UInt8))=false:=rfl;have aQ:decide ((-1:Int)<0)=true:=by decide
 have cC:(([c].length:Int)==0)=false:=rfl;have cF:(([c].length:Int)==1)=true:=rfl;rw[aX,a6,aQ,cC,cF];simp only[cond_false,cond_true,Gk,Option.bind_some];rw[eC ((s.count c:Int)+1) (by omega),eC ((s.length:Int)+1) (by omega)];have hm:ju false ((s.count c:Int)+1) ((s.length:Int)+1)=((s.count c+1:Nat):Int):=by
  unfold ju;simp;omega
 have ay:k4 16 ((s.count c+1:Nat):Int)=some ():=by
  unfold k4;rw[if_pos ⟨by omega,by omega,by omega⟩]
 have hl:cB (λn=>tk s [c] 0 ((s.count c:Int)+1) n s (List.replicate (s.count c+1) []) 0)=some (fI c s):=by
  refine ij (s.count c+1) λm hm=>?_;have:=aFl c s ae (s.count c+1) rfl (s.count c) s [] rfl (by simp) (Nat.le_refl _) m (by omega);simpa using this
 rw[hm,ay];simp only[Option.bind_some,Int.toNat_natCast];rw[hl];rfl
theorem aFo (c:UInt8) (s:List UInt8) (ae:s.length<=1048576):DX s c=some (fI c s):=by
 have key:∀i,i<=s.length->∀m,s.length-i<m->∀(v:List (List UInt8)) (f:Nat),f<=i->v.length<=i->
   tg s c m v (f:Int) (i:Int)=some (v++glue ((s.take i).drop f) (fI c (s.drop i))):=by
  refine down s.length ?_ ?_
  .intro m hm v f bw aT;obtain⟨m,rfl⟩:∃j,m=j+1:=⟨m-1,by omega⟩
   simp only[tg,DW];rw[fh (Nat.le_refl _),cond_false];have e:gB s (f:Int) (s.length:Int)=some (s.drop f):=by
    unfold gB;rw[if_pos ⟨by omega,by omega,by omega⟩];simp
   rw[e,Option.bind_some,Gm (by omega) (by omega),Option.bind_some,List.take_length,List.drop_length];simp[fI,glue]
  .intro i an ih m hm v f bw aT;obtain⟨m,rfl⟩:∃j,m=j+1:=⟨m-1,by omega⟩
   simp only[tg,DW,DV];rw[fX an,cond_true,gN s i an,Option.bind_some,drop_cons s i an];simp only[fI];by_cases aq:s[i]=c
   .have e:((s[i].toNat:Int)==(c.toNat:Int))=true:=by rw[aq];simp
    have a6:gB s (f:Int) (i:Int)=some ((s.take i).drop f):=by
     unfold gB;rw[if_pos ⟨by omega,by omega,by omega⟩];simp
    rw[e,cond_true,a6,Option.bind_some,Gm (by omega) (by omega),Option.bind_some,if_pos aq,fO i s.length an (by omega),ih m (by omega) _ (i+1) (Nat.le_refl _) (by simp;omega)];rw[List.drop_of_length_le (l:=List.take (i+1) s) (by rw[List.length_take];omega),Su (yr _ _)];simp[glue]
   .have e:((s[i].toNat:Int)==(c.toNat:Int))=false:=by
     simp only[beq_eq_false_iff_ne,ne_eq];intro h;exact aq (UInt8.toNat_inj.1 (by omega))
    rw[e,cond_false,if_neg aq,fO i s.length an (by omega),ih m (by omega) _ f (by omega) (by omega),aFc];congr 3;rw[List.take_succ_eq_append_getElem an,List.drop_append_of_le_length (by simp;omega)]
 unfold DX;refine ij (s.length+1) λm hm=>?_;have:=key 0 (by omega) m (by omega) [] 0 (Nat.le_refl _) (Nat.zero_le _);simpa [Su (yr c s)]using this
end Go.eU
