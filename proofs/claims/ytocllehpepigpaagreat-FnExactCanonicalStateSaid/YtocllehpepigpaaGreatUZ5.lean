/- Part of a proof that a law returns true for every input. No condition. -/
import Derived.Test.YtocllehpepigpaaGreatP3
import Derived.Test.YtocllehpepigpaaGreatUG
namespace Go.eN
open Go Go.cZ
def hB (a b:Int):Int:=if a<b then-1 else if b<a then 1 else 0
def hM:List Int→List Int→Int
 |[],[]=>0
 |[],_::_=> -1
 |_::_,[]=>1
 |a::x,b::y=>if hB a b=0 then hM x y else hB a b
def gY (p q:aW):Int:=if hB p.cm q.cm=0 then(if hB p.Part q.Part=0 then hM p.bS q.bS else hB p.Part q.Part)else hB p.cm q.cm
theorem Rh (a b:Int):wN a b=some (hB a b):=by
 unfold wN DA hB
 simp only[bne_self_eq_false,Option.bind_some,cond_false]
 by_cases h:a<b
 ·simp[h]
 ·by_cases ah:b<a
  ·simp[h,ah]
  ·simp[h,ah]
def AM (a b:List Int) (i:Nat):Option Int:=if i=a.length then some (if a.length<b.length then-1 else 0)else if b.length≤i then some 1 else some (hM (a.drop i) (b.drop i))
theorem I_ (a b:List Int) (i:Nat) (h1:i≤a.length) (ah:i≤b.length):AM a b i=some (hM (a.drop i) (b.drop i)):=by
 unfold AM
 by_cases h:i=a.length
 ·subst h
  rw[if_pos rfl,List.drop_of_length_le (Nat.le_refl _)]
  by_cases aC:a.length<b.length
  ·rw[if_pos aC,drop_cons b _ aC];rfl
  ·rw[if_neg aC,List.drop_of_length_le (by omega)];rfl
 ·rw[if_neg h]
  by_cases aC:b.length≤i
  ·rw[if_pos aC,drop_cons a i (by omega),List.drop_of_length_le aC];rfl
  ·rw[if_neg aC]
theorem aCX (a b:List Int) (h:a.length≤1099511627776):DC a b=some (hM a b):=by
 unfold DC
 rw[ra (n:=a.length) (l:=ua a b) (AM a b) (fun m=> ?_) (fun i ao m ih=> ?_)]
 ·rw[I_ a b 0 (Nat.zero_le _) (Nat.zero_le _),List.drop_zero,List.drop_zero]
 ·simp only[ua,DB]
  rw[fq (Nat.le_refl _),cond_false]
  unfold AM
  rw[if_pos rfl]
  by_cases aC:a.length<b.length
  ·rw[if_pos aC,show decide ((a.length:Int)<(b.length:Int))=true from decide_eq_true (by omega)];rfl
  ·rw[if_neg aC,show decide ((a.length:Int)<(b.length:Int))=false from decide_eq_false (by omega)];rfl
 ·simp only[ua,DB]
  rw[gP ao,cond_true,gm _ i ao]
  simp only[Option.bind_some]
  by_cases aC:b.length≤i
  ·rw[show decide ((b.length:Int)≤(i:Int))=true from decide_eq_true (by omega),cond_true]
   unfold AM
   rw[if_neg (by omega),if_pos aC]
  ·rw[show decide ((b.length:Int)≤(i:Int))=false from decide_eq_false (by omega),cond_false,gm _ i (by omega),gA i _ ao (by omega)]
   simp only[Option.bind_some,Rh]
   rw[I_ a b i (by omega) (by omega),ih,I_ a b (i+1) (by omega) (by omega),drop_cons a i ao,drop_cons b i (by omega),hM]
   by_cases aq:hB a[i] b[i]=0
   ·rw[if_pos aq,aq];rfl
   ·rw[if_neg aq,show(hB a[i] b[i] !=0)=true by simpa using aq];rfl
theorem H9 (p q:aW) (h:p.bS.length≤1099511627776):zD p q=some (gY p q):=by
 unfold zD
 simp only[Rh,aCX _ _ h,Option.bind_some]
 unfold HS
 have hl:lim (fun n=>wO [hB p.cm q.cm,hB p.Part q.Part,hM p.bS q.bS] n 0)=some (gY p q):=by
  refine iX 4 fun n a6=> ?_
  obtain⟨n,rfl⟩:∃k,n=k+4:=⟨n-4,by omega⟩
  have g0:∀x y z:Int,bF [x,y,z] 0=some x:=fun _ _ _=>rfl
  have g1:∀x y z:Int,bF [x,y,z] (IntKind.i64.wrap (0+1))=some y:=fun _ _ _=>rfl
  have g2:∀x y z:Int,bF [x,y,z] (IntKind.i64.wrap (IntKind.i64.wrap (0+1)+1))=some z:=fun _ _ _=>rfl
  have d0:∀x y z:Int,decide ((0:Int)<(([x,y,z]:List Int).length:Int))=true:=fun _ _ _=>rfl
  have d1:∀x y z:Int,decide (IntKind.i64.wrap (0+1)<(([x,y,z]:List Int).length:Int))=true:=fun _ _ _=>rfl
  have d2:∀x y z:Int,decide (IntKind.i64.wrap (IntKind.i64.wrap (0+1)+1)<(([x,y,z]:List Int).length:Int))=true:=fun _ _ _=>rfl
  have d3:∀x y z:Int,decide (IntKind.i64.wrap (IntKind.i64.wrap (IntKind.i64.wrap (0+1)+1)+1)<(([x,y,z]:List Int).length:Int))=false:=fun _ _ _=>rfl
  simp only[wO,HR,d0,d1,d2,d3,g0,g1,g2,cond_true,cond_false,Option.bind_some]
  unfold gY
  by_cases h1:hB p.cm q.cm=0
  ·rw[if_pos h1,h1]
   by_cases ah:hB p.Part q.Part=0
   ·rw[if_pos ah,ah]
    by_cases aC:hM p.bS q.bS=0
    ·rw[aC];rfl
    ·rw[show(hM p.bS q.bS !=0)=true by simpa using aC];rfl
   ·rw[if_neg ah,show(hB p.Part q.Part !=0)=true by simpa using ah];rfl
  ·rw[if_neg h1,show(hB p.cm q.cm !=0)=true by simpa using h1];rfl
 rw[hl];rfl
theorem qB {a b:Int}:hB a b=0↔a=b:=by unfold hB;split<;>(try split)<;>omega
theorem Ja (a b:Int):hB b a= -hB a b:=by unfold hB;split<;>split<;>(try split)<;>(try split)<;>omega
theorem Ri:∀{a b:List Int},hM a b=0↔a=b
 |[],[]=>by simp[hM]
 |[],_::_=>by simp[hM]
 |_::_,[]=>by simp[hM]
 |x::a,y::b=>by
  simp only[hM]
  split
  ·rename_i h
   rw[Ri,List.cons.injEq,qB.1 h];simp
  ·rename_i h
   constructor
   ·intro ah;exact(h ah).elim
   ·intro ah;exact(h (qB.2 (List.cons.inj ah).1)).elim
theorem Rj:∀a b:List Int,hM b a= -hM a b
 |[],[]=>rfl
 |[],_::_=>rfl
 |_::_,[]=>rfl
 |x::a,y::b=>by
  have h1:=Ja x y
  simp only[hM]
  by_cases h:hB x y=0
  ·rw[if_pos h,if_pos (by omega),Rj a b]
  ·rw[if_neg h,if_neg (by omega),h1]
theorem Jb {a b:Int}:hB a b≤0↔a≤b:=by unfold hB;split<;>(try split)<;>omega
theorem Rk:∀{a b c:List Int},hM a b≤0→hM b c≤0→hM a c≤0
 |[],b,[],_,_=>by simp[hM]
 |[],b,_::_,_,_=>by simp[hM]
 |_::_,[],c,h,_=>by simp[hM]at h
 |_::_,_::_,[],_,h=>by simp[hM]at h
 |x::a,y::b,z::c,h1,ah=>by
  simp only[hM]at h1 ah⊢
  by_cases aS:hB x y=0
  ·have FR:=qB.1 aS
   subst FR
   rw[if_pos aS]at h1
   by_cases aZ:hB x z=0
   ·rw[if_pos aZ]at ah⊢
    exact Rk h1 ah
   ·rw[if_neg aZ]at ah⊢;exact ah
  ·rw[if_neg aS]at h1
   have g1:=Jb.1 h1
   have g2:y≤z:=by
    by_cases aZ:hB y z=0
    ·rw[qB.1 aZ];exact Int.le_refl _
    ·rw[if_neg aZ]at ah;exact Jb.1 ah
   have g3:x≠y:=fun e=>aS (qB.2 e)
   rw[if_neg (fun e=>by have:=qB.1 e;omega)]
   exact Jb.2 (by omega)
theorem Ac {p q:aW}:gY p q=0↔p=q:=by
 cases p;cases q
 unfold gY
 simp only[aW.mk.injEq]
 split
 ·rename_i h
  split
  ·rename_i ah
   rw[Ri];exact⟨fun aC=>⟨qB.1 h,qB.1 ah,aC⟩,fun aC=>aC.2.2⟩
  ·rename_i ah;exact⟨fun aC=>(ah aC).elim,fun aC=>(ah (qB.2 aC.2.1)).elim⟩
 ·rename_i h;exact⟨fun aC=>(h aC).elim,fun aC=>(h (qB.2 aC.1)).elim⟩
theorem py (p q:aW):gY q p= -gY p q:=by
 unfold gY
 have h1:=Ja p.cm q.cm
 have ah:=Ja p.Part q.Part
 have aC:=Rj p.bS q.bS
 by_cases aS:hB p.cm q.cm=0
 ·rw[if_pos aS,if_pos (by omega)]
  by_cases aZ:hB p.Part q.Part=0
  ·rw[if_pos aZ,if_pos (by omega),aC]
  ·rw[if_neg aZ,if_neg (by omega),ah]
 ·rw[if_neg aS,if_neg (by omega),h1]
theorem wW {p q r:aW} (h1:gY p q≤0) (ah:gY q r≤0):gY p r≤0:=by
 have key:∀p q:aW,gY p q=hM [p.cm,p.Part] [q.cm,q.Part]∨(hM [p.cm,p.Part] [q.cm,q.Part]=0∧gY p q=hM p.bS q.bS):=by
  intro p q
  unfold gY
  simp only[hM]
  by_cases aS:hB p.cm q.cm=0
  ·rw[if_pos aS,if_pos aS]
   by_cases aZ:hB p.Part q.Part=0
   ·rw[if_pos aZ,if_pos aZ];exact .inr ⟨rfl,rfl⟩
   ·rw[if_neg aZ,if_neg aZ];exact .inl rfl
  ·rw[if_neg aS,if_neg aS];exact .inl rfl
 have full:∀p q:aW,gY p q=hM (p.cm::p.Part::p.bS) (q.cm::q.Part::q.bS):=by
  intro p q
  unfold gY
  simp only[hM]
 rw[full]at h1 ah⊢
 exact Rk h1 ah
end Go.eN
