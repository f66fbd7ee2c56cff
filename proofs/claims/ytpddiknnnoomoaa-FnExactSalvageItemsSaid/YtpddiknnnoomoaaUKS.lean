/- Part of a proof that a law returns true for every input. No condition. -/
import Derived.Test.YtpddiknnnoomoaaU3
namespace Go.eF
open Go Go.bV
def g8 (t:List UInt8):Option (aP×Nat):=match t with
 |c::d::r=>if c.toNat=35 then(match r.drop d.toNat with
   |e::f::q=>if lr (r.take d.toNat)=true∧e.toNat*256+f.toNat≤q.length∧(oe (q.take (e.toNat*256+f.toNat))).2=0 then some (⟨r.take d.toNat,q.take (e.toNat*256+f.toNat)⟩,d.toNat+4+(e.toNat*256+f.toNat))else none
   |_=>none)else none
 |_=>none
theorem tH {a t:List UInt8} {i k:Nat} {x:UInt8} (aG:a.drop i=t) (ai:t[k]? =some x) {ad:Int} (aS:ad=((i+k:Nat):Int)):c7 a ad=some x:=by
 subst aS aG
 unfold c7
 rw[if_pos (by omega)]
 rw[List.getElem?_drop]at ai
 exact ai
theorem Cp {a t:List UInt8} {i k n:Nat} (aG:a.drop i=t) (ai:k+n≤t.length) (hl:t≠[]) {bw az:Int} (U:bw=((i+k:Nat):Int)) (aa:az=((i+k+n:Nat):Int)):eQ a bw az=some ((t.drop k).take n):=by
 subst U aa aG
 have hlen:i<a.length:=by
  rcases Nat.lt_or_ge i a.length with h|h
  ·exact h
  ·exact(hl (List.drop_of_length_le h)).elim
 rw[List.length_drop]at ai
 unfold eQ
 rw[if_pos (by omega)]
 simp only[Int.toNat_natCast,List.drop_drop]
 rw[List.drop_take]
 congr 2
 omega
theorem O1 {s:List UInt8} (h:lr s=true):s.length≤10:=by
 unfold lr at h
 simp only[Bool.and_eq_true,decide_eq_true_eq]at h
 exact h.1
theorem rV {r:List UInt8} {n:Nat} {e f:UInt8} {q:List UInt8} (h:r.drop n=e::f::q):r.length=n+2+q.length:=by
 have:=congrArg List.length h
 simp only[List.length_drop,List.length_cons]at this
 omega
theorem O2 (a:List UInt8) (i:Nat) (bU:a.length≤1048576) (az:i≤a.length):∃x n b,s3 a (i:Int)=some (x,n,b)∧
  (match g8 (a.drop i)with|some (y,m)=>x=y∧n=((i+m:Nat):Int)∧b=true|none=>b=false):=by
 have hlen:=List.length_drop (i:=i) (l:=a)
 unfold s3
 rw[fp ((i:Int)+2) (by omega)]
 generalize aG:a.drop i=t at hlen
 match t,aG,hlen with
 |[],aG,hlen=>
  have U:decide ((a.length:Int)<(i:Int)+2)=true:=by simp at hlen⊢;omega
  rw[U]
  exact⟨_,_,_,rfl,rfl⟩
 |[c],aG,hlen=>
  have U:decide ((a.length:Int)<(i:Int)+2)=true:=by simp at hlen⊢;omega
  rw[U]
  exact⟨_,_,_,rfl,rfl⟩
 |c::d::r,aG,hlen=>
  have hl:a.length=i+2+r.length:=by simp only[List.length_cons]at hlen;omega
  have U:decide ((a.length:Int)<(i:Int)+2)=false:=by simp;omega
  have O3:d.toNat<256:=d.toNat_lt
  rw[U,tH aG (k:=0) rfl (by omega)]
  simp only[cond_false,Option.bind_some]
  by_cases ae:c.toNat=35
  ·have aa:((c.toNat:Int) !=35)=false:=by simp[ae]
   rw[aa,fp ((i:Int)+1) (by omega),tH aG (k:=1) rfl (by omega)]
   simp only[cond_false,Option.bind_some]
   rw[fp ((i:Int)+2+(d.toNat:Int)) (by omega),fp ((i:Int)+2+(d.toNat:Int)+2) (by omega)]
   simp only[g8,ae,if_true]
   by_cases eI:10<d.toNat
   ·have aw:decide ((10:Int)<(d.toNat:Int))=true:=by simp;omega
    rw[aw]
    refine⟨_,_,_,rfl,?_⟩
    split
    ·rename_i heq
     split at heq
     ·rename_i e f q bN
      split at heq
      ·rename_i aV
       have:=O1 aV.1
       rw[List.length_take,rV bN]at this
       omega
      ·cases heq
     ·cases heq
    ·rfl
   ·have aw:decide ((10:Int)<(d.toNat:Int))=false:=by simp;omega
    rw[aw,Bool.false_or]
    by_cases aA:r.length<d.toNat+2
    ·have aN:decide ((a.length:Int)<(i:Int)+2+(d.toNat:Int)+2)=true:=by simp;omega
     rw[aN]
     refine⟨_,_,_,rfl,?_⟩
     split
     ·rename_i heq
      split at heq
      ·rename_i e f q bN
       have:=rV bN
       omega
      ·cases heq
     ·rfl
    ·have aN:decide ((a.length:Int)<(i:Int)+2+(d.toNat:Int)+2)=false:=by simp;omega
     rw[aN]
     obtain⟨e,f,q,bN⟩:∃e f q,r.drop d.toNat=e::f::q:=by
      have rW:=List.length_drop (i:=d.toNat) (l:=r)
      match ao:r.drop d.toNat,rW with
      |[],rW=>simp at rW;omega
      |[_],rW=>simp at rW;omega
      |e::f::q,_=>exact⟨e,f,q,rfl⟩
     have O4:=rV bN
     have q4:a.drop (i+2+d.toNat)=e::f::q:=by
      rw[show i+2+d.toNat=i+(2+d.toNat) by omega,←List.drop_drop,aG,←bN,←List.drop_drop];rfl
     simp only[cond_false]
     rw[Cp aG (k:=2) (n:=d.toNat) (by simp only[List.length_cons];omega) (by simp) (by omega) (by omega),fp ((i:Int)+2+(d.toNat:Int)+1) (by omega),
      tH q4 (k:=0) rfl (by omega),tH q4 (k:=1) rfl (by omega)]
     simp only[Option.bind_some]
     have aE:((c::d::r).drop 2).take d.toNat=r.take d.toNat:=rfl
     rw[aE,OZ,bN]
     simp only[Option.bind_some]
     have O5:e.toNat<256:=e.toNat_lt
     have O6:f.toNat<256:=f.toNat_lt
     rw[fp ((e.toNat:Int)*256) (by omega),fp ((e.toNat:Int)*256+(f.toNat:Int)) (by omega),fp ((i:Int)+2+(d.toNat:Int)+2+((e.toNat:Int)*256+(f.toNat:Int))) (by omega)]
     cases aV:lr (r.take d.toNat)with
     |false=>exact⟨_,_,_,rfl,by simp⟩
     |true=>
      simp only[Bool.not_true,Bool.false_or]
      by_cases R:q.length<e.toNat*256+f.toNat
      ·have a2:decide ((a.length:Int)<(i:Int)+2+(d.toNat:Int)+2+((e.toNat:Int)*256+(f.toNat:Int)))=true:=by simp;omega
       rw[a2]
       refine⟨_,_,_,rfl,?_⟩
       rw[if_neg (by omega)]
      ·have a2:decide ((a.length:Int)<(i:Int)+2+(d.toNat:Int)+2+((e.toNat:Int)*256+(f.toNat:Int)))=false:=by simp;omega
       rw[a2,Cp q4 (k:=2) (n:=e.toNat*256+f.toNat) (by simp only[List.length_cons];omega) (by simp) (by omega) (by omega)]
       simp only[cond_false,Option.bind_some]
       have aL:((e::f::q).drop 2).take (e.toNat*256+f.toNat)=q.take (e.toNat*256+f.toNat):=rfl
       rw[aL,Co _ (by rw[List.length_take];omega)]
       simp only[Option.bind_some]
       refine⟨_,_,_,rfl,?_⟩
       by_cases ai:(oe (q.take (e.toNat*256+f.toNat))).2=0
       ·rw[if_pos ⟨trivial,by omega,ai⟩]
        refine⟨rfl,by omega,by simp[ai]⟩
       ·rw[if_neg (fun h=>ai h.2.2)]
        simp[ai]
  ·have aa:((c.toNat:Int) !=35)=true:=by simp;omega
   rw[aa]
   refine⟨_,_,_,rfl,?_⟩
   simp only[g8,ae,if_false]
theorem xf (b:Bool):mS [] b=some (0,[],true):=rfl
theorem tI (c:UInt8) (r:List UInt8) (b:Bool):mS (c::r) b=some ((c.toNat:Int),r,b):=by
 unfold mS
 have h:(c::r==([]:List UInt8))=false:=rfl
 rw[h]
 have aa:eQ (c::r) 1 ((c::r).length:Int)=some r:=by
  unfold eQ
  rw[if_pos (by simp only[List.length_cons];omega)]
  simp
 simp only[cond_false,xd,Option.bind_some,aa]
theorem Cq {α:Type} (a:List α) (n:Nat) (h:n≤a.length):eQ a (n:Int) (a.length:Int)=some (a.drop n):=by
 unfold eQ
 rw[if_pos (by omega)];simp
theorem O7 (x:List UInt8) (h:x.length≤140737488355328):td x=some ((oe x).2==0):=by
 unfold td
 rw[OY x h];rfl
theorem O8 (t:List UInt8) (aG:t.length≤1048576):∃x n b,te t=some (x,n,b)∧
  (match g8 t with|some (y,m)=>x=y∧n=(m:Int)∧b=true|none=>b=false):=by
 unfold te
 match t,aG with
 |[],_=>exact⟨_,_,_,rfl,rfl⟩
 |[c],_=>
  rw[tI]
  simp only[Option.bind_some,xf]
  by_cases ae:c.toNat=35
  ·have aa:((c.toNat:Int) !=35)=false:=by simp[ae]
   rw[aa]
   exact⟨_,_,_,rfl,rfl⟩
  ·have aa:((c.toNat:Int) !=35)=true:=by simp;omega
   rw[aa]
   exact⟨_,_,_,rfl,rfl⟩
 |c::d::r,aG=>
  simp only[List.length_cons]at aG
  simp only[tI,Option.bind_some]
  have O3:d.toNat<256:=d.toNat_lt
  by_cases ae:c.toNat=35
  ·have aa:((c.toNat:Int) !=35)=false:=by simp[ae]
   rw[aa,Bool.false_or]
   simp only[g8,ae,if_true]
   by_cases aA:r.length<d.toNat
   ·have aw:decide ((r.length:Int)<(d.toNat:Int))=true:=by simp;omega
    rw[aw]
    refine⟨_,_,_,rfl,?_⟩
    rw[List.drop_of_length_le (by omega)]
   ·have aw:decide ((r.length:Int)<(d.toNat:Int))=false:=by simp;omega
    rw[aw,tF r _ (by omega),Cq r _ (by omega)]
    simp only[cond_false,Option.bind_some]
    match bN:r.drop d.toNat with
    |[]=>simp only[xf,Option.bind_some,Bool.true_or,cond_true];exact⟨_,_,_,rfl,rfl⟩
    |[e]=>simp only[tI,xf,Option.bind_some,Bool.true_or,cond_true];exact⟨_,_,_,rfl,rfl⟩
    |e::f::q=>
     have O4:=rV bN
     have O5:e.toNat<256:=e.toNat_lt
     have O6:f.toNat<256:=f.toNat_lt
     simp only[tI,Option.bind_some,Bool.false_or,List.length_cons]
     rw[fp ((e.toNat:Int)*256) (by omega),fp ((e.toNat:Int)*256+(f.toNat:Int)) (by omega)]
     have O9:(e.toNat:Int)*256+(f.toNat:Int)=((e.toNat*256+f.toNat:Nat):Int):=by omega
     rw[O9]
     by_cases R:q.length<e.toNat*256+f.toNat
     ·have a2:decide ((q.length:Int)<((e.toNat*256+f.toNat:Nat):Int))=true:=by simp only[decide_eq_true_eq];omega
      rw[a2,if_neg (by omega)]
      exact⟨_,_,_,rfl,rfl⟩
     ·have a2:decide ((q.length:Int)<((e.toNat*256+f.toNat:Nat):Int))=false:=by simp only[decide_eq_false_iff_not];omega
      rw[a2,tF q _ (by omega),O0 _ (by rw[List.length_take];omega),fp (((r.length+1+1:Nat):Int)-(q.length:Int)) (by omega),fp _ (by omega)]
      simp only[cond_false,Option.bind_some]
      cases aV:lr (r.take d.toNat)with
      |false=>
       simp only[Bool.false_eq_true,false_and,if_false,cond_false]
       exact⟨_,_,_,rfl,rfl⟩
      |true=>
       rw[O7 _ (by rw[List.length_take];omega)]
       simp only[cond_true,Option.bind_some]
       refine⟨_,_,_,rfl,?_⟩
       by_cases ai:(oe (q.take (e.toNat*256+f.toNat))).2=0
       ·rw[if_pos ⟨trivial,by omega,ai⟩]
        exact⟨rfl,by omega,by simp[ai]⟩
       ·rw[if_neg (fun h=>ai h.2.2)]
        simp[ai]
  ·have aa:((c.toNat:Int) !=35)=true:=by simp;omega
   rw[aa,Bool.true_or]
   refine⟨_,_,_,rfl,?_⟩
   simp only[g8,ae,if_false]
end Go.eF
