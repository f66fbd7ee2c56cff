/- Part of a proof that a law returns true for every input. No condition. -/
import Derived.Test.YtocllehpepigpaaGreatUY1
namespace Go.eN
open Go Go.cZ
def kv (cs:List dk) (i:Nat):dk:=cs.getD i ⟨0,[]⟩
def u0 (e:List bj) (c:dk):Bool:=
 cond (decide (0≤c.cm)&&decide (c.cm≤(e.length:Int)-1)) (((c.bS.length:Int)==(e.getD c.cm.toNat ⟨[],0,[]⟩).dt)&&EP c.bS) false
def sE (s:ea):Bool:=(decide (1≤s.c8.length)&&decide (s.c8.length≤3))&&fP (fun i=>u0 s.ew (kv s.c8 i)) s.c8.length
theorem Re {e:List bj} {n:Int} (h:(decide (0≤n)&&decide (n≤(e.length:Int)-1))=true):bF e n=some (e.getD n.toNat ⟨[],0,[]⟩):=by
 simp only[Bool.and_eq_true,decide_eq_true_eq]at h
 obtain⟨i,rfl⟩:∃i:Nat,n=i:=⟨n.toNat,by omega⟩
 exact lW e i _ (by omega)
theorem aCE (s:ea) (aj:s.ew.length≤1048576) (aq:s.c8.length≤1048576) (aM:∀c∈s.c8,c.bS.length≤1048576):CL s=some (sE s):=by
 unfold CL sE
 by_cases hl:1≤s.c8.length∧s.c8.length≤3
 ·have d1:(((s.c8.length:Int)==0)||decide ((3:Int)<(s.c8.length:Int)))=false:=by
   rw[Bool.or_eq_false_iff,beq_eq_false_iff_ne,decide_eq_false_iff_not];omega
  have d2:(decide (1≤s.c8.length)&&decide (s.c8.length≤3))=true:=by simp;omega
  rw[d1,d2,cond_false,Bool.true_and]
  refine AD (l:=fun m i=>tN s m i) _ (fun m=> ?_) (fun i ao m=> ?_)
  ·simp only[tN,CK]
   rw[fq (Nat.le_refl _)];rfl
  ·simp only[tN,CK,lv]
   have hm:(kv s.c8 i).bS.length≤1048576:=by
    have:kv s.c8 i=s.c8[i]:=by simp[kv,List.getD,ao]
    rw[this];exact aM _ (List.getElem_mem ao)
   rw[gP ao,lW _ i ⟨0,[]⟩ ao,gA i _ ao (by omega),fl ((s.ew.length:Int)-1) (by omega)]
   show cond true (Option.bind (some (kv s.c8 i)) _) _=_
   simp only[cond_true,Option.bind_some]
   unfold u0
   cases hk:(decide (0≤(kv s.c8 i).cm)&&decide ((kv s.c8 i).cm≤(s.ew.length:Int)-1))
   ·rfl
   ·rw[Re hk]
    simp only[Bool.not_true,cond_false,cond_true,Option.bind_some,Q8 _ hm]
    have df:(((kv s.c8 i).bS.length:Int) !=(s.ew.getD (kv s.c8 i).cm.toNat ⟨[],0,[]⟩).dt)= !(((kv s.c8 i).bS.length:Int)==(s.ew.getD (kv s.c8 i).cm.toNat ⟨[],0,[]⟩).dt):=rfl
    rw[df]
    cases(((kv s.c8 i).bS.length:Int)==(s.ew.getD (kv s.c8 i).cm.toNat ⟨[],0,[]⟩).dt)<;>cases EP (kv s.c8 i).bS<;>rfl
 ·have d1:(((s.c8.length:Int)==0)||decide ((3:Int)<(s.c8.length:Int)))=true:=by
   by_cases bf:s.c8.length=0
   ·simp[bf]
   ·have:decide ((3:Int)<(s.c8.length:Int))=true:=decide_eq_true (by omega)
    rw[this,Bool.or_true]
  have d2:(decide (1≤s.c8.length)&&decide (s.c8.length≤3))=false:=by
   rw[Bool.and_eq_false_iff,decide_eq_false_iff_not,decide_eq_false_iff_not];omega
  rw[d1,d2];rfl
theorem aCF (e:List bj) (he:e.length≤1048576) (c:dk) (aq:c.bS.length≤1048576):Di e c=some (u0 e c):=by
 unfold Di u0
 rw[EL _ e.length he]
 simp only[Option.bind_some]
 cases hk:(decide (0≤c.cm)&&decide (c.cm≤(e.length:Int)-1))
 ·rfl
 ·rw[Re hk]
  simp only[cond_true,Option.bind_some,Q9 _ aq]
  cases((c.bS.length:Int)==(e.getD c.cm.toNat ⟨[],0,[]⟩).dt)<;>rfl
theorem aCG (s:ea) (aj:s.ew.length≤1048576) (aq:s.c8.length≤1048576) (aM:∀c∈s.c8,c.bS.length≤1048576):
  Dk s.c8 s=some (!(fP (fun i=>u0 s.ew (kv s.c8 i)) s.c8.length)):=by
 unfold Dk HJ
 rw[uR (n:=s.c8.length) (fun i=> !(u0 s.ew (kv s.c8 i)))]
 ·simp only[Option.bind_some,uQ,Bool.not_not]
 ·intro m
  simp only[wK,Dj]
  rw[fq (Nat.le_refl _)];rfl
 ·intro i ao m
  simp only[wK,Dj]
  have hm:(kv s.c8 i).bS.length≤1048576:=by
   have:kv s.c8 i=s.c8[i]:=by simp[kv,List.getD,ao]
   rw[this];exact aM _ (List.getElem_mem ao)
  rw[gP ao,lW _ i ⟨0,[]⟩ ao,gA i _ ao (by omega)]
  show cond true (Option.bind (some (kv s.c8 i)) _) _=_
  simp only[cond_true,Option.bind_some,HI,aCF _ aj _ hm]
def eB (a:List cb) (i:Nat):cb:=a.getD i ⟨[],[],[]⟩
def u1 (p m:cb):Bool:=Op.bytesLess p.Left m.Left||(p.Left==m.Left&&Op.bytesLess p.cp m.cp)
def u2 (a:List cb) (m:cb):Bool:=fP (fun j=> !((eB a j).Left==m.Result||(eB a j).cp==m.Result)) a.length
def AK (a:List cb) (i:Nat):Bool:=
 ((((jE (eB a i).Left&&jE (eB a i).cp)&&jE (eB a i).Result)&&(Op.bytesLess (eB a i).Left (eB a i).cp||(eB a i).Left==(eB a i).cp))&&(decide (i=0)||u1 (eB a (i-1)) (eB a i)))&&u2 a (eB a i)
def u3 (a:List cb):Bool:=decide (a.length≤6)&&fP (AK a) a.length
def ES (a:List cb):Prop:=a.length≤1048576∧∀m∈a,m.Left.length≤1048576∧m.cp.length≤1048576∧m.Result.length≤1048576
theorem aCH (p m:cb):((!(Op.bytesLess p.Left m.Left||p.Left==m.Left))||((p.Left==m.Left)&&(!(Op.bytesLess p.cp m.cp))))= !(u1 p m):=by
 unfold u1
 cases he:p.Left==m.Left
 ·cases Op.bytesLess p.Left m.Left<;>rfl
 ·have:p.Left=m.Left:=by simpa using he
  rw[this,aCB]
  cases Op.bytesLess p.cp m.cp<;>rfl
def rr (a b:List UInt8):Int:=cond (Op.bytesLess a b) (-1) (cond (!(Op.bytesLess a b||a==b)) 1 0)
theorem aCI (a b:List UInt8):Dl a b=some (rr a b):=by
 unfold Dl cmp_isNaN_string rr
 simp only[Option.bind_some,cond_false]
 cases Op.bytesLess a b<;>cases a==b<;>rfl
theorem aCJ (p m:cb):∃v,Dn p m=some v∧decide (0≤v)= !(u1 p m):=by
 have I8:Dm [p.Left,p.cp] [m.Left,m.cp]=some (cond (rr p.Left m.Left !=0) (rr p.Left m.Left) (cond (rr p.cp m.cp !=0) (rr p.cp m.cp) 0)):=by
  unfold Dm
  refine iX 3 fun n a6=> ?_
  obtain⟨n,rfl⟩:∃k,n=k+3:=⟨n-3,by omega⟩
  have gT:bF [p.Left,p.cp] 0=some p.Left:=rfl
  have aS:bF [m.Left,m.cp] 0=some m.Left:=rfl
  have aZ:bF [p.Left,p.cp] 1=some p.cp:=rfl
  have aQ:bF [m.Left,m.cp] 1=some m.cp:=rfl
  have fe:IntKind.i64.wrap (0+1)=1:=by decide
  have gg:IntKind.i64.wrap (1+1)=2:=by decide
  simp only[zz,HK,List.length_cons,List.length_nil,gT,aS,aZ,aQ,fe,gg,Option.bind_some,aCI]
  cases rr p.Left m.Left !=0
  ·cases rr p.cp m.cp !=0<;>rfl
  ·rfl
 unfold Dn
 rw[I8]
 refine⟨_,rfl,?_⟩
 unfold u1 rr
 cases hl:Op.bytesLess p.Left m.Left
 ·cases he:p.Left==m.Left
  ·rfl
  ·cases aX:Op.bytesLess p.cp m.cp
   ·cases p.cp==m.cp<;>rfl
   ·rfl
 ·rfl
theorem aCK (a:List cb) (h:a.length≤1048576) (m:cb):zA a m=some (!(u2 a m)):=by
 unfold zA HM
 rw[uR (n:=a.length) (fun j=>((eB a j).Left==m.Result||(eB a j).cp==m.Result))]
 ·simp only[Option.bind_some,uQ];rfl
 ·intro k
  simp only[wL,Dp]
  rw[fq (Nat.le_refl _)];rfl
 ·intro i ao k
  simp only[wL,Dp]
  rw[gP ao,lW _ i ⟨[],[],[]⟩ ao,gA i _ ao (by omega)]
  simp only[cond_true,Option.bind_some,HL]
  rfl
theorem aCL {a:List cb} (h:ES a) {i:Nat} (ao:i<a.length):(eB a i).Left.length≤1048576∧(eB a i).cp.length≤1048576∧(eB a i).Result.length≤1048576:=by
 have:eB a i=a[i]:=by simp[eB,List.getD,ao]
 rw[this];exact h.2 _ (List.getElem_mem ao)
theorem AL {a:List cb} {i:Nat} (ao:i<a.length):bF a (i:Int)=some (eB a i):=lW a i _ ao
theorem aCM (a:List cb) (h:ES a):CN a=some (u3 a):=by
 unfold CN u3
 by_cases hl:6<a.length
 ·have d1:decide ((6:Int)<(a.length:Int))=true:=decide_eq_true (by omega)
  have d2:decide (a.length≤6)=false:=decide_eq_false (by omega)
  rw[d1,d2];rfl
 ·have d1:decide ((6:Int)<(a.length:Int))=false:=decide_eq_false (by omega)
  have d2:decide (a.length≤6)=true:=decide_eq_true (by omega)
  rw[d1,d2,cond_false,Bool.true_and]
  refine AD (l:=fun m i=>mh a m i) _ (fun m=> ?_) (fun i ao m=> ?_)
  ·simp only[mh,CM]
   rw[fq (Nat.le_refl _)];rfl
  ·have yH:(lim fun n=>po (mh a m) a (eB a i) n (i:Int) 0)=cond (u2 a (eB a i)) (mh a m ((i+1:Nat):Int)) (some false):=by
    refine uZ (l:=fun ix j=>po (mh a m) a (eB a i) ix (i:Int) j) _ _ _ (fun ix=> ?_) (fun j b_ ix=> ?_)
    ·simp only[po,zh]
     rw[fq (Nat.le_refl _),gA i _ ao (by omega)];rfl
    ·simp only[po,zh]
     rw[gP b_,AL b_,gA j _ b_ (by omega)]
     simp only[cond_true,Option.bind_some]
     cases((eB a j).Left==(eB a i).Result||(eB a j).cp==(eB a i).Result)<;>rfl
   simp only[mh,CM]
   rw[gP ao,AL ao]
   simp only[cond_true,Option.bind_some,Ra,yH]
   unfold AK
   by_cases bf:i=0
   ·subst bf
    rw[uS]
    simp only[cond_false,decide_true,Bool.true_or,Bool.and_true]
    cases jE (eB a 0).Left<;>cases jE (eB a 0).cp<;>cases jE (eB a 0).Result<;>cases(Op.bytesLess (eB a 0).Left (eB a 0).cp||(eB a 0).Left==(eB a 0).cp)<;>cases u2 a (eB a 0)<;>rfl
   ·rw[IV bf,AE i (by omega) (by omega),AL (show i-1<a.length by omega)]
    have aj:decide (i=0)=false:=decide_eq_false bf
    simp only[cond_true,Option.bind_some,aj,Bool.false_or,aCH]
    cases jE (eB a i).Left<;>cases jE (eB a i).cp<;>cases jE (eB a i).Result<;>cases(Op.bytesLess (eB a i).Left (eB a i).cp||(eB a i).Left==(eB a i).cp)<;>cases u1 (eB a (i-1)) (eB a i)<;>cases u2 a (eB a i)<;>rfl
theorem aCN (a:List cb) (h:ES a):Dr a=some (u3 a):=by
 unfold Dr u3
 rw[uZ (l:=fun m i=>tY a m i) (n:=a.length) (AK a) (some (decide ((a.length:Int)≤6))) (some false)]
 ·have e:decide ((a.length:Int)≤6)=decide (a.length≤6):=decide_eq_decide.2 (by omega)
  rw[e]
  cases fP (AK a) a.length<;>cases decide (a.length≤6)<;>rfl
 ·intro m
  simp only[tY,Dq]
  rw[fq (Nat.le_refl _)];rfl
 ·intro i ao m
  have hl:=h.1
  obtain⟨s1,s2,e4⟩:=aCL h ao
  simp only[tY,Dq]
  rw[gP ao,AL ao,gA i _ ao (by omega)]
  simp only[cond_true,Option.bind_some,ER _ s1,ER _ s2,ER _ e4,aCK a hl]
  unfold AK
  by_cases bf:i=0
  ·subst bf
   rw[uS]
   simp only[cond_false,decide_true,Bool.true_or,Bool.and_true]
   cases jE (eB a 0).Left<;>cases jE (eB a 0).cp<;>cases jE (eB a 0).Result<;>cases(Op.bytesLess (eB a 0).Left (eB a 0).cp||(eB a 0).Left==(eB a 0).cp)<;>cases u2 a (eB a 0)<;>rfl
  ·rw[IV bf,AE i (by omega) (by omega),AL (show i-1<a.length by omega)]
   obtain⟨v,v1,v2⟩:=aCJ (eB a (i-1)) (eB a i)
   have aj:decide (i=0)=false:=decide_eq_false bf
   simp only[cond_true,Option.bind_some,aj,Bool.false_or,v1,v2]
   cases jE (eB a i).Left<;>cases jE (eB a i).cp<;>cases jE (eB a i).Result<;>cases(Op.bytesLess (eB a i).Left (eB a i).cp||(eB a i).Left==(eB a i).cp)<;>cases u1 (eB a (i-1)) (eB a i)<;>cases u2 a (eB a i)<;>rfl
end Go.eN
