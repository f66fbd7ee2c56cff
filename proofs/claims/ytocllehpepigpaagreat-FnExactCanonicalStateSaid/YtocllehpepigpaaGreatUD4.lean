/- Part of a proof that a law returns true for every input. No condition. -/
import Derived.Test.YtocllehpepigpaaGreatUD3
namespace Go.eN
open Go Go.cZ
theorem aCf {l:Nat→Int→Option Int} {n:Nat} (p:Nat→Bool) (pL bad:Int) (bf:∀m,l (m+1) (n:Int)=some pL)
  (ag:∀i,i<n→∀m,l (m+1) (i:Int)=cond (p i) (l m ((i+1:Nat):Int)) (some bad)):lim (fun m=>l m 0)=some (cond (fP p n) pL bad):=by
 rw[ra (n:=n) (fun i=>some (cond ((List.range' i (n-i)).all p) pL bad))]
 ·simp[fP,List.range_eq_range']
 ·intro m;rw[bf];simp
 ·intro i ao m ih
  rw[ag i ao,ih,show n-i=(n-(i+1))+1 by omega,List.range'_succ]
  cases au:p i<;>simp[au]
def AJ (p:bJ):Prop:=p.Name.length≤1048576∧p.cO.length≤1048576∧∀e∈p.cO,e.length≤1048576
def rl (p:bJ) (dJ:Int):Bool:=fP (fun i=>uX (p.cO.getD i []) dJ 15) p.cO.length
theorem aCg (p:bJ) (au:AJ p) (dJ:Int) (h:0≤dJ∧dJ≤29):lim (fun n=>r9 p n dJ 0)=some (cond (rl p dJ) 0 8):=by
 refine aCf (l:=fun m i=>r9 p m dJ i) _ _ _ (fun m=> ?_) (fun i ao m=> ?_)
 ·simp only[r9,CD]
  rw[fq (Nat.le_refl _)];rfl
 ·simp only[r9,CD]
  rw[gP ao,lW _ i [] ao,gA i _ ao (by have:=au.2.1;omega)]
  simp only[cond_true,Option.bind_some]
  rw[aBU _ dJ 15 (by omega) (by
   have:p.cO.getD i []=p.cO[i]:=by simp[List.getD,ao]
   rw[this];exact au.2.2 _ (List.getElem_mem ao))]
  simp only[Option.bind_some]
  cases uX (p.cO.getD i []) dJ 15<;>rfl
theorem aCh (p:bJ) (au:AJ p) (pl:cM) (h:0≤pl.scope∧pl.scope≤29):De p.cO pl=some (!(rl p pl.scope)):=by
 unfold De HE
 rw[uR (n:=p.cO.length) (fun i=> !uX (p.cO.getD i []) pl.scope 15)]
 ·simp only[Option.bind_some,uQ,Bool.not_not];rfl
 ·intro m
  simp only[wI,Dd]
  rw[fq (Nat.le_refl _)];rfl
 ·intro i ao m
  simp only[wI,Dd]
  rw[gP ao,lW _ i [] ao,gA i _ ao (by have:=au.2.1;omega)]
  simp only[cond_true,Option.bind_some,HD]
  rw[aBV _ pl.scope 15 h (by omega) (by
   have:p.cO.getD i []=p.cO[i]:=by simp[List.getD,ao]
   rw[this];exact au.2.2 _ (List.getElem_mem ao))]
  simp only[Option.bind_some]
theorem Q2 (s:List UInt8) (ag:s.length≤1048576):q4 s=some (kP s&& !(s==([116,97,117]:List UInt8))):=by
 unfold q4
 rw[QK s (by omega)];rfl
theorem aCi {s:List UInt8} (h:(s==([116,97,117]:List UInt8))=true):kP s=true:=by
 have:s=[116,97,117]:=by simpa using h
 subst this;decide
theorem EL (n:Int) (l:Nat) (hl:l≤1048576):sc n (l:Int)=some (decide (0≤n)&&decide (n≤(l:Int)-1)):=by
 unfold sc jX
 rw[fl ((l:Int)-1) (by omega)];rfl
theorem aCj (list:List bj) (hl:list.length≤4) (d:bj) (at_:Nat) (aCk:at_<d.Body.length) (ae:d.Body.length≤20) (au:AJ d.Body[at_]) (pl:cM)
  (n5:r8 d (at_:Int)=some pl.scope) (Q3:0≤pl.scope∧pl.scope≤29)
  (sD:pl.behind=I4 d.Body at_):
  ∃r,ze list d (at_:Int)=some r∧zv d.Body[at_] list pl=some r∧0≤r:=by
 have aCl:∀p,AJ p→p=d.Body[at_]→∃r,ze list d (at_:Int)=some r∧zv p list pl=some r∧0≤r:=by
  intro p au Fe
  have G8:=aCg p au pl.scope Q3
  have BC:=aCh p au pl Q3
  have I5:=Q2 p.Name au.1
  have aCm:=IY p.Name
  have aCn:tI d (at_:Int) p=some (cond ((p.Kind==5)&& !pl.behind) 6 (cond ((p.Kind==4)&&decide (6≤pl.scope)) 7 (cond (rl p pl.scope) 0 8))):=by
   have aCo:∀v,wD d (at_:Int) p v=some (cond v 6 (cond ((p.Kind==4)&&decide (6≤pl.scope)) 7 (cond (rl p pl.scope) 0 8))):=by
    intro v
    unfold wD
    rw[n5]
    simp only[Option.bind_some,G8]
    cases v<;>cases(p.Kind==4&&decide (6≤pl.scope))<;>rfl
   unfold tI
   simp only[aCo]
   cases at_ with
   |zero=>
    replace sD:pl.behind=false:=sD
    rw[sD]
    simp only[Bool.not_false,Bool.and_true]
    cases p.Kind==5<;>rfl
   |succ q=>
    have c6:q<d.Body.length:=by omega
    have gT:(((q+1:Nat):Int)==0)=false:=by rw[beq_eq_false_iff_ne];omega
    rw[gT,AE (q+1) (by omega) (by omega),show q+1-1=q from rfl,gm _ q c6]
    replace sD:pl.behind=(match d.Body[q]? with|some p=>p.Kind==1|none=>false):=sD
    rw[List.getElem?_eq_getElem c6]at sD
    simp only[cond_false,Option.bind_some]
    simp only at sD
    rw[sD]
    have df:(d.Body[q].Kind !=1)= !(d.Body[q].Kind==1):=rfl
    rw[df]
    cases p.Kind==5<;>cases d.Body[q].Kind==1<;>rfl
  have p7:bF d.Body (at_:Int)=some p:=by rw[gm _ at_ aCk,Fe]
  have EM:((p.cO.length:Int)==0)=true→rl p pl.scope=true:=by
   intro h
   have:p.cO.length=0:=by simpa using h
   unfold rl;rw[this];rfl
  unfold ze zv HA Hr Cw
  rw[p7]
  simp only[CE,tJ,zt,tW,Option.bind_some,aCn,BC,I5,aCm,jX,lv,EL _ _ (show list.length≤1048576 by omega),HB]
  rw[fl ((list.length:Int)-1) (by omega)]
  obtain⟨K,N,Nm,jP⟩:=p
  simp only at*
  by_cases bf:K=0
  ·subst bf
   simp only[Int.reduceBEq,Int.reduceLE,decide_true,decide_false,Bool.false_and,Bool.true_and,Bool.and_true,Bool.false_or,Bool.or_false,cond_true,cond_false,Bool.and_self,Option.bind_some]
   cases N==0
   ·exact⟨2,rfl,rfl,by decide⟩
   ·cases Nm==[]
    ·exact⟨2,rfl,rfl,by decide⟩
    ·cases cE:((jP.length:Int)==0)
     ·exact⟨2,rfl,rfl,by decide⟩
     ·simp only[Bool.and_true,Bool.not_true,Bool.not_false,cond_true,cond_false,EM cE]
      exact⟨0,rfl,rfl,by decide⟩
  ·by_cases h1:K=1
   ·subst h1
    simp only[Int.reduceBEq,Int.reduceLE,decide_true,decide_false,Bool.false_and,Bool.true_and,Bool.and_true,Bool.false_or,Bool.or_false,Bool.true_or,cond_true,cond_false,Bool.and_self,Option.bind_some]
    cases N==0
    ·exact⟨2,rfl,rfl,by decide⟩
    ·simp only[Bool.not_true,cond_false]
     cases ba:(Nm==([116,97,117]:List UInt8))
     ·simp only[Bool.not_false,Bool.and_true,cond_true]
      cases kP Nm
      ·exact⟨3,rfl,rfl,by decide⟩
      ·simp only[Bool.not_true,cond_false,Bool.and_false,Bool.or_false,Bool.true_and]
       by_cases a6:jP.length≤2
       ·have aS:decide ((2:Int)<(jP.length:Int))=false:=decide_eq_false (by omega)
        have aZ:decide ((jP.length:Int)≤2)=true:=decide_eq_true (by omega)
        rw[aS,aZ,Bool.or_true]
        cases rl ⟨1,N,Nm,jP⟩ pl.scope
        ·exact⟨8,rfl,rfl,by decide⟩
        ·exact⟨0,rfl,rfl,by decide⟩
       ·have aS:decide ((2:Int)<(jP.length:Int))=true:=decide_eq_true (by omega)
        have aZ:decide ((jP.length:Int)≤2)=false:=decide_eq_false (by omega)
        have aQ:((jP.length:Int)==0)=false:=by rw[beq_eq_false_iff_ne];omega
        rw[aS,aZ,aQ]
        exact⟨5,rfl,rfl,by decide⟩
     ·rw[aCi ba]
      simp only[Bool.not_true,cond_false,Bool.and_true,Bool.false_and,Bool.or_false]
      by_cases a6:jP.length=0
      ·have aS:decide ((2:Int)<(jP.length:Int))=false:=decide_eq_false (by omega)
       have aZ:decide ((0:Int)<(jP.length:Int))=false:=decide_eq_false (by omega)
       have aQ:((jP.length:Int)==0)=true:=by rw[a6];rfl
       rw[aS,aZ,EM aQ,aQ]
       exact⟨0,rfl,rfl,by decide⟩
      ·have aZ:decide ((0:Int)<(jP.length:Int))=true:=decide_eq_true (by omega)
       have aQ:((jP.length:Int)==0)=false:=by rw[beq_eq_false_iff_ne];omega
       rw[aZ,aQ,Bool.or_true]
       exact⟨5,rfl,rfl,by decide⟩
   ·by_cases ah:K=2
    ·subst ah
     simp only[Int.reduceBEq,Int.reduceLE,decide_true,decide_false,Bool.false_and,Bool.true_and,Bool.and_true,Bool.false_or,Bool.or_false,cond_true,cond_false,Bool.and_self,Option.bind_some]
     cases N==0
     ·exact⟨2,rfl,rfl,by decide⟩
     ·cases Nm==[]
      ·exact⟨2,rfl,rfl,by decide⟩
      ·cases cE:((jP.length:Int)==0)
       ·exact⟨2,rfl,rfl,by decide⟩
       ·simp only[Bool.and_true,Bool.not_true,Bool.not_false,cond_true,cond_false,EM cE]
        exact⟨0,rfl,rfl,by decide⟩
    ·by_cases aC:K=3
     ·subst aC
      simp only[Int.reduceBEq,Int.reduceLE,decide_true,decide_false,Bool.false_and,Bool.true_and,Bool.and_true,Bool.false_or,Bool.or_false,Bool.true_or,Bool.or_true,cond_true,cond_false,Bool.and_self,Option.bind_some]
      cases N==0
      ·exact⟨2,rfl,rfl,by decide⟩
      ·cases Nm==[]
       ·exact⟨2,rfl,rfl,by decide⟩
       ·have df:((jP.length:Int) !=1)= !((jP.length:Int)==1):=rfl
        rw[df]
        cases((jP.length:Int)==1)
        ·exact⟨5,rfl,rfl,by decide⟩
        ·cases rl ⟨3,N,Nm,jP⟩ pl.scope
         ·exact⟨8,rfl,rfl,by decide⟩
         ·exact⟨0,rfl,rfl,by decide⟩
     ·by_cases a8:K=4
      ·subst a8
       simp only[Int.reduceBEq,Int.reduceLE,decide_true,decide_false,Bool.false_and,Bool.true_and,Bool.and_true,Bool.false_or,Bool.or_false,Bool.true_or,Bool.or_true,cond_true,cond_false,Bool.and_self,Option.bind_some]
       cases Nm==[]
       ·exact⟨2,rfl,rfl,by decide⟩
       ·cases cE:((jP.length:Int)==0)
        ·exact⟨2,rfl,rfl,by decide⟩
        ·rw[EM cE]
         cases(decide (1≤N)&&decide (N≤7))
         ·exact⟨4,rfl,rfl,by decide⟩
         ·cases decide (6≤pl.scope)
          ·exact⟨0,rfl,rfl,by decide⟩
          ·exact⟨7,rfl,rfl,by decide⟩
      ·by_cases bK:K=5
       ·subst bK
        simp only[Int.reduceBEq,Int.reduceLE,decide_true,decide_false,Bool.false_and,Bool.true_and,Bool.and_true,Bool.false_or,Bool.or_false,Bool.true_or,Bool.or_true,cond_true,cond_false,Bool.and_self,Option.bind_some]
        cases Nm==[]
        ·exact⟨2,rfl,rfl,by decide⟩
        ·cases ao:(decide (0≤N)&&decide (N≤(list.length:Int)-1))
         ·exact⟨4,rfl,rfl,by decide⟩
         ·simp only[Bool.and_eq_true,decide_eq_true_eq]at ao
          obtain⟨i,rfl⟩:∃i:Nat,N=i:=⟨N.toNat,by omega⟩
          rw[gm list i (by omega)]
          simp only[Option.bind_some,Bool.not_true,cond_false]
          have df:((jP.length:Int) !=list[i].dt)= !((jP.length:Int)==list[i].dt):=rfl
          rw[df]
          cases((jP.length:Int)==list[i].dt)
          ·exact⟨5,rfl,rfl,by decide⟩
          ·cases pl.behind
           ·exact⟨6,rfl,rfl,by decide⟩
           ·cases rl ⟨5,i,Nm,jP⟩ pl.scope
            ·exact⟨8,rfl,rfl,by decide⟩
            ·exact⟨0,rfl,rfl,by decide⟩
       ·have gT:(K==0)=false:=by simpa using bf
        have aS:(K==1)=false:=by simpa using h1
        have aZ:(K==2)=false:=by simpa using ah
        have aQ:(K==3)=false:=by simpa using aC
        have cF:(K==4)=false:=by simpa using a8
        have cR:(K==5)=false:=by simpa using bK
        have ch:(decide (0≤K)&&decide (K≤5))=false:=by
         rw[Bool.and_eq_false_iff,decide_eq_false_iff_not,decide_eq_false_iff_not];omega
        simp only[gT,aS,aZ,aQ,cF,cR,ch,Bool.false_and,cond_false,Option.bind_some]
        exact⟨2,rfl,rfl,by decide⟩
 exact aCl _ au rfl
end Go.eN
