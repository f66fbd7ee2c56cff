/- Part of a proof that a law returns true for every input. No condition. -/
import Derived.Test.YtikimdcnadipbaaGreatDoorUHE
import Derived.Test.YtikimdcnadipbaaGreatDoorUH4
import Derived.Test.YtikimdcnadipbaaGreatDoorUT
namespace Go.eL
open Go Go.bZ
noncomputable def jf (e:b3):Bool:=(decide (0≤e.Choice)&&decide (e.Choice≤199))&&((decide (0≤e.dJ)&&decide (e.dJ≤2))&&((decide (-1≤e.Second)&&decide (e.Second≤2))&&wG e.Label))
theorem Gs (e:b3) (h:e.Label.length≤1048576):vn e=some (jf e)∧vN e=some (jf e):=by
 obtain⟨aa,ab⟩:=XS e.Label h
 unfold vn vN pE nw jf
 rw[aa,ab]
 simp only[Option.bind_some]
 cases(decide (0≤e.Choice)&&decide (e.Choice≤199))<;>cases(decide (0≤e.dJ)&&decide (e.dJ≤2))<;>cases(decide (-1≤e.Second)&&decide (e.Second≤2))<;>exact⟨rfl,rfl⟩
theorem Ae {e:b3} (h:jf e=true):(0≤e.Choice∧e.Choice≤199)∧(0≤e.dJ∧e.dJ≤2)∧(-1≤e.Second∧e.Second≤2):=by
 simp only[jf,Bool.and_eq_true,decide_eq_true_eq]at h
 omega
noncomputable def p0 (a:List b3):Bool:=decide (a.length≤60)&&a.all jf
theorem XX (a:List b3) (aI:a.length≤1048576) (h:∀e∈a,e.Label.length≤1048576):vp a=some (p0 a)∧vP a=some (p0 a):=by
 unfold vp vP p0 y_ y9
 rw[FN (n:=a.length) (l:=pO a) (fun i=> !jf (a.getD i ⟨0,0,0,[]⟩)) (fun m=> ?_) (fun i ay m=> ?_)]
 ·simp only[Option.bind_some,FM,Bool.not_not]
  have aF:rF (fun i=>jf (a.getD i ⟨0,0,0,[]⟩)) a.length=a.all jf:=by
   rw[Bool.eq_iff_iff,wD,List.all_eq_true]
   constructor
   ·intro q x ai
    obtain⟨k,al,rfl⟩:=List.mem_iff_getElem.1 ai
    have:=q k al
    simpa [List.getD,al]using this
   ·intro q i ay
    have:=q _ (List.getElem_mem ay)
    simpa [List.getD,ay]using this
  rw[aF]
  have U:dT (fun n=>pF a n 0)=some (a.all jf):=by
   rw[tK (n:=a.length) (fun i=>some ((a.drop i).all jf))]
   ·simp
   ·intro m
    simp only[pF,vo]
    rw[je (Nat.le_refl _)];simp
   ·intro i ay m ih
    simp only[pF,vo]
    rw[jd ay,gP _ i ay,iH i _ ay (by omega),ih,drop_cons _ i ay]
    simp only[cond_true,Option.bind_some,List.all_cons]
    rw[(Gs _ (h _ (List.getElem_mem ay))).1]
    simp only[Option.bind_some]
    cases jf a[i]<;>simp
  rw[U]
  by_cases Af:a.length≤60
  ·rw[show decide ((60:Int)<(a.length:Int))=false from decide_eq_false (by omega),show decide ((a.length:Int)≤60)=true from decide_eq_true (by omega),show decide (a.length≤60)=true from decide_eq_true Af]
   simp
  ·rw[show decide ((60:Int)<(a.length:Int))=true from decide_eq_true (by omega),show decide ((a.length:Int)≤60)=false from decide_eq_false (by omega),show decide (a.length≤60)=false from decide_eq_false Af]
   exact⟨rfl,rfl⟩
 ·simp only[pO,vO]
  rw[je (Nat.le_refl _)];rfl
 ·simp only[pO,vO,y8]
  rw[jd ay,gP _ i ay,iH i _ ay (by omega)]
  simp only[cond_true,Option.bind_some]
  rw[(Gs _ (h _ (List.getElem_mem ay))).2]
  have e:a.getD i ⟨0,0,0,[]⟩=a[i]:=by simp[List.getD,ay]
  rw[e];rfl
def gx (e:b3):List UInt8:=(((((fb e.Choice++[32])++fb e.dJ)++[32])++fb e.Second)++[32])++e.Label
def oN (e:b3) (c:Int):List UInt8:=(gx e++[32])++fb (kE (gx e) c)
theorem Ag {e:b3} (h:jf e=true) (aI:e.Label.length≤1048576):(gx e).length≤1048700:=by
 obtain⟨aa,ab,aB⟩:=Ae h
 have kG:=jI e.Choice (by omega)
 have i2:=jI e.dJ (by omega)
 have i3:=jI e.Second (by omega)
 simp only[gx,List.length_append,List.length_cons,List.length_nil]
 omega
theorem jJ (n:Nat) (h:n≤140737488355328):fp n=some ():=by unfold fp;rw[if_pos (by omega)]
theorem XY {e:b3} {c:Int} (h:jf e=true) (aI:e.Label.length≤1048576) (af:0≤c∧c≤65535):(oN e c).length≤1048800:=by
 have J:=Ag h aI
 have ay:=tT (gx e) c af
 have:=jI (kE (gx e) c) (by omega)
 simp only[oN,List.length_append,List.length_cons,List.length_nil]
 omega
theorem XZ {e:b3} {c:Int} (h:jf e=true) (aI:e.Label.length≤1048576) (af:0≤c∧c≤65535):vt e c=some (oN e c,kE (gx e) c):=by
 obtain⟨aa,ab,aB⟩:=Ae h
 have kG:=jI e.Choice (by omega)
 have i2:=jI e.dJ (by omega)
 have i3:=jI e.Second (by omega)
 have ay:=tT (gx e) c af
 have i4:=jI (kE (gx e) c) (by omega)
 have J:=Ag h aI
 unfold vt
 simp only[wH e.Choice (by omega),wH e.dJ (by omega),wH e.Second (by omega),Option.bind_some]
 rw[jJ _ (by omega),jJ _ (by simp;omega),jJ _ (by simp;omega),jJ _ (by simp;omega),jJ _ (by simp;omega),jJ _ (by simp;omega)]
 simp only[Option.bind_some]
 show((pH (gx e) c).bind fun bV=>(fp ((gx e).length+1)).bind fun _=>(ox bV).bind fun dq=>(fp ((gx e++[32]).length+dq.length)).bind fun _=>some ((gx e++[32])++dq,bV))=_
 rw[FQ _ (by omega),Option.bind_some,jJ _ (by omega),Option.bind_some,wH _ (by omega),Option.bind_some,jJ _ (by simp;omega)]
 rfl
theorem X0 (a b c:Int) (br: -1≤a∧a≤65535) (J: -1≤b∧b≤65535) (af: -1≤c∧c≤65535):pM [a,b,c] [32]=some (gy [fb a,fb b,fb c] [32]):=by
 unfold pM
 rw[zU 16 (by simp) (by omega)]
 simp only[Option.bind_some,Int.toNat_natCast]
 have kG:=jI a (by omega)
 have i2:=jI b (by omega)
 have i3:=jI c (by omega)
 have bE:strings_Join ([a,b,c].map fb) [32]=some (gy [fb a,fb b,fb c] [32]):=by
  unfold strings_Join
  have:=zV 32 19 [fb a,fb b,fb c] fun x ai=>by
   simp at ai;rcases ai with rfl|rfl|rfl<;>omega
  simp only[List.length_cons,List.length_nil]at this
  rw[if_pos ⟨by simp,by simp only[List.map_cons,List.map_nil];omega⟩]
  rfl
 have ai:∀x∈[a,b,c],mB x=some (fb x):=by
  intro x ai
  simp at ai
  rcases ai with rfl|rfl|rfl<;>exact Gp _ (by omega)
 rw[FP (L:=mC [a,b,c] [32]) [a,b,c] fb (List.replicate [a,b,c].length []) (by simp) (fun v=>(strings_Join v [32]).bind fun bV=>some bV) (fun m v=> ?_) (fun i ay m v aI=> ?_),bE]
 ·rfl
 ·simp only[mC,rn];rw[je (Nat.le_refl _)];rfl
 ·simp only[mC,rn]
  rw[jd ay,gP _ i ay,iH i _ ay (by simp),gP v i (by omega)]
  simp only[cond_true,Option.bind_some]
  rw[ai _ (List.getElem_mem ay)]
  simp only[Option.bind_some,Int.toNat_natCast]
theorem X1 {e:b3} {c:Int} (h:jf e=true) (aI:e.Label.length≤1048576) (af:0≤c∧c≤65535):vS e c=some (oN e c++[10],kE (gx e) c):=by
 obtain⟨aa,ab,aB⟩:=Ae h
 have kG:=jI e.Choice (by omega)
 have i2:=jI e.dJ (by omega)
 have i3:=jI e.Second (by omega)
 have ay:=tT (gx e) c af
 have i4:=jI (kE (gx e) c) (by omega)
 have J:=Ag h aI
 have bE:gy [fb e.Choice,fb e.dJ,fb e.Second] [32]=(((fb e.Choice++[32])++fb e.dJ)++[32])++fb e.Second:=by
  rw[join_cons,join_cons,join_one];simp
 unfold vS
 rw[X0 _ _ _ (by omega) (by omega) (by omega),bE,Option.bind_some,jJ _ (by simp;omega),Option.bind_some,jJ _ (by simp;omega),Option.bind_some]
 show((ru (gx e) c).bind fun aU=>(fp ((gx e).length+1)).bind fun _=>(mB aU).bind fun bI=>(fp ((gx e++[32]).length+bI.length)).bind fun _=>(fp (((gx e++[32])++bI).length+1)).bind fun _=>some (((gx e++[32])++bI)++[10],aU))=_
 rw[Xm _ (by omega) _ af,Option.bind_some,jJ _ (by omega),Option.bind_some,Gp _ (by omega),Option.bind_some,jJ _ (by simp;omega),Option.bind_some,jJ _ (by simp;omega)]
 rfl
def p1:List b3→Int→List UInt8
 |[],_=>[]
 |e::r,c=>(oN e c++[10])++p1 r (kE (gx e) c)
theorem X2 (a:List b3) (aI:∀e∈a,e.Label.length≤1048576) (al:p0 a=true):
  vv a=some (p1 a 65535)∧dT (fun n=>oz a n [] 65535 0)=some (p1 a 65535):=by
 simp only[p0,Bool.and_eq_true,decide_eq_true_eq,List.all_eq_true]at al
 obtain⟨Af,gR⟩:=al
 have key:∀i,i≤a.length→∀m,a.length-i<m→∀(v:List UInt8) (c:Int),0≤c∧c≤65535→v.length≤i*1048900→
   pI a m v c (i:Int)=some (v++p1 (a.drop i) c)∧oz a m v c (i:Int)=some (v++p1 (a.drop i) c):=by
  refine down a.length ?_ ?_
  ·intro m hm v c af aD
   obtain⟨m,rfl⟩:∃j,m=j+1:=⟨m-1,by omega⟩
   simp only[pI,vu,oz,vU]
   rw[je (Nat.le_refl _),List.drop_length]
   simp[p1,vT]
  ·intro i ay ih m hm v c af aD
   obtain⟨m,rfl⟩:∃j,m=j+1:=⟨m-1,by omega⟩
   have he:=gR _ (List.getElem_mem ay)
   have hle:=aI _ (List.getElem_mem ay)
   have Zp:=XY he hle af
   have mS:=tT (gx a[i]) c af
   have hq:(v++(oN a[i] c++[10])).length≤(i+1)*1048900:=by
    simp only[List.length_append,List.length_cons,List.length_nil,Nat.add_mul];omega
   have wE:=ih m (by omega) (v++(oN a[i] c++[10])) (kE (gx a[i]) c) mS hq
   have aa:v.length+(oN a[i] c++[10]).length≤140737488355328:=by simp;omega
   simp only[pI,vu,oz,vU]
   rw[jd ay,gP a i ay,iH i _ ay (by omega),drop_cons a i ay]
   simp only[cond_true,Option.bind_some,p1]
   rw[XZ he hle af,X1 he hle af]
   simp only[Option.bind_some,tk]
   rw[jJ _ (by omega),jJ _ (by omega),if_pos aa]
   simp only[Option.bind_some]
   rw[wE.1,wE.2]
   simp
 constructor
 ·unfold vv
  refine hM (a.length+1) fun m hm=> ?_
  simpa using (key 0 (by omega) m (by omega) [] 65535 (by omega) (by simp)).1
 ·refine hM (a.length+1) fun m hm=> ?_
  simpa using (key 0 (by omega) m (by omega) [] 65535 (by omega) (by simp)).2
end Go.eL
