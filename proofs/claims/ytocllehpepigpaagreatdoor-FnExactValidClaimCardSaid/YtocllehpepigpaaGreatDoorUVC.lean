/- Part of a proof that a law returns true for every input. No condition. -/
import Derived.Test.YtocllehpepigpaaGreatDoorUVB
import Derived.Test.YtocllehpepigpaaGreatDoorUT
namespace Go.gB
open Go Go.cI
def seen (L:List (List UInt8)) (i:Nat) (w:List UInt8):Bool:=decide (0≤lx (fun k=>(L.take i).getD k []==w) 0 (L.take i).length)
theorem als (A:List (List UInt8)) (w:List UInt8) (h:A.length≤1048576):yj A w=some (lx (fun k=>A.getD k []==w) 0 A.length):=by
 unfold yj
 refine DP _ (fun m=> ?_) (fun i ay m=> ?_)
 ·simp only[tq,yi]
  rw[iC (Nat.le_refl _)];rfl
 ·simp only[tq,yi]
  rw[iB ay,cond_true,fy A i ay,Option.bind_some,h1 i _ ay (by omega),jb A i _ ay]
theorem alu (A:List (List UInt8)) (w:List UInt8) (h:A.length≤1048576):yJ A w=some (decide (0≤lx (fun k=>A.getD k []==w) 0 A.length)):=by
 unfold yJ CK
 have:cY (fun n=>rI A w n 0)=some (lx (fun k=>A.getD k []==w) 0 A.length):=by
  refine DP _ (fun m=> ?_) (fun i ay m=> ?_)
  ·simp only[rI,yI]
   rw[iC (Nat.le_refl _)];rfl
  ·simp only[rI,yI]
   rw[iB ay,cond_true,fy A i ay,Option.bind_some,h1 i _ ay (by omega),jb A i _ ay,show(w==A[i])=(A[i]==w)from Bool.beq_comm]
 rw[this];rfl
section
variable (W:gx)
noncomputable def se (i:Nat):Bool:=nM (W.Names.getD i [])&&(!(seen W.Names i (W.Names.getD i []))&&ue (W.dB.getD i ⟨0,0,[],[]⟩))
noncomputable def wY:Bool:=((decide (1≤W.Names.length)&&decide (W.Names.length≤6))&&decide (W.dB.length=W.Names.length))&&(List.range' 0 W.Names.length).all (se W)
def D6:Prop:=W.Names.length≤1048576∧(∀w∈W.Names,w.length≤1048576)∧W.dB.length≤1048576∧∀t∈W.dB,t.cW.length≤1048576∧(∀w∈t.cW,w.length≤1048576)∧t.cB.length≤1048576
variable {W} (nJ:D6 W)
include nJ
theorem alv:yw W=some (wY W):=by
 obtain⟨kg,ir,ll,r3⟩:=nJ
 unfold yw wY
 rw[show(((W.Names.length:Int)==0)||decide ((6:Int)<(W.Names.length:Int)))= !(decide (1≤W.Names.length)&&decide (W.Names.length≤6))from by
    rw[Bool.not_and,←decide_not,←decide_not]
    congr 1
    ·rw[show((W.Names.length:Int)==0)=decide ((W.Names.length:Int)=0)from rfl,decide_eq_decide];omega
    ·rw[decide_eq_decide];omega,
  show((W.dB.length:Int) !=(W.Names.length:Int))= !(decide (W.dB.length=W.Names.length))from by
   rw[show((W.dB.length:Int) !=(W.Names.length:Int))= !(decide ((W.dB.length:Int)=(W.Names.length:Int)))from rfl]
   congr 1;rw[decide_eq_decide];omega]
 cases aV:(decide (1≤W.Names.length)&&decide (W.Names.length≤6))
 ·rfl
 by_cases he:W.dB.length=W.Names.length
 ·rw[decide_eq_true he]
  simp only[Bool.not_true,Bool.or_self,cond_false,Bool.true_and]
  have ly:=qM (l:=fun m i=>qw W m i) (n:=W.Names.length) (se W) (some true) (some false) (fun m=>by
   simp only[qw,yv]
   rw[iC (Nat.le_refl _)];rfl) (fun i ay m=>by
   have oP:i<W.dB.length:=by omega
   obtain⟨ab,a2,a3⟩:=r3 _ (List.getElem_mem oP)
   simp only[qw,yv]
   rw[iB ay,cond_true,fy _ i ay,Option.bind_some,z_,pK _ _ (by omega),h1 i _ ay (by omega)]
   simp only[Option.bind_some]
   rw[als _ _ (by simp;omega),fy _ i oP]
   simp only[Option.bind_some]
   rw[(KK _ ab a2 a3).1]
   simp only[Option.bind_some]
   unfold se seen
   rw[jb _ i _ ay,jb _ i _ oP]
   cases nM W.Names[i]
   ·rfl
   cases decide (0≤lx (fun k=>(W.Names.take i).getD k []==W.Names[i]) 0 (W.Names.take i).length)
   ·cases ue W.dB[i]<;>rfl
   ·rfl) 0 (by omega)
  have cM:cY (fun n=>qw W n 0)=_:=ly
  rw[cM,Nat.sub_zero]
  cases(List.range' 0 W.Names.length).all (se W)<;>rfl
 ·rw[decide_eq_false he];rfl
theorem alw:y6 W=some (wY W):=by
 obtain⟨kg,ir,ll,r3⟩:=nJ
 unfold y6 wY jZ
 rw[show(decide ((1:Int)≤(W.Names.length:Int))&&decide ((W.Names.length:Int)≤6))=(decide (1≤W.Names.length)&&decide (W.Names.length≤6))from by
    congr 1<;>(rw[decide_eq_decide];omega),
  show((W.dB.length:Int) !=(W.Names.length:Int))= !(decide (W.dB.length=W.Names.length))from by
   rw[show((W.dB.length:Int) !=(W.Names.length:Int))= !(decide ((W.dB.length:Int)=(W.Names.length:Int)))from rfl]
   congr 1;rw[decide_eq_decide];omega]
 simp only[Option.bind_some]
 cases aV:(decide (1≤W.Names.length)&&decide (W.Names.length≤6))
 ·rfl
 by_cases he:W.dB.length=W.Names.length
 ·rw[decide_eq_true he]
  simp only[Bool.not_true,Bool.or_self,cond_false,Bool.true_and]
  have ly:=qM (l:=fun m i=>qC W m i) (n:=W.Names.length) (se W) (some true) (some false) (fun m=>by
   simp only[qC,y5]
   rw[iC (Nat.le_refl _)];rfl) (fun i ay m=>by
   have oP:i<W.dB.length:=by omega
   obtain⟨ab,a2,a3⟩:=r3 _ (List.getElem_mem oP)
   have a4:=ir _ (List.getElem_mem ay)
   simp only[qC,y5]
   rw[iB ay,cond_true,fy _ i ay,Option.bind_some,Ki _ (by omega),pK _ _ (by omega),h1 i _ ay (by omega)]
   simp only[Option.bind_some]
   rw[alu _ _ (by simp;omega),fy _ i oP]
   simp only[Option.bind_some]
   rw[(KK _ ab a2 a3).2]
   simp only[Option.bind_some]
   unfold se seen
   rw[jb _ i _ ay,jb _ i _ oP]
   cases nM W.Names[i]
   ·rfl
   cases decide (0≤lx (fun k=>(W.Names.take i).getD k []==W.Names[i]) 0 (W.Names.take i).length)
   ·cases ue W.dB[i]<;>rfl
   ·rfl) 0 (by omega)
  have cM:cY (fun n=>qC W n 0)=_:=ly
  rw[cM,Nat.sub_zero]
  cases(List.range' 0 W.Names.length).all (se W)<;>rfl
 ·rw[decide_eq_false he];rfl
omit nJ
theorem alx (k:Int):(((k==3)||(k==4))||(k==5))=(decide (3≤k)&&decide (k≤5)):=by
 rw[show(k==3)=decide (k=3)from rfl,show(k==4)=decide (k=4)from rfl,show(k==5)=decide (k=5)from rfl,←Bool.decide_or,←Bool.decide_or,←Bool.decide_and,decide_eq_decide]
 omega
theorem aly (W:gx) (C:dM) (aO:C.Formula.length≤1048576) (hw:∀x∈C.Formula,x.Label.length≤1048576):∃b,yG W C=some b∧zg W C=some b:=by
 unfold yG zg tE kz jZ CG CV CH CW jZ
 simp only[Option.bind_some,alp _ aO hw,alq _ aO hw,alx]
 cases(decide (0≤C.Kind)&&decide (C.Kind≤7))
 ·exact⟨_,rfl,rfl⟩
 cases(decide (0≤C.Left)&&decide (C.Left≤IntKind.i64.wrap ((W.dB.length:Int)-1)))
 ·exact⟨_,rfl,rfl⟩
 cases(decide (0≤C.hT)&&decide (C.hT≤IntKind.i64.wrap ((W.dB.length:Int)-1)))
 ·exact⟨_,rfl,rfl⟩
 cases((!(decide (C.Kind≤3)))&&(C.hT !=0))
 ·cases(decide (3≤C.Kind)&&decide (C.Kind≤5))<;>exact⟨_,rfl,rfl⟩
 ·exact⟨_,rfl,rfl⟩
end
theorem alz (W:gx) (C:dM) (nJ:D6 W) (aO:C.Formula.length≤1048576) (hw:∀x∈C.Formula,x.Label.length≤1048576):∃b,yH W C=some b∧zh W C=some b:=by
 obtain⟨b,ad,ag⟩:=aly W C aO hw
 unfold yH zh
 rw[alv nJ,alw nJ,ad,ag]
 cases wY W<;>exact⟨_,rfl,rfl⟩
theorem ajK (A:ky) (B:gQ) (cb:xU A) (U:rG B):C2 A B=some true:=by
 unfold C2
 rw[aj8 A 1048576 cb (by omega) (by omega),Option.bind_some]
 by_cases aa:oo A≤1048576
 ·rw[zY (by omega),show decide ((1048576:Int)-((oo A:Nat):Int)<0)=false from decide_eq_false (by omega),cond_false,Kc B _ U (by omega) (by omega),Option.bind_some]
  by_cases aj:((l5 B:Nat):Int)≤1048576-((oo A:Nat):Int)
  ·rw[zY aj,show decide ((1048576:Int)-((oo A:Nat):Int)-((l5 B:Nat):Int)<0)=false from decide_eq_false (by omega),cond_false]
   have wT:l5 B≤1048576:=by omega
   have s1:=aa
   have s2:=wT
   simp only[oo]at s1
   simp only[l5]at s2
   have nJ:D6 (sa A):=by
    refine⟨Nat.le_trans (mw List.length A.Names) (by omega),fun w hw=>Nat.le_trans (nL (f:=List.length) (l:=A.Names) hw) (by omega),?_,?_⟩
    ·have:=mw mx A.dB
     simp only[sa,List.length_map];omega
    ·intro t aY
     simp only[sa,List.mem_map]at aY
     obtain⟨u,hu,rfl⟩:=aY
     have aF:=nL (f:=mx) hu
     simp only[mx]at aF
     refine⟨?_,fun w hw=> ?_,?_⟩
     ·have:=mw List.length u.cW
      simp only[qL];omega
     ·have:=nL (f:=List.length) (l:=u.cW) hw
      omega
     ·simp only[qL,List.length_map];omega
   have bl:(oq B).Formula.length≤1048576:=by
    have:=mw my B.Formula
    simp only[oq,List.length_map];omega
   have alA:∀x∈(oq B).Formula,x.Label.length≤1048576:=by
    intro x ai
    simp only[oq,List.mem_map]at ai
    obtain⟨u,hu,rfl⟩:=ai
    have aF:=nL (f:=my) hu
    simp only[my]at aF
    simp only[r8];omega
   obtain⟨b,kP,h8⟩:=alz (sa A) (oq B) nJ bl alA
   rw[akk A aa,Kf B wT]
   simp only[Option.bind_some,kP,h8,beq_self_eq_true,Bool.not_true,cond_false,aku _ (by rw[akj];exact aa),Kh _ (by rw[Ke];exact wT)]
  ·rw[wL (by omega)];rfl
 ·rw[wL (by omega)];rfl
end Go.gB
