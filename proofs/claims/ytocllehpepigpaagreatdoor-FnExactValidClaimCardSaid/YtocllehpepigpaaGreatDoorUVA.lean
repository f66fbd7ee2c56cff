/- Part of a proof that a law returns true for every input. No condition. -/
import Derived.Test.YtocllehpepigpaaGreatDoorUH4
import Derived.Test.YtocllehpepigpaaGreatDoorUO
namespace Go.gB
open Go Go.cI
theorem qM {β:Type} {l:Nat→Int→Option β} {n:Nat} (p:Nat→Bool) (D2 bad:Option β) (bm:∀m,l (m+1) (n:Int)=D2)
  (aa:∀i,i<n→∀m,l (m+1) (i:Int)=cond (p i) (l m ((i+1:Nat):Int)) bad) (i0:Nat) (ay:i0≤n):cY (fun m=>l m (i0:Int))=cond ((List.range' i0 (n-i0)).all p) D2 bad:=by
 refine j8 (n+1) fun m hm=> ?_
 refine up (fun i=>cond ((List.range' i (n-i)).all p) D2 bad) (fun m=> ?_) (fun i ay m ih=> ?_) i0 ay m (by omega)
 ·rw[bm];simp
 ·rw[aa i ay,ih,show n-i=(n-(i+1))+1 by omega,List.range'_succ]
  cases ao:p i<;>simp[ao]
theorem ak8 (s:List UInt8) (aa:s.length≤1048576) (h:40∉s):mW s=nM s:=by
 unfold mW nz tw
 rw[(Ac s aa).1 h,z_]
 simp
theorem ak9:mW [116,97,117]=true:=by
 rw[ak8 _ (by decide) (by decide)];rfl
noncomputable def o1 (L:List (List UInt8)) (i:Nat):Bool:=mW (L.getD i [])&&(!(L.getD i []==[116,97,117])&&(decide (i≤1)||Op.bytesLess (L.getD (i-1) []) (L.getD i [])))
noncomputable def Ae (L:List (List UInt8)):Bool:=(decide (1≤L.length)&&decide (L.length≤12))&&((L.getD 0 []==[116,97,117])&&(List.range' 1 (L.length-1)).all (o1 L))
theorem jb {α:Type} (L:List α) (i:Nat) (d:α) (h:i<L.length):L.getD i d=L[i]:=by simp[List.getD,h]
theorem ak_ (L:List (List UInt8)) (aO:L.length≤1048576) (hw:∀w∈L,w.length≤1048576):yr L=some (Ae L):=by
 unfold yr Ae
 by_cases bm:L.length=0
 ·rw[show((L.length:Int)==0)=true from by simp;exact List.length_eq_zero_iff.1 bm,show decide (1≤L.length)=false from decide_eq_false (by omega)];rfl
 rw[show((L.length:Int)==0)=false from by simp;exact fun h=>bm (by rw[h];rfl),show decide (1≤L.length)=true from decide_eq_true (by omega)]
 by_cases anf:12<L.length
 ·rw[show decide ((12:Int)<(L.length:Int))=true from decide_eq_true (by omega),show decide (L.length≤12)=false from decide_eq_false (by omega)];rfl
 rw[show decide ((12:Int)<(L.length:Int))=false from decide_eq_false (by omega),show decide (L.length≤12)=true from decide_eq_true (by omega)]
 have hg:bX L 0=some L[0]:=fy L 0 (by omega)
 simp only[cond_false,hg,Option.bind_some,Bool.true_and]
 rw[jb L 0 [] (by omega)]
 have ly:=qM (l:=fun m i=>qu L m i) (n:=L.length) (o1 L) (some true) (some false) (fun m=>by
  simp only[qu,yq]
  rw[iC (Nat.le_refl _)];rfl) (fun i ay m=>by
  simp only[qu,yq]
  rw[iB ay,cond_true,fy L i ay,Option.bind_some,(D1 _ (hw _ (List.getElem_mem ay))).1,Option.bind_some,h1 i _ ay (by omega)]
  unfold o1
  rw[jb L i [] ay]
  cases mW L[i]
  ·rfl
  ·cases(L[i]==[116,97,117])
   ·by_cases ad:i≤1
    ·rw[show decide ((1:Int)<(i:Int))=false from decide_eq_false (by omega),show decide (i≤1)=true from decide_eq_true ad];rfl
    ·rw[show decide ((1:Int)<(i:Int))=true from decide_eq_true (by omega),show decide (i≤1)=false from decide_eq_false ad,e0 _ (by omega),show((i:Int)-1)=((i-1:Nat):Int) by omega,fy L (i-1) (by omega),jb L (i-1) [] (by omega)]
     simp only[Bool.not_true,Bool.not_false,cond_true,cond_false,Option.bind_some,Bool.false_or,Bool.true_and]
     cases Op.bytesLess L[i-1] L[i]<;>rfl
   ·rfl) 1 (by omega)
 have:cY (fun n=>qu L n 1)=cond ((List.range' 1 (L.length-1)).all (o1 L)) (some true) (some false):=ly
 rw[this]
 cases(L[0]==[116,97,117])<;>cases(List.range' 1 (L.length-1)).all (o1 L)<;>rfl
def ud (t:dC) (x:Int):Bool:=decide (0≤x)&&decide (x≤IntKind.i64.wrap (t.eW-1))
def sb (a b:ek):Bool:=if a.er≠b.er then decide (a.er<b.er)else if a.Label≠b.Label then decide (a.Label<b.Label)else decide (a.gi<b.gi)
theorem ala (a b:ek):ys a b=some (sb a b):=by
 unfold ys sb
 by_cases ad:a.er=b.er
 ·rw[show(a.er !=b.er)=false from by simpa using ad,if_neg (fun h=>h ad)]
  by_cases ag:a.Label=b.Label
  ·rw[show(a.Label !=b.Label)=false from by simpa using ag,if_neg (fun h=>h ag)];rfl
  ·rw[show(a.Label !=b.Label)=true from by simpa using ag,if_pos ag];rfl
 ·rw[show(a.er !=b.er)=true from by simpa using ad,if_pos ad];rfl
def D3 (a b:Int):Int:=if a<b then-1 else if b<a then 1 else 0
theorem cmp_eq (a b:Int):tF a b=some (D3 a b):=by
 unfold tF yZ D3
 simp only[Option.bind_some,bne_self_eq_false,cond_false]
 by_cases ad:a<b
 ·rw[decide_eq_true ad,if_pos ad];rfl
 ·rw[decide_eq_false ad,if_neg ad]
  by_cases ag:b<a
  ·rw[decide_eq_true ag,if_pos ag];rfl
  ·rw[decide_eq_false ag,if_neg ag];rfl
theorem alb (x y z:Int):y0 [x,y,z]=some (if x≠0 then x else if y≠0 then y else z):=by
 unfold y0
 refine j8 4 fun m hm=> ?_
 obtain⟨m,rfl⟩:∃j,m=j+4:=⟨m-4,by omega⟩
 have kg:IntKind.i64.wrap (0+1)=1:=by decide
 have ir:IntKind.i64.wrap (1+1)=2:=by decide
 have ll:IntKind.i64.wrap (2+1)=3:=by decide
 have g0:bX [x,y,z] 0=some x:=rfl
 have g1:bX [x,y,z] 1=some y:=rfl
 have g2:bX [x,y,z] 2=some z:=rfl
 have d0:decide ((0:Int)<(([x,y,z].length:Nat):Int))=true:=rfl
 have d1:decide ((1:Int)<(([x,y,z].length:Nat):Int))=true:=rfl
 have d2:decide ((2:Int)<(([x,y,z].length:Nat):Int))=true:=rfl
 have d3:decide ((3:Int)<(([x,y,z].length:Nat):Int))=false:=rfl
 simp only[vV,CU,d0,d1,d2,d3,g0,g1,g2,kg,ir,ll,cond_true,cond_false,Option.bind_some]
 by_cases ai:x=0
 ·rw[show(x !=0)=false from by simpa using ai,if_neg (fun h=>h ai)]
  by_cases hy:y=0
  ·rw[show(y !=0)=false from by simpa using hy,if_neg (fun h=>h hy)]
   by_cases bG:z=0
   ·rw[show(z !=0)=false from by simpa using bG,bG];rfl
   ·rw[show(z !=0)=true from by simpa using bG];rfl
  ·rw[show(y !=0)=true from by simpa using hy,if_pos hy];rfl
 ·rw[show(x !=0)=true from by simpa using ai,if_pos ai];rfl
theorem alc (a b:ek):∃c,y1 a b=some c∧decide (0≤c)= !(sb a b):=by
 unfold y1
 rw[cmp_eq,cmp_eq,cmp_eq]
 simp only[Option.bind_some,alb]
 refine⟨_,rfl,?_⟩
 unfold D3 sb
 rw[Bool.eq_iff_iff]
 simp only[decide_eq_true_eq,Bool.not_eq_true']
 constructor
 ·intro h
  split<;>rename_i ad
  ·simp only[decide_eq_false_iff_not]
   intro ag
   rw[if_pos ag]at h
   simp at h
  ·split<;>rename_i aF
   ·simp only[decide_eq_false_iff_not]
    intro ag
    rw[if_neg (by simp at ad;omega),if_pos ag]at h
    simp at h
   ·simp only[decide_eq_false_iff_not]
    rw[if_neg (by simp at ad;omega),if_neg (by simp at aF;omega)]at h
    intro ag
    rw[if_pos ag]at h
    simp at h
 ·intro h
  split at h<;>rename_i ad
  ·simp only[decide_eq_false_iff_not]at h
   rw[if_pos (by split<;>omega)]
   split<;>omega
  ·simp at ad
   split at h<;>rename_i aF
   ·simp only[decide_eq_false_iff_not]at h
    rw[if_neg (by omega),if_pos (by split<;>omega)]
    split<;>omega
   ·simp at aF
    simp only[decide_eq_false_iff_not]at h
    rw[if_neg (by omega),if_neg (by omega)]
    split<;>omega
def pO (t:dC) (i:Nat):Bool:=
 ud t (t.cB.getD i ⟨0,0,0⟩).er&&(ud t (t.cB.getD i ⟨0,0,0⟩).gi&&((decide (0≤(t.cB.getD i ⟨0,0,0⟩).Label)&&decide ((t.cB.getD i ⟨0,0,0⟩).Label≤IntKind.i64.wrap ((t.cW.length:Int)-1)))&&
  (decide (i=0)||sb (t.cB.getD (i-1) ⟨0,0,0⟩) (t.cB.getD i ⟨0,0,0⟩))))
theorem ald (t:dC) (aO:t.cB.length≤1048576):cY (fun n=>qv t n 0)=cond ((List.range' 0 t.cB.length).all (pO t)) (some true) (some false):=by
 refine qM (l:=fun m i=>qv t m i) (n:=t.cB.length) (pO t) (some true) (some false) (fun m=> ?_) (fun i ay m=> ?_) 0 (by omega)
 ·simp only[qv,yt]
  rw[iC (Nat.le_refl _)];rfl
 ·simp only[qv,yt,kz]
  rw[iB ay,cond_true,fy _ i ay,Option.bind_some,h1 i _ ay (by omega)]
  unfold pO ud
  rw[jb t.cB i _ ay]
  simp only[Option.bind_some]
  cases(decide (0≤t.cB[i].er)&&decide (t.cB[i].er≤IntKind.i64.wrap (t.eW-1)))
  ·rfl
  cases(decide (0≤t.cB[i].gi)&&decide (t.cB[i].gi≤IntKind.i64.wrap (t.eW-1)))
  ·rfl
  cases(decide (0≤t.cB[i].Label)&&decide (t.cB[i].Label≤IntKind.i64.wrap ((t.cW.length:Int)-1)))
  ·rfl
  by_cases bm:i=0
  ·rw[show decide ((0:Int)<(i:Int))=false from decide_eq_false (by omega),show decide (i=0)=true from decide_eq_true bm];rfl
  ·rw[show decide ((0:Int)<(i:Int))=true from decide_eq_true (by omega),show decide (i=0)=false from decide_eq_false bm,e0 _ (by omega),show((i:Int)-1)=((i-1:Nat):Int) by omega,fy t.cB (i-1) (by omega),jb t.cB (i-1) _ (by omega)]
   simp only[Option.bind_some,ala,Bool.not_true,cond_true,cond_false,Bool.false_or,Bool.true_and]
   cases sb t.cB[i-1] t.cB[i]<;>rfl
theorem ale (t:dC) (aO:t.cB.length≤1048576):cY (fun n=>qA t n 0)=cond ((List.range' 0 t.cB.length).all (pO t)) (some true) (some false):=by
 refine qM (l:=fun m i=>qA t m i) (n:=t.cB.length) (pO t) (some true) (some false) (fun m=> ?_) (fun i ay m=> ?_) 0 (by omega)
 ·simp only[qA,y2]
  rw[iC (Nat.le_refl _)];rfl
 ·simp only[qA,y2,tA,tE,jZ]
  rw[iB ay,cond_true,fy _ i ay,Option.bind_some,h1 i _ ay (by omega)]
  unfold pO ud
  rw[jb t.cB i _ ay]
  simp only[Option.bind_some]
  cases(decide (0≤t.cB[i].er)&&decide (t.cB[i].er≤IntKind.i64.wrap (t.eW-1)))
  ·rfl
  cases(decide (0≤t.cB[i].gi)&&decide (t.cB[i].gi≤IntKind.i64.wrap (t.eW-1)))
  ·rfl
  cases(decide (0≤t.cB[i].Label)&&decide (t.cB[i].Label≤IntKind.i64.wrap ((t.cW.length:Int)-1)))
  ·rfl
  by_cases bm:i=0
  ·rw[show decide ((0:Int)<(i:Int))=false from decide_eq_false (by omega),show decide (i=0)=true from decide_eq_true bm];rfl
  ·rw[show decide ((0:Int)<(i:Int))=true from decide_eq_true (by omega),show decide (i=0)=false from decide_eq_false bm,e0 _ (by omega),show((i:Int)-1)=((i-1:Nat):Int) by omega,fy t.cB (i-1) (by omega),jb t.cB (i-1) _ (by omega)]
   obtain⟨c,b5,c2⟩:=alc t.cB[i-1] t.cB[i]
   simp only[Option.bind_some,b5,c2,Bool.not_true,cond_true,cond_false,Bool.false_or,Bool.true_and]
   cases sb t.cB[i-1] t.cB[i]<;>rfl
noncomputable def ue (t:dC):Bool:=(decide (1≤t.eW)&&decide (t.eW≤40))&&(ud t t.iL&&(Ae t.cW&&(decide (t.cB.length≤300)&&(List.range' 0 t.cB.length).all (pO t))))
def uf (L:List (List UInt8)) (i:Nat):Bool:=((L.getD i []==[116,97,117])==decide (i=0))&&(decide (i≤1)||Op.bytesLess (L.getD (i-1) []) (L.getD i []))
theorem alf (L:List (List UInt8)) (h:1≤L.length):(List.range' 0 L.length).all (fun i=>mW (L.getD i [])&&uf L i)=((L.getD 0 []==[116,97,117])&&(List.range' 1 (L.length-1)).all (o1 L)):=by
 rw[show L.length=(L.length-1)+1 by omega,List.range'_succ,List.all_cons]
 rw[show L.length-1+1-1=L.length-1 by omega]
 congr 1
 ·unfold uf
  simp only[decide_true,Nat.zero_le,Bool.true_or,Bool.and_true,beq_true]
  by_cases h:L.getD 0 []=[116,97,117]
  ·rw[h,ak9];rfl
  ·rw[show(L.getD 0 []==[116,97,117])=false from by simpa using h];simp
 ·rw[Bool.eq_iff_iff,List.all_eq_true,List.all_eq_true]
  have key:∀i∈List.range' (0+1) (L.length-1),(mW (L.getD i [])&&uf L i)=o1 L i:=by
   intro i ay
   simp only[List.mem_range'_1]at ay
   unfold uf o1
   rw[show decide (i=0)=false from decide_eq_false (by omega)]
   simp
  constructor
  ·intro q i ay
   rw[←key i ay];exact q i ay
  ·intro q i ay
   rw[key i ay];exact q i ay
theorem KK (t:dC) (aO:t.cW.length≤1048576) (hw:∀w∈t.cW,w.length≤1048576) (he:t.cB.length≤1048576):yu t=some (ue t)∧y4 t=some (ue t):=by
 unfold yu y4 ue kz tA jZ
 rw[ak_ t.cW aO hw,ald t he]
 have ly:(1≤t.cW.length)→cY (fun n=>qB t n 0)=cond ((t.cW.getD 0 []==[116,97,117])&&(List.range' 1 (t.cW.length-1)).all (o1 t.cW)) (cond ((List.range' 0 t.cB.length).all (pO t)) (some true) (some false)) (some false):=by
  intro ad
  rw[←alf t.cW ad]
  refine qM (l:=fun m i=>qB t m i) (n:=t.cW.length) (fun i=>mW (t.cW.getD i [])&&uf t.cW i) _ (some false) (fun m=> ?_) (fun i ay m=> ?_) 0 (by omega)
  ·simp only[qB,y3]
   rw[iC (Nat.le_refl _),cond_false,ale t he]
  ·simp only[qB,y3]
   rw[iB ay,cond_true,fy _ i ay,Option.bind_some,(D1 _ (hw _ (List.getElem_mem ay))).2,Option.bind_some,h1 i _ ay (by omega)]
   unfold uf
   rw[jb t.cW i [] ay,show((i:Int)==0)=decide (i=0)from by rw[Bool.eq_iff_iff];simp]
   cases mW t.cW[i]
   ·rfl
   cases((t.cW[i]==[116,97,117])==decide (i=0))
   ·rfl
   by_cases ad:i≤1
   ·rw[show decide ((1:Int)<(i:Int))=false from decide_eq_false (by omega),show decide (i≤1)=true from decide_eq_true ad];rfl
   ·rw[show decide ((1:Int)<(i:Int))=true from decide_eq_true (by omega),show decide (i≤1)=false from decide_eq_false ad,e0 _ (by omega),show((i:Int)-1)=((i-1:Nat):Int) by omega,fy t.cW (i-1) (by omega),jb t.cW (i-1) [] (by omega)]
    simp only[Bool.not_true,Bool.not_false,cond_true,cond_false,Option.bind_some,Bool.false_or,Bool.true_and]
    rw[←akC t.cW[i-1] t.cW[i]]
    cases Op.bytesLess t.cW[i-1] t.cW[i]<;>rfl
 simp only[Option.bind_some]
 cases(decide (1≤t.eW)&&decide (t.eW≤40))
 ·exact⟨rfl,rfl⟩
 simp only[Bool.not_true,cond_false,Bool.true_and]
 unfold ud
 cases(decide (0≤t.iL)&&decide (t.iL≤IntKind.i64.wrap (t.eW-1)))
 ·exact⟨rfl,rfl⟩
 simp only[Bool.not_true,cond_false,Bool.true_and]
 unfold Ae
 by_cases ad:1≤t.cW.length
 ·rw[ly ad]
  rw[show decide (1≤(t.cW.length:Int))=decide (1≤t.cW.length)from by rw[decide_eq_decide];omega,show decide ((t.cW.length:Int)≤12)=decide (t.cW.length≤12)from by rw[decide_eq_decide];omega,
   show decide ((300:Int)<(t.cB.length:Int))= !(decide (t.cB.length≤300))from by rw[Bool.eq_iff_iff];simp;omega]
  cases(decide (1≤t.cW.length)&&decide (t.cW.length≤12))<;>cases decide (t.cB.length≤300)<;>cases((t.cW.getD 0 []==[116,97,117])&&(List.range' 1 (t.cW.length-1)).all (o1 t.cW))<;>cases(List.range' 0 t.cB.length).all (pO t)<;>exact⟨rfl,rfl⟩
 ·rw[show decide (1≤(t.cW.length:Int))=false from decide_eq_false (by omega),show decide (1≤t.cW.length)=false from decide_eq_false ad]
  exact⟨rfl,rfl⟩
end Go.gB
