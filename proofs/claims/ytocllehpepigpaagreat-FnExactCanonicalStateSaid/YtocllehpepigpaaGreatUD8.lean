/- Part of a proof that a law returns true for every input. No condition. -/
import Derived.Test.YtocllehpepigpaaGreatUD6
namespace Go.eN
open Go Go.cZ
def ku (e:List bj) (i:Nat):List UInt8:=(e.getD i ⟨[],0,[]⟩).Name
theorem rp {e:List bj} {i:Nat} (ao:i<e.length):e.getD i ⟨[],0,[]⟩=e[i]:=by simp[List.getD,ao]
def pN (e:List bj) (i:Nat):Bool:=fP (fun j=> !(ku e j==ku e i)) i
noncomputable def oU (e:List bj) (i:Nat):Bool:=match tK e (e.getD i ⟨[],0,[]⟩)with
 |some r=>r.2==0
 |none=>false
noncomputable def lX (e:List bj):Bool:=((decide (1≤e.length)&&decide (e.length≤4))&&fP (fun i=>(kP (ku e i)&&rn (e.getD i ⟨[],0,[]⟩))&&pN e i) e.length)&&fP (oU e) e.length
theorem I7 {e:List bj} (h:pM e) (a8:e.length≤4) (au:xo e=true) {i:Nat} (ao:i<e.length):
  ∃r,tK e e[i]=some r∧zx e e[i]=some r∧decide (0<r.2)= !(oU e i)∧(r.2 !=0)= !(oU e i)∧(oU e i=true→rm e[i].Body=true∧r.2=0):=by
 obtain⟨r,dw,bg,di,cd⟩:=aCp e a8 e[i] (h.2 _ (List.getElem_mem ao)) (Q6 au i ao)
 have ae:oU e i=(r.2==0):=by unfold oU;rw[rp ao,dw]
 refine⟨r,dw,bg,?_,?_,fun kT=> ?_⟩
 ·rw[ae]
  by_cases bf:r.2=0
  ·rw[bf];rfl
  ·have aS:(r.2==0)=false:=by simpa using bf
   rw[aS];exact decide_eq_true (by omega)
 ·rw[ae];rfl
 ·rw[ae]at kT
  have bf:r.2=0:=by simpa using kT
  exact⟨cd bf,bf⟩
theorem rq {p q:Nat→Bool} {n:Nat}:fP (fun i=>p i&&q i) n=(fP p n&&fP q n):=by
 rw[Bool.eq_iff_iff,Bool.and_eq_true,sx,sx,sx]
 constructor
 ·intro h;exact⟨fun i ao=>((Bool.and_eq_true _ _).mp (h i ao)).1,fun i ao=>((Bool.and_eq_true _ _).mp (h i ao)).2⟩
 ·rintro⟨h1,ah⟩ i ao;rw[h1 i ao,ah i ao];rfl
theorem aCs (e:List bj) (h:pM e):CI e=some (lX e):=by
 unfold CI lX
 by_cases hl:1≤e.length∧e.length≤4
 ·have d1:(((e.length:Int)==0)||decide ((4:Int)<(e.length:Int)))=false:=by
   rw[Bool.or_eq_false_iff,beq_eq_false_iff_ne,decide_eq_false_iff_not];omega
  have d2:(decide (1≤e.length)&&decide (e.length≤4))=true:=by simp;omega
  rw[d1,d2,cond_false,Bool.true_and]
  rw[uZ (l:=fun m i=>oL e m i) (n:=e.length) (fun i=>(kP (ku e i)&&rn (e.getD i ⟨[],0,[]⟩))&&pN e i) (lim fun n=>sa e n 0) (some false)]
  ·cases cE:fP (fun i=>(kP (ku e i)&&rn (e.getD i ⟨[],0,[]⟩))&&pN e i) e.length
   ·rfl
   ·have au:xo e=true:=by
     rw[rq,rq,Bool.and_eq_true,Bool.and_eq_true]at cE
     exact cE.1.2
    rw[cond_true,Bool.true_and]
    rw[uZ (l:=fun m i=>sa e m i) (n:=e.length) (oU e) (some true) (some false)]
    ·cases fP (oU e) e.length<;>rfl
    ·intro m
     simp only[sa,CG]
     rw[fq (Nat.le_refl _)];rfl
    ·intro i ao m
     obtain⟨r,dw,_,di,_⟩:=I7 h hl.2 au ao
     simp only[sa,CG]
     rw[gP ao,gm _ i ao,gA i _ ao (by omega)]
     simp only[cond_true,Option.bind_some,dw,di]
     cases oU e i<;>rfl
  ·intro m
   simp only[oL,CH]
   rw[fq (Nat.le_refl _)];rfl
  ·intro i ao m
   simp only[oL,CH]
   rw[gP ao,gm _ i ao]
   simp only[cond_true,Option.bind_some,IY,lv]
   rw[uZ (l:=fun ix j=>tL (oL e m) e ix (i:Int) j) (n:=i) (fun j=> !(ku e j==ku e i)) (oL e m ((i+1:Nat):Int)) (some false)]
   ·have aS:ku e i=e[i].Name:=by unfold ku;rw[rp ao]
    rw[←aS,rp ao]
    show cond (!kP (ku e i)) _ (cond (!rn e[i]) _ (cond (pN e i) _ _))=_
    cases kP (ku e i)<;>cases rn e[i]<;>cases pN e i<;>rfl
   ·intro ix
    simp only[tL,CF]
    rw[fq (Nat.le_refl _),gA i _ ao (by omega)];rfl
   ·intro j b_ ix
    have EO:j<e.length:=by omega
    simp only[tL,CF]
    rw[gP b_,gm _ j EO,gm _ i ao,gA j _ b_ (by omega)]
    simp only[cond_true,Option.bind_some,ku,rp ao,rp EO]
    cases e[j].Name==e[i].Name<;>rfl
 ·have d1:(((e.length:Int)==0)||decide ((4:Int)<(e.length:Int)))=true:=by
   by_cases bf:e.length=0
   ·simp[bf]
   ·have:decide ((4:Int)<(e.length:Int))=true:=decide_eq_true (by omega)
    rw[this,Bool.or_true]
  have d2:(decide (1≤e.length)&&decide (e.length≤4))=false:=by
   rw[Bool.and_eq_false_iff,decide_eq_false_iff_not,decide_eq_false_iff_not];omega
  rw[d1,d2];rfl
theorem aCt (e:List bj) (i:Nat) (ao:i<e.length) (a8:e.length≤4):((lA e 0 (i:Int)).bind fun bh=>(C5 bh e[i].Name).bind fun bM=>some (decide (0≤bM)))=some (!(pN e i)):=by
 rw[Qm e i (by omega)]
 simp only[Option.bind_some]
 unfold C5 Hy
 have hlen:(e.take i).length=i:=by rw[List.length_take];omega
 rw[uR (n:=i) (fun j=>ku e j==ku e i)]
 ·simp only[Option.bind_some,uQ];rfl
 ·intro m
  simp only[wG,C4]
  rw[hlen,fq (Nat.le_refl _)];rfl
 ·intro j b_ m
  have EO:j<e.length:=by omega
  simp only[wG,C4]
  rw[hlen,gP b_,gm _ j (by omega),gA j _ b_ (by omega)]
  have:(e.take i)[j]'(by omega)=e[j]:=by simp
  simp only[cond_true,Option.bind_some,Hx,this,ku,rp ao,rp EO]
theorem aCu (e:List bj) (h:pM e):Dg e=some (lX e):=by
 unfold Dg jX lX
 have nD:decide ((1:Int)≤(e.length:Int))=decide (1≤e.length):=decide_eq_decide.2 (by omega)
 have mW:decide ((e.length:Int)≤4)=decide (e.length≤4):=decide_eq_decide.2 (by omega)
 simp only[Option.bind_some]
 rw[nD,mW]
 cases hl:(decide (1≤e.length)&&decide (e.length≤4))
 ·rfl
 ·have Q7:1≤e.length∧e.length≤4:=by simpa using hl
  rw[aCq e h.1]
  simp only[Bool.not_true,cond_false,Option.bind_some,Bool.true_and]
  have aCv:fP (fun i=>(kP (ku e i)&&rn (e.getD i ⟨[],0,[]⟩))&&pN e i) e.length=((fP (fun i=>kP (ku e i)) e.length&&xo e)&&fP (pN e) e.length):=by
   rw[rq,rq];rfl
  rw[aCv]
  cases au:xo e
  ·simp
  ·simp only[Bool.not_true,cond_false,Bool.and_true]
   rw[uZ (l:=fun m i=>tX e m i) (n:=e.length) (fun i=>(kP (ku e i)&&pN e i)&&oU e i) (some true) (some false)]
   ·rw[rq,rq]
    cases((fP (fun i=>kP (ku e i)) e.length&&fP (fun i=>pN e i) e.length)&&fP (fun i=>oU e i) e.length)<;>rfl
   ·intro m
    simp only[tX,Df]
    rw[fq (Nat.le_refl _)];rfl
   ·intro i ao m
    obtain⟨r,_,bg,_,cd,_⟩:=I7 h Q7.2 au ao
    have a6:=aCt e i ao Q7.2
    have aFL:=(h.2 _ (List.getElem_mem ao)).1
    simp only[tX,Df]
    rw[gP ao,gm _ i ao,gA i _ ao (by omega)]
    simp only[cond_true,Option.bind_some,QK _ (show e[i].Name.length≤140737488355328 by omega),ku,rp ao]
    cases kP e[i].Name
    ·rfl
    ·simp only[Bool.not_true,cond_false,Bool.true_and]
     rw[Qm e i (by omega)]at a6⊢
     simp only[Option.bind_some]at a6⊢
     obtain⟨v,aM,EN⟩:=aE a6
     rw[aM]
     simp only[Option.some.injEq]at EN
     simp only[Option.bind_some,EN,bg,cd]
     cases pN e i<;>cases oU e i<;>rfl
theorem aCw {e:List bj} (h:pM e) (aM:lX e=true):1≤e.length∧e.length≤4∧∀i (ao:i<e.length),(0≤e[i].dt∧e[i].dt≤3)∧rm e[i].Body=true∧kP e[i].Name=true∧
  ∃r,tK e e[i]=some r∧r.2=0:=by
 unfold lX at aM
 rw[Bool.and_eq_true,Bool.and_eq_true,Bool.and_eq_true,decide_eq_true_eq,decide_eq_true_eq,rq,rq,Bool.and_eq_true,Bool.and_eq_true]at aM
 obtain⟨⟨⟨h1,ah⟩,⟨aC,a8⟩,bK⟩,cU⟩:=aM
 refine⟨h1,ah,fun i ao=> ?_⟩
 obtain⟨r,dw,_,_,_,cS⟩:=I7 h ah a8 ao
 obtain⟨s1,s2⟩:=cS (sx.1 cU i ao)
 have a6:=sx.1 aC i ao
 rw[ku,rp ao]at a6
 exact⟨Q6 a8 i ao,s1,a6,r,dw,s2⟩
end Go.eN
