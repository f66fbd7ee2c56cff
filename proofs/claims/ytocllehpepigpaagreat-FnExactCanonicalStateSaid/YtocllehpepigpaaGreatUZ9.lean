/- Part of a proof that a law returns true for every input. No condition. -/
import Derived.Test.YtocllehpepigpaaGreatUZ8
import Derived.Test.YtocllehpepigpaaGreatUY9
import Derived.Test.YtocllehpepigpaaGreatUN
namespace Go.eN
open Go Go.cZ
theorem aDe {α:Type} (f:α→Nat) {l m:List α} (h:l.Perm m):gB f l=gB f m:=by
 induction h with
 |nil=>rfl
 |cons x _ ih=>simp only[gB,ih]
 |swap x y l=>simp only[gB];omega
 |trans _ _ h1 ah=>rw[h1,ah]
theorem aDf {s:ea} (h:(pO s==0)=true):sE s=true:=by
 unfold pO at h
 cases h1:lX s.ew<;>cases ah:sE s<;>simp[h1,ah]at h⊢
theorem aDg (s:ea) (h:u4 s) (q:List aW) (c6:dm jr q≤1048576) (aM:∀p∈q,p.bS.length≤1048576):
  ∃r,C1 s q=some r∧zF s q=some r∧dm jr r.1≤1048576:=by
 have hl:q.length≤1048576:=Nat.le_trans (iN jr _) c6
 have z:dm jr ([]:List aW)≤1048576:=by simp[dm,gB]
 unfold C1 zF HP
 rw[aCS _ h,aCT _ h]
 simp only[Option.bind_some]
 cases bC:(pO s==0)
 ·exact⟨([],1),rfl,rfl,z⟩
 ·have aj:=aCU bC
  rw[aCV s h.1 aj q hl aM,aCW s h.1 aj q hl aM]
  simp only[Option.bind_some,cond_true,Bool.not_true,cond_false,Bool.not_not]
  unfold I9
  cases aDh:((q.length:Int)==(s.c8.length:Int))
  ·exact⟨([],1),rfl,rfl,z⟩
  ·cases cE:fP (fun i=>ru s.ew (qA q i)) q.length
   ·exact⟨([],1),rfl,rfl,z⟩
   ·have aq:=aDf bC
    simp only[sE,Bool.and_eq_true,decide_eq_true_eq]at aq
    have aDi:(q.length:Int)=(s.c8.length:Int):=by simpa using aDh
    have df:q≠[]:=fun e=>by subst e;simp at aDi;omega
    obtain⟨r,dw,bg,di⟩:=aDd q df hl aM
    refine⟨(r,0),?_,?_,?_⟩
    ·simp only[Bool.and_self,Bool.not_true,cond_false,Option.bind_some,dw]
    ·simp only[Option.bind_some,cond_true,Bool.not_true,cond_false,bg]
    ·have:dm jr r=dm jr q:=by simp only[dm,di.length_eq,aDe jr di]
     rw[this];exact c6
theorem aAN (a:k6) (q:List iH) (cE:yO a) (c6:q.length≤9223372036854775807∧∀y∈q,wy y):HT a q=some true:=by
 unfold HT
 obtain⟨r,h1,ah⟩:=aCR a cE
 rw[h1]
 simp only[Option.bind_some]
 cases aX:decide (r<0)
 ·obtain⟨aC,a8,bK,cU,cJ⟩:=ah aX
  have aDj:pK (qw a)≤1048576:=by rw[QA];omega
  rw[aBb q r c6 cJ (by omega)]
  simp only[cond_false,Option.bind_some]
  by_cases ag:((dm n4 q:Nat):Int)≤r
  ·rw[AA ag]
   have e7:decide (r-((dm n4 q:Nat):Int)<0)=false:=decide_eq_false (by omega)
   have p_:dm n4 q≤1048576:=by omega
   have yC:dm jr (q.map ri)≤1048576:=by
    rw[uN];simp only[aBs];exact p_
   have aM:∀p∈q.map ri,p.bS.length≤1048576:=fun p au=>by
    have fw:jr p≤dm jr (q.map ri):=kL au
    have hR:jr p≤1048576:=by omega
    clear fw
    unfold jr at hR;omega
   rw[e7,aC,aBu q p_]
   simp only[cond_false,Option.bind_some]
   generalize qw a=e at a8 bK aDj
   generalize q.map ri=p at yC aM
   obtain⟨x,kW,iP,lJ⟩:=aDg e bK p yC aM
   obtain⟨fu,eT,gV,kE,pC,c,cB,m1⟩:=aBO e 1 (by omega) (by omega)
   obtain⟨cX,d,d1,m2,_⟩:=QG p (1+(c:Int)) (by omega) (by omega)
   obtain⟨cz,g,g1,m4,m5⟩:=QG x.1 1 (by omega) (by omega)
   simp only[kW,iP,Option.bind_some,QC x.1 lJ,QC p yC,a8,m1,m2,m4,m5,Bool.not_true,bne_self_eq_false,Bool.or_self,cond_false,IW (k:=1+(c:Int)+(d:Int)) (by omega),IW (k:=1+(g:Int)) (by omega)]
  ·rw[AB (by omega)];rfl
 ·rfl
end Go.eN
