/- Part of a proof that a law returns true for every input. No condition. -/
import Derived.Test.YtlkabaochkgkdaaGreatDoorUO
import Derived.Test.YtlkabaochkgkdaaGreatDoorUD14
namespace Go.eU
open Go Go.c_
set_option linter.unusedSimpArgs false
def jY (s:List UInt8):Bool:=kG s&& !(s==([116,97,117]:List UInt8))
theorem Tq (s:List UInt8):qV s=some (jY s):=by unfold qV;rw[BB];rfl
theorem Gy (s:List UInt8) (ae:s.length<=1048576):po s=some (jY s):=Tl s ae
theorem aGs {β:Type} {l:Nat->Int->Option β} {n:Nat} (p:Nat->Bool) (qt bad:Option β) (ba:∀m,l (m+1) (n:Int)=qt)
  (ae:∀i,i<n->∀m,l (m+1) (i:Int)=cond (p i) (l m ((i+1:Nat):Int)) bad) (i0:Nat) (an:i0<=n):cB (λm=>l m (i0:Int))=cond ((List.range' i0 (n-i0)).all p) qt bad:=by
 refine ij (n+1) λm hm=>?_;refine up (λi=>cond ((List.range' i (n-i)).all p) qt bad) (λm=>?_) (λi an m ih=>?_) i0 an m (by omega)
 .rw[ba];simp
 .rw[ae i an,ih,show n-i=(n-(i+1))+1 by omega,List.range'_succ];cases au:p i<;>simp[au]
def ob (a:List (List UInt8)) (i:Nat):Bool:=decide (i=0)||Op.bytesLess (a.getD (i-1) []) (a.getD i [])
def rm (a:List (List UInt8)):Bool:=decide (a.length<=12)&&(gn (λi=>jY (a.getD i [])) a.length&&gn (ob a) a.length)
theorem Tr (a:List (List UInt8)) (h:a.length<=1048576):An a=some (rm a):=by
 unfold An rm;by_cases hl:12<a.length
 .have d1:decide ((12:Int)<(a.length:Int))=true:=decide_eq_true (by omega);have d2:decide (a.length<=12)=false:=decide_eq_false (by omega);rw[d1,d2];rfl
 .have d1:decide ((12:Int)<(a.length:Int))=false:=decide_eq_false (by omega);have d2:decide (a.length<=12)=true:=decide_eq_true (by omega);have K4:DR a=some (gn (λi=>jY (a.getD i [])) a.length):=by
   unfold DR;refine Gl (l:=λm i=>uR a m i) _ (λm=>?_) (λi an m=>?_)
   .simp only[uR,DQ];rw[fh (Nat.le_refl _)];rfl
   .simp only[uR,DQ];rw[fX an,nB _ i [] an,fO i _ an (by omega)];simp only[cond_true,Option.bind_some,Tq];cases jY (a.getD i [])<;>rfl
  rw[d1,d2,K4];simp only[cond_false,Option.bind_some,Bool.true_and];cases gn (λi=>jY (a.getD i [])) a.length
  .rfl
  .simp only[Bool.not_true,cond_false,Bool.true_and];by_cases ba:a.length=0
   .rw[ij (x:=some true) 1 (λm hm=>by
     obtain⟨k,rfl⟩:∃k,m=k+1:=⟨m-1,by omega⟩
     simp only[oE,Am];rw[ba];rfl)]
    rw[ba];rfl
   .have key:=aGs (l:=λm i=>oE a m i) (n:=a.length) (λi=>decide (i=0)||Op.bytesLess (a.getD (i-1) []) (a.getD i [])) (some true) (some false);have cg:oE a=oE a:=rfl;have:∀i,1<=i->i<=a.length->∀m,a.length-i<m->oE a m (i:Int)=cond ((List.range' i (a.length-i)).all (ob a)) (some true) (some false):=by
     intro i ag ah;refine down a.length (P:=λi=>1<=i->∀m,a.length-i<m->oE a m (i:Int)=cond ((List.range' i (a.length-i)).all (ob a)) (some true) (some false)) ?_ ?_ i ah ag
     .intro _ m hm;obtain⟨k,rfl⟩:∃k,m=k+1:=⟨m-1,by omega⟩
      simp only[oE,Am];rw[fh (Nat.le_refl _)];simp
     .intro i an ih ag m hm;obtain⟨k,rfl⟩:∃k,m=k+1:=⟨m-1,by omega⟩
      simp only[oE,Am];rw[fX an,Bz i (by omega) (by omega),nB _ (i-1) [] (by omega),nB _ i [] an,fO i _ an (by omega),ih (by omega) k (by omega),show a.length-i=(a.length-(i+1))+1 by omega,List.range'_succ];have aS:ob a i=Op.bytesLess (a.getD (i-1) []) (a.getD i []):=by
       unfold ob;have:decide (i=0)=false:=decide_eq_false (by omega);rw[this,Bool.false_or]
      simp only[cond_true,Option.bind_some,List.all_cons,aS];cases Op.bytesLess (a.getD (i-1) []) (a.getD i [])<;>rfl
    have K5:=ij (f:=λm=>oE a m 1) (a.length+1) (λm hm=>this 1 (by omega) (by omega) m (by omega));rw[K5];have e:gn (ob a) a.length=(List.range' 1 (a.length-1)).all (ob a):=by
     unfold gn;rw[List.range_eq_range',show a.length=(a.length-1)+1 by omega,List.range'_succ];simp[ob]
    rw[e];cases(List.range' 1 (a.length-1)).all (ob a)<;>rfl
theorem aGt {p q:Nat->Bool} {n:Nat}:(gn p n&&gn q n)=gn (λi=>p i&&q i) n:=v8.symm
theorem Ts (a:List (List UInt8)) (h:a.length<=1048576) (ae:∀s∈a,s.length<=1048576):AE a=some (rm a):=by
 unfold AE rm;rw[aGt];rw[vZ (l:=λm i=>u3 a m i) (n:=a.length) (λi=>jY (a.getD i [])&&ob a i) (some (decide ((a.length:Int)<=12))) (some false)]
 .have e:decide ((a.length:Int)<=12)=decide (a.length<=12):=decide_eq_decide.2 (by omega);rw[e];cases gn (λi=>jY (a.getD i [])&&ob a i) a.length<;>cases decide (a.length<=12)<;>rfl
 .intro m;simp only[u3,EB];rw[fh (Nat.le_refl _)];rfl
 .intro i an m;simp only[u3,EB];have hm:(a.getD i []).length<=1048576:=by
   have:a.getD i []=a[i]:=by simp[List.getD,an]
   rw[this];exact ae _ (List.getElem_mem an)
  rw[fX an,nB _ i [] an,fO i _ an (by omega)];simp only[cond_true,Option.bind_some,Gy _ hm];by_cases ba:i=0
  .subst ba;rw[vR];simp only[cond_false,ob,decide_true,Bool.true_or,Bool.and_true];cases jY (a.getD 0 [])<;>rfl
  .rw[KI ba,Bz i (by omega) (by omega),nB _ (i-1) [] (by omega)];have aS:ob a i=Op.bytesLess (a.getD (i-1) []) (a.getD i []):=by
    unfold ob;have:decide (i=0)=false:=decide_eq_false ba;rw[this,Bool.false_or]
   have bj:=S2 (a.getD (i-1) []) (a.getD i []);simp only[cond_true,Option.bind_some,aS,<-bj];cases jY (a.getD i [])<;>cases Op.bytesLess (a.getD (i-1) []) (a.getD i [])<;>rfl
end Go.eU
