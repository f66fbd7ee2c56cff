/- Part of a proof that a law returns true for every input. No condition. -/
import Derived.Test.YtlkabaochkgkdaaGreatDoorUD3
namespace Go.eU
open Go Go.c_
theorem aF8 {l:Nat->Int->Option Int} {n:Nat} (p:Nat->Bool) (qt bad:Int) (ba:∀m,l (m+1) (n:Int)=some qt)
  (ae:∀i,i<n->∀m,l (m+1) (i:Int)=cond (p i) (l m ((i+1:Nat):Int)) (some bad)):cB (λm=>l m 0)=some (cond (gn p n) qt bad):=by
 rw[sa (n:=n) (λi=>some (cond ((List.range' i (n-i)).all p) qt bad))]
 .simp[gn,List.range_eq_range']
 .intro m;rw[ba];simp
 .intro i an m ih;rw[ae i an,ih,show n-i=(n-(i+1))+1 by omega,List.range'_succ];cases au:p i<;>simp[au]
def BL (p:bH):Prop:=p.Name.length<=1048576/\p.cN.length<=1048576/\∀e∈p.cN,e.length<=1048576
def sn (p:bH) (dT:Int):Bool:=gn (λi=>vX (p.cN.getD i []) dT 15) p.cN.length
theorem aF9 (p:bH) (au:BL p) (dT:Int) (h:0<=dT/\dT<=29):cB (λn=>td p n dT 0)=some (cond (sn p dT) 0 8):=by
 refine aF8 (l:=λm i=>td p m dT i) _ _ _ (λm=>?_) (λi an m=>?_)
 .simp only[td,DE];rw[fh (Nat.le_refl _)];rfl
 .simp only[td,DE];rw[fX an,nB _ i [] an,fO i _ an (by have:=au.2.1;omega)];simp only[cond_true,Option.bind_some];rw[aFM _ dT 15 (by omega) (by
   have:p.cN.getD i []=p.cN[i]:=by simp[List.getD,an]
   rw[this];exact au.2.2 _ (List.getElem_mem an))]
  simp only[Option.bind_some];cases vX (p.cN.getD i []) dT 15<;>rfl
theorem aF_ (p:bH) (au:BL p) (pl:cL) (h:0<=pl.scope/\pl.scope<=29):Ek p.cN pl=some (!(sn p pl.scope)):=by
 unfold Ek Jr;rw[tB (n:=p.cN.length) (λi=> !vX (p.cN.getD i []) pl.scope 15)]
 .simp only[Option.bind_some,tA,Bool.not_not];rfl
 .intro m;simp only[xN,Ej];rw[fh (Nat.le_refl _)];rfl
 .intro i an m;simp only[xN,Ej];rw[fX an,nB _ i [] an,fO i _ an (by have:=au.2.1;omega)];simp only[cond_true,Option.bind_some,Jq];rw[aFN _ pl.scope 15 h (by omega) (by
   have:p.cN.getD i []=p.cN[i]:=by simp[List.getD,an]
   rw[this];exact au.2.2 _ (List.getElem_mem an))]
  simp only[Option.bind_some]
theorem Tl (s:List UInt8) (ae:s.length<=1048576):po s=some (kG s&& !(s==([116,97,117]:List UInt8))):=by
 unfold po;rw[KK s (by omega)];rfl
theorem aGa {s:List UInt8} (h:(s==([116,97,117]:List UInt8))=true):kG s=true:=by
 have:s=[116,97,117]:=by simpa using h
 subst this;decide
theorem K3 (n:Int) (l:Nat) (hl:l<=1048576):uX n (l:Int)=some (decide (0<=n)&&decide (n<=(l:Int)-1)):=by
 unfold uX jj;rw[eC ((l:Int)-1) (by omega)];rfl
theorem aGb (list:List bs) (hl:list.length<=4) (d:bs) (at_:Nat) (aGc:at_<d.Body.length) (ad:d.Body.length<=20) (au:BL d.Body[at_]) (pl:cL)
  (oO:xD d (at_:Int)=some pl.scope) (Tm:0<=pl.scope/\pl.scope<=29)
  (tH:pl.behind=K2 d.Body at_):
  ∃r,Aj list d (at_:Int)=some r/\Ay d.Body[at_] list pl=some r/\0<=r:=by
 have aGd:∀p,BL p->p=d.Body[at_]->∃r,Aj list d (at_:Int)=some r/\Ay p list pl=some r/\0<=r:=by
  intro p au G2;have IX:=aF9 p au pl.scope Tm;have CC:=aF_ p au pl Tm;have K4:=Tl p.Name au.1;have aGe:=BB p.Name;have aGf:uM d (at_:Int) p=some (cond ((p.Kind==5)&& !pl.behind) 6 (cond ((p.Kind==4)&&decide (6<=pl.scope)) 7 (cond (sn p pl.scope) 0 8))):=by
   have aGg:∀v,xE d (at_:Int) p v=some (cond v 6 (cond ((p.Kind==4)&&decide (6<=pl.scope)) 7 (cond (sn p pl.scope) 0 8))):=by
    intro v;unfold xE;rw[oO];simp only[Option.bind_some,IX];cases v<;>cases(p.Kind==4&&decide (6<=pl.scope))<;>rfl
   unfold uM;simp only[aGg];cases at_ with
   |zero=>
    replace tH:pl.behind=false:=tH;rw[tH];simp only[Bool.not_false,Bool.and_true];cases p.Kind==5<;>rfl
   |succ q=>
    have cU:q<d.Body.length:=by omega
    have gx:(((q+1:Nat):Int)==0)=false:=by rw[beq_eq_false_iff_ne];omega
    rw[gx,Bz (q+1) (by omega) (by omega),show q+1-1=q from rfl,gN _ q cU];replace tH:pl.behind=(match d.Body[q]? with|some p=>p.Kind==1|none=>false):=tH;rw[List.getElem?_eq_getElem cU]at tH;simp only[cond_false,Option.bind_some];simp only at tH;rw[tH];have dL:(d.Body[q].Kind !=1)= !(d.Body[q].Kind==1):=rfl;rw[dL];cases p.Kind==5<;>cases d.Body[q].Kind==1<;>rfl
  have qO:bF d.Body (at_:Int)=some p:=by rw[gN _ at_ aGc,G2]
  have Gu:((p.cN.length:Int)==0)=true->sn p pl.scope=true:=by
   intro h;have:p.cN.length=0:=by simpa using h
   unfold sn;rw[this];rfl
  unfold Aj Ay Jn Jd Dx;rw[qO];simp only[DF,uN,Aw,uZ,Option.bind_some,aGf,CC,K4,aGe,jj,kS,K3 _ _ (show list.length<=1048576 by omega),Jo];rw[eC ((list.length:Int)-1) (by omega)];obtain⟨K,N,Nm,kb⟩:=p;simp only at*;by_cases ba:K=0
  .subst ba;simp only[Int.reduceBEq,Int.reduceLE,decide_true,decide_false,Bool.false_and,Bool.true_and,Bool.and_true,Bool.false_or,Bool.or_false,cond_true,cond_false,Bool.and_self,Option.bind_some];cases N==0
   .exact⟨2,rfl,rfl,by decide⟩
   .cases Nm==[]
    .exact⟨2,rfl,rfl,by decide⟩
    .cases cf:((kb.length:Int)==0)
     .exact⟨2,rfl,rfl,by decide⟩
     .simp only[Bool.and_true,Bool.not_true,Bool.not_false,cond_true,cond_false,Gu cf];exact⟨0,rfl,rfl,by decide⟩
  .by_cases ag:K=1
   .subst ag;simp only[Int.reduceBEq,Int.reduceLE,decide_true,decide_false,Bool.false_and,Bool.true_and,Bool.and_true,Bool.false_or,Bool.or_false,Bool.true_or,cond_true,cond_false,Bool.and_self,Option.bind_some];cases N==0
    .exact⟨2,rfl,rfl,by decide⟩
    .simp only[Bool.not_true,cond_false];cases bj:(Nm==([116,97,117]:List UInt8))
     .simp only[Bool.not_false,Bool.and_true,cond_true];cases kG Nm
      .exact⟨3,rfl,rfl,by decide⟩
      .simp only[Bool.not_true,cond_false,Bool.and_false,Bool.or_false,Bool.true_and];by_cases a7:kb.length<=2
       .have aX:decide ((2:Int)<(kb.length:Int))=false:=decide_eq_false (by omega);have a6:decide ((kb.length:Int)<=2)=true:=decide_eq_true (by omega);rw[aX,a6,Bool.or_true];cases sn ⟨1,N,Nm,kb⟩ pl.scope
        .exact⟨8,rfl,rfl,by decide⟩
        .exact⟨0,rfl,rfl,by decide⟩
       .have aX:decide ((2:Int)<(kb.length:Int))=true:=decide_eq_true (by omega);have a6:decide ((kb.length:Int)<=2)=false:=decide_eq_false (by omega);have aQ:((kb.length:Int)==0)=false:=by rw[beq_eq_false_iff_ne];omega
        rw[aX,a6,aQ];exact⟨5,rfl,rfl,by decide⟩
     .rw[aGa bj];simp only[Bool.not_true,cond_false,Bool.and_true,Bool.false_and,Bool.or_false];by_cases a7:kb.length=0
      .have aX:decide ((2:Int)<(kb.length:Int))=false:=decide_eq_false (by omega);have a6:decide ((0:Int)<(kb.length:Int))=false:=decide_eq_false (by omega);have aQ:((kb.length:Int)==0)=true:=by rw[a7];rfl
       rw[aX,a6,Gu aQ,aQ];exact⟨0,rfl,rfl,by decide⟩
      .have a6:decide ((0:Int)<(kb.length:Int))=true:=decide_eq_true (by omega);have aQ:((kb.length:Int)==0)=false:=by rw[beq_eq_false_iff_ne];omega
       rw[a6,aQ,Bool.or_true];exact⟨5,rfl,rfl,by decide⟩
   .by_cases ah:K=2
    .subst ah;simp only[Int.reduceBEq,Int.reduceLE,decide_true,decide_false,Bool.false_and,Bool.true_and,Bool.and_true,Bool.false_or,Bool.or_false,cond_true,cond_false,Bool.and_self,Option.bind_some];cases N==0
     .exact⟨2,rfl,rfl,by decide⟩
     .cases Nm==[]
      .exact⟨2,rfl,rfl,by decide⟩
      .cases cf:((kb.length:Int)==0)
       .exact⟨2,rfl,rfl,by decide⟩
       .simp only[Bool.and_true,Bool.not_true,Bool.not_false,cond_true,cond_false,Gu cf];exact⟨0,rfl,rfl,by decide⟩
    .by_cases aN:K=3
     .subst aN;simp only[Int.reduceBEq,Int.reduceLE,decide_true,decide_false,Bool.false_and,Bool.true_and,Bool.and_true,Bool.false_or,Bool.or_false,Bool.true_or,Bool.or_true,cond_true,cond_false,Bool.and_self,Option.bind_some];cases N==0
      .exact⟨2,rfl,rfl,by decide⟩
      .cases Nm==[]
       .exact⟨2,rfl,rfl,by decide⟩
       .have dL:((kb.length:Int) !=1)= !((kb.length:Int)==1):=rfl;rw[dL];cases((kb.length:Int)==1)
        .exact⟨5,rfl,rfl,by decide⟩
        .cases sn ⟨3,N,Nm,kb⟩ pl.scope
         .exact⟨8,rfl,rfl,by decide⟩
         .exact⟨0,rfl,rfl,by decide⟩
     .by_cases bg:K=4
      .subst bg;simp only[Int.reduceBEq,Int.reduceLE,decide_true,decide_false,Bool.false_and,Bool.true_and,Bool.and_true,Bool.false_or,Bool.or_false,Bool.true_or,Bool.or_true,cond_true,cond_false,Bool.and_self,Option.bind_some];cases Nm==[]
       .exact⟨2,rfl,rfl,by decide⟩
       .cases cf:((kb.length:Int)==0)
        .exact⟨2,rfl,rfl,by decide⟩
        .rw[Gu cf];cases(decide (1<=N)&&decide (N<=7))
         .exact⟨4,rfl,rfl,by decide⟩
         .cases decide (6<=pl.scope)
          .exact⟨0,rfl,rfl,by decide⟩
          .exact⟨7,rfl,rfl,by decide⟩
      .by_cases bR:K=5
       .subst bR;simp only[Int.reduceBEq,Int.reduceLE,decide_true,decide_false,Bool.false_and,Bool.true_and,Bool.and_true,Bool.false_or,Bool.or_false,Bool.true_or,Bool.or_true,cond_true,cond_false,Bool.and_self,Option.bind_some];cases Nm==[]
        .exact⟨2,rfl,rfl,by decide⟩
        .cases an:(decide (0<=N)&&decide (N<=(list.length:Int)-1))
         .exact⟨4,rfl,rfl,by decide⟩
         .simp only[Bool.and_eq_true,decide_eq_true_eq]at an;obtain⟨i,rfl⟩:∃i:Nat,N=i:=⟨N.toNat,by omega⟩
          rw[gN list i (by omega)];simp only[Option.bind_some,Bool.not_true,cond_false];have dL:((kb.length:Int) !=list[i].dE)= !((kb.length:Int)==list[i].dE):=rfl;rw[dL];cases((kb.length:Int)==list[i].dE)
          .exact⟨5,rfl,rfl,by decide⟩
          .cases pl.behind
           .exact⟨6,rfl,rfl,by decide⟩
           .cases sn ⟨5,i,Nm,kb⟩ pl.scope
            .exact⟨8,rfl,rfl,by decide⟩
            .exact⟨0,rfl,rfl,by decide⟩
       .have gx:(K==0)=false:=by simpa using ba
        have aX:(K==1)=false:=by simpa using ag
        have a6:(K==2)=false:=by simpa using ah
        have aQ:(K==3)=false:=by simpa using aN
        have cC:(K==4)=false:=by simpa using bg
        have cF:(K==5)=false:=by simpa using bR
        have cc:(decide (0<=K)&&decide (K<=5))=false:=by
         rw[Bool.and_eq_false_iff,decide_eq_false_iff_not,decide_eq_false_iff_not];omega
        simp only[gx,aX,a6,aQ,cC,cF,cc,Bool.false_and,cond_false,Option.bind_some];exact⟨2,rfl,rfl,by decide⟩
 exact aGd _ au rfl
end Go.eU
