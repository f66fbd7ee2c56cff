/- Part of a proof that a law returns true for every input. No condition. -/
import Derived.Test.YtocllehpepigpaaGreatUD4
namespace Go.eN
open Go Go.cZ
theorem uZ {β:Type} {l:Nat→Int→Option β} {n:Nat} (p:Nat→Bool) (pL bad:Option β) (bf:∀m,l (m+1) (n:Int)=pL)
  (ag:∀i,i<n→∀m,l (m+1) (i:Int)=cond (p i) (l m ((i+1:Nat):Int)) bad):lim (fun m=>l m 0)=cond (fP p n) pL bad:=by
 rw[ra (n:=n) (fun i=>cond ((List.range' i (n-i)).all p) pL bad)]
 ·simp[fP,List.range_eq_range']
 ·intro m;rw[bf];simp
 ·intro i ao m ih
  rw[ag i ao,ih,show n-i=(n-(i+1))+1 by omega,List.range'_succ]
  cases au:p i<;>simp[au]
def Q4 (d:bj):Prop:=d.Name.length≤1048576∧d.Body.length≤1048576∧∀p∈d.Body,AJ p
def rm (b:List bJ):Bool:=(decide (1≤b.length)&&decide (b.length≤20))&&sB b 1
theorem I6 {b:List bJ} (h:rm b=true):e6 b 1=some b.length∧1≤b.length∧b.length≤20:=by
 simp only[rm,IZ,Bool.and_eq_true,decide_eq_true_eq,beq_iff_eq]at h
 exact⟨h.2,h.1.1,h.1.2⟩
def oT (d:bj) (i:Nat):cM:=(hi d.Body [⟨d.dt,false⟩]).getD i ⟨0,false⟩
theorem Q5 (d:bj) (h:rm d.Body=true) (au:0≤d.dt∧d.dt≤3) (i:Nat) (ao:i<d.Body.length):
  r8 d (i:Int)=some (oT d i).scope∧0≤(oT d i).scope∧(oT d i).scope≤29∧
   (oT d i).behind=I4 d.Body i∧
   (hi d.Body [⟨d.dt,false⟩])[i]? =some (oT d i):=by
 obtain⟨h1,ah,aC⟩:=I6 h
 obtain⟨s,pl,aS,aZ,aQ⟩:=Q0 d.Body [⟨d.dt,false⟩] d.Body.length h1 i ao
 have ag:s=⟨d.dt,false⟩:=by
  simp only[sC,h1]at aS
  rw[if_pos ao]at aS
  exact(Option.some.inj aS).symm
 subst ag
 have gq:oT d i=pl:=by unfold oT;rw[List.getD_eq_getElem?_getD,aZ];rfl
 have aq:=QW d.Body i
 simp only at aQ
 refine⟨?_,?_,?_,?_,?_⟩
 ·rw[aB_ d (by omega) h1 (by omega) i ao,gq,aQ]
 ·rw[gq,aQ];omega
 ·rw[gq,aQ];omega
 ·rw[gq]
  exact aCe d.Body ⟨d.dt,false⟩ rfl i pl aZ
 ·rw[gq];exact aZ
theorem aCp (list:List bj) (hl:list.length≤4) (d:bj) (aj:Q4 d) (au:0≤d.dt∧d.dt≤3):
  ∃r,tK list d=some r∧zx list d=some r∧0≤r.2∧(r.2=0→rm d.Body=true):=by
 unfold tK zx jX
 rw[aBX _ aj.2.1]
 have xn:=aBY d aj.2.1 0 (Nat.zero_le _)
 rw[show((0:Nat):Int)=0 from rfl,List.drop_zero]at xn
 simp only[Option.bind_some]
 have nD:decide ((1:Int)≤(d.Body.length:Int))=decide (1≤d.Body.length):=decide_eq_decide.2 (by omega)
 have mW:decide ((d.Body.length:Int)≤20)=decide (d.Body.length≤20):=decide_eq_decide.2 (by omega)
 rw[nD,mW]
 show∃r,cond (!rm d.Body) _ _=_∧_
 cases ag:rm d.Body
 ·refine⟨(0,1),rfl,?_,by decide,fun h=>by cases h⟩
  cases aq:(decide (1≤d.Body.length)&&decide (d.Body.length≤20))
  ·rfl
  ·rw[xn]
   have hw:sB d.Body 1=false:=by
    unfold rm at ag;rw[aq,Bool.true_and]at ag;exact ag
   have:(qy 0 (e6 d.Body 1) !=(d.Body.length:Int))=true:=by
    rw[IZ]at hw
    cases he:e6 d.Body 1 with
    |none=>simp only[qy,bne_iff_ne];omega
    |some n=>
     rw[he]at hw
     have df:n≠d.Body.length:=fun e=>by simp[e]at hw
     simp only[qy,bne_iff_ne];omega
   simp only[Bool.not_true,cond_false,Option.bind_some,this,cond_true]
 ·obtain⟨h1,ah,aC⟩:=I6 ag
  have aq:(decide (1≤d.Body.length)&&decide (d.Body.length≤20))=true:=by simp;omega
  have df:(qy 0 (some d.Body.length) !=(d.Body.length:Int))=false:=by simp[qy]
  rw[aq,xn,h1]
  simp only[Bool.not_true,cond_false,Option.bind_some,df]
  rw[QV d aj.2.1 h1 au.1 (by omega)]
  simp only[Option.bind_some]
  have key:∀i,i≤d.Body.length→∃r:Int×Int,(∀m,d.Body.length-i<m→r_ list d m (i:Int)=some r)∧
    (∀m,d.Body.length-i<m→sd list d (hi d.Body [⟨d.dt,false⟩]) m (i:Int)=some r)∧0≤r.2:=by
   refine down d.Body.length ⟨(0,0),fun m hm=> ?_,fun m hm=> ?_,by decide⟩ ?_
   ·obtain⟨m,rfl⟩:∃j,m=j+1:=⟨m-1,by omega⟩
    simp only[r_,zf]
    rw[fq (Nat.le_refl _)];rfl
   ·obtain⟨m,rfl⟩:∃j,m=j+1:=⟨m-1,by omega⟩
    simp only[sd,zw]
    rw[fq (Nat.le_refl _)];rfl
   ·rintro i ao ⟨r,dw,bg,di⟩
    obtain⟨hd,gF,h7,iy,oe⟩:=Q5 d ag au i ao
    obtain⟨v,v1,v2,v3⟩:=aCj list hl d i ao aC (aj.2.2 _ (List.getElem_mem ao)) (oT d i) hd ⟨gF,h7⟩ iy
    have b9:bF (hi d.Body [⟨d.dt,false⟩]) (i:Int)=some (oT d i):=by
     unfold bF;rw[if_pos (by omega)];exact oe
    by_cases aM:v=0
    ·subst aM
     refine⟨r,fun m hm=> ?_,fun m hm=> ?_,di⟩
     ·obtain⟨m,rfl⟩:∃j,m=j+1:=⟨m-1,by omega⟩
      simp only[r_,zf]
      rw[gP ao,v1,gA i _ ao (by omega),←dw m (by omega)];rfl
     ·obtain⟨m,rfl⟩:∃j,m=j+1:=⟨m-1,by omega⟩
      simp only[sd,zw]
      rw[gP ao,gm _ i ao,b9]
      simp only[cond_true,Option.bind_some,v2]
      rw[gA i _ ao (by omega),←bg m (by omega)];rfl
    ·have yD:decide (0<v)=true:=decide_eq_true (by omega)
     have EN:(v !=0)=true:=by simpa using aM
     refine⟨((i:Int),v),fun m hm=> ?_,fun m hm=> ?_,v3⟩
     ·obtain⟨m,rfl⟩:∃j,m=j+1:=⟨m-1,by omega⟩
      simp only[r_,zf]
      rw[gP ao,v1]
      simp only[cond_true,Option.bind_some,yD]
     ·obtain⟨m,rfl⟩:∃j,m=j+1:=⟨m-1,by omega⟩
      simp only[sd,zw]
      rw[gP ao,gm _ i ao,b9]
      simp only[cond_true,Option.bind_some,v2,EN]
  obtain⟨r,dw,bg,di⟩:=key 0 (Nat.zero_le _)
  refine⟨r,iX (d.Body.length+1) fun m hm=>dw m (by omega),iX (d.Body.length+1) fun m hm=>bg m (by omega),di,fun _=>trivial⟩
def rn (d:bj):Bool:=decide (0≤d.dt)&&decide (d.dt≤3)
def xo (list:List bj):Bool:=fP (fun i=>rn (list.getD i ⟨[],0,[]⟩)) list.length
theorem Q6 {list:List bj} (h:xo list=true) (i:Nat) (ao:i<list.length):0≤list[i].dt∧list[i].dt≤3:=by
 have:=sx.1 h i ao
 have e:list.getD i ⟨[],0,[]⟩=list[i]:=by simp[List.getD,ao]
 rw[e]at this
 simpa [rn]using this
theorem aCq (list:List bj) (hl:list.length≤1048576):C3 list=some (xo list):=by
 unfold C3 Hv Hu
 rw[uR (n:=list.length) (fun i=> !rn (list.getD i ⟨[],0,[]⟩))]
 ·simp only[Option.bind_some,uQ,Bool.not_not];rfl
 ·intro m
  simp only[wF,C2]
  rw[fq (Nat.le_refl _)];rfl
 ·intro i ao m
  simp only[wF,C2]
  rw[gP ao,lW _ i ⟨[],0,[]⟩ ao,gA i _ ao (by omega)]
  simp only[cond_true,Option.bind_some,Ht,jX]
  rfl
def pM (list:List bj):Prop:=list.length≤1048576∧∀d∈list,Q4 d
end Go.eN
