/- Part of a proof that a law returns true for every input. No condition. -/
import Derived.Test.YtlkabaochkgkdaaGreatDoorUD6
namespace Go.eU
open Go Go.c_
def lB (e:List bs) (i:Nat):List UInt8:=(e.getD i ⟨[],0,[]⟩).Name
theorem tJ {e:List bs} {i:Nat} (an:i<e.length):e.getD i ⟨[],0,[]⟩=e[i]:=by simp[List.getD,an]
def qu (e:List bs) (i:Nat):Bool:=gn (λj=> !(lB e j==lB e i)) i
noncomputable def pE (e:List bs) (i:Nat):Bool:=match xF e (e.getD i ⟨[],0,[]⟩)with
 |some r=>r.2==0
 |none=>false
noncomputable def v7 (e:List bs):Bool:=((decide (1<=e.length)&&decide (e.length<=4))&&gn (λi=>(kG (lB e i)&&sq (e.getD i ⟨[],0,[]⟩))&&qu e i) e.length)&&gn (pE e) e.length
theorem Tp {e:List bs} (h:BM e) (bg:e.length<=4) (au:yw e=true) {i:Nat} (an:i<e.length):
  ∃r,xF e e[i]=some r/\AA e e[i]=some r/\decide (0<r.2)= !(pE e i)/\(r.2 !=0)= !(pE e i)/\(pE e i=true->tI e[i].Body=true/\r.2=0):=by
 obtain⟨r,ei,bp,dk,b5⟩:=aGi e bg e[i] (h.2 _ (List.getElem_mem an)) (aGj au i an);have ad:pE e i=(r.2==0):=by unfold pE;rw[tJ an,ei]
 refine⟨r,ei,bp,?_,?_,λgF=>?_⟩
 .rw[ad];by_cases ba:r.2=0
  .rw[ba];rfl
  .have aX:(r.2==0)=false:=by simpa using ba
   rw[aX];exact decide_eq_true (by omega)
 .rw[ad];rfl
 .rw[ad]at gF;have ba:r.2=0:=by simpa using gF
  exact⟨b5 ba,ba⟩
theorem v8 {p q:Nat->Bool} {n:Nat}:gn (λi=>p i&&q i) n=(gn p n&&gn q n):=by
 rw[Bool.eq_iff_iff,Bool.and_eq_true,tz,tz,tz];constructor
 .intro h;exact⟨λi an=>((Bool.and_eq_true _ _).mp (h i an)).1,λi an=>((Bool.and_eq_true _ _).mp (h i an)).2⟩
 .rintro⟨ag,ah⟩ i an;rw[ag i an,ah i an];rfl
theorem aGm (e:List bs) (h:BM e):DJ e=some (v7 e):=by
 unfold DJ v7;by_cases hl:1<=e.length/\e.length<=4
 .have d1:(((e.length:Int)==0)||decide ((4:Int)<(e.length:Int)))=false:=by
   rw[Bool.or_eq_false_iff,beq_eq_false_iff_ne,decide_eq_false_iff_not];omega
  have d2:(decide (1<=e.length)&&decide (e.length<=4))=true:=by simp;omega
  rw[d1,d2,cond_false,Bool.true_and];rw[vZ (l:=λm i=>pj e m i) (n:=e.length) (λi=>(kG (lB e i)&&sq (e.getD i ⟨[],0,[]⟩))&&qu e i) (cB λn=>tf e n 0) (some false)]
  .cases cf:gn (λi=>(kG (lB e i)&&sq (e.getD i ⟨[],0,[]⟩))&&qu e i) e.length
   .rfl
   .have au:yw e=true:=by
     rw[v8,v8,Bool.and_eq_true,Bool.and_eq_true]at cf;exact cf.1.2
    rw[cond_true,Bool.true_and];rw[vZ (l:=λm i=>tf e m i) (n:=e.length) (pE e) (some true) (some false)]
    .cases gn (pE e) e.length<;>rfl
    .intro m;simp only[tf,DH];rw[fh (Nat.le_refl _)];rfl
    .intro i an m;obtain⟨r,ei,_,dk,_⟩:=Tp h hl.2 au an;simp only[tf,DH];rw[fX an,gN _ i an,fO i _ an (by omega)];simp only[cond_true,Option.bind_some,ei,dk];cases pE e i<;>rfl
  .intro m;simp only[pj,DI];rw[fh (Nat.le_refl _)];rfl
  .intro i an m;simp only[pj,DI];rw[fX an,gN _ i an];simp only[cond_true,Option.bind_some,BB,kS];rw[vZ (l:=λiQ j=>uO (pj e m) e iQ (i:Int) j) (n:=i) (λj=> !(lB e j==lB e i)) (pj e m ((i+1:Nat):Int)) (some false)]
   .have aX:lB e i=e[i].Name:=by unfold lB;rw[tJ an]
    rw[<-aX,tJ an];show cond (!kG (lB e i)) _ (cond (!sq e[i]) _ (cond (qu e i) _ _))=_;cases kG (lB e i)<;>cases sq e[i]<;>cases qu e i<;>rfl
   .intro iQ;simp only[uO,DG];rw[fh (Nat.le_refl _),fO i _ an (by omega)];rfl
   .intro j cH iQ;have Gw:j<e.length:=by omega
    simp only[uO,DG];rw[fX cH,gN _ j Gw,gN _ i an,fO j _ cH (by omega)];simp only[cond_true,Option.bind_some,lB,tJ an,tJ Gw];cases e[j].Name==e[i].Name<;>rfl
 .have d1:(((e.length:Int)==0)||decide ((4:Int)<(e.length:Int)))=true:=by
   by_cases ba:e.length=0
   .simp[ba]
   .have:decide ((4:Int)<(e.length:Int))=true:=decide_eq_true (by omega);rw[this,Bool.or_true]
  have d2:(decide (1<=e.length)&&decide (e.length<=4))=false:=by
   rw[Bool.and_eq_false_iff,decide_eq_false_iff_not,decide_eq_false_iff_not];omega
  rw[d1,d2];rfl
theorem aGn (e:List bs) (i:Nat) (an:i<e.length) (bg:e.length<=4):((gB e 0 (i:Int)).bind λbb=>(D_ bb e[i].Name).bind λbO=>some (decide (0<=bO)))=some (!(qu e i)):=by
 rw[tv e i (by omega)];simp only[Option.bind_some];unfold D_ Jl;have hlen:(e.take i).length=i:=by rw[List.length_take];omega
 rw[tB (n:=i) (λj=>lB e j==lB e i)]
 .simp only[Option.bind_some,tA];rfl
 .intro m;simp only[xL,D9];rw[hlen,fh (Nat.le_refl _)];rfl
 .intro j cH m;have Gw:j<e.length:=by omega
  simp only[xL,D9];rw[hlen,fX cH,gN _ j (by omega),fO j _ cH (by omega)];have:(e.take i)[j]'(by omega)=e[j]:=by simp
  simp only[cond_true,Option.bind_some,Jk,this,lB,tJ an,tJ Gw]
theorem aGo (e:List bs) (h:BM e):Em e=some (v7 e):=by
 unfold Em jj v7;have om:decide ((1:Int)<=(e.length:Int))=decide (1<=e.length):=decide_eq_decide.2 (by omega);have nF:decide ((e.length:Int)<=4)=decide (e.length<=4):=decide_eq_decide.2 (by omega);simp only[Option.bind_some];rw[om,nF];cases hl:(decide (1<=e.length)&&decide (e.length<=4))
 .rfl
 .have KN:1<=e.length/\e.length<=4:=by simpa using hl
  rw[aGk e h.1];simp only[Bool.not_true,cond_false,Option.bind_some,Bool.true_and];have aGp:gn (λi=>(kG (lB e i)&&sq (e.getD i ⟨[],0,[]⟩))&&qu e i) e.length=((gn (λi=>kG (lB e i)) e.length&&yw e)&&gn (qu e) e.length):=by
   rw[v8,v8];rfl
  rw[aGp];cases au:yw e
  .simp
  .simp only[Bool.not_true,cond_false,Bool.and_true];rw[vZ (l:=λm i=>u0 e m i) (n:=e.length) (λi=>(kG (lB e i)&&qu e i)&&pE e i) (some true) (some false)]
   .rw[v8,v8];cases((gn (λi=>kG (lB e i)) e.length&&gn (λi=>qu e i) e.length)&&gn (λi=>pE e i) e.length)<;>rfl
   .intro m;simp only[u0,El];rw[fh (Nat.le_refl _)];rfl
   .intro i an m;obtain⟨r,_,bp,_,b5,_⟩:=Tp h KN.2 au an;have a7:=aGn e i an KN.2;have aJa:=(h.2 _ (List.getElem_mem an)).1;simp only[u0,El];rw[fX an,gN _ i an,fO i _ an (by omega)];simp only[cond_true,Option.bind_some,KK _ (show e[i].Name.length<=140737488355328 by omega),lB,tJ an];cases kG e[i].Name
    .rfl
    .simp only[Bool.not_true,cond_false,Bool.true_and];rw[tv e i (by omega)]at a7⊢;simp only[Option.bind_some]at a7⊢;obtain⟨v,aT,Gv⟩:=aD a7;rw[aT];simp only[Option.some.injEq]at Gv;simp only[Option.bind_some,Gv,bp,b5];cases qu e i<;>cases pE e i<;>rfl
end Go.eU
