/- Part of a proof that a law returns true for every input. No condition. -/
import Derived.Test.YtlkabaochkgkdaaGreatDoorUY1
namespace Go.eU
open Go Go.c_
def k3 (cs:List dr) (i:Nat):dr:=cs.getD i ⟨0,[]⟩
def v_ (e:List bs) (c:dr):Bool:=
 cond (decide (0<=c.hM)&&decide (c.hM<=(e.length:Int)-1)) (((c.fE.length:Int)==(e.getD c.hM.toNat ⟨[],0,[]⟩).dE)&&Gx c.fE) false
def BN (s:eI):Bool:=(decide (1<=s.bK.length)&&decide (s.bK.length<=3))&&gn (λi=>v_ s.fv (k3 s.bK i)) s.bK.length
theorem Tt {e:List bs} {n:Int} (h:(decide (0<=n)&&decide (n<=(e.length:Int)-1))=true):bF e n=some (e.getD n.toNat ⟨[],0,[]⟩):=by
 simp only[Bool.and_eq_true,decide_eq_true_eq]at h;obtain⟨i,rfl⟩:∃i:Nat,n=i:=⟨n.toNat,by omega⟩
 exact nB e i _ (by omega)
theorem aGu (s:eI) (aj:s.fv.length<=1048576) (aq:s.bK.length<=1048576) (aT:∀c∈s.bK,c.fE.length<=1048576):DN s=some (BN s):=by
 unfold DN BN;by_cases hl:1<=s.bK.length/\s.bK.length<=3
 .have d1:(((s.bK.length:Int)==0)||decide ((3:Int)<(s.bK.length:Int)))=false:=by
   rw[Bool.or_eq_false_iff,beq_eq_false_iff_ne,decide_eq_false_iff_not];omega
  have d2:(decide (1<=s.bK.length)&&decide (s.bK.length<=3))=true:=by simp;omega
  rw[d1,d2,cond_false,Bool.true_and];refine Gl (l:=λm i=>uQ s m i) _ (λm=>?_) (λi an m=>?_)
  .simp only[uQ,DM];rw[fh (Nat.le_refl _)];rfl
  .simp only[uQ,DM,kS];have hm:(k3 s.bK i).fE.length<=1048576:=by
    have:k3 s.bK i=s.bK[i]:=by simp[k3,List.getD,an]
    rw[this];exact aT _ (List.getElem_mem an)
   rw[fX an,nB _ i ⟨0,[]⟩ an,fO i _ an (by omega),eC ((s.fv.length:Int)-1) (by omega)];show cond true (Option.bind (some (k3 s.bK i)) _) _=_;simp only[cond_true,Option.bind_some];unfold v_;cases ay:(decide (0<=(k3 s.bK i).hM)&&decide ((k3 s.bK i).hM<=(s.fv.length:Int)-1))
   .rfl
   .rw[Tt ay];simp only[Bool.not_true,cond_false,cond_true,Option.bind_some,aGq _ hm];have dL:(((k3 s.bK i).fE.length:Int) !=(s.fv.getD (k3 s.bK i).hM.toNat ⟨[],0,[]⟩).dE)= !(((k3 s.bK i).fE.length:Int)==(s.fv.getD (k3 s.bK i).hM.toNat ⟨[],0,[]⟩).dE):=rfl;rw[dL];cases(((k3 s.bK i).fE.length:Int)==(s.fv.getD (k3 s.bK i).hM.toNat ⟨[],0,[]⟩).dE)<;>cases Gx (k3 s.bK i).fE<;>rfl
 .have d1:(((s.bK.length:Int)==0)||decide ((3:Int)<(s.bK.length:Int)))=true:=by
   by_cases ba:s.bK.length=0
   .simp[ba]
   .have:decide ((3:Int)<(s.bK.length:Int))=true:=decide_eq_true (by omega);rw[this,Bool.or_true]
  have d2:(decide (1<=s.bK.length)&&decide (s.bK.length<=3))=false:=by
   rw[Bool.and_eq_false_iff,decide_eq_false_iff_not,decide_eq_false_iff_not];omega
  rw[d1,d2];rfl
theorem aGv (e:List bs) (he:e.length<=1048576) (c:dr) (aq:c.fE.length<=1048576):Er e c=some (v_ e c):=by
 unfold Er v_;rw[K3 _ e.length he];simp only[Option.bind_some];cases ay:(decide (0<=c.hM)&&decide (c.hM<=(e.length:Int)-1))
 .rfl
 .rw[Tt ay];simp only[cond_true,Option.bind_some,aGr _ aq];cases((c.fE.length:Int)==(e.getD c.hM.toNat ⟨[],0,[]⟩).dE)<;>rfl
theorem aGw (s:eI) (aj:s.fv.length<=1048576) (aq:s.bK.length<=1048576) (aT:∀c∈s.bK,c.fE.length<=1048576):
  Et s.bK s=some (!(gn (λi=>v_ s.fv (k3 s.bK i)) s.bK.length)):=by
 unfold Et Jt;rw[tB (n:=s.bK.length) (λi=> !(v_ s.fv (k3 s.bK i)))]
 .simp only[Option.bind_some,tA,Bool.not_not]
 .intro m;simp only[xP,Es];rw[fh (Nat.le_refl _)];rfl
 .intro i an m;simp only[xP,Es];have hm:(k3 s.bK i).fE.length<=1048576:=by
   have:k3 s.bK i=s.bK[i]:=by simp[k3,List.getD,an]
   rw[this];exact aT _ (List.getElem_mem an)
  rw[fX an,nB _ i ⟨0,[]⟩ an,fO i _ an (by omega)];show cond true (Option.bind (some (k3 s.bK i)) _) _=_;simp only[cond_true,Option.bind_some,Js,aGv _ aj _ hm]
def eG (a:List b9) (i:Nat):b9:=a.getD i ⟨[],[],[]⟩
def wa (p m:b9):Bool:=Op.bytesLess p.Left m.Left||(p.Left==m.Left&&Op.bytesLess p.ch m.ch)
def wb (a:List b9) (m:b9):Bool:=gn (λj=> !((eG a j).Left==m.Result||(eG a j).ch==m.Result)) a.length
def BO (a:List b9) (i:Nat):Bool:=
 ((((jY (eG a i).Left&&jY (eG a i).ch)&&jY (eG a i).Result)&&(Op.bytesLess (eG a i).Left (eG a i).ch||(eG a i).Left==(eG a i).ch))&&(decide (i=0)||wa (eG a (i-1)) (eG a i)))&&wb a (eG a i)
def wc (a:List b9):Bool:=decide (a.length<=6)&&gn (BO a) a.length
def Gz (a:List b9):Prop:=a.length<=1048576/\∀m∈a,m.Left.length<=1048576/\m.ch.length<=1048576/\m.Result.length<=1048576
theorem aGx (p m:b9):((!(Op.bytesLess p.Left m.Left||p.Left==m.Left))||((p.Left==m.Left)&&(!(Op.bytesLess p.ch m.ch))))= !(wa p m):=by
 unfold wa;cases he:p.Left==m.Left
 .cases Op.bytesLess p.Left m.Left<;>rfl
 .have:p.Left=m.Left:=by simpa using he
  rw[this,aFH];cases Op.bytesLess p.ch m.ch<;>rfl
def sr (a b:List UInt8):Int:=cond (Op.bytesLess a b) (-1) (cond (!(Op.bytesLess a b||a==b)) 1 0)
theorem aGy (a b:List UInt8):Ev a b=some (sr a b):=by
 unfold Ev Eu sr;simp only[Option.bind_some,cond_false];cases Op.bytesLess a b<;>cases a==b<;>rfl
theorem aGz (p m:b9):∃v,Ex p m=some v/\decide (0<=v)= !(wa p m):=by
 have K5:Ew [p.Left,p.ch] [m.Left,m.ch]=some (cond (sr p.Left m.Left !=0) (sr p.Left m.Left) (cond (sr p.ch m.ch !=0) (sr p.ch m.ch) 0)):=by
  unfold Ew;refine ij 3 λn a7=>?_;obtain⟨n,rfl⟩:∃k,n=k+3:=⟨n-3,by omega⟩
  have gx:bF [p.Left,p.ch] 0=some p.Left:=rfl;have aX:bF [m.Left,m.ch] 0=some m.Left:=rfl;have a6:bF [p.Left,p.ch] 1=some p.ch:=rfl;have aQ:bF [m.Left,m.ch] 1=some m.ch:=rfl;have fU:IntKind.i64.wrap (0+1)=1:=by decide
  have hA:IntKind.i64.wrap (1+1)=2:=by decide
  simp only[AB,Ju,List.length_cons,List.length_nil,gx,aX,a6,aQ,fU,hA,Option.bind_some,aGy];cases sr p.Left m.Left !=0
  .cases sr p.ch m.ch !=0<;>rfl
  .rfl
 unfold Ex;rw[K5];refine⟨_,rfl,?_⟩;unfold wa sr;cases hl:Op.bytesLess p.Left m.Left
 .cases he:p.Left==m.Left
  .rfl
  .cases aS:Op.bytesLess p.ch m.ch
   .cases p.ch==m.ch<;>rfl
   .rfl
 .rfl
theorem aGA (a:List b9) (h:a.length<=1048576) (m:b9):AD a m=some (!(wb a m)):=by
 unfold AD Jw;rw[tB (n:=a.length) (λj=>((eG a j).Left==m.Result||(eG a j).ch==m.Result))]
 .simp only[Option.bind_some,tA];rfl
 .intro k;simp only[xQ,Ey];rw[fh (Nat.le_refl _)];rfl
 .intro i an k;simp only[xQ,Ey];rw[fX an,nB _ i ⟨[],[],[]⟩ an,fO i _ an (by omega)];simp only[cond_true,Option.bind_some,Jv];rfl
theorem aGB {a:List b9} (h:Gz a) {i:Nat} (an:i<a.length):(eG a i).Left.length<=1048576/\(eG a i).ch.length<=1048576/\(eG a i).Result.length<=1048576:=by
 have:eG a i=a[i]:=by simp[eG,List.getD,an]
 rw[this];exact h.2 _ (List.getElem_mem an)
theorem BP {a:List b9} {i:Nat} (an:i<a.length):bF a (i:Int)=some (eG a i):=nB a i _ an
theorem aGC (a:List b9) (h:Gz a):DP a=some (wc a):=by
 unfold DP wc;by_cases hl:6<a.length
 .have d1:decide ((6:Int)<(a.length:Int))=true:=decide_eq_true (by omega);have d2:decide (a.length<=6)=false:=decide_eq_false (by omega);rw[d1,d2];rfl
 .have d1:decide ((6:Int)<(a.length:Int))=false:=decide_eq_false (by omega);have d2:decide (a.length<=6)=true:=decide_eq_true (by omega);rw[d1,d2,cond_false,Bool.true_and];refine Gl (l:=λm i=>mL a m i) _ (λm=>?_) (λi an m=>?_)
  .simp only[mL,DO];rw[fh (Nat.le_refl _)];rfl
  .have vT:(cB λn=>p9 (mL a m) a (eG a i) n (i:Int) 0)=cond (wb a (eG a i)) (mL a m ((i+1:Nat):Int)) (some false):=by
    refine vZ (l:=λiQ j=>p9 (mL a m) a (eG a i) iQ (i:Int) j) _ _ _ (λiQ=>?_) (λj cH iQ=>?_)
    .simp only[p9,Al];rw[fh (Nat.le_refl _),fO i _ an (by omega)];rfl
    .simp only[p9,Al];rw[fX cH,BP cH,fO j _ cH (by omega)];simp only[cond_true,Option.bind_some];cases((eG a j).Left==(eG a i).Result||(eG a j).ch==(eG a i).Result)<;>rfl
   simp only[mL,DO];rw[fX an,BP an];simp only[cond_true,Option.bind_some,Tq,vT];unfold BO;by_cases ba:i=0
   .subst ba;rw[vR];simp only[cond_false,decide_true,Bool.true_or,Bool.and_true];cases jY (eG a 0).Left<;>cases jY (eG a 0).ch<;>cases jY (eG a 0).Result<;>cases(Op.bytesLess (eG a 0).Left (eG a 0).ch||(eG a 0).Left==(eG a 0).ch)<;>cases wb a (eG a 0)<;>rfl
   .rw[KI ba,Bz i (by omega) (by omega),BP (show i-1<a.length by omega)];have aj:decide (i=0)=false:=decide_eq_false ba;simp only[cond_true,Option.bind_some,aj,Bool.false_or,aGx];cases jY (eG a i).Left<;>cases jY (eG a i).ch<;>cases jY (eG a i).Result<;>cases(Op.bytesLess (eG a i).Left (eG a i).ch||(eG a i).Left==(eG a i).ch)<;>cases wa (eG a (i-1)) (eG a i)<;>cases wb a (eG a i)<;>rfl
theorem aGD (a:List b9) (h:Gz a):EA a=some (wc a):=by
 unfold EA wc;rw[vZ (l:=λm i=>u2 a m i) (n:=a.length) (BO a) (some (decide ((a.length:Int)<=6))) (some false)]
 .have e:decide ((a.length:Int)<=6)=decide (a.length<=6):=decide_eq_decide.2 (by omega);rw[e];cases gn (BO a) a.length<;>cases decide (a.length<=6)<;>rfl
 .intro m;simp only[u2,Ez];rw[fh (Nat.le_refl _)];rfl
 .intro i an m;have hl:=h.1;obtain⟨s1,s2,ff⟩:=aGB h an;simp only[u2,Ez];rw[fX an,BP an,fO i _ an (by omega)];simp only[cond_true,Option.bind_some,Gy _ s1,Gy _ s2,Gy _ ff,aGA a hl];unfold BO;by_cases ba:i=0
  .subst ba;rw[vR];simp only[cond_false,decide_true,Bool.true_or,Bool.and_true];cases jY (eG a 0).Left<;>cases jY (eG a 0).ch<;>cases jY (eG a 0).Result<;>cases(Op.bytesLess (eG a 0).Left (eG a 0).ch||(eG a 0).Left==(eG a 0).ch)<;>cases wb a (eG a 0)<;>rfl
  .rw[KI ba,Bz i (by omega) (by omega),BP (show i-1<a.length by omega)];obtain⟨v,v1,v2⟩:=aGz (eG a (i-1)) (eG a i);have aj:decide (i=0)=false:=decide_eq_false ba;simp only[cond_true,Option.bind_some,aj,Bool.false_or,v1,v2];cases jY (eG a i).Left<;>cases jY (eG a i).ch<;>cases jY (eG a i).Result<;>cases(Op.bytesLess (eG a i).Left (eG a i).ch||(eG a i).Left==(eG a i).ch)<;>cases wa (eG a (i-1)) (eG a i)<;>cases wb a (eG a i)<;>rfl
end Go.eU
