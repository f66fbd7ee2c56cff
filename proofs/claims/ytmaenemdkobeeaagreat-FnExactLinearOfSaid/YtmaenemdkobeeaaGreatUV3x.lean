/- Part of a proof that a law returns true for every input. No condition. -/
import Derived.Test.YtmaenemdkobeeaaGreatUV0x
import Derived.Test.YtmaenemdkobeeaaGreatUV2x
namespace Go.mc
open Option Go.IntKind Nat Or
open Go Go.ek
set_option linter.unusedSimpArgs false
def kd (s:arE):Bool:=kM s&& !(s==([116,97,117]:arE))
theorem V_ (s:arE):sS s=some (kd s):=by unfold sS;rw[DV];rfl
theorem H8 (s:arE) (ad:s.length<=1048576):pJ s=some (kd s):=VW s ad
theorem ans {β:Type} {l:Nat->Int->Option β} {n:Nat} (p:Nat->Bool) (rY bad:Option β) (a5:∀m,l (m+1) (n:Int)=rY)
  (ad:∀i,i<n->∀m,l (m+1) (i:Int)=cond (p i) (l m ((i+1:Nat):Int)) bad) (jZ:Nat) (al:jZ<=n):bU (λm=>l m (jZ:Int))=cond ((List.range' jZ (n-jZ)).all p) rY bad:=by
 refine fO (n+1) λm hm=>?_;refine up (λi=>cond ((List.range' i (n-i)).all p) rY bad) (λm=>?_) (λi al m ih=>?_) jZ al m (by omega)
 .rw[a5];simp
 .rw[ad i al,ih,show n-i=(n-(i+1))+1 by omega,List.range'_succ];cases aw:p i<;>simp[aw]
def o2 (a:arD) (i:Nat):Bool:=decide (i=0)||Op.bytesLess (a.getD (i-1) []) (a.getD i [])
def tb (a:arD):Bool:=decide (a.length<=12)&&(gN (λi=>kd (a.getD i [])) a.length&&gN (o2 a) a.length)
theorem Wa (a:arD) (h:a.length<=1048576):Cm a=some (tb a):=by
 unfold Cm tb;by_cases hl:12<a.length
 .have d1:decide ((12:Int)<(a.length:Int))=true:=decide_eq_true (by omega);have d2:decide (a.length<=12)=false:=decide_eq_false (by omega);rw[d1,d2];rfl
 .have d1:decide ((12:Int)<(a.length:Int))=false:=decide_eq_false (by omega);have d2:decide (a.length<=12)=true:=decide_eq_true (by omega);have D0:FU a=some (gN (λi=>kd (a.getD i [])) a.length):=by
   unfold FU;refine HZ (l:=λm i=>y2 a m i) _ (λm=>?_) (λi al m=>?_)
   .simp only[y2,Lm];rw[dX (Nat.le_refl _)];rfl
   .simp only[y2,Lm];rw[eI al,lT _ i [] al,et i _ al (by omega)];simp only[cond_true,bind_some,V_];cases kd (a.getD i [])<;>rfl
  rw[d1,d2,D0];simp only[cond_false,bind_some,Bool.true_and];cases gN (λi=>kd (a.getD i [])) a.length
  .rfl
  .simp only[Bool.not_true,cond_false,Bool.true_and];by_cases a5:a.length=0
   .rw[fO (x:=some true) 1 (λm hm=>by
     obtain⟨k,rfl⟩:∃k,m=k+1:=⟨m-1,by omega⟩
     simp only[qq,FV];rw[a5];rfl)]
    rw[a5];rfl
   .have key:=ans (l:=λm i=>qq a m i) (n:=a.length) (λi=>decide (i=0)||Op.bytesLess (a.getD (i-1) []) (a.getD i [])) (some true) (some false);have ca:qq a=qq a:=rfl;have:∀i,1<=i->i<=a.length->∀m,a.length-i<m->qq a m (i:Int)=cond ((List.range' i (a.length-i)).all (o2 a)) (some true) (some false):=by
     intro i ae ag;refine down a.length (P:=λi=>1<=i->∀m,a.length-i<m->qq a m (i:Int)=cond ((List.range' i (a.length-i)).all (o2 a)) (some true) (some false)) ?_ ?_ i ag ae
     .intro _ m hm;obtain⟨k,rfl⟩:∃k,m=k+1:=⟨m-1,by omega⟩
      simp only[qq,FV];rw[dX (Nat.le_refl _)];simp
     .intro i al ih ae m hm;obtain⟨k,rfl⟩:∃k,m=k+1:=⟨m-1,by omega⟩
      simp only[qq,FV];rw[eI al,Ag i (by omega) (by omega),lT _ (i-1) [] (by omega),lT _ i [] al,et i _ al (by omega),ih (by omega) k (by omega),show a.length-i=(a.length-(i+1))+1 by omega,List.range'_succ];have a4:o2 a i=Op.bytesLess (a.getD (i-1) []) (a.getD i []):=by
       unfold o2;have:decide (i=0)=false:=decide_eq_false (by omega);rw[this,Bool.false_or]
      simp only[cond_true,bind_some,List.all_cons,a4];cases Op.bytesLess (a.getD (i-1) []) (a.getD i [])<;>rfl
    have O7:=fO (f:=λm=>qq a m 1) (a.length+1) (λm hm=>this 1 (by omega) (by omega) m (by omega));rw[O7];have e:gN (o2 a) a.length=(List.range' 1 (a.length-1)).all (o2 a):=by
     unfold gN;rw[List.range_eq_range',show a.length=(a.length-1)+1 by omega,List.range'_succ];simp[o2]
    rw[e];cases(List.range' 1 (a.length-1)).all (o2 a)<;>rfl
theorem ant {p q:Nat->Bool} {n:Nat}:(gN p n&&gN q n)=gN (λi=>p i&&q i) n:=ux.symm
theorem Wb (a:arD) (h:a.length<=1048576) (ad:∀s∈a,s.length<=1048576):CU a=some (tb a):=by
 unfold CU tb;rw[ant];rw[xY (l:=λm i=>zs a m i) (n:=a.length) (λi=>kd (a.getD i [])&&o2 a i) (some (decide ((a.length:Int)<=12))) (some false)]
 .have e:decide ((a.length:Int)<=12)=decide (a.length<=12):=decide_eq_decide.2 (by omega);rw[e];cases gN (λi=>kd (a.getD i [])&&o2 a i) a.length<;>cases decide (a.length<=12)<;>rfl
 .intro m;simp only[zs,L_];rw[dX (Nat.le_refl _)];rfl
 .intro i al m;simp only[zs,L_];have hm:(a.getD i []).length<=1048576:=by
   have:a.getD i []=a[i]:=by simp[List.getD,al]
   rw[this];exact ad _ (List.getElem_mem al)
  rw[eI al,lT _ i [] al,et i _ al (by omega)];simp only[cond_true,bind_some,H8 _ hm];by_cases a5:i=0
  .subst a5;rw[uo];simp only[cond_false,o2,decide_true,Bool.true_or,Bool.and_true];cases kd (a.getD 0 [])<;>rfl
  .rw[OR a5,Ag i (by omega) (by omega),lT _ (i-1) [] (by omega)];have a4:o2 a i=Op.bytesLess (a.getD (i-1) []) (a.getD i []):=by
    unfold o2;have:decide (i=0)=false:=decide_eq_false a5;rw[this,Bool.false_or]
   have bc:=VB (a.getD (i-1) []) (a.getD i []);simp only[cond_true,bind_some,a4,<-bc];cases kd (a.getD i [])<;>cases Op.bytesLess (a.getD (i-1) []) (a.getD i [])<;>rfl
def k3 (cs:arX) (i:Nat):dn:=cs.getD i ⟨0,[]⟩
def uy (e:arW) (c:dn):Bool:=
 cond (decide (0<=c.gl)&&decide (c.gl<=(e.length:Int)-1)) (((c.e7.length:Int)==(e.getD c.gl.toNat ⟨[],0,[]⟩).bW)&&H7 c.e7) false
def vP (s:cG):Bool:=(decide (1<=s.b7.length)&&decide (s.b7.length<=3))&&gN (λi=>uy s.aC (k3 s.b7 i)) s.b7.length
theorem Wc {e:arW} {n:Int} (h:(decide (0<=n)&&decide (n<=(e.length:Int)-1))=true):a_ e n=some (e.getD n.toNat ⟨[],0,[]⟩):=by
 simp only[Bool.and_eq_true,decide_eq_true_eq]at h;obtain⟨i,rfl⟩:∃i:Nat,n=i:=⟨n.toNat,by omega⟩
 exact lT e i _ (by omega)
theorem anu (s:cG) (ak:s.aC.length<=1048576) (ax:s.b7.length<=1048576) (aE:∀c∈s.b7,c.e7.length<=1048576):FR s=some (vP s):=by
 unfold FR vP;by_cases hl:1<=s.b7.length/\s.b7.length<=3
 .have d1:(((s.b7.length:Int)==0)||decide ((3:Int)<(s.b7.length:Int)))=false:=by
   rw[Bool.or_eq_false_iff,beq_eq_false_iff_ne,decide_eq_false_iff_not];omega
  have d2:(decide (1<=s.b7.length)&&decide (s.b7.length<=3))=true:=by simp;omega
  rw[d1,d2,cond_false,Bool.true_and];refine HZ (l:=λm i=>y1 s m i) _ (λm=>?_) (λi al m=>?_)
  .simp only[y1,Lj];rw[dX (Nat.le_refl _)];rfl
  .simp only[y1,Lj,kF];have hm:(k3 s.b7 i).e7.length<=1048576:=by
    have:k3 s.b7 i=s.b7[i]:=by simp[k3,List.getD,al]
    rw[this];exact aE _ (List.getElem_mem al)
   rw[eI al,lT _ i ⟨0,[]⟩ al,et i _ al (by omega),fl ((s.aC.length:Int)-1) (by omega)];show cond true (Option.bind (some (k3 s.b7 i)) _) _=_;simp only[cond_true,bind_some];unfold uy;cases ao:(decide (0<=(k3 s.b7 i).gl)&&decide ((k3 s.b7 i).gl<=(s.aC.length:Int)-1))
   .rfl
   .rw[Wc ao];simp only[Bool.not_true,cond_false,cond_true,bind_some,anq _ hm];have ee:(((k3 s.b7 i).e7.length:Int) !=(s.aC.getD (k3 s.b7 i).gl.toNat ⟨[],0,[]⟩).bW)= !(((k3 s.b7 i).e7.length:Int)==(s.aC.getD (k3 s.b7 i).gl.toNat ⟨[],0,[]⟩).bW):=rfl;rw[ee];cases(((k3 s.b7 i).e7.length:Int)==(s.aC.getD (k3 s.b7 i).gl.toNat ⟨[],0,[]⟩).bW)<;>cases H7 (k3 s.b7 i).e7<;>rfl
 .have d1:(((s.b7.length:Int)==0)||decide ((3:Int)<(s.b7.length:Int)))=true:=by
   by_cases a5:s.b7.length=0
   .simp[a5]
   .have:decide ((3:Int)<(s.b7.length:Int))=true:=decide_eq_true (by omega);rw[this,Bool.or_true]
  have d2:(decide (1<=s.b7.length)&&decide (s.b7.length<=3))=false:=by
   rw[Bool.and_eq_false_iff,decide_eq_false_iff_not,decide_eq_false_iff_not];omega
  rw[d1,d2];rfl
theorem anv (e:arW) (he:e.length<=1048576) (c:dn) (ax:c.e7.length<=1048576):Gs e c=some (uy e c):=by
 unfold Gs uy;rw[OX _ e.length he];simp only[bind_some];cases ao:(decide (0<=c.gl)&&decide (c.gl<=(e.length:Int)-1))
 .rfl
 .rw[Wc ao];simp only[cond_true,bind_some,anr _ ax];cases((c.e7.length:Int)==(e.getD c.gl.toNat ⟨[],0,[]⟩).bW)<;>rfl
theorem anw (s:cG) (ak:s.aC.length<=1048576) (ax:s.b7.length<=1048576) (aE:∀c∈s.b7,c.e7.length<=1048576):
  Gt s.b7 s=some (!(gN (λi=>uy s.aC (k3 s.b7 i)) s.b7.length)):=by
 unfold Gt L5;rw[Af (n:=s.b7.length) (λi=> !(uy s.aC (k3 s.b7 i)))]
 .simp only[bind_some,Ae,Bool.not_not]
 .intro m;simp only[CR,L4];rw[dX (Nat.le_refl _)];rfl
 .intro i al m;simp only[CR,L4];have hm:(k3 s.b7 i).e7.length<=1048576:=by
   have:k3 s.b7 i=s.b7[i]:=by simp[k3,List.getD,al]
   rw[this];exact aE _ (List.getElem_mem al)
  rw[eI al,lT _ i ⟨0,[]⟩ al,et i _ al (by omega)];show cond true (Option.bind (some (k3 s.b7 i)) _) _=_;simp only[cond_true,bind_some,L3,anv _ ak _ hm]
def e0 (a:arY) (i:Nat):cq:=a.getD i ⟨[],[],[]⟩
def x0 (p m:cq):Bool:=Op.bytesLess p.Left m.Left||(p.Left==m.Left&&Op.bytesLess p.ct m.ct)
def x1 (a:arY) (m:cq):Bool:=gN (λj=> !((e0 a j).Left==m.Result||(e0 a j).ct==m.Result)) a.length
def D2 (a:arY) (i:Nat):Bool:=
 ((((kd (e0 a i).Left&&kd (e0 a i).ct)&&kd (e0 a i).Result)&&(Op.bytesLess (e0 a i).Left (e0 a i).ct||(e0 a i).Left==(e0 a i).ct))&&(decide (i=0)||x0 (e0 a (i-1)) (e0 a i)))&&x1 a (e0 a i)
def x2 (a:arY):Bool:=decide (a.length<=6)&&gN (D2 a) a.length
def H9 (a:arY):Prop:=a.length<=1048576/\∀m∈a,m.Left.length<=1048576/\m.ct.length<=1048576/\m.Result.length<=1048576
theorem anx (p m:cq):((!(Op.bytesLess p.Left m.Left||p.Left==m.Left))||((p.Left==m.Left)&&(!(Op.bytesLess p.ct m.ct))))= !(x0 p m):=by
 unfold x0;cases he:p.Left==m.Left
 .cases Op.bytesLess p.Left m.Left<;>rfl
 .have:p.Left=m.Left:=by simpa using he
  rw[this,al4];cases Op.bytesLess p.ct m.ct<;>rfl
def uz (a b:arE):Int:=cond (Op.bytesLess a b) (-1) (cond (!(Op.bytesLess a b||a==b)) 1 0)
theorem anz (a b:arE):Gv a b=some (uz a b):=by
 unfold Gv Gu uz;simp only[bind_some,cond_false];cases Op.bytesLess a b<;>cases a==b<;>rfl
theorem anA (p m:cq):∃v,Gy p m=some v/\decide (0<=v)= !(x0 p m):=by
 have O7:Gx [p.Left,p.ct] [m.Left,m.ct]=some (cond (uz p.Left m.Left !=0) (uz p.Left m.Left) (cond (uz p.ct m.ct !=0) (uz p.ct m.ct) 0)):=by
  unfold Gx;refine fO 3 λn aZ=>?_;obtain⟨n,rfl⟩:∃k,n=k+3:=⟨n-3,by omega⟩
  have fS:a_ [p.Left,p.ct] 0=some p.Left:=rfl;have aW:a_ [m.Left,m.ct] 0=some m.Left:=rfl;have a8:a_ [p.Left,p.ct] 1=some p.ct:=rfl;have aY:a_ [m.Left,m.ct] 1=some m.ct:=rfl;have ef:i64.wrap (0+1)=1:=by decide
  have hb:i64.wrap (1+1)=2:=by decide
  simp only[Gw,TG,List.length_cons,List.length_nil,fS,aW,a8,aY,ef,hb,bind_some,anz];cases uz p.Left m.Left !=0
  .cases uz p.ct m.ct !=0<;>rfl
  .rfl
 unfold Gy;rw[O7];refine⟨_,rfl,?_⟩;unfold x0 uz;cases hl:Op.bytesLess p.Left m.Left
 .cases he:p.Left==m.Left
  .rfl
  .cases a4:Op.bytesLess p.ct m.ct
   .cases p.ct==m.ct<;>rfl
   .rfl
 .rfl
theorem anB (a:arY) (h:a.length<=1048576) (m:cq):CT a m=some (!(x1 a m)):=by
 unfold CT L8;rw[Af (n:=a.length) (λj=>((e0 a j).Left==m.Result||(e0 a j).ct==m.Result))]
 .simp only[bind_some,Ae];rfl
 .intro k;simp only[CS,L7];rw[dX (Nat.le_refl _)];rfl
 .intro i al k;simp only[CS,L7];rw[eI al,lT _ i ⟨[],[],[]⟩ al,et i _ al (by omega)];simp only[cond_true,bind_some,L6];rfl
theorem anC {a:arY} (h:H9 a) {i:Nat} (al:i<a.length):(e0 a i).Left.length<=1048576/\(e0 a i).ct.length<=1048576/\(e0 a i).Result.length<=1048576:=by
 have:e0 a i=a[i]:=by simp[e0,List.getD,al]
 rw[this];exact h.2 _ (List.getElem_mem al)
theorem D3 {a:arY} {i:Nat} (al:i<a.length):a_ a (i:Int)=some (e0 a i):=lT a i _ al
theorem anD (a:arY) (h:H9 a):FT a=some (x2 a):=by
 unfold FT x2;by_cases hl:6<a.length
 .have d1:decide ((6:Int)<(a.length:Int))=true:=decide_eq_true (by omega);have d2:decide (a.length<=6)=false:=decide_eq_false (by omega);rw[d1,d2];rfl
 .have d1:decide ((6:Int)<(a.length:Int))=false:=decide_eq_false (by omega);have d2:decide (a.length<=6)=true:=decide_eq_true (by omega);rw[d1,d2,cond_false,Bool.true_and];refine HZ (l:=λm i=>rF a m i) _ (λm=>?_) (λi al m=>?_)
  .simp only[rF,Ll];rw[dX (Nat.le_refl _)];rfl
  .have x3:(bU λn=>tK (rF a m) a (e0 a i) n (i:Int) 0)=cond (x1 a (e0 a i)) (rF a m ((i+1:Nat):Int)) (some false):=by
    refine xY (l:=λja j=>tK (rF a m) a (e0 a i) ja (i:Int) j) _ _ _ (λja=>?_) (λj bP ja=>?_)
    .simp only[tK,Lk];rw[dX (Nat.le_refl _),et i _ al (by omega)];rfl
    .simp only[tK,Lk];rw[eI bP,D3 bP,et j _ bP (by omega)];simp only[cond_true,bind_some];cases((e0 a j).Left==(e0 a i).Result||(e0 a j).ct==(e0 a i).Result)<;>rfl
   simp only[rF,Ll];rw[eI al,D3 al];simp only[cond_true,bind_some,V_,x3];unfold D2;by_cases a5:i=0
   .subst a5;rw[uo];simp only[cond_false,decide_true,Bool.true_or,Bool.and_true];cases kd (e0 a 0).Left<;>cases kd (e0 a 0).ct<;>cases kd (e0 a 0).Result<;>cases(Op.bytesLess (e0 a 0).Left (e0 a 0).ct||(e0 a 0).Left==(e0 a 0).ct)<;>cases x1 a (e0 a 0)<;>rfl
   .rw[OR a5,Ag i (by omega) (by omega),D3 (show i-1<a.length by omega)];have ak:decide (i=0)=false:=decide_eq_false a5;simp only[cond_true,bind_some,ak,Bool.false_or,anx];cases kd (e0 a i).Left<;>cases kd (e0 a i).ct<;>cases kd (e0 a i).Result<;>cases(Op.bytesLess (e0 a i).Left (e0 a i).ct||(e0 a i).Left==(e0 a i).ct)<;>cases x0 (e0 a (i-1)) (e0 a i)<;>cases x1 a (e0 a i)<;>rfl
theorem anE (a:arY) (h:H9 a):Gz a=some (x2 a):=by
 unfold Gz x2;rw[xY (l:=λm i=>zr a m i) (n:=a.length) (D2 a) (some (decide ((a.length:Int)<=6))) (some false)]
 .have e:decide ((a.length:Int)<=6)=decide (a.length<=6):=decide_eq_decide.2 (by omega);rw[e];cases gN (D2 a) a.length<;>cases decide (a.length<=6)<;>rfl
 .intro m;simp only[zr,L9];rw[dX (Nat.le_refl _)];rfl
 .intro i al m;have hl:=h.1;obtain⟨s1,s2,kB⟩:=anC h al;simp only[zr,L9];rw[eI al,D3 al,et i _ al (by omega)];simp only[cond_true,bind_some,H8 _ s1,H8 _ s2,H8 _ kB,anB a hl];unfold D2;by_cases a5:i=0
  .subst a5;rw[uo];simp only[cond_false,decide_true,Bool.true_or,Bool.and_true];cases kd (e0 a 0).Left<;>cases kd (e0 a 0).ct<;>cases kd (e0 a 0).Result<;>cases(Op.bytesLess (e0 a 0).Left (e0 a 0).ct||(e0 a 0).Left==(e0 a 0).ct)<;>cases x1 a (e0 a 0)<;>rfl
  .rw[OR a5,Ag i (by omega) (by omega),D3 (show i-1<a.length by omega)];obtain⟨v,v1,v2⟩:=anA (e0 a (i-1)) (e0 a i);have ak:decide (i=0)=false:=decide_eq_false a5;simp only[cond_true,bind_some,ak,Bool.false_or,v1,v2];cases kd (e0 a i).Left<;>cases kd (e0 a i).ct<;>cases kd (e0 a i).Result<;>cases(Op.bytesLess (e0 a i).Left (e0 a i).ct||(e0 a i).Left==(e0 a i).ct)<;>cases x0 (e0 a (i-1)) (e0 a i)<;>cases x1 a (e0 a i)<;>rfl
def x4 (s:cG):Prop:=lU s.aC/\(s.b7.length<=1048576/\∀c∈s.b7,c.e7.length<=1048576)/\H9 s.hA/\
 (s.hg.length<=1048576/\∀x∈s.hg,x.length<=1048576)/\(s.hh.length<=1048576/\∀x∈s.hh,x.length<=1048576)
noncomputable def o3 (s:cG):Int:=cond (!jX s.aC) 1 (cond (!vP s) 2 (cond (!x2 s.hA) 3 (cond (!tb s.hg) 4 (cond (!tb s.hh) 5 0))))
theorem anF (s:cG) (h:x4 s):FW s=some (o3 s):=by
 obtain⟨ae,ag,aK,a3,bI⟩:=h;unfold FW o3;rw[anm _ ae,anu s ae.1 ag.1 ag.2,anD _ aK,Wa _ a3.1,Wa _ bI.1];simp only[bind_some];cases jX s.aC<;>cases vP s<;>cases x2 s.hA<;>cases tb s.hg<;>cases tb s.hh<;>rfl
theorem anG (s:cG) (h:x4 s):GA s=some (o3 s):=by
 obtain⟨ae,ag,aK,a3,bI⟩:=h;unfold GA jD o3 vP;have k_:decide ((1:Int)<=(s.b7.length:Int))=decide (1<=s.b7.length):=decide_eq_decide.2 (by omega);have jM:decide ((s.b7.length:Int)<=3)=decide (s.b7.length<=3):=decide_eq_decide.2 (by omega);rw[ano _ ae,anw s ae.1 ag.1 ag.2,anE _ aK,Wb _ a3.1 a3.2,Wb _ bI.1 bI.2];simp only[bind_some];rw[k_,jM];cases jX s.aC<;>cases(decide (1<=s.b7.length)&&decide (s.b7.length<=3))<;>cases gN (λi=>uy s.aC (k3 s.b7 i)) s.b7.length<;>
  cases x2 s.hA<;>cases tb s.hg<;>cases tb s.hh<;>rfl
theorem anH {s:cG} (h:r3 s<=1048576):x4 s:=by
 unfold r3 at h;refine⟨anl (by omega),⟨Nat.le_trans (jJ lW _) (by omega),λc ax=>?_⟩,⟨Nat.le_trans (jJ lX _) (by omega),λm hm=>?_⟩,⟨Nat.le_trans (jJ List.length _) (by omega),λx ay=>?_⟩,⟨Nat.le_trans (jJ List.length _) (by omega),λx ay=>?_⟩⟩
 .have ae:lW c<=ea lW s.b7:=mL ax;have ag:lW c<=1048576:=by omega
  clear ae;unfold lW at ag;omega
 .have ae:lX m<=ea lX s.hA:=mL hm;have ag:lX m<=1048576:=by omega
  clear ae;unfold lX at ag;omega
 .have ae:x.length<=ea List.length s.hg:=mL ay;omega
 .have ae:x.length<=ea List.length s.hh:=mL ay;omega
theorem anI (a:nA) (b6:BT a):
  ∃r,B2 a 1048576=some r/\(decide (r<0)=false->vf a=some (s_ a)/\C_ (s_ a) (s_ a)=some true/\
   x4 (s_ a)/\r=1048576-(vO a:Nat)/\0<=r):=by
 refine⟨_,amJ a 1048576 b6 (by omega) (by omega),λh=>?_⟩;by_cases ad:vO a<=1048576
 .have wU:r3 (s_ a)<=1048576:=by rw[V3];exact ad
  exact⟨am0 a ad,anc _ wU,anH wU,HX (by omega),by rw[HX (by omega)];omega⟩
 .rw[HY (by omega)]at h;simp at h
theorem anJ (s:cG) (h:x4 s):FX s=some (o3 s==0):=by unfold FX;rw[anF s h];rfl
theorem anK (s:cG) (h:x4 s):GB s=some (o3 s==0):=by unfold GB;rw[anG s h];rfl
theorem anL {s:cG} (h:(o3 s==0)=true):jX s.aC=true:=by
 cases ak:jX s.aC
 .unfold o3 at h;rw[ak]at h;simp at h
 .rfl
def D4 (b:arV) (j:Nat):Bool:=vL b j&&(b.getD j ⟨0,0,[],[]⟩).Kind !=5
def mO (i:Nat) (b:arV):Nat->Nat->List arG
 |_,0=>[]
 |j,k+1=>if D4 b j=true then [(i:Int),(j:Int)]::mO i b (j+1) k else mO i b (j+1) k
theorem O8 (i:Nat) (b:arV):∀(k j:Nat),(mO i b j k).length<=k
 |0,j=>Nat.le_refl _
 |k+1,j=>by
  have:=O8 i b k (j+1);simp only[mO];split
  .simp only[List.length_cons];omega
  .omega
theorem O9 (i:Nat) (b:arV):∀(k j:Nat),∀x∈mO i b j k,x.length=2
 |0,j,x,h=>by cases h
 |k+1,j,x,h=>by
  simp only[mO]at h;split at h
  .rcases List.mem_cons.1 h with rfl|h
   .rfl
   .exact O9 i b k _ x h
  .exact O9 i b k _ x h
def r5 (i:Nat) (b:arV):List arG:=[(i:Int),0]::mO i b 1 (b.length-1)
def b8:arW->Nat->List arG
 |[],_=>[]
 |d::r,i=>r5 i d.Body++b8 r (i+1)
theorem Ap:∀(l:arW) (i:Nat),∀x∈b8 l i,x.length=2
 |d::r,i,x,h=>by
  simp only[b8,r5,List.cons_append,List.mem_cons,List.mem_append]at h;rcases h with rfl|h|h
  .rfl
  .exact O9 _ _ _ _ x h
  .exact Ap r _ x h
section
variable {s:cG} (h:lU s.aC) (aE:jX s.aC=true)
include h aE
theorem D5 {i:Nat} (al:i<s.aC.length):1<=s.aC[i].Body.length/\s.aC[i].Body.length<=20:=
 let⟨_,_,ak⟩:=lY h aE
 (oq (ak i al).2.1).2
theorem anM (K:List arG->Int->Option (List arG)) (i:Nat) (al:i<s.aC.length) (v:List arG) (hO:v.length<=1000):
  bU (λn=>vj K s s.aC[i] n v (i:Int) 1)=K (v++mO i s.aC[i].Body 1 (s.aC[i].Body.length-1)) ((i+1:Nat):Int):=by
 obtain⟨j5,ig⟩:=D5 h aE al;obtain⟨_,a3,_⟩:=lY h aE;have key:∀k j,1<=j->j+k=s.aC[i].Body.length->∀(v:List arG) m,v.length<=1000+j->k<m->
   vj K s s.aC[i] m v (i:Int) (j:Int)=K (v++mO i s.aC[i].Body j k) ((i+1:Nat):Int):=by
  intro k;induction k with
  |zero=>
   intro j bP wa v m hO hm;obtain⟨m,rfl⟩:∃j,m=j+1:=⟨m-1,by omega⟩
   simp only[vj,Ln];rw[dX (by omega),et i _ al (by omega)];simp[mO]
  |succ k ih=>
   intro j bP wa v m hO hm;obtain⟨m,rfl⟩:∃j,m=j+1:=⟨m-1,by omega⟩
   have tc:j<s.aC[i].Body.length:=by omega
   have EW:j-1<s.aC[i].Body.length:=by omega
   simp only[vj,Ln,Cn];rw[eI tc,Ag j (by omega) (by omega),er _ (j-1) EW,er _ j tc,et j _ tc (by omega),h_ (by omega) (by omega)];simp only[cond_true,bind_some];rw[ih (j+1) (by omega) (by omega) v m (by omega) (by omega),ih (j+1) (by omega) (by omega) (v++[[(i:Int),(j:Int)]]) m (by simp only[List.length_append,List.length_cons,List.length_nil];omega) (by omega)];have aW:vL s.aC[i].Body j=(s.aC[i].Body[j-1].Kind==1):=by
    obtain⟨q,rfl⟩:∃q,j=q+1:=⟨j-1,by omega⟩
    simp only[vL,Nat.add_sub_cancel,List.getElem?_eq_getElem EW];rw[List.getElem?_eq_getElem (by omega)]
   have a8:s.aC[i].Body.getD j ⟨0,0,[],[]⟩=s.aC[i].Body[j]:=by rw[List.getD_eq_getElem?_getD,List.getElem?_eq_getElem tc];rfl
   simp only[mO,D4,aW,a8];cases(s.aC[i].Body[j-1].Kind==1)<;>cases(s.aC[i].Body[j].Kind !=5)<;>simp
 refine fO (s.aC[i].Body.length+1) λm hm=>?_;have:=key (s.aC[i].Body.length-1) 1 (by omega) (by omega) v m (by omega) (by omega);simpa using this
theorem anN:FY s=some (b8 s.aC 0):=by
 obtain⟨_,a3,_⟩:=lY h aE;unfold FY;have key:∀i,i<=s.aC.length->∀(v:List arG) m,v.length<=20*i->s.aC.length-i<m->tL s m v (i:Int)=some (v++b8 (s.aC.drop i) i):=by
  refine down s.aC.length ?_ ?_
  .intro v m hO hm;obtain⟨m,rfl⟩:∃j,m=j+1:=⟨m-1,by omega⟩
   simp only[tL,Lo];rw[dX (Nat.le_refl _),List.drop_of_length_le (Nat.le_refl _)];simp[b8]
  .intro i al ih v m hO hm;obtain⟨m,rfl⟩:∃j,m=j+1:=⟨m-1,by omega⟩
   obtain⟨j5,ig⟩:=D5 h aE al;have he:=O8 i s.aC[i].Body (s.aC[i].Body.length-1) 1;simp only[tL,Lo];rw[eI al,er _ i al,h_ (by omega) (by omega)];simp only[cond_true,bind_some];rw[anM h aE _ i al _ (by simp only[List.length_append,List.length_cons,List.length_nil];omega),ih _ m (by simp only[List.length_append,List.length_cons,List.length_nil];omega) (by omega),drop_cons _ i al];simp[b8,r5]
 refine fO (s.aC.length+1) λm hm=>?_;have:=key 0 (by omega) [] m (by simp) (by omega);simpa using this
theorem anO (K:List arG->Int->Option (List arG)) (i:Nat) (al:i<s.aC.length) (v:List arG) (hO:v.length<=1000):
  bU (λn=>tV K s s.aC[i] (g6 s.aC[i].Body [⟨s.aC[i].bW,false⟩]) n v (i:Int) (i:Int) 0)=K (v++r5 i s.aC[i].Body) ((i+1:Nat):Int):=by
 obtain⟨_,a3,ak⟩:=lY h aE;obtain⟨aw,ad,_⟩:=ak i al;obtain⟨s1,j5,ig⟩:=oq ad;have ew:(g6 s.aC[i].Body [⟨s.aC[i].bW,false⟩]).length=s.aC[i].Body.length:=xX (st:=[_]) s1;have key:∀k j,1<=j->j+k=s.aC[i].Body.length->∀(v:List arG) m,v.length<=1001+j->k<m->
   tV K s s.aC[i] (g6 s.aC[i].Body [⟨s.aC[i].bW,false⟩]) m v (i:Int) (i:Int) (j:Int)=K (v++mO i s.aC[i].Body j k) ((i+1:Nat):Int):=by
  intro k;induction k with
  |zero=>
   intro j bP wa v m hO hm;obtain⟨m,rfl⟩:∃j,m=j+1:=⟨m-1,by omega⟩
   simp only[tV,GC];rw[ew,dX (by omega),et i _ al (by omega)];simp[mO]
  |succ k ih=>
   intro j bP wa v m hO hm;obtain⟨m,rfl⟩:∃j,m=j+1:=⟨m-1,by omega⟩
   have tc:j<s.aC[i].Body.length:=by omega
   obtain⟨_,_,_,g7,k9⟩:=s9 s.aC[i] ad aw j tc;have bC:a_ (g6 s.aC[i].Body [⟨s.aC[i].bW,false⟩]) (j:Int)=some (eY s.aC[i] j):=by unfold a_;rw[if_pos (by omega)];exact k9
   simp only[tV,GC,xl];rw[ew,eI tc,bC,er _ j tc,et j _ tc (by omega),h_ (by omega) (by omega)];have d0:((j:Int)==0)=false:=by simp;omega
   simp only[cond_true,bind_some,d0,cond_false,g7];rw[ih (j+1) (by omega) (by omega) v m (by omega) (by omega),ih (j+1) (by omega) (by omega) (v++[[(i:Int),(j:Int)]]) m (by simp only[List.length_append,List.length_cons,List.length_nil];omega) (by omega)];have a8:s.aC[i].Body.getD j ⟨0,0,[],[]⟩=s.aC[i].Body[j]:=by rw[List.getD_eq_getElem?_getD,List.getElem?_eq_getElem tc];rfl
   simp only[mO,D4,a8];cases vL s.aC[i].Body j<;>cases(s.aC[i].Body[j].Kind !=5)<;>simp
 refine fO (s.aC[i].Body.length+2) λm hm=>?_;obtain⟨m,rfl⟩:∃j,m=j+1:=⟨m-1,by omega⟩
 obtain⟨_,_,_,g7,k9⟩:=s9 s.aC[i] ad aw 0 (by omega);have bC:a_ (g6 s.aC[i].Body [⟨s.aC[i].bW,false⟩]) 0=some (eY s.aC[i] 0):=by unfold a_;rw[if_pos (by omega)];exact k9
 simp only[tV,GC,xl];rw[ew,show decide ((0:Int)<(s.aC[i].Body.length:Int))=true by simp;omega,bC,h_ (by omega) (by omega),Vu];simp only[cond_true,bind_some,show((0:Int)==0)=true from rfl];have:=key (s.aC[i].Body.length-1) 1 (by omega) (by omega) (v++[[(i:Int),0]]) m (by simp only[List.length_append,List.length_cons,List.length_nil];omega) (by omega);rw[show((1:Nat):Int)=1 from rfl]at this;rw[this];simp[r5]
theorem anP:GD s=some (b8 s.aC 0):=by
 obtain⟨_,a3,ak⟩:=lY h aE;unfold GD;have key:∀i,i<=s.aC.length->∀(v:List arG) m,v.length<=20*i->s.aC.length-i<m->tW s m v (i:Int)=some (v++b8 (s.aC.drop i) i):=by
  refine down s.aC.length ?_ ?_
  .intro v m hO hm;obtain⟨m,rfl⟩:∃j,m=j+1:=⟨m-1,by omega⟩
   simp only[tW,Ma];rw[dX (Nat.le_refl _),List.drop_of_length_le (Nat.le_refl _)];simp[b8]
  .intro i al ih v m hO hm;obtain⟨m,rfl⟩:∃j,m=j+1:=⟨m-1,by omega⟩
   obtain⟨aw,ad,_⟩:=ak i al;obtain⟨s1,j5,ig⟩:=oq ad;have ab:=(h.2 _ (List.getElem_mem al)).2.1;have he:=O8 i s.aC[i].Body (s.aC[i].Body.length-1) 1;simp only[tW,Ma];rw[eI al,er _ i al];simp only[cond_true,bind_some];rw[OV _ ab s1 aw.1 (by omega)];simp only[bind_some];rw[anO h aE _ i al _ (by omega),ih _ m (by simp only[r5,List.length_append,List.length_cons];omega) (by omega),drop_cons _ i al];simp[b8]
 refine fO (s.aC.length+1) λm hm=>?_;have:=key 0 (by omega) [] m (by simp) (by omega);simpa using this
end
section
variable {α β:Type}
theorem anQ {l:Nat->Int->Option β} (a:List α) (F:List α->Option β) (a5:∀m,l (m+1) (a.length:Int)=F [])
  (ad:∀i (h:i<a.length) m,l m ((i+1:Nat):Int)=F (a.drop (i+1))->l (m+1) (i:Int)=F (a[i]::a.drop (i+1))):bU (λm=>l m 0)=F a:=by
 rw[vE (n:=a.length) (λi=>F (a.drop i))]
 .simp
 .intro m;rw[a5,List.drop_of_length_le (Nat.le_refl _)]
 .intro i al m ih;rw[drop_cons a i al];exact ad i al m ih
theorem O_ {l:Nat->Int->arI} (a:List α) (p:α->Bool) (a5:∀m,l (m+1) (a.length:Int)=some true)
  (ad:∀i (h:i<a.length) m,l (m+1) (i:Int)=cond (p a[i]) (l m ((i+1:Nat):Int)) (some false)):bU (λm=>l m 0)=some (a.all p):=by
 refine anQ a (λr=>some (r.all p)) a5 λi h m ih=>?_;rw[ad i h m,ih,List.all_cons];cases p a[i]<;>rfl
def vQ (p:α->Bool):Nat->List α->Int
 |_,[]=> -1
 |i,x::r=>if p x=true then(i:Int)else vQ p (i+1) r
theorem H_ (p:α->Bool):∀(r:List α) (i:Nat),decide (0<=vQ p i r)=r.any p
 |[],i=>by simp[vQ]
 |x::r,i=>by
  simp only[vQ,List.any_cons];by_cases h:p x=true
  .simp[h]
  .have e:p x=false:=by simpa using h
   simp[e,H_ p r (i+1)]
theorem anR {l:Nat->Int->arJ} (a:List α) (p:α->Bool) (a5:∀m,l (m+1) (a.length:Int)=some (-1))
  (ad:∀i (h:i<a.length) m,l (m+1) (i:Int)=cond (p a[i]) (some (i:Int)) (l m ((i+1:Nat):Int))):bU (λm=>l m 0)=some (vQ p 0 a):=by
 have key:∀i,i<=a.length->∀m,a.length-i<m->l m (i:Int)=some (vQ p i (a.drop i)):=by
  refine down a.length ?_ ?_
  .intro m hm;obtain⟨m,rfl⟩:∃j,m=j+1:=⟨m-1,by omega⟩
   rw[a5,List.drop_of_length_le (Nat.le_refl _)];rfl
  .intro i al ih m hm;obtain⟨m,rfl⟩:∃j,m=j+1:=⟨m-1,by omega⟩
   rw[ad i al m,ih m (by omega),drop_cons a i al];simp only[vQ];cases p a[i]<;>rfl
 refine fO (a.length+1) λm hm=>?_;have:=key 0 (by omega) m (by omega);simpa using this
theorem Pa {l:Nat->Int->arJ} {f:α->arI} (a:List α) (p:α->Bool)
  (mM:∀m i,l (m+1) i=cond (decide (i<(a.length:Int))) ((a_ a i).bind λx=>(f x).bind λy=>cond y (some i) (l m (i64.wrap (i+1)))) (some (-1)))
  (bo:∀x∈a,f x=some (p x)) (b6:a.length<=1099511627776):bU (λm=>l m 0)=some (vQ p 0 a):=by
 refine anR a p (λm=>by rw[mM,dX (Nat.le_refl _)];rfl) λi h m=>?_;rw[mM,eI h,er _ i h,et i _ h (by omega)];simp only[cond_true,bind_some,bo _ (List.getElem_mem h)]
theorem Pb (a:List α) (p:α->Bool):(a.any λx=> !p x)= !(a.all p):=by
 induction a with
 |nil=>rfl
 |cons x r ih=>simp only[List.any_cons,List.all_cons,ih];cases p x<;>simp
end
def r6 (p:Int) (s:arG):Int:=s.foldl (λp n=>i64.wrap (p*i64.wrap (n+1))) p
def x5 (v:Int):Bool:=decide (v<=4096)
def r7 (s:arG):Bool:=decide (s.length<=8)&&(s.all (λn=>iU n 1 7)&&x5 (r6 1 s))
def vR:arE:=[116,97,117]
def x6 (s:arE):Bool:=kM s&& !(s==vR)
def o4 (es:arO) (v:Int):Bool:=es.all λe=>k2 e v 60
def td (x:bH) (p:Int):Bool:=
 r7 x.cx&&(k2 x.Guard (p+x.cx.length) 60&&((x.Next.length:Int)==p&&((if x.Name=vR then decide (x.a9.length=0)else x6 x.Name&&decide (x.a9.length<=2))&&
  (o4 x.a9 (p+x.cx.length)&&o4 x.Next (p+x.cx.length)))))
def vS (s:arG) (p:Int):Bool:=(s.length:Int)==p&&s.all (λn=>iU n 0 63)
def ou (l:cr):Bool:=iU l.bW 0 21&&(vS l.Start l.bW&&(decide (l.g3.length<=60)&&l.g3.all λx=>td x l.bW))
theorem Wd (p:Int):r6 p []=p:=rfl
theorem We (p n:Int) (s:arG):r6 p (n::s)=r6 (i64.wrap (p*i64.wrap (n+1))) s:=rfl
theorem D6 (n fB al:Int):(decide (fB<=n)&&decide (n<=al))=iU n fB al:=rfl
theorem Wf:∀(s:arG) (p:Int),s.all (λn=>iU n 1 7)=true->1<=p->p*8^s.length<=1099511627776->1<=r6 p s
 |[],p,_,h,_=>h
 |n::s,p,b6,h,ab=>by
  simp only[List.all_cons,Bool.and_eq_true,iU,decide_eq_true_eq]at b6;obtain⟨⟨ae,ag⟩,aK⟩:=b6;have aW:i64.wrap (n+1)=n+1:=fl _ (by omega);have anS:(1:Int)<=8^s.length:=by
   have:(0:Int)<8^s.length:=Int.pow_pos (by decide);omega
  have anT:p*8*8^s.length<=1099511627776:=by
   have:p*8*8^s.length=p*8^(n::s).length:=by rw[List.length_cons,Int.pow_succ,Int.mul_assoc,Int.mul_comm 8]
   rw[this];exact ab
  have hle:p*(n+1)<=p*8:=Int.mul_le_mul_of_nonneg_left (by omega) (by omega);have arj:p*8*1<=p*8*8^s.length:=Int.mul_le_mul_of_nonneg_left anS (by omega);have yg:p*1<=p*(n+1):=Int.mul_le_mul_of_nonneg_left (by omega) (by omega);have a8:i64.wrap (p*(n+1))=p*(n+1):=fl _ (by omega);simp only[r6,List.foldl_cons,aW,a8];refine Wf s (p*(n+1)) (by simpa [iU]using aK) (by omega) ?_;exact Int.le_trans (Int.mul_le_mul_of_nonneg_right hle (by omega)) anT
def Ia (v:Int) (s:arG):Int:=cond (s.all λn=>iU n 1 7) (cond (x5 (r6 v s)) (r6 v s) 0) 0
theorem anU (v:Int):decide (4096<v)= !x5 v:=by
 unfold x5;by_cases h:v<=4096
 .have:¬4096<v:=by omega
  simp[h,this]
 .have:4096<v:=by omega
  simp[h,this]
theorem anV (s:arG) (h:s.length<=1048576):∃n,F2 s=some n/\(n==0)= !r7 s:=by
 unfold F2;by_cases gy:s.length<=8
 .have d:decide ((8:Int)<(s.length:Int))=false:=by simp only[decide_eq_false_iff_not];omega
  rw[d,cond_false];have key:∀i,i<=s.length->∀(v:Int) m,s.length-i<m->y6 s m v (i:Int)=some (Ia v (s.drop i)):=by
   refine down s.length ?_ ?_
   .intro v m hm;obtain⟨m,rfl⟩:∃j,m=j+1:=⟨m-1,by omega⟩
    simp only[y6,Lu];rw[dX (Nat.le_refl _),List.drop_of_length_le (Nat.le_refl _),anU];simp only[Ia,List.all_nil,cond_true,cond_false,Wd];cases x5 v<;>rfl
   .intro i al ih v m hm;obtain⟨m,rfl⟩:∃j,m=j+1:=⟨m-1,by omega⟩
    simp only[y6,Lu,kF];rw[eI al,er _ i al,et i _ al (by omega),drop_cons s i al];simp only[cond_true,bind_some];rw[ih _ m (by omega)];simp only[D6,Ia,List.all_cons,We];cases iU s[i] 1 7
    .rfl
    .rfl
  refine⟨_,fO (s.length+1) λm hm=>by have:=key 0 (by omega) 1 m (by omega);simpa using this,?_⟩;unfold r7 Ia;have d8:decide (s.length<=8)=true:=by simpa using gy
  rw[d8,Bool.true_and];cases b6:s.all (λn=>iU n 1 7)
  .rfl
  .have aw:=Wf s 1 b6 (by omega) (by
    have:∀k:Nat,k<=8->(8:Int)^k<=16777216:=by decide
    have:=this s.length gy;omega)
   cases hw:x5 (r6 1 s)
   .rfl
   .have:(r6 1 s==0)=false:=by simp;omega
    simpa using this
 .have d:decide ((8:Int)<(s.length:Int))=true:=by simp only[decide_eq_true_eq];omega
  rw[d,cond_true];refine⟨0,rfl,?_⟩;unfold r7;have d8:decide (s.length<=8)=false:=by simpa using gy
  rw[d8];rfl
theorem anW (x:bH) (h:x.cx.length<=1048576):GV x=some (r7 x.cx):=by
 unfold GV;have key:∀i,i<=x.cx.length->∀(v:Int) m,x.cx.length-i<m->zD x m v (i:Int)=some ((x.cx.drop i).all (λn=>iU n 1 7)&&(decide (x.cx.length<=8)&&x5 (r6 v (x.cx.drop i)))):=by
  refine down x.cx.length ?_ ?_
  .intro v m hm;obtain⟨m,rfl⟩:∃j,m=j+1:=⟨m-1,by omega⟩
   simp only[zD,Mw];rw[dX (Nat.le_refl _),List.drop_of_length_le (Nat.le_refl _)];have:decide ((x.cx.length:Int)<=8)=decide (x.cx.length<=8):=by
    by_cases h:x.cx.length<=8
    .have bM:(x.cx.length:Int)<=8:=by omega
     simp[h,bM]
    .have bM:¬(x.cx.length:Int)<=8:=by omega
     simp[h,bM]
   rw[this];simp only[cond_false,List.all_nil,Bool.true_and,Wd];rfl
  .intro i al ih v m hm;obtain⟨m,rfl⟩:∃j,m=j+1:=⟨m-1,by omega⟩
   simp only[zD,Mw,jD];rw[eI al,er _ i al,et i _ al (by omega),drop_cons x.cx i al];simp only[cond_true,bind_some,List.all_cons];rw[ih _ m (by omega)];simp only[D6,We];cases iU x.cx[i] 1 7<;>simp
 refine fO (x.cx.length+1) λm hm=>?_;have:=key 0 (by omega) 1 m (by omega);rw[List.drop_zero]at this;refine this.trans ?_;unfold r7;cases x.cx.all (λn=>iU n 1 7)<;>simp
theorem Wg (es:arO) (v:Int) (aE: -1000000<=v/\v<=1000000) (h:es.length<=1048576) (he:∀e∈es,e.length<=1048576):w8 es v=some (o4 es v):=by
 unfold w8 o4;refine O_ es (λe=>k2 e v 60) (λm=>?_) λi al m=>?_
 .simp only[Ct,Lv];rw[dX (Nat.le_refl _)];rfl
 .simp only[Ct,Lv];rw[eI al,er _ i al,et i _ al (by omega)];simp only[cond_true,bind_some,OS _ v 60 aE (he _ (List.getElem_mem al))];cases k2 es[i] v 60<;>rfl
theorem anX (s:arE):sS s=some (x6 s):=by
 unfold sS;rw[DV];rfl
theorem anY (s:arE) (ad:s.length<=140737488355328):pJ s=some (x6 s):=by
 unfold pJ;rw[OT s ad];rfl
def Pc (e:arO):Prop:=e.length<=1048576/\∀t∈e,t.length<=1048576
def Aq (x:bH):Prop:=x.cx.length<=1048576/\x.Guard.length<=1048576/\x.Name.length<=1048576/\Pc x.a9/\Pc x.Next
def Ib (l:cr):Prop:=l.Start.length<=1048576/\l.g3.length<=1048576/\∀x∈l.g3,Aq x
theorem Wh {s:arE} (h:s=vR):(s==([116,97,117]:arE))=true:=by subst h;rfl
theorem Wi {s:arE} (h:s≠vR):(s==([116,97,117]:arE))=false:=by simpa [vR]using h
theorem anZ (x:bH) (p:Int) (aw:0<=p/\p<=21) (ay:Aq x):F3 x p=some (td x p):=by
 obtain⟨ae,ag,aK,a3,bI⟩:=ay;unfold F3 td;obtain⟨n,aW,a8⟩:=anV x.cx ae;rw[aW];simp only[bind_some,a8];cases ad:r7 x.cx
 .rfl
 .have gy:x.cx.length<=8:=by simp only[r7,Bool.and_eq_true,decide_eq_true_eq]at ad;exact ad.1
  have hw:i64.wrap (p+(x.cx.length:Int))=p+(x.cx.length:Int):=fl (p+(x.cx.length:Int)) ⟨by omega,by omega⟩;simp only[hw,OS x.Guard (p+(x.cx.length:Int)) 60 (by omega) ag,Wg x.a9 (p+(x.cx.length:Int)) (by omega) a3.1 a3.2,Wg x.Next (p+(x.cx.length:Int)) (by omega) bI.1 bI.2,anX,bind_some,Bool.not_true,cond_false,Bool.true_and];cases k2 x.Guard (p+(x.cx.length:Int)) 60
  .rfl
  .cases aZ:(x.Next.length:Int)==p
   .have:((x.Next.length:Int) !=p)=true:=by simp only[bne,aZ];rfl
    rw[this];rfl
   .have:((x.Next.length:Int) !=p)=false:=by simp only[bne,aZ];rfl
    rw[this];simp only[Bool.not_true,Bool.or_self,cond_false,Bool.true_and];by_cases bc:x.Name=vR
    .rw[Wh bc,if_pos bc];simp only[cond_true,Bool.not_true,cond_false];by_cases b6:x.a9.length=0
     .have d1:decide ((0:Int)<(x.a9.length:Int))=false:=by simp only[decide_eq_false_iff_not];omega
      have d2:decide ((2:Int)<(x.a9.length:Int))=false:=by simp only[decide_eq_false_iff_not];omega
      have d3:decide (x.a9.length=0)=true:=by simpa using b6
      rw[d1,d2,d3];cases o4 x.a9 (p+(x.cx.length:Int))<;>cases o4 x.Next (p+(x.cx.length:Int))<;>rfl
     .have d1:decide ((0:Int)<(x.a9.length:Int))=true:=by simp only[decide_eq_true_eq];omega
      have d3:decide (x.a9.length=0)=false:=by simpa using b6
      rw[d1,d3];rfl
    .rw[Wi bc,if_neg bc];simp only[Bool.not_false,cond_true,cond_false];cases x6 x.Name
     .rfl
     .by_cases b6:x.a9.length<=2
      .have d2:decide ((2:Int)<(x.a9.length:Int))=false:=by simp only[decide_eq_false_iff_not];omega
       have d3:decide (x.a9.length<=2)=true:=by simpa using b6
       rw[d2,d3];cases o4 x.a9 (p+(x.cx.length:Int))<;>cases o4 x.Next (p+(x.cx.length:Int))<;>rfl
      .have d2:decide ((2:Int)<(x.a9.length:Int))=true:=by simp only[decide_eq_true_eq];omega
       have d3:decide (x.a9.length<=2)=false:=by simpa using b6
       rw[d2,d3];rfl
theorem an0 (s:arG) (p:Int) (h:s.length<=1048576):F1 s p=some (vS s p):=by
 unfold F1 vS;have e:w6 s=some (s.all λn=>iU n 0 63):=by
  unfold w6;refine O_ s (λn=>iU n 0 63) (λm=>?_) λi al m=>?_
  .simp only[vi,Cl];rw[dX (Nat.le_refl _)];rfl
  .simp only[vi,Cl,kF];rw[eI al,er _ i al,et i _ al (by omega)];simp only[cond_true,bind_some,D6];cases iU s[i] 0 63<;>rfl
 rw[e];cases(s.length:Int)==p<;>rfl
theorem an1 (l:cr) (h:Ib l):Cv l=some (ou l):=by
 unfold Cv ou kF;simp only[bind_some,D6];rw[an0 _ _ h.1];simp only[bind_some];cases aw:iU l.bW 0 21
 .rfl
 .cases vS l.Start l.bW
  .rfl
  .simp only[Bool.not_true,cond_false,Bool.false_or,Bool.true_and];have eR:0<=l.bW/\l.bW<=21:=by simpa [iU]using aw
   by_cases o5:l.g3.length<=60
   .have d1:decide ((60:Int)<(l.g3.length:Int))=false:=by simp only[decide_eq_false_iff_not];omega
    have d2:decide (l.g3.length<=60)=true:=by simpa using o5
    rw[d1,d2,cond_false,Bool.true_and];refine O_ l.g3 (λx=>td x l.bW) (λm=>?_) λi al m=>?_
    .simp only[Cu,Lw];rw[dX (Nat.le_refl _)];rfl
    .simp only[Cu,Lw];rw[eI al,er _ i al,et i _ al (by omega)];simp only[cond_true,bind_some,anZ _ _ eR (h.2.2 _ (List.getElem_mem al))];cases td l.g3[i] l.bW<;>rfl
   .have d1:decide ((60:Int)<(l.g3.length:Int))=true:=by simp only[decide_eq_true_eq];omega
    have d2:decide (l.g3.length<=60)=false:=by simpa using o5
    rw[d1,d2];rfl
end Go.mc
