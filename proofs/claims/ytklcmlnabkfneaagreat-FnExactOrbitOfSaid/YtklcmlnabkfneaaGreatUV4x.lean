/- Part of a proof that a law returns true for every input. No condition. -/
import Derived.Test.YtklcmlnabkfneaaGreatUV3x
import Derived.Test.YtklcmlnabkfneaaGreatUV1x
namespace Go.l3
open List Option Go.IntKind Nat Or
open Go Go.de
def ko (cs:amj) (i:Nat):dR:=cs.getD i ⟨0,[]⟩
def iB (e:ami) (c:dR):Bool:=
 cond (decide (0<=c.b6)&&decide (c.b6<=(e.length:Int)-1)) (((c.bL.length:Int)==(e.getD c.b6.toNat ⟨[],0,[]⟩).db)&&D5 c.bL) false
def sT (s:e1):Bool:=(decide (1<=s.cU.length)&&decide (s.cU.length<=3))&&fv (λi=>iB s.dU (ko s.cU i)) s.cU.length
theorem Rz {e:ami} {n:Int} (h:(decide (0<=n)&&decide (n<=(e.length:Int)-1))=true):bl e n=some (e.getD n.toNat ⟨[],0,[]⟩):=by
 simp only[Bool.and_eq_true,decide_eq_true_eq]at h;obtain⟨i,rfl⟩:∃i:Nat,n=i:=⟨n.toNat,by omega⟩
 exact lO e i _ (by omega)
theorem ajg (s:e1) (ai:s.dU.length<=1048576) (an:s.cU.length<=1048576) (aJ:∀c∈s.cU,c.bL.length<=1048576):Ce s=some (sT s):=by
 unfold Ce sT;by_cases hl:1<=s.cU.length/\s.cU.length<=3
 .have d1:(((s.cU.length:Int)==0)||decide ((3:Int)<(s.cU.length:Int)))=false:=by
   rw[Bool.or_eq_false_iff,beq_eq_false_iff_ne,decide_eq_false_iff_not];omega
  have d2:(decide (1<=s.cU.length)&&decide (s.cU.length<=3))=true:=by simp;omega
  rw[d1,d2,cond_false,Bool.true_and];refine Aw (l:=λm i=>vC s m i) _ (λm=>?_) (λi ao m=>?_)
  .simp only[vC,G9];rw[eJ (Nat.le_refl _)];rfl
  .simp only[vC,G9,kX];have hm:(ko s.cU i).bL.length<=1048576:=by
    have:ko s.cU i=s.cU[i]:=by simp[ko,List.getD,ao]
    rw[this];exact aJ _ (getElem_mem ao)
   rw[fA ao,lO _ i ⟨0,[]⟩ ao,fu i _ ao (by omega),eN ((s.dU.length:Int)-1) (by omega)];show cond true (Option.bind (some (ko s.cU i)) _) _=_;simp only[cond_true,bind_some];unfold iB;cases ax:(decide (0<=(ko s.cU i).b6)&&decide ((ko s.cU i).b6<=(s.dU.length:Int)-1))
   .rfl
   .rw[Rz ax];simp only[Bool.not_true,cond_false,cond_true,bind_some,Ru _ hm];have cY:(((ko s.cU i).bL.length:Int) !=(s.dU.getD (ko s.cU i).b6.toNat ⟨[],0,[]⟩).db)= !(((ko s.cU i).bL.length:Int)==(s.dU.getD (ko s.cU i).b6.toNat ⟨[],0,[]⟩).db):=rfl;rw[cY];cases(((ko s.cU i).bL.length:Int)==(s.dU.getD (ko s.cU i).b6.toNat ⟨[],0,[]⟩).db)<;>cases D5 (ko s.cU i).bL<;>rfl
 .have d1:(((s.cU.length:Int)==0)||decide ((3:Int)<(s.cU.length:Int)))=true:=by
   by_cases aX:s.cU.length=0
   .simp[aX]
   .have:decide ((3:Int)<(s.cU.length:Int))=true:=decide_eq_true (by omega);rw[this,Bool.or_true]
  have d2:(decide (1<=s.cU.length)&&decide (s.cU.length<=3))=false:=by
   rw[Bool.and_eq_false_iff,decide_eq_false_iff_not,decide_eq_false_iff_not];omega
  rw[d1,d2];rfl
theorem ajh (e:ami) (he:e.length<=1048576) (c:dR) (an:c.bL.length<=1048576):CF e c=some (iB e c):=by
 unfold CF iB;rw[D0 _ e.length he];simp only[bind_some];cases ax:(decide (0<=c.b6)&&decide (c.b6<=(e.length:Int)-1))
 .rfl
 .rw[Rz ax];simp only[cond_true,bind_some,Rv _ an];cases((c.bL.length:Int)==(e.getD c.b6.toNat ⟨[],0,[]⟩).db)<;>rfl
theorem aji (s:e1) (ai:s.dU.length<=1048576) (an:s.cU.length<=1048576) (aJ:∀c∈s.cU,c.bL.length<=1048576):
  CG s.cU s=some (!(fv (λi=>iB s.dU (ko s.cU i)) s.cU.length)):=by
 unfold CG HK;rw[uo (n:=s.cU.length) (λi=> !(iB s.dU (ko s.cU i)))]
 .simp only[bind_some,um,Bool.not_not]
 .intro m;simp only[zr,HJ];rw[eJ (Nat.le_refl _)];rfl
 .intro i ao m;simp only[zr,HJ];have hm:(ko s.cU i).bL.length<=1048576:=by
   have:ko s.cU i=s.cU[i]:=by simp[ko,List.getD,ao]
   rw[this];exact aJ _ (getElem_mem ao)
  rw[fA ao,lO _ i ⟨0,[]⟩ ao,fu i _ ao (by omega)];show cond true (Option.bind (some (ko s.cU i)) _) _=_;simp only[cond_true,bind_some,HI,ajh _ ai _ hm]
def ee (a:amk) (i:Nat):cA:=a.getD i ⟨[],[],[]⟩
def uB (p m:cA):Bool:=Op.bytesLess p.Left m.Left||(p.Left==m.Left&&Op.bytesLess p.b_ m.b_)
def uC (a:amk) (m:cA):Bool:=fv (λj=> !((ee a j).Left==m.Result||(ee a j).b_==m.Result)) a.length
def AJ (a:amk) (i:Nat):Bool:=
 ((((jb (ee a i).Left&&jb (ee a i).b_)&&jb (ee a i).Result)&&(Op.bytesLess (ee a i).Left (ee a i).b_||(ee a i).Left==(ee a i).b_))&&(decide (i=0)||uB (ee a (i-1)) (ee a i)))&&uC a (ee a i)
def uD (a:amk):Bool:=decide (a.length<=6)&&fv (AJ a) a.length
def D7 (a:amk):Prop:=a.length<=1048576/\∀m∈a,m.Left.length<=1048576/\m.b_.length<=1048576/\m.Result.length<=1048576
theorem ajj (p m:cA):((!(Op.bytesLess p.Left m.Left||p.Left==m.Left))||((p.Left==m.Left)&&(!(Op.bytesLess p.b_ m.b_))))= !(uB p m):=by
 unfold uB;cases he:p.Left==m.Left
 .cases Op.bytesLess p.Left m.Left<;>rfl
 .have:p.Left=m.Left:=by simpa using he
  rw[this,ahE];cases Op.bytesLess p.b_ m.b_<;>rfl
def rO (a b:alO):Int:=cond (Op.bytesLess a b) (-1) (cond (!(Op.bytesLess a b||a==b)) 1 0)
theorem ajk (a b:alO):CH a b=some (rO a b):=by
 unfold CH cmp_isNaN_string rO;simp only[bind_some,cond_false];cases Op.bytesLess a b<;>cases a==b<;>rfl
theorem ajl (p m:cA):∃v,CK p m=some v/\decide (0<=v)= !(uB p m):=by
 have Kj:CJ [p.Left,p.b_] [m.Left,m.b_]=some (cond (rO p.Left m.Left !=0) (rO p.Left m.Left) (cond (rO p.b_ m.b_ !=0) (rO p.b_ m.b_) 0)):=by
  unfold CJ;refine eP 3 λn aS=>?_;obtain⟨n,rfl⟩:∃k,n=k+3:=⟨n-3,by omega⟩
  have gr:bl [p.Left,p.b_] 0=some p.Left:=rfl;have aR:bl [m.Left,m.b_] 0=some m.Left:=rfl;have aV:bl [p.Left,p.b_] 1=some p.b_:=rfl;have aW:bl [m.Left,m.b_] 1=some m.b_:=rfl;have eC:i64.wrap (0+1)=1:=by decide
  have eY:i64.wrap (1+1)=2:=by decide
  simp only[CI,OQ,length_cons,length_nil,gr,aR,aV,aW,eC,eY,bind_some,ajk];cases rO p.Left m.Left !=0
  .cases rO p.b_ m.b_ !=0<;>rfl
  .rfl
 unfold CK;rw[Kj];refine⟨_,rfl,?_⟩;unfold uB rO;cases hl:Op.bytesLess p.Left m.Left
 .cases he:p.Left==m.Left
  .rfl
  .cases aM:Op.bytesLess p.b_ m.b_
   .cases p.b_==m.b_<;>rfl
   .rfl
 .rfl
theorem ajm (a:amk) (h:a.length<=1048576) (m:cA):zt a m=some (!(uC a m)):=by
 unfold zt HN;rw[uo (n:=a.length) (λj=>((ee a j).Left==m.Result||(ee a j).b_==m.Result))]
 .simp only[bind_some,um];rfl
 .intro k;simp only[zs,HM];rw[eJ (Nat.le_refl _)];rfl
 .intro i ao k;simp only[zs,HM];rw[fA ao,lO _ i ⟨[],[],[]⟩ ao,fu i _ ao (by omega)];simp only[cond_true,bind_some,HL];rfl
theorem ajn {a:amk} (h:D7 a) {i:Nat} (ao:i<a.length):(ee a i).Left.length<=1048576/\(ee a i).b_.length<=1048576/\(ee a i).Result.length<=1048576:=by
 have:ee a i=a[i]:=by simp[ee,List.getD,ao]
 rw[this];exact h.2 _ (getElem_mem ao)
theorem AK {a:amk} {i:Nat} (ao:i<a.length):bl a (i:Int)=some (ee a i):=lO a i _ ao
theorem ajo (a:amk) (h:D7 a):Cf a=some (uD a):=by
 unfold Cf uD;by_cases hl:6<a.length
 .have d1:decide ((6:Int)<(a.length:Int))=true:=decide_eq_true (by omega);have d2:decide (a.length<=6)=false:=decide_eq_false (by omega);rw[d1,d2];rfl
 .have d1:decide ((6:Int)<(a.length:Int))=false:=decide_eq_false (by omega);have d2:decide (a.length<=6)=true:=decide_eq_true (by omega);rw[d1,d2,cond_false,Bool.true_and];refine Aw (l:=λm i=>o6 a m i) _ (λm=>?_) (λi ao m=>?_)
  .simp only[o6,Ha];rw[eJ (Nat.le_refl _)];rfl
  .have l1:(lim λn=>q_ (o6 a m) a (ee a i) n (i:Int) 0)=cond (uC a (ee a i)) (o6 a m ((i+1:Nat):Int)) (some false):=by
    refine uz (l:=λh8 j=>q_ (o6 a m) a (ee a i) h8 (i:Int) j) _ _ _ (λh8=>?_) (λj bm h8=>?_)
    .simp only[q_,G_];rw[eJ (Nat.le_refl _),fu i _ ao (by omega)];rfl
    .simp only[q_,G_];rw[fA bm,AK bm,fu j _ bm (by omega)];simp only[cond_true,bind_some];cases((ee a j).Left==(ee a i).Result||(ee a j).b_==(ee a i).Result)<;>rfl
   simp only[o6,Ha];rw[fA ao,AK ao];simp only[cond_true,bind_some,Rw,l1];unfold AJ;by_cases aX:i=0
   .subst aX;rw[uq];simp only[cond_false,decide_true,Bool.true_or,Bool.and_true];cases jb (ee a 0).Left<;>cases jb (ee a 0).b_<;>cases jb (ee a 0).Result<;>cases(Op.bytesLess (ee a 0).Left (ee a 0).b_||(ee a 0).Left==(ee a 0).b_)<;>cases uC a (ee a 0)<;>rfl
   .rw[JU aX,Ax i (by omega) (by omega),AK (show i-1<a.length by omega)];have ai:decide (i=0)=false:=decide_eq_false aX;simp only[cond_true,bind_some,ai,Bool.false_or,ajj];cases jb (ee a i).Left<;>cases jb (ee a i).b_<;>cases jb (ee a i).Result<;>cases(Op.bytesLess (ee a i).Left (ee a i).b_||(ee a i).Left==(ee a i).b_)<;>cases uB (ee a (i-1)) (ee a i)<;>cases uC a (ee a i)<;>rfl
theorem ajp (a:amk) (h:D7 a):CL a=some (uD a):=by
 unfold CL uD;rw[uz (l:=λm i=>vQ a m i) (n:=a.length) (AJ a) (some (decide ((a.length:Int)<=6))) (some false)]
 .have e:decide ((a.length:Int)<=6)=decide (a.length<=6):=decide_eq_decide.2 (by omega);rw[e];cases fv (AJ a) a.length<;>cases decide (a.length<=6)<;>rfl
 .intro m;simp only[vQ,HO];rw[eJ (Nat.le_refl _)];rfl
 .intro i ao m;have hl:=h.1;obtain⟨s1,s2,n8⟩:=ajn h ao;simp only[vQ,HO];rw[fA ao,AK ao,fu i _ ao (by omega)];simp only[cond_true,bind_some,D6 _ s1,D6 _ s2,D6 _ n8,ajm a hl];unfold AJ;by_cases aX:i=0
  .subst aX;rw[uq];simp only[cond_false,decide_true,Bool.true_or,Bool.and_true];cases jb (ee a 0).Left<;>cases jb (ee a 0).b_<;>cases jb (ee a 0).Result<;>cases(Op.bytesLess (ee a 0).Left (ee a 0).b_||(ee a 0).Left==(ee a 0).b_)<;>cases uC a (ee a 0)<;>rfl
  .rw[JU aX,Ax i (by omega) (by omega),AK (show i-1<a.length by omega)];obtain⟨v,v1,v2⟩:=ajl (ee a (i-1)) (ee a i);have ai:decide (i=0)=false:=decide_eq_false aX;simp only[cond_true,bind_some,ai,Bool.false_or,v1,v2];cases jb (ee a i).Left<;>cases jb (ee a i).b_<;>cases jb (ee a i).Result<;>cases(Op.bytesLess (ee a i).Left (ee a i).b_||(ee a i).Left==(ee a i).b_)<;>cases uB (ee a (i-1)) (ee a i)<;>cases uC a (ee a i)<;>rfl
def uE (s:e1):Prop:=ow s.dU/\(s.cU.length<=1048576/\∀c∈s.cU,c.bL.length<=1048576)/\D7 s.gV/\
 (s.gP.length<=1048576/\∀x∈s.gP,x.length<=1048576)/\(s.gQ.length<=1048576/\∀x∈s.gQ,x.length<=1048576)
noncomputable def pB (s:e1):Int:=cond (!lj s.dU) 1 (cond (!sT s) 2 (cond (!uD s.gV) 3 (cond (!qI s.gP) 4 (cond (!qI s.gQ) 5 0))))
theorem ajq (s:e1) (h:uE s):Ci s=some (pB s):=by
 obtain⟨ab,ae,az,a6,bF⟩:=h;unfold Ci pB;rw[aja _ ab,ajg s ab.1 ae.1 ae.2,ajo _ az,Rx _ a6.1,Rx _ bF.1];simp only[bind_some];cases lj s.dU<;>cases sT s<;>cases uD s.gV<;>cases qI s.gP<;>cases qI s.gQ<;>rfl
theorem ajr (s:e1) (h:uE s):CM s=some (pB s):=by
 obtain⟨ab,ae,az,a6,bF⟩:=h;unfold CM jB pB sT;have nr:decide ((1:Int)<=(s.cU.length:Int))=decide (1<=s.cU.length):=decide_eq_decide.2 (by omega);have mI:decide ((s.cU.length:Int)<=3)=decide (s.cU.length<=3):=decide_eq_decide.2 (by omega);rw[ajc _ ab,aji s ab.1 ae.1 ae.2,ajp _ az,Ry _ a6.1 a6.2,Ry _ bF.1 bF.2];simp only[bind_some];rw[nr,mI];cases lj s.dU<;>cases(decide (1<=s.cU.length)&&decide (s.cU.length<=3))<;>cases fv (λi=>iB s.dU (ko s.cU i)) s.cU.length<;>
  cases uD s.gV<;>cases qI s.gP<;>cases qI s.gQ<;>rfl
theorem ajs {s:e1} (h:pz s<=1048576):uE s:=by
 unfold pz at h;refine⟨ai_ (by omega),⟨Nat.le_trans (hY kE _) (by omega),λc an=>?_⟩,⟨Nat.le_trans (hY kF _) (by omega),λm hm=>?_⟩,⟨Nat.le_trans (hY length _) (by omega),λx au=>?_⟩,⟨Nat.le_trans (hY length _) (by omega),λx au=>?_⟩⟩
 .have ab:kE c<=cu kE s.cU:=kl an;have ae:kE c<=1048576:=by omega
  clear ab;unfold kE at ae;omega
 .have ab:kF m<=cu kF s.gV:=kl hm;have ae:kF m<=1048576:=by omega
  clear ab;unfold kF at ae;omega
 .have ab:x.length<=cu length s.gP:=kl au;omega
 .have ab:x.length<=cu length s.gQ:=kl au;omega
theorem ajt (a:l4) (cg:yG a):
  ∃r,yO a 1048576=some r/\(decide (r<0)=false->sr a=some (qH a)/\zO (qH a) (qH a)=some true/\
   uE (qH a)/\r=1048576-(sS a:Nat)/\0<=r):=by
 refine⟨_,air a 1048576 cg (by omega) (by omega),λh=>?_⟩;by_cases ad:sS a<=1048576
 .have p9:pz (qH a)<=1048576:=by rw[Rl];exact ad
  exact⟨aiJ a ad,ai0 _ p9,ajs p9,Au (by omega),by rw[Au (by omega)];omega⟩
 .rw[Av (by omega)]at h;simp at h
theorem aju (s:e1) (h:uE s):Cj s=some (pB s==0):=by unfold Cj;rw[ajq s h];rfl
theorem ajv (s:e1) (h:uE s):CN s=some (pB s==0):=by unfold CN;rw[ajr s h];rfl
theorem ajw {s:e1} (h:(pB s==0)=true):lj s.dU=true:=by
 cases ai:lj s.dU
 .unfold pB at h;rw[ai]at h;simp at h
 .rfl
theorem RA {e:ami} (h:ow e) (aJ:lj e=true) {i j:Nat} (ao:i<e.length) (bm:j<e[i].Body.length):
  ss e[i] (j:Int)=some (nf e[i] j).scope/\∃ps,vN e[i]=some ps/\bl ps (j:Int)=some (nf e[i] j):=by
 obtain⟨_,_,ai⟩:=Rt h aJ;obtain⟨aq,ad,_⟩:=ai i ao;obtain⟨s1,s2,n8⟩:=Ke ad;have R:=(h.2 _ (getElem_mem ao)).2.1;obtain⟨gE,_,_,_,pP⟩:=Kf e[i] ad aq j bm;exact⟨gE,_,Q5 e[i] R s1 aq.1 (by omega),by unfold bl;rw[if_pos (by omega)];exact pP⟩
theorem RB (e:ami) (h:ow e) (aJ:lj e=true) (p:aT) (aq:p.bL.length<=1048576):∃b,su e p=some b/\zv e p=some b:=by
 unfold su zv kX;rw[D0 _ e.length h.1,eN ((e.length:Int)-1) (by have:=h.1;omega)];simp only[bind_some];cases ax:(decide (0<=p.b6)&&decide (p.b6<=(e.length:Int)-1))
 .exact⟨false,rfl,rfl⟩
 .simp only[Bool.and_eq_true,decide_eq_true_eq]at ax;obtain⟨i,Kk⟩:∃i:Nat,p.b6=i:=⟨p.b6.toNat,by omega⟩
  rw[Kk]at ax⊢;have ao:i<e.length:=by omega
  have R:=(h.2 _ (getElem_mem ao)).2.1;rw[e9 e i ao];simp only[Bool.not_true,cond_false,bind_some];rw[D0 _ e[i].Body.length R,eN ((e[i].Body.length:Int)-1) (by omega)];simp only[bind_some];cases b1:(decide (0<=p.Part)&&decide (p.Part<=(e[i].Body.length:Int)-1))
  .exact⟨false,rfl,rfl⟩
  .simp only[Bool.and_eq_true,decide_eq_true_eq]at b1;obtain⟨j,Kl⟩:∃j:Nat,p.Part=j:=⟨p.Part.toNat,by omega⟩
   rw[Kl]at b1⊢;have bm:j<e[i].Body.length:=by omega
   obtain⟨gE,ps,gD,iH⟩:=RA h aJ ao bm;rw[e9 e[i].Body j bm];simp only[Bool.not_true,cond_false,bind_some,gE,gD,iH,Ru _ aq,Rv _ aq];have cY:(e[i].Body[j].Kind !=5)= !(e[i].Body[j].Kind==5):=rfl;rw[cY];cases e[i].Body[j].Kind==5
   .simp only[Bool.not_false,cond_true,cond_false];cases((p.bL.length:Int)==(nf e[i] j).scope)
    .exact⟨_,rfl,rfl⟩
    .exact⟨_,rfl,rfl⟩
   .exact⟨_,rfl,rfl⟩
noncomputable def pC (e:ami) (p:aT):Bool:=(su e p).getD false
theorem RC (e:ami) (h:ow e) (aJ:lj e=true) (p:aT) (aq:p.bL.length<=1048576):su e p=some (pC e p)/\zv e p=some (pC e p):=by
 obtain⟨b,ab,ae⟩:=RB e h aJ p aq;have:pC e p=b:=by unfold pC;rw[ab];rfl
 rw[this];exact⟨ab,ae⟩
def oy (q:aml) (i:Nat):aT:=q.getD i ⟨0,0,[]⟩
noncomputable def Km (s:e1) (q:aml):Bool:=((q.length:Int)==(s.cU.length:Int))&&fv (λi=>pC s.dU (oy q i)) q.length
theorem RD {q:aml} (aJ:∀p∈q,p.bL.length<=1048576) {i:Nat} (ao:i<q.length):(oy q i).bL.length<=1048576:=by
 have:oy q i=q[i]:=by simp[oy,List.getD,ao]
 rw[this];exact aJ _ (getElem_mem ao)
theorem ajx (s:e1) (h:ow s.dU) (ai:lj s.dU=true) (q:aml) (b1:q.length<=1048576) (aJ:∀p∈q,p.bL.length<=1048576):Ck s q=some (Km s q):=by
 unfold Ck Km;have e:((q.length:Int) !=(s.cU.length:Int))= !((q.length:Int)==(s.cU.length:Int)):=rfl;rw[e];cases((q.length:Int)==(s.cU.length:Int))
 .rfl
 .rw[Bool.true_and,Bool.not_true,cond_false];refine Aw (l:=λm i=>vE s q m i) _ (λm=>?_) (λi ao m=>?_)
  .simp only[vE,Hc];rw[eJ (Nat.le_refl _)];rfl
  .simp only[vE,Hc];rw[fA ao,lO _ i ⟨0,0,[]⟩ ao,fu i _ ao (by omega)];show cond true (Option.bind (some (oy q i)) _) _=_;simp only[cond_true,bind_some,(RC _ h ai _ (RD aJ ao)).1];cases pC s.dU (oy q i)<;>rfl
theorem ajy (s:e1) (h:ow s.dU) (ai:lj s.dU=true) (q:aml) (b1:q.length<=1048576) (aJ:∀p∈q,p.bL.length<=1048576):
  CO q s=some (!(fv (λi=>pC s.dU (oy q i)) q.length)):=by
 unfold CO HS;rw[uo (n:=q.length) (λi=> !(pC s.dU (oy q i)))]
 .simp only[bind_some,um,Bool.not_not]
 .intro m;simp only[zw,HR];rw[eJ (Nat.le_refl _)];rfl
 .intro i ao m;simp only[zw,HR];rw[fA ao,lO _ i ⟨0,0,[]⟩ ao,fu i _ ao (by omega)];show cond true (Option.bind (some (oy q i)) _) _=_;simp only[cond_true,bind_some,HQ,(RC _ h ai _ (RD aJ ao)).2]
theorem ajz {s:e1} (h:(pB s==0)=true):sT s=true:=by
 unfold pB at h;cases ab:lj s.dU<;>cases ae:sT s<;>simp[ab,ae]at h⊢
theorem ajA (e:ami) (h:ow e) (aJ:lj e=true) (p:aT) (aq:p.bL.length<=1048576) (R:pC e p=true):p.bL.length<=29:=by
 have ad:su e p=some true:=by
  obtain⟨b,ab,_⟩:=RB e h aJ p aq;unfold pC at R;rw[ab]at R;rw[ab,show b=true from R]
 unfold su kX at ad;rw[eN ((e.length:Int)-1) (by have:=h.1;omega)]at ad;simp only[bind_some]at ad;cases ax:(decide (0<=p.b6)&&decide (p.b6<=(e.length:Int)-1))
 .rw[ax]at ad;cases ad
 .rw[ax]at ad;simp only[Bool.and_eq_true,decide_eq_true_eq]at ax;obtain⟨i,Kk⟩:∃i:Nat,p.b6=i:=⟨p.b6.toNat,by omega⟩
  rw[Kk]at ax ad;have ao:i<e.length:=by omega
  have xy:=(h.2 _ (getElem_mem ao)).2.1;rw[e9 e i ao]at ad;simp only[Bool.not_true,cond_false,bind_some]at ad;rw[eN ((e[i].Body.length:Int)-1) (by omega)]at ad;cases b1:(decide (0<=p.Part)&&decide (p.Part<=(e[i].Body.length:Int)-1))
  .rw[b1]at ad;cases ad
  .rw[b1]at ad;simp only[Bool.and_eq_true,decide_eq_true_eq]at b1;obtain⟨j,Kl⟩:∃j:Nat,p.Part=j:=⟨p.Part.toNat,by omega⟩
   rw[Kl]at b1 ad;have bm:j<e[i].Body.length:=by omega
   obtain⟨gE,_⟩:=RA h aJ ao bm;obtain⟨_,_,ai⟩:=Rt h aJ;obtain⟨ajB,dQ,_⟩:=ai i ao;obtain⟨_,_,h6,_⟩:=Kf e[i] dQ ajB j bm;rw[e9 e[i].Body j bm]at ad;simp only[Bool.not_true,cond_false,bind_some,gE]at ad;cases RE:(e[i].Body[j].Kind==5)
   .rw[RE]at ad;simp only[cond_false]at ad;cases hl:((p.bL.length:Int)==(nf e[i] j).scope)
    .rw[hl]at ad;cases ad
    .have:(p.bL.length:Int)=(nf e[i] j).scope:=by simpa using hl
     omega
   .rw[RE]at ad;cases ad
theorem ajC {n:Nat} (aS:n<=3) {y:aml} (ab:y.length=n) (ae:∀p∈y,p.bL.length<=29):cu gl y<=90:=by
 have key:∀l:aml,(∀p∈l,p.bL.length<=29)->fB gl l<=29*l.length:=by
  intro l;induction l with
  |nil=>intro _;simp[fB]
  |cons p l ih=>
   intro h;have g1:=h p (by simp);have g2:=ih λq b1=>h q (mem_cons_of_mem _ b1);simp only[fB,length_cons,gl];omega
 have:=key y ae;unfold cu;omega
theorem ajD {w:alZ} (hw:w.length<=6) (h:∀y∈w,cu gl y<=90):cu (cu gl) w<=1048576:=by
 have key:∀l:alZ,(∀y∈l,cu gl y<=90)->fB (cu gl) l<=90*l.length:=by
  intro l;induction l with
  |nil=>intro _;simp[fB]
  |cons p l ih=>
   intro h;have g1:=h p (by simp);have g2:=ih λq b1=>h q (mem_cons_of_mem _ b1);simp only[fB,length_cons];omega
 have:=key w h;show w.length+fB (cu gl) w<=1048576;omega
theorem ajE (s:e1) (h:uE s) (q:aml) (b1:cu gl q<=1048576) (aJ:∀p∈q,p.bL.length<=1048576):
  ∃r,Ct s q=some r/\zE s q=some r/\cu (cu gl) r.1<=1048576:=by
 have hl:q.length<=1048576:=Nat.le_trans (hY gl _) b1;have z:cu (cu gl) ([]:alZ)<=1048576:=by simp[cu,fB]
 unfold Ct zE HT;rw[aju _ h,ajv _ h];simp only[bind_some];cases bo:(pB s==0)
 .exact⟨([],1),rfl,rfl,z⟩
 .have ai:=ajw bo;rw[ajx s h.1 ai q hl aJ,ajy s h.1 ai q hl aJ];simp only[bind_some,cond_true,Bool.not_true,cond_false,Bool.not_not];unfold Km;cases ajF:((q.length:Int)==(s.cU.length:Int))
  .exact⟨([],1),rfl,rfl,z⟩
  .cases cg:fv (λi=>pC s.dU (oy q i)) q.length
   .exact⟨([],1),rfl,rfl,z⟩
   .have an:=ajz bo;simp only[sT,Bool.and_eq_true,decide_eq_true_eq]at an;have alL:(q.length:Int)=(s.cU.length:Int):=by simpa using ajF
    have ajG:∀p∈q,p.bL.length<=29:=λp aq=>by
     obtain⟨i,ao,rfl⟩:=mem_iff_getElem.1 aq;have:=(rD).1 cg i ao;have ajH:oy q i=q[i]:=by simp[oy,List.getD,ao]
     rw[ajH]at this;exact ajA s.dU h.1 ai _ (aJ _ aq) this
    obtain⟨w,aj,di,aZ,cZ⟩:=ahC q.length (by omega) (by omega) q ⟨rfl,aJ⟩;obtain⟨aF,g0,g1,g2,g3⟩:=ahD q.length (by omega) (by omega) q ⟨rfl,aJ⟩;have AE:aF=w:=by rw[aZ]at g2;exact(some.inj g2).symm
    subst AE;refine⟨(aF,0),?_,?_,ajD di λy bb=>?_⟩
    .simp only[Bool.and_self,Bool.not_true,cond_false,bind_some,aZ]
    .simp only[bind_some,cond_true,Bool.not_true,cond_false,cZ]
    .refine ajC (by omega) (aj y bb).1 λp aq=>?_;obtain⟨o,bE,rfl⟩:=g0 y bb;unfold km at aq;obtain⟨x,au,rfl⟩:=mem_map.1 aq;have az:=((AD q.length (by omega)) o bE).2 x au;simp only[pq,Bool.and_eq_true,decide_eq_true_eq]at az;have dv:x.toNat<q.length:=by omega
     rw[getD_eq_getElem?_getD,getElem?_eq_getElem dv];exact ajG _ (getElem_mem dv)
theorem agL (a:l4) (q:amf) (cg:yG a) (b1:q.length<=9223372036854775807/\∀y∈q,vr y):Iv a q=some true:=by
 unfold Iv;obtain⟨r,ab,ae⟩:=ajt a cg;rw[ab];simp only[bind_some];cases aM:decide (r<0)
 .obtain⟨az,a6,bF,cP,cB⟩:=ae aM;have ajI:pz (qH a)<=1048576:=by rw[Rl];omega
  rw[ait q r b1 cB (by omega)];simp only[cond_false,bind_some];by_cases ad:((cu nP q:Nat):Int)<=r
  .rw[Au ad];have dv:decide (r-((cu nP q:Nat):Int)<0)=false:=decide_eq_false (by omega);have p9:cu nP q<=1048576:=by omega
   have yo:cu gl (q.map rL)<=1048576:=by
    rw[uj];simp only[aiK];exact p9
   have aJ:∀p∈q.map rL,p.bL.length<=1048576:=λp aq=>by
    have fS:gl p<=cu gl (q.map rL):=kl aq;have iE:gl p<=1048576:=by omega
    clear fS;unfold gl at iE;omega
   rw[dv,az,aiM q p9];simp only[cond_false,bind_some];generalize qH a=e at a6 bF ajI;generalize q.map rL=p at yo aJ;obtain⟨x,jO,hz,jQ⟩:=ajE e bF p yo aJ;obtain⟨fg,eo,gu,kx,po,c,c1,m1⟩:=ai7 e 1 (by omega) (by omega);obtain⟨cE,d,d1,m2,_⟩:=Rr p (1+(c:Int)) (by omega) (by omega);obtain⟨cp,g,g1,m4,m5⟩:=ai9 x.1 1 (by omega) (by omega);simp only[jO,hz,bind_some,aiO x.1 jQ,Rn p yo,a6,m1,m2,m4,m5,Bool.not_true,bne_self_eq_false,Bool.or_self,cond_false,D3 (k:=1+(c:Int)+(d:Int)) (by omega),D3 (k:=1+(g:Int)) (by omega)]
  .rw[Av (by omega)];rfl
 .rfl
end Go.l3
