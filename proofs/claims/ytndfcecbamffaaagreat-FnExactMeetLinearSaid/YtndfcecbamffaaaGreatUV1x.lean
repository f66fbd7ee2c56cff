/- Part of a proof that a law returns true for every input. No condition. -/
import Derived.Test.YtndfcecbamffaaaGreatUV0x
namespace Go.ob
open Option Go.IntKind Nat Or
open Go Go.dD
section
variable {α β:Type}
theorem aeK {l:Nat->Int->Option β} (a:List α) (F:List α->Option β) (bA:∀m,l (m+1) (a.length:Int)=F [])
  (ae:∀i (h:i<a.length) m,l m ((i+1:Nat):Int)=F (a.drop (i+1))->l (m+1) (i:Int)=F (a[i]::a.drop (i+1))):cm (λm=>l m 0)=F a:=by
 rw[tE (n:=a.length) (λi=>F (a.drop i))]
 .simp
 .intro m;rw[bA,List.drop_of_length_le (Nat.le_refl _)]
 .intro i aq m ih;rw[drop_cons a i aq];exact ae i aq m ih
theorem Js {l:Nat->Int->ahD} (a:List α) (p:α->Bool) (bA:∀m,l (m+1) (a.length:Int)=some true)
  (ae:∀i (h:i<a.length) m,l (m+1) (i:Int)=cond (p a[i]) (l m ((i+1:Nat):Int)) (some false)):cm (λm=>l m 0)=some (a.all p):=by
 refine aeK a (λr=>some (r.all p)) bA λi h m ih=>?_;rw[ae i h m,ih,List.all_cons];cases p a[i]<;>rfl
def tJ (p:α->Bool):Nat->List α->Int
 |_,[]=> -1
 |i,x::r=>if p x=true then(i:Int)else tJ p (i+1) r
theorem DB (p:α->Bool):∀(r:List α) (i:Nat),decide (0<=tJ p i r)=r.any p
 |[],i=>by simp[tJ]
 |x::r,i=>by
  simp only[tJ,List.any_cons];by_cases h:p x=true
  .simp[h]
  .have e:p x=false:=by simpa using h
   simp[e,DB p r (i+1)]
theorem aeL {l:Nat->Int->ahE} (a:List α) (p:α->Bool) (bA:∀m,l (m+1) (a.length:Int)=some (-1))
  (ae:∀i (h:i<a.length) m,l (m+1) (i:Int)=cond (p a[i]) (some (i:Int)) (l m ((i+1:Nat):Int))):cm (λm=>l m 0)=some (tJ p 0 a):=by
 have key:∀i,i<=a.length->∀m,a.length-i<m->l m (i:Int)=some (tJ p i (a.drop i)):=by
  refine down a.length ?_ ?_
  .intro m hm;obtain⟨m,rfl⟩:∃az,m=az+1:=⟨m-1,by omega⟩
   rw[bA,List.drop_of_length_le (Nat.le_refl _)];rfl
  .intro i aq ih m hm;obtain⟨m,rfl⟩:∃az,m=az+1:=⟨m-1,by omega⟩
   rw[ae i aq m,ih m (by omega),drop_cons a i aq];simp only[tJ];cases p a[i]<;>rfl
 refine hT (a.length+1) λm hm=>?_;have:=key 0 (by omega) m (by omega);simpa using this
theorem Jt {l:Nat->Int->ahE} {f:α->ahD} (a:List α) (p:α->Bool)
  (mK:∀m i,l (m+1) i=cond (decide (i<(a.length:Int))) ((bZ a i).bind λx=>(f x).bind λy=>cond y (some i) (l m (i64.wrap (i+1)))) (some (-1)))
  (bS:∀x∈a,f x=some (p x)) (bY:a.length<=1099511627776):cm (λm=>l m 0)=some (tJ p 0 a):=by
 refine aeL a p (λm=>by rw[mK,dY (Nat.le_refl _)];rfl) λi h m=>?_;rw[mK,eP h,fD _ i h,eW i _ h (by omega)];simp only[cond_true,bind_some,bS _ (List.getElem_mem h)]
theorem Ju (a:List α) (p:α->Bool):(a.any λx=> !p x)= !(a.all p):=by
 induction a with
 |nil=>rfl
 |cons x r ih=>simp only[List.any_cons,List.all_cons,ih];cases p x<;>simp
end
def qq (p:Int) (s:ahB):Int:=s.foldl (λp n=>i64.wrap (p*i64.wrap (n+1))) p
def vy (v:Int):Bool:=decide (v<=4096)
def oA (s:ahB):Bool:=decide (s.length<=8)&&(s.all (λn=>iX n 1 7)&&vy (qq 1 s))
def tK:ahz:=[116,97,117]
def jF (s:ahz):Bool:=tI s&& !(s==tK)
def ni (es:ahK) (v:Int):Bool:=es.all λe=>kL e v 60
def jn (x:aN) (p:Int):Bool:=
 oA x.a5&&(kL x.Guard (p+x.a5.length) 60&&((x.Next.length:Int)==p&&((if x.Name=tK then decide (x.aW.length=0)else jF x.Name&&decide (x.aW.length<=2))&&
  (ni x.aW (p+x.a5.length)&&ni x.Next (p+x.a5.length)))))
def tL (s:ahB) (p:Int):Bool:=(s.length:Int)==p&&s.all (λn=>iX n 0 63)
def jo (l:a8):Bool:=iX l.aE 0 21&&(tL l.Start l.aE&&(decide (l.aU.length<=60)&&l.aU.all λx=>jn x l.aE))
theorem QA (p:Int):qq p []=p:=rfl
theorem QB (p n:Int) (s:ahB):qq p (n::s)=qq (i64.wrap (p*i64.wrap (n+1))) s:=rfl
theorem AF (n e5 aq:Int):(decide (e5<=n)&&decide (n<=aq))=iX n e5 aq:=rfl
theorem QC:∀(s:ahB) (p:Int),s.all (λn=>iX n 1 7)=true->1<=p->p*8^s.length<=1099511627776->1<=qq p s
 |[],p,_,h,_=>h
 |n::s,p,bY,h,U=>by
  simp only[List.all_cons,Bool.and_eq_true,iX,decide_eq_true_eq]at bY;obtain⟨⟨af,ag⟩,aJ⟩:=bY;have a1:i64.wrap (n+1)=n+1:=gg _ (by omega);have aeM:(1:Int)<=8^s.length:=by
   have:(0:Int)<8^s.length:=Int.pow_pos (by decide);omega
  have aeN:p*8*8^s.length<=1099511627776:=by
   have:p*8*8^s.length=p*8^(n::s).length:=by rw[List.length_cons,Int.pow_succ,Int.mul_assoc,Int.mul_comm 8]
   rw[this];exact U
  have hle:p*(n+1)<=p*8:=Int.mul_le_mul_of_nonneg_left (by omega) (by omega);have ahw:p*8*1<=p*8*8^s.length:=Int.mul_le_mul_of_nonneg_left aeM (by omega);have vM:p*1<=p*(n+1):=Int.mul_le_mul_of_nonneg_left (by omega) (by omega);have bc:i64.wrap (p*(n+1))=p*(n+1):=gg _ (by omega);simp only[qq,List.foldl_cons,a1,bc];refine QC s (p*(n+1)) (by simpa [iX]using aJ) (by omega) ?_;exact Int.le_trans (Int.mul_le_mul_of_nonneg_right hle (by omega)) aeN
def DC (v:Int) (s:ahB):Int:=cond (s.all λn=>iX n 1 7) (cond (vy (qq v s)) (qq v s) 0) 0
theorem aeO (v:Int):decide (4096<v)= !vy v:=by
 unfold vy;by_cases h:v<=4096
 .have:¬4096<v:=by omega
  simp[h,this]
 .have:4096<v:=by omega
  simp[h,this]
theorem aeP (s:ahB) (h:s.length<=1048576):∃n,B9 s=some n/\(n==0)= !oA s:=by
 unfold B9;by_cases e3:s.length<=8
 .have d:decide ((8:Int)<(s.length:Int))=false:=by simp only[decide_eq_false_iff_not];omega
  rw[d,cond_false];have key:∀i,i<=s.length->∀(v:Int) m,s.length-i<m->wP s m v (i:Int)=some (DC v (s.drop i)):=by
   refine down s.length ?_ ?_
   .intro v m hm;obtain⟨m,rfl⟩:∃az,m=az+1:=⟨m-1,by omega⟩
    simp only[wP,GL];rw[dY (Nat.le_refl _),List.drop_of_length_le (Nat.le_refl _),aeO];simp only[DC,List.all_nil,cond_true,cond_false,QA];cases vy v<;>rfl
   .intro i aq ih v m hm;obtain⟨m,rfl⟩:∃az,m=az+1:=⟨m-1,by omega⟩
    simp only[wP,GL,p9];rw[eP aq,fD _ i aq,eW i _ aq (by omega),drop_cons s i aq];simp only[cond_true,bind_some];rw[ih _ m (by omega)];simp only[AF,DC,List.all_cons,QB];cases iX s[i] 1 7
    .rfl
    .rfl
  refine⟨_,hT (s.length+1) λm hm=>by have:=key 0 (by omega) 1 m (by omega);simpa using this,?_⟩;unfold oA DC;have d8:decide (s.length<=8)=true:=by simpa using e3
  rw[d8,Bool.true_and];cases bY:s.all (λn=>iX n 1 7)
  .rfl
  .have aw:=QC s 1 bY (by omega) (by
    have:∀k:Nat,k<=8->(8:Int)^k<=16777216:=by decide
    have:=this s.length e3;omega)
   cases hw:vy (qq 1 s)
   .rfl
   .have:(qq 1 s==0)=false:=by simp;omega
    simpa using this
 .have d:decide ((8:Int)<(s.length:Int))=true:=by simp only[decide_eq_true_eq];omega
  rw[d,cond_true];refine⟨0,rfl,?_⟩;unfold oA;have d8:decide (s.length<=8)=false:=by simpa using e3
  rw[d8];rfl
theorem aeQ (x:aN) (h:x.a5.length<=1048576):Cp x=some (oA x.a5):=by
 unfold Cp;have key:∀i,i<=x.a5.length->∀(v:Int) m,x.a5.length-i<m->w7 x m v (i:Int)=some ((x.a5.drop i).all (λn=>iX n 1 7)&&(decide (x.a5.length<=8)&&vy (qq v (x.a5.drop i)))):=by
  refine down x.a5.length ?_ ?_
  .intro v m hm;obtain⟨m,rfl⟩:∃az,m=az+1:=⟨m-1,by omega⟩
   simp only[w7,He];rw[dY (Nat.le_refl _),List.drop_of_length_le (Nat.le_refl _)];have:decide ((x.a5.length:Int)<=8)=decide (x.a5.length<=8):=by
    by_cases h:x.a5.length<=8
    .have bO:(x.a5.length:Int)<=8:=by omega
     simp[h,bO]
    .have bO:¬(x.a5.length:Int)<=8:=by omega
     simp[h,bO]
   rw[this];simp only[cond_false,List.all_nil,Bool.true_and,QA];rfl
  .intro i aq ih v m hm;obtain⟨m,rfl⟩:∃az,m=az+1:=⟨m-1,by omega⟩
   simp only[w7,He,og];rw[eP aq,fD _ i aq,eW i _ aq (by omega),drop_cons x.a5 i aq];simp only[cond_true,bind_some,List.all_cons];rw[ih _ m (by omega)];simp only[AF,QB];cases iX x.a5[i] 1 7<;>simp
 refine hT (x.a5.length+1) λm hm=>?_;have:=key 0 (by omega) 1 m (by omega);rw[List.drop_zero]at this;refine this.trans ?_;unfold oA;cases x.a5.all (λn=>iX n 1 7)<;>simp
theorem QD (es:ahK) (v:Int) (aP: -1000000<=v/\v<=1000000) (h:es.length<=1048576) (he:∀e∈es,e.length<=1048576):uX es v=some (ni es v):=by
 unfold uX ni;refine Js es (λe=>kL e v 60) (λm=>?_) λi aq m=>?_
 .simp only[zz,GO];rw[dY (Nat.le_refl _)];rfl
 .simp only[zz,GO];rw[eP aq,fD _ i aq,eW i _ aq (by omega)];simp only[cond_true,bind_some,Qz _ v 60 aP (he _ (List.getElem_mem aq))];cases kL es[i] v 60<;>rfl
theorem QE (s:ahz):tf s=some (jF s):=by
 unfold tf;rw[aeI];rfl
theorem QF (s:ahz) (ae:s.length<=140737488355328):r4 s=some (jF s):=by
 unfold r4;rw[aeJ s ae];rfl
def pn (e:ahK):Prop:=e.length<=1048576/\∀t∈e,t.length<=1048576
def k7 (x:aN):Prop:=x.a5.length<=1048576/\x.Guard.length<=1048576/\x.Name.length<=1048576/\pn x.aW/\pn x.Next
def kh (l:a8):Prop:=l.Start.length<=1048576/\l.aU.length<=1048576/\∀x∈l.aU,k7 x
theorem QG {s:ahz} (h:s=tK):(s==([116,97,117]:ahz))=true:=by subst h;rfl
theorem QH {s:ahz} (h:s≠tK):(s==([116,97,117]:ahz))=false:=by simpa [tK]using h
theorem aeR (x:aN) (p:Int) (aw:0<=p/\p<=21) (aA:k7 x):Cb x p=some (jn x p):=by
 obtain⟨af,ag,aJ,a_,bC⟩:=aA;unfold Cb jn;obtain⟨n,a1,bc⟩:=aeP x.a5 af;rw[a1];simp only[bind_some,bc];cases ae:oA x.a5
 .rfl
 .have e3:x.a5.length<=8:=by simp only[oA,Bool.and_eq_true,decide_eq_true_eq]at ae;exact ae.1
  have hw:i64.wrap (p+(x.a5.length:Int))=p+(x.a5.length:Int):=gg (p+(x.a5.length:Int)) ⟨by omega,by omega⟩;simp only[hw,Qz x.Guard (p+(x.a5.length:Int)) 60 (by omega) ag,QD x.aW (p+(x.a5.length:Int)) (by omega) a_.1 a_.2,QD x.Next (p+(x.a5.length:Int)) (by omega) bC.1 bC.2,QE,bind_some,Bool.not_true,cond_false,Bool.true_and];cases kL x.Guard (p+(x.a5.length:Int)) 60
  .rfl
  .cases ba:(x.Next.length:Int)==p
   .have:((x.Next.length:Int) !=p)=true:=by simp only[bne,ba];rfl
    rw[this];rfl
   .have:((x.Next.length:Int) !=p)=false:=by simp only[bne,ba];rfl
    rw[this];simp only[Bool.not_true,Bool.or_self,cond_false,Bool.true_and];by_cases aZ:x.Name=tK
    .rw[QG aZ,if_pos aZ];simp only[cond_true,Bool.not_true,cond_false];by_cases bY:x.aW.length=0
     .have d1:decide ((0:Int)<(x.aW.length:Int))=false:=by simp only[decide_eq_false_iff_not];omega
      have d2:decide ((2:Int)<(x.aW.length:Int))=false:=by simp only[decide_eq_false_iff_not];omega
      have d3:decide (x.aW.length=0)=true:=by simpa using bY
      rw[d1,d2,d3];cases ni x.aW (p+(x.a5.length:Int))<;>cases ni x.Next (p+(x.a5.length:Int))<;>rfl
     .have d1:decide ((0:Int)<(x.aW.length:Int))=true:=by simp only[decide_eq_true_eq];omega
      have d3:decide (x.aW.length=0)=false:=by simpa using bY
      rw[d1,d3];rfl
    .rw[QH aZ,if_neg aZ];simp only[Bool.not_false,cond_true,cond_false];cases jF x.Name
     .rfl
     .by_cases bY:x.aW.length<=2
      .have d2:decide ((2:Int)<(x.aW.length:Int))=false:=by simp only[decide_eq_false_iff_not];omega
       have d3:decide (x.aW.length<=2)=true:=by simpa using bY
       rw[d2,d3];cases ni x.aW (p+(x.a5.length:Int))<;>cases ni x.Next (p+(x.a5.length:Int))<;>rfl
      .have d2:decide ((2:Int)<(x.aW.length:Int))=true:=by simp only[decide_eq_true_eq];omega
       have d3:decide (x.aW.length<=2)=false:=by simpa using bY
       rw[d2,d3];rfl
theorem aeS (s:ahB) (p:Int) (h:s.length<=1048576):B8 s p=some (tL s p):=by
 unfold B8 tL;have e:B7 s=some (s.all λn=>iX n 0 63):=by
  unfold B7;refine Js s (λn=>iX n 0 63) (λm=>?_) λi aq m=>?_
  .simp only[zx,GK];rw[dY (Nat.le_refl _)];rfl
  .simp only[zx,GK,p9];rw[eP aq,fD _ i aq,eW i _ aq (by omega)];simp only[cond_true,bind_some,AF];cases iX s[i] 0 63<;>rfl
 rw[e];cases(s.length:Int)==p<;>rfl
theorem DD (l:a8) (h:kh l):uY l=some (jo l):=by
 unfold uY jo p9;simp only[bind_some,AF];rw[aeS _ _ h.1];simp only[bind_some];cases aw:iX l.aE 0 21
 .rfl
 .cases tL l.Start l.aE
  .rfl
  .simp only[Bool.not_true,cond_false,Bool.false_or,Bool.true_and];have dT:0<=l.aE/\l.aE<=21:=by simpa [iX]using aw
   by_cases AG:l.aU.length<=60
   .have d1:decide ((60:Int)<(l.aU.length:Int))=false:=by simp only[decide_eq_false_iff_not];omega
    have d2:decide (l.aU.length<=60)=true:=by simpa using AG
    rw[d1,d2,cond_false,Bool.true_and];refine Js l.aU (λx=>jn x l.aE) (λm=>?_) λi aq m=>?_
    .simp only[zC,GR];rw[dY (Nat.le_refl _)];rfl
    .simp only[zC,GR];rw[eP aq,fD _ i aq,eW i _ aq (by omega)];simp only[cond_true,bind_some,aeR _ _ dT (h.2.2 _ (List.getElem_mem aq))];cases jn l.aU[i] l.aE<;>rfl
   .have d1:decide ((60:Int)<(l.aU.length:Int))=true:=by simp only[decide_eq_true_eq];omega
    have d2:decide (l.aU.length<=60)=false:=by simpa using AG
    rw[d1,d2];rfl
def fE {α:Type} (ls:List (List α)):Nat:=eX List.length ls
theorem QI (n:Int) (bA:0<=n) (h:n<=1099511627776):zG n=some ():=by
 unfold zG Hg Cs;have fV:i64.wrap 0=0:=gg 0 (by omega);have a1:i64.wrap (n-0)=n:=by rw[gg (n-0) (by omega)];omega
 have d:decide (n<0)=false:=by simp only[decide_eq_false_iff_not];omega
 rw[d,fV,a1,show lv 24 n=some () by unfold lv;rw[if_pos ⟨by omega,by omega,by omega⟩]];cases decide (0<n)<;>rfl
theorem aeT (ls:List ahK) (h:ls.length<=1048576) (ae:fE ls<=1099511627776):Ct ls=some ls.flatten:=by
 have m9:cm (λn=>u4 ls n [] 0)=some ls.flatten:=by
  have key:∀i,i<=ls.length->∀(v:ahK) m,v.length+fE (ls.drop i)<=1099511627776->ls.length-i<m->u4 ls m v (i:Int)=some (v++(ls.drop i).flatten):=by
   refine down ls.length ?_ ?_
   .intro v m _ hm;obtain⟨m,rfl⟩:∃az,m=az+1:=⟨m-1,by omega⟩
    simp only[u4,Hi];rw[dY (Nat.le_refl _),List.drop_of_length_le (Nat.le_refl _)];simp
   .intro i aq ih v m aP hm;obtain⟨m,rfl⟩:∃az,m=az+1:=⟨m-1,by omega⟩
    rw[drop_cons ls i aq]at aP⊢;simp only[fE,eX]at aP;simp only[u4,Hi];rw[eP aq,fD _ i aq,eW i _ aq (by omega)];simp only[cond_true,bind_some];rw[gl (by omega) (by omega)];simp only[bind_some];rw[ih _ m (by simp only[List.length_append,fE];omega) (by omega)];simp only[List.flatten_cons,List.append_assoc]
  refine hT (ls.length+1) λm hm=>?_;have:=key 0 (by omega) [] m (by simpa using ae) (by omega);simpa using this
 unfold Ct;have key:∀i,i<=ls.length->∀(v:Int) m,0<=v->v+fE (ls.drop i)<=1099511627776->ls.length-i<m->u5 ls m v (i:Int)=some ls.flatten:=by
  refine down ls.length ?_ ?_
  .intro v m bA aP hm;obtain⟨m,rfl⟩:∃az,m=az+1:=⟨m-1,by omega⟩
   simp only[u5,Hj];rw[dY (Nat.le_refl _),QI v bA (by omega)];simp only[cond_false,bind_some];exact m9
  .intro i aq ih v m bA aP hm;obtain⟨m,rfl⟩:∃az,m=az+1:=⟨m-1,by omega⟩
   rw[drop_cons ls i aq]at aP;simp only[fE,eX]at aP;simp only[u5,Hj,Hh];rw[eP aq,fD _ i aq,eW i _ aq (by omega)];simp only[cond_true,bind_some];have e:i64.wrap (v+(ls[i].length:Int))=v+(ls[i].length:Int):=gg (v+(ls[i].length:Int)) ⟨by omega,by omega⟩;have d:decide (v+(ls[i].length:Int)<0)=false:=by simp only[decide_eq_false_iff_not];omega
   rw[e,d,cond_false];exact ih _ m (by omega) (by simp only[fE];omega) (by omega)
 refine hT (ls.length+1) λm hm=>?_;exact key 0 (by omega) 0 m (by omega) (by rw[List.drop_zero];omega) (by omega)
theorem aeU (x:aN) (aA:k7 x):w8 x=some (x.Guard::(x.aW++x.Next)):=by
 unfold w8;have a_:=aA.2.2.2.1.1;have bC:=aA.2.2.2.2.1;rw[aeT _ (by simp) (by simp only[fE,eX,List.length_cons,List.length_nil];omega)];simp
theorem aeV (x:aN) (p:Int) (aw:0<=p/\p<=21) (e3:x.a5.length<=8) (es:ahK) (h:es.length<=1099511627776) (he:∀e∈es,e.length<=1048576):
  u6 es p x=some (!ni es (p+x.a5.length)):=by
 unfold u6 Hm;rw[Jt (f:=λe=>Cw e p x) es (λe=> !kL e (p+x.a5.length) 60) (λm i=>by simp only[Cx,N6]) (λe hm=>by
  unfold Cw;have hw:i64.wrap (p+(x.a5.length:Int))=p+(x.a5.length:Int):=gg (p+(x.a5.length:Int)) ⟨by omega,by omega⟩;rw[hw,aeH e _ 60 (by omega) (by omega) (he e hm)];rfl) h]
 simp only[bind_some,DB,Ju];rfl
theorem aeW (x:aN) (p:Int) (aw:0<=p/\p<=21) (aA:k7 x):Cy x p=some (jn x p):=by
 have sF:=aA;obtain⟨af,ag,aJ,a_,bC⟩:=aA;unfold Cy jn;rw[aeQ x af];simp only[bind_some];cases ae:oA x.a5
 .rfl
 .have e3:x.a5.length<=8:=by simp only[oA,Bool.and_eq_true,decide_eq_true_eq]at ae;exact ae.1
  have Fe:u6 (x.Guard::(x.aW++x.Next)) p x=some (!(kL x.Guard (p+x.a5.length) 60&&(ni x.aW (p+x.a5.length)&&ni x.Next (p+x.a5.length)))):=by
   have zl:=a_.1;have ahx:=bC.1;rw[aeV x p aw e3 _ (by simp only[List.length_cons,List.length_append];omega) (λe he=>by
    rcases List.mem_cons.1 he with rfl|he
    .exact ag
    .rcases List.mem_append.1 he with he|he
     .exact a_.2 e he
     .exact bC.2 e he)]
   simp only[ni,List.all_cons,List.all_append]
  rw[aeU x sF,QF _ (by omega)];simp only[bind_some,Fe,Bool.not_true,Bool.false_or,Bool.true_and,Bool.not_not];cases ba:(x.Next.length:Int)==p
  .have:((x.Next.length:Int) !=p)=true:=by simp only[bne,ba];rfl
   rw[this];cases kL x.Guard (p+(x.a5.length:Int)) 60<;>rfl
  .have:((x.Next.length:Int) !=p)=false:=by simp only[bne,ba];rfl
   rw[this];simp only[cond_false,Bool.true_and];by_cases aZ:x.Name=tK
   .rw[QG aZ,if_pos aZ];simp only[cond_true,Bool.not_true,cond_false];by_cases bY:x.aW.length=0
    .have d1:decide ((0:Int)<(x.aW.length:Int))=false:=by simp only[decide_eq_false_iff_not];omega
     have d3:decide (x.aW.length=0)=true:=by simpa using bY
     rw[d1,d3];simp
    .have d1:decide ((0:Int)<(x.aW.length:Int))=true:=by simp only[decide_eq_true_eq];omega
     have d3:decide (x.aW.length=0)=false:=by simpa using bY
     rw[d1,d3];cases kL x.Guard (p+(x.a5.length:Int)) 60<;>rfl
   .rw[QH aZ,if_neg aZ];simp only[Bool.not_false,cond_true,cond_false];by_cases bY:x.aW.length<=2
    .have d2:decide ((2:Int)<(x.aW.length:Int))=false:=by simp only[decide_eq_false_iff_not];omega
     have d3:decide (x.aW.length<=2)=true:=by simpa using bY
     rw[d2,d3];cases decide ((0:Int)<(x.aW.length:Int))<;>cases jF x.Name<;>cases kL x.Guard (p+(x.a5.length:Int)) 60<;>simp
    .have d1:decide ((0:Int)<(x.aW.length:Int))=true:=by simp only[decide_eq_true_eq];omega
     have d2:decide ((2:Int)<(x.aW.length:Int))=true:=by simp only[decide_eq_true_eq];omega
     have d3:decide (x.aW.length<=2)=false:=by simpa using bY
     rw[d1,d2,d3];cases jF x.Name<;>cases kL x.Guard (p+(x.a5.length:Int)) 60<;>rfl
theorem aeX (l:a8) (s:ahB) (h:s.length<=1048576):Co l s=some (tL s l.aE):=by
 unfold Co Hd Hc Hb;rw[Jt (f:=Ha) s (λn=> !iX n 0 63) (λm i=>by simp only[Cn,N5]) (λn _=>rfl) (by omega)];simp only[bind_some,DB,Ju,Bool.not_not];unfold tL;cases(s.length:Int)==l.aE<;>rfl
theorem DE (l:a8) (h:kh l):w_ l=some (jo l):=by
 unfold w_ jo og;simp only[bind_some,AF];rw[aeX _ _ h.1];simp only[bind_some];cases aw:iX l.aE 0 21
 .rfl
 .cases tL l.Start l.aE
  .rfl
  .simp only[Bool.not_true,cond_false,Bool.false_or,Bool.true_and];have dT:0<=l.aE/\l.aE<=21:=by simpa [iX]using aw
   by_cases AG:l.aU.length<=60
   .have d1:decide ((60:Int)<(l.aU.length:Int))=false:=by simp only[decide_eq_false_iff_not];omega
    have d2:decide (l.aU.length<=60)=true:=by simpa using AG
    rw[d1,d2,cond_false,Bool.true_and];unfold Ho Hn;rw[Jt (f:=λx=>Cz x l) l.aU (λx=> !jn x l.aE) (λm i=>by simp only[CA,N7]) (λx aA=>by
     unfold Cz;rw[aeW x _ dT (h.2.2 x aA)];rfl) (by omega)]
    simp only[bind_some,DB,Ju,Bool.not_not]
   .have d1:decide ((60:Int)<(l.aU.length:Int))=true:=by simp only[decide_eq_true_eq];omega
    have d2:decide (l.aU.length<=60)=false:=by simpa using AG
    rw[d1,d2];rfl
theorem QJ (es:ahK) (h:gb (λx:List ar=>x.length+0) es<=1048576):pn es:=
 ⟨Nat.le_trans (pj _ _) h,λt aZ=>by
  have:=sj (f:=λx:List ar=>x.length+0) aZ;simp only[Nat.add_zero]at this h;omega⟩
theorem QK (l:a8) (h:mL l<=1048576):kh l:=by
 unfold mL at h;have ae:gb ku l.aU<=1048576:=by omega
 refine⟨by omega,Nat.le_trans (pj _ _) ae,λx aA=>?_⟩;have hm:=sj (f:=ku) aA;have xU:ku x<=1048576:=by omega
 unfold ku at xU;exact⟨by omega,by omega,by omega,QJ _ (by omega),QJ _ (by omega)⟩
theorem k8 {α γ β:Type} {L:Nat->List γ->Int->Option β} (a:List α) (g:α->γ) (b:Nat) (E:List γ->Option β)
  (bA:∀m v,v.length<=b+a.length->L (m+1) v (a.length:Int)=E v)
  (ae:∀i (h:i<a.length) m v,v.length<=b+i->L (m+1) v (i:Int)=L m (v++[g a[i]]) ((i+1:Nat):Int)) (s:List γ) (U:s.length<=b):
  cm (λm=>L m s 0)=E (s++a.map g):=by
 have key:∀i,i<=a.length->∀v m,v.length<=b+i->a.length-i<m->L m v (i:Int)=E (v++(a.drop i).map g):=by
  refine down a.length ?_ ?_
  .intro v m aP hm;obtain⟨m,rfl⟩:∃az,m=az+1:=⟨m-1,by omega⟩
   rw[bA m v aP,List.drop_of_length_le (Nat.le_refl _)];simp
  .intro i aq ih v m aP hm;obtain⟨m,rfl⟩:∃az,m=az+1:=⟨m-1,by omega⟩
   rw[ae i aq m v aP,ih _ m (by simp only[List.length_append,List.length_cons,List.length_nil];omega) (by omega),drop_cons a i aq];simp only[List.map_cons,List.append_assoc,List.cons_append,List.nil_append]
 refine hT (a.length+1) λm hm=>?_;have:=key 0 (by omega) s m (by omega) (by omega);simpa using this
def setRow {α:Type} (a:List α) (g:α->α) (i:Nat):List α:=(a.take i).map g++a.drop i
theorem Jv {α:Type} (a:List α) (g:α->α) (i:Nat):(setRow a g i).length=a.length:=by
 simp only[setRow,List.length_append,List.length_map,List.length_take,List.length_drop];omega
theorem aeY {α:Type} (a:List α) (g:α->α) (i:Nat) (h:i<a.length):bZ (setRow a g i) (i:Int)=some a[i]:=by
 rw[fD _ i (by rw[Jv];exact h)];congr 1;simp only[setRow];rw[List.getElem_append_right (by simp;omega)];simp[Nat.min_eq_left (Nat.le_of_lt h)]
theorem aeZ {α:Type} (a:List α) (g:α->α) (i:Nat) (h:i<a.length):(setRow a g i).set i (g a[i])=setRow a g (i+1):=by
 have e:((a.take i).map g).length=i:=by simp;omega
 simp only[setRow];rw[List.set_append_right i _ (by rw[e];omega),e,Nat.sub_self,drop_cons a i h,List.set_cons_zero,List.take_succ_eq_append_getElem h,List.map_append];simp
theorem ae0 {α:Type} (a:List α) (g:α->α):setRow a g 0=a:=by simp[setRow]
theorem ae1 {α:Type} (a:List α) (g:α->α):setRow a g a.length=a.map g:=by simp[setRow]
theorem Jw {α β:Type} {L:Nat->List α->Int->Option β} (a:List α) (g:α->α) (E:List α->Option β)
  (bA:∀m v,v.length=a.length->L (m+1) v (a.length:Int)=E v)
  (ae:∀i (h:i<a.length) m v,v.length=a.length->bZ v (i:Int)=some a[i]->L (m+1) v (i:Int)=L m (v.set i (g a[i])) ((i+1:Nat):Int)):
  cm (λm=>L m a 0)=E (a.map g):=by
 have key:∀i,i<=a.length->∀m,a.length-i<m->L m (setRow a g i) (i:Int)=E (a.map g):=by
  refine down a.length ?_ ?_
  .intro m hm;obtain⟨m,rfl⟩:∃az,m=az+1:=⟨m-1,by omega⟩
   rw[bA m _ (Jv ..),ae1]
  .intro i aq ih m hm;obtain⟨m,rfl⟩:∃az,m=az+1:=⟨m-1,by omega⟩
   rw[ae i aq m _ (Jv ..) (aeY a g i aq),aeZ a g i aq,ih m (by omega)]
 refine hT (a.length+1) λm hm=>?_;have:=key 0 (by omega) m (by omega);simpa [ae0]using this
def oB {α:Type} (xs:List α) (i:Int):List (Bool×α):=(xs.take i.toNat).map (λx=>(true,x))++(xs.drop i.toNat).map (λx=>(false,x))
theorem DF {α:Type} (xs:List α):xs.map (λx=>(false,x))=oB xs 0:=by simp[oB]
theorem DG {α:Type} (xs:List α) (i:Nat) (h:i<xs.length):bZ (oB xs (i:Int)) (i:Int)=some (false,xs[i]):=by
 have hl:(oB xs (i:Int)).length=xs.length:=by simp[oB];omega
 rw[fD _ i (by rw[hl];exact h)];congr 1;simp only[oB,Int.toNat_natCast];rw[List.getElem_append_right (by simp;omega)];simp[Nat.min_eq_left (Nat.le_of_lt h)]
theorem DH {α:Type} (xs:List α) (i:Nat) (h:i<xs.length):List.set (oB xs (i:Int)) (Int.toNat (i:Int)) (true,xs[i])=oB xs ((i+1:Nat):Int):=by
 have e:((xs.take i).map λx=>(true,x)).length=i:=by simp;omega
 simp only[oB,Int.toNat_natCast];rw[List.set_append_right i _ (by rw[e];omega),e,Nat.sub_self,drop_cons xs i h,List.map_cons,List.set_cons_zero,List.take_succ_eq_append_getElem h,List.map_append];simp
def rf (f b:Int) (t:ar):ar:=cond ((t.Kind==1)&&decide (f<=t.Value)) ⟨t.Kind,i64.wrap (t.Value+b)⟩ t
def fT (f b:Int) (e:ahO):ahO:=e.map (rf f b)
def gM (f b:Int) (x:aN):aN:=⟨x.a5,fT f b x.Guard,x.Name,x.aW.map (fT f b),x.Next.map (fT f b)⟩
theorem ae2 {α:Type} (v:List α) (i:Nat) (x:α) (h:bZ v (i:Int)=some x):v.set i x=v:=by
 unfold bZ at h;rw[if_pos (by omega),Int.toNat_natCast]at h;obtain⟨hl,h⟩:=List.getElem?_eq_some_iff.1 h;rw[<-h];exact List.set_getElem_self hl
theorem Jx (e:ahO) (h:e.length<=1048576):wR e=some e:=by
 unfold wR;rw[gl (by omega) (by omega)];rfl
theorem QL (e:ahB) (h:e.length<=1048576):zD e=some e:=by
 unfold zD;rw[gl (by omega) (by omega)];rfl
theorem QM (es:ahK) (h:pn es):zE es=some es:=by
 unfold zE;have:=k8 (L:=wS es) es id 0 some (λm v aP=>?_) (λi aq m v aP=>?_) [] (by simp)
 .simpa using this
 .simp only[wS,GW];rw[dY (Nat.le_refl _)];rfl
 .have af:=h.1;simp only[wS,GW];rw[eP aq,fD _ i aq,eW i _ aq (by omega)];simp only[cond_true,bind_some];rw[Jx _ (h.2 _ (List.getElem_mem aq))];simp only[bind_some];rw[gl (by omega) (by omega)];rfl
theorem Jy (e:ahO) (f b:Int) (h:e.length<=1048576):wV e f b=some (fT f b e):=by
 unfold wV;rw[Jx e h];simp only[bind_some];refine Jw (L:=uZ f b) e (rf f b) some (λm v aP=>?_) (λi aq m v aP bP=>?_)
 .simp only[uZ,GY];rw[dY (by omega)];rfl
 .simp only[uZ,GY,Cd];rw[eP (by omega),bP,eW i e.length aq (by omega)];simp only[cond_true,bind_some,rf,Int.toNat_natCast];cases((e[i].Kind==1)&&decide (f<=e[i].Value))
  .simp only[cond_false];rw[ae2 v i _ bP]
  .rfl
theorem tM (e:ahO) (f b:Int) (h:e.length<=1048576):tj e f b=some (fT f b e):=by
 unfold tj Hz;have:=k8 (L:=r6 e f b) e (rf f b) 0 some (λm v aP=>?_) (λi aq m v aP=>?_) [] (by simp)
 .rw[this];rfl
 .simp only[r6,Hy];rw[dY (Nat.le_refl _)];rfl
 .simp only[r6,Hy,r5,Hx];rw[eP aq,fD _ i aq,eW i _ aq (by omega)];simp only[cond_true,bind_some,rf];have dZ:∀x:ar,room 16 (v.length+[x].length)=some ():=λx=>gl (by simp only[List.length_cons,List.length_nil];omega) (by simp only[List.length_cons,List.length_nil];omega);by_cases au:e[i].Kind=1
  .by_cases aP:f<=e[i].Value
   .have d1:decide (e[i].Value<f)=false:=by simp;omega
    have d2:decide (f<=e[i].Value)=true:=by simp[aP]
    simp only[au,d1,d2,beq_self_eq_true,Bool.and_self,cond_true,cond_false,bind_some,Option.elim,List.isEmpty_cons,dZ]
   .have d1:decide (e[i].Value<f)=true:=by simp;omega
    have d2:decide (f<=e[i].Value)=false:=by simp[aP]
    simp only[au,d1,d2,beq_self_eq_true,Bool.and_false,cond_true,cond_false,bind_some,Option.elim,dZ]
  .have g8:(e[i].Kind==1)=false:=by simpa using au
   simp only[g8,Bool.false_and,cond_false,dZ,bind_some]
theorem AH (x:aN) (f b:Int) (aA:k7 x):tg x f b=some (gM f b x):=by
 obtain⟨aa,ak,aL,a2,aY⟩:=aA;unfold tg GX;rw[QL _ aa,Jx _ ak,QM _ a2,QM _ aY];simp only[bind_some];rw[Jy _ f b ak];simp only[bind_some];have J:=a2.1;have jx:=aY.1;have G0:∀v:ahK,cm (λn=>u0 x f b ⟨x.a5,x.Guard,x.Name,x.aW,x.Next⟩ (fT f b x.Guard) n v x.Next 0)=some ⟨x.a5,fT f b x.Guard,x.Name,v,x.Next.map (fT f b)⟩:=by
  intro w;refine Jw (L:=λm v i=>u0 x f b ⟨x.a5,x.Guard,x.Name,x.aW,x.Next⟩ (fT f b x.Guard) m w v i) x.Next (fT f b) (λv=>some ⟨x.a5,fT f b x.Guard,x.Name,w,v⟩) (λm v aP=>?_) (λi aq m v aP bP=>?_)
  .simp only[u0,GZ];rw[dY (Nat.le_refl _)];rfl
  .simp only[u0,GZ];rw[eP aq,fD _ i aq,eW i _ aq (by omega)];simp only[cond_true,bind_some];rw[Jy _ f b (aY.2 _ (List.getElem_mem aq)),bP];simp only[bind_some,Int.toNat_natCast]
 refine Jw (L:=λm v i=>wW x f b ⟨x.a5,x.Guard,x.Name,x.aW,x.Next⟩ (fT f b x.Guard) m v i) x.aW (fT f b) (λv=>some ⟨x.a5,fT f b x.Guard,x.Name,v,x.Next.map (fT f b)⟩) (λm v aP=>?_) (λi aq m v aP bP=>?_)
 .simp only[wW,G1];rw[dY (Nat.le_refl _)];simp only[cond_false];exact G0 v
 .simp only[wW,G1];rw[eP aq,fD _ i aq,eW i _ aq (by omega)];simp only[cond_true,bind_some];rw[Jy _ f b (a2.2 _ (List.getElem_mem aq)),bP];simp only[bind_some,Int.toNat_natCast]
theorem tN (e:ahB) (h:e.length<=1048576):qc e=some e:=by
 unfold qc;rw[gl (by omega) (by omega)];cases e with
 |nil=>simp[both]
 |cons x r=>rfl
theorem QN (e:ahO) (h:e.length<=1048576):zN e=some e:=by
 unfold zN;rw[gl (by omega) (by omega)];cases e with
 |nil=>simp[both]
 |cons x r=>rfl
theorem QO (es:ahK) (h:pn es):zO es=some es:=by
 unfold zO;have:=k8 (L:=xd es) es id 0 some (λm v aP=>?_) (λi aq m v aP=>?_) [] (by simp)
 .simpa using this
 .simp only[xd,HC];rw[dY (Nat.le_refl _)];rfl
 .have af:=h.1;simp only[xd,HC];rw[eP aq,fD _ i aq,eW i _ aq (by omega)];simp only[cond_true,bind_some];rw[QN _ (h.2 _ (List.getElem_mem aq))];simp only[bind_some];rw[gl (by omega) (by omega)];rfl
theorem QP (es:ahK) (a b:a8) (x:aN) (h:pn es):zL es a b x=some (es.map (fT a.aE b.aE)):=by
 unfold zL;have:=k8 (L:=xb es x a b) es (fT a.aE b.aE) 0 some (λm v aP=>?_) (λi aq m v aP=>?_) [] (by simp)
 .simpa using this
 .simp only[xb,HA];rw[dY (Nat.le_refl _)];rfl
 .have af:=h.1;simp only[xb,HA,zK];rw[eP aq,fD _ i aq,eW i _ aq (by omega)];simp only[cond_true,bind_some];rw[tM _ _ _ (h.2 _ (List.getElem_mem aq))];simp only[bind_some];rw[gl (by omega) (by omega)];rfl
theorem QQ (es:ahK) (a:a8) (x:aN) (h:pn es):zQ es a x=some (es.map (fT 0 a.aE)):=by
 unfold zQ;have:=k8 (L:=xe es a x) es (fT 0 a.aE) 0 some (λm v aP=>?_) (λi aq m v aP=>?_) [] (by simp)
 .simpa using this
 .simp only[xe,HG];rw[dY (Nat.le_refl _)];rfl
 .have af:=h.1;simp only[xe,HG,zP];rw[eP aq,fD _ i aq,eW i _ aq (by omega)];simp only[cond_true,bind_some];rw[tM _ _ _ (h.2 _ (List.getElem_mem aq))];simp only[bind_some];rw[gl (by omega) (by omega)];rfl
theorem ae3 (l a b:a8) (h:kh l):zM l a b=some ⟨l.aE,l.Start,l.aU.map (gM a.aE b.aE)⟩:=by
 obtain⟨af,ag,aJ⟩:=h;unfold zM;rw[tN _ af];simp only[bind_some];refine k8 (L:=xc l a b l.Start) l.aU (gM a.aE b.aE) 0 (λv=>some ⟨l.aE,l.Start,v⟩) (λm v aP=>?_) (λi aq m v aP=>?_) [] (by simp)
 .simp only[xc,HB];rw[dY (Nat.le_refl _)];rfl
 .obtain⟨aa,ak,aL,a2,aY⟩:=aJ _ (List.getElem_mem aq);simp only[xc,HB,zK];rw[eP aq,fD _ i aq,eW i _ aq (by omega)];simp only[cond_true,bind_some];rw[tN _ aa,tM _ _ _ ak,QP _ a b _ a2,QP _ a b _ aY];simp only[bind_some];rw[gl (by omega) (by omega)];rfl
theorem ae4 (l a:a8) (h:kh l):CJ l a=some ⟨l.aE,l.Start,l.aU.map (gM 0 a.aE)⟩:=by
 obtain⟨af,ag,aJ⟩:=h;unfold CJ;rw[tN _ af];simp only[bind_some];refine k8 (L:=xf l a l.Start) l.aU (gM 0 a.aE) 0 (λv=>some ⟨l.aE,l.Start,v⟩) (λm v aP=>?_) (λi aq m v aP=>?_) [] (by simp)
 .simp only[xf,HH];rw[dY (Nat.le_refl _)];rfl
 .obtain⟨aa,ak,aL,a2,aY⟩:=aJ _ (List.getElem_mem aq);simp only[xf,HH,zP];rw[eP aq,fD _ i aq,eW i _ aq (by omega)];simp only[cond_true,bind_some];rw[tN _ aa,tM _ _ _ ak,QQ _ a _ a2,QQ _ a _ aY];simp only[bind_some];rw[gl (by omega) (by omega)];rfl
end Go.ob
