/- Part of a proof that a law returns true for every input. No condition. -/
import Derived.Test.YtndfcecbamffaaaGreatUV1x
import Derived.Test.YtndfcecbamffaaaGreatUV0x
import GoSem.Op.String
namespace Go.ob
open Option Go.IntKind Nat Or
open Go Go.dD
def vz (n:Int):ahO:=[⟨1,n⟩]
def kM (f:Int) (n:Nat):ahK:=(List.range n).map λ(i:Nat)=>vz (i64.wrap (f+(i:Int)))
theorem sq (f:Int) (n:Nat):(kM f n).length=n:=by simp[kM]
theorem QR (f:Int) (n:Nat):∀e∈kM f n,e.length=1:=by
 intro e he;simp only[kM,List.mem_map]at he;obtain⟨i,_,rfl⟩:=he;rfl
def AJ (f b:Int) (g:Int) (n:Nat) (x:aN):aN:=⟨x.a5,fT f b x.Guard,x.Name,x.aW.map (fT f b),x.Next.map (fT f b)++kM g n⟩
def tO (f b:Int) (g:Int) (n:Nat) (x:aN):aN:=⟨x.a5,fT f b x.Guard,x.Name,x.aW.map (fT f b),kM g n++x.Next.map (fT f b)⟩
def hE (a b:a8) (n m:Nat):a8:=⟨i64.wrap ((n:Int)+(m:Int)),a.Start++b.Start,a.aU.map (AJ n m n m)++b.aU.map (tO 0 n 0 n)⟩
theorem QS (f:Int) (n:Nat) (h:n<=1048576):zF f (n:Int)=some (kM f n):=by
 unfold zF;have:=k8 (L:=wX f (n:Int)) (List.range n) (λ(i:Nat)=>vz (i64.wrap (f+(i:Int)))) 0 some (λm v aP=>?_) (λi aq m v aP=>?_) [] (by simp)
 .simpa [kM]using this
 .simp only[wX,G3,List.length_range];rw[dY (Nat.le_refl _)];rfl
 .rw[List.length_range]at aq;simp only[wX,G3,G2];rw[eP aq,eW i _ aq (by omega),gl (by omega) (by omega)];simp only[cond_true,bind_some,vz,List.getElem_range]
theorem DI (f b:Int) (e:ahK) (h:pn e):pn (e.map (fT f b)):=by
 refine⟨by rw[List.length_map];exact h.1,λt aZ=>?_⟩;obtain⟨u,hu,rfl⟩:=List.mem_map.1 aZ;rw[fT,List.length_map];exact h.2 u hu
theorem ae5 (a b:a8) (n m:Nat) (bY:kh a) (U:kh b) (ba:a.aE=(n:Int)) (hm:b.aE=(m:Int)) (wC:n<=1048576) (xU:m<=1048576):Ce a b=some (hE a b n m):=by
 obtain⟨J,aB,eb⟩:=bY;obtain⟨gr,dL,jd⟩:=U;unfold Ce;rw[QL _ J];simp only[bind_some];rw[gl (by omega) (by omega)];simp only[bind_some];refine(k8 (L:=wZ a b a.Start) a.aU (AJ n m n m) 0 (λv=>some ⟨i64.wrap ((n:Int)+(m:Int)),a.Start++b.Start,v++b.aU.map (tO 0 n 0 n)⟩) (λk v aP=>?_) (λi aq k v aP=>?_) [] (by simp)).trans (by simp[hE])
 .simp only[wZ,G5];rw[dY (Nat.le_refl _)];simp only[cond_false];refine k8 (L:=wY a b a.Start) b.aU (tO 0 n 0 n) 1048576 (λv=>some ⟨i64.wrap ((n:Int)+(m:Int)),a.Start++b.Start,v⟩) (λk v aP=>?_) (λi aq k v aP=>?_) v (by omega)
  .simp only[wY,G4,ba,hm];rw[dY (Nat.le_refl _)];rfl
  .have aA:=jd _ (List.getElem_mem aq);have bC:=aA.2.2.2.2.1;simp only[wY,G4];rw[eP aq,fD _ i aq,eW i _ aq (by omega)];simp only[cond_true,bind_some,ba];rw[AH _ _ _ aA,QS 0 n wC];simp only[bind_some,gM];rw[gl (by simp only[List.length_map,sq];omega) (by simp only[List.length_map,sq];omega),gl (by omega) (by omega)];rfl
 .have aA:=eb _ (List.getElem_mem aq);have bC:=aA.2.2.2.2.1;simp only[wZ,G5];rw[eP aq,fD _ i aq,eW i _ aq (by omega)];simp only[cond_true,bind_some,ba,hm];rw[AH _ _ _ aA,QS n m xU];simp only[bind_some,gM];rw[gl (by simp only[List.length_map,sq];omega) (by simp only[List.length_map,sq];omega),gl (by omega) (by omega)];rfl
theorem ae6 (n:Int) (bA:0<=n) (h:n<=1099511627776):CI n=some []:=by
 unfold CI Ht CH;have fV:i64.wrap 0=0:=gg 0 (by omega);have a1:i64.wrap (n-0)=n:=by rw[gg (n-0) (by omega)];omega
 have d:decide (n<0)=false:=by simp only[decide_eq_false_iff_not];omega
 rw[d,fV,a1,show lv 8 n=some () by unfold lv;rw[if_pos ⟨by omega,by omega,by omega⟩]];cases decide (0<n)<;>rfl
theorem ae7 (ls:List ahB) (h:ls.length<=1048576) (ae:fE ls<=1099511627776):ti ls=some ls.flatten:=by
 have m9:cm (λn=>u7 ls n [] 0)=some ls.flatten:=by
  have key:∀i,i<=ls.length->∀(v:ahB) m,v.length+fE (ls.drop i)<=1099511627776->ls.length-i<m->u7 ls m v (i:Int)=some (v++(ls.drop i).flatten):=by
   refine down ls.length ?_ ?_
   .intro v m _ hm;obtain⟨m,rfl⟩:∃az,m=az+1:=⟨m-1,by omega⟩
    simp only[u7,Hv];rw[dY (Nat.le_refl _),List.drop_of_length_le (Nat.le_refl _)];simp
   .intro i aq ih v m aP hm;obtain⟨m,rfl⟩:∃az,m=az+1:=⟨m-1,by omega⟩
    rw[drop_cons ls i aq]at aP⊢;simp only[fE,eX]at aP;simp only[u7,Hv];rw[eP aq,fD _ i aq,eW i _ aq (by omega)];simp only[cond_true,bind_some];rw[gl (by omega) (by omega)];simp only[bind_some];rw[ih _ m (by simp only[List.length_append,fE];omega) (by omega)];simp only[List.flatten_cons,List.append_assoc]
  refine hT (ls.length+1) λm hm=>?_;have:=key 0 (by omega) [] m (by simpa using ae) (by omega);simpa using this
 unfold ti;have key:∀i,i<=ls.length->∀(v:Int) m,0<=v->v+fE (ls.drop i)<=1099511627776->ls.length-i<m->u9 ls m v (i:Int)=some ls.flatten:=by
  refine down ls.length ?_ ?_
  .intro v m bA aP hm;obtain⟨m,rfl⟩:∃az,m=az+1:=⟨m-1,by omega⟩
   simp only[u9,Hw];rw[dY (Nat.le_refl _),ae6 v bA (by omega)];simp only[cond_false,bind_some];exact m9
  .intro i aq ih v m bA aP hm;obtain⟨m,rfl⟩:∃az,m=az+1:=⟨m-1,by omega⟩
   rw[drop_cons ls i aq]at aP;simp only[fE,eX]at aP;simp only[u9,Hw,Hu];rw[eP aq,fD _ i aq,eW i _ aq (by omega)];simp only[cond_true,bind_some];have e:i64.wrap (v+(ls[i].length:Int))=v+(ls[i].length:Int):=gg (v+(ls[i].length:Int)) ⟨by omega,by omega⟩;have d:decide (v+(ls[i].length:Int)<0)=false:=by simp only[decide_eq_false_iff_not];omega
   rw[e,d,cond_false];exact ih _ m (by omega) (by simp only[fE];omega) (by omega)
 refine hT (ls.length+1) λm hm=>?_;exact key 0 (by omega) 0 m (by omega) (by rw[List.drop_zero];omega) (by omega)
theorem ae8 (ls:List ahK) (h:ls.length<=1048576) (ae:fE ls<=1099511627776):tk ls=some ls.flatten:=by
 have m9:cm (λn=>u_ ls n (List.map (λx=>(false,x)) ls) [] 0)=some ls.flatten:=by
  have key:∀i,i<=ls.length->∀(v:ahK) m,v.length+fE (ls.drop i)<=1099511627776->ls.length-i<m->u_ ls m (oB ls (i:Int)) v (i:Int)=some (v++(ls.drop i).flatten):=by
   refine down ls.length ?_ ?_
   .intro v m _ hm;obtain⟨m,rfl⟩:∃az,m=az+1:=⟨m-1,by omega⟩
    simp only[u_,HE];rw[dY (Nat.le_refl _),List.drop_of_length_le (Nat.le_refl _)];simp
   .intro i aq ih v m aP hm;obtain⟨m,rfl⟩:∃az,m=az+1:=⟨m-1,by omega⟩
    rw[drop_cons ls i aq]at aP⊢;simp only[fE,eX]at aP;simp only[u_,HE];rw[eP aq,DG _ i aq,eW i _ aq (by omega)];simp only[cond_true,bind_some,Bool.not_false,show nk true=some ()from rfl,DH ls i aq];rw[gl (by omega) (by omega)];simp only[bind_some];rw[ih _ m (by simp only[List.length_append,fE];omega) (by omega)];simp only[List.flatten_cons,List.append_assoc]
  refine hT (ls.length+1) λm hm=>?_;have:=key 0 (by omega) [] m (by simpa using ae) (by omega);rw[DF];simpa using this
 unfold tk;have key:∀i,i<=ls.length->∀(v:Int) m,0<=v->v+fE (ls.drop i)<=1099511627776->ls.length-i<m->va ls m v (i:Int)=some ls.flatten:=by
  refine down ls.length ?_ ?_
  .intro v m bA aP hm;obtain⟨m,rfl⟩:∃az,m=az+1:=⟨m-1,by omega⟩
   simp only[va,HF];rw[dY (Nat.le_refl _),QI v bA (by omega)];simp only[cond_false,bind_some];exact m9
  .intro i aq ih v m bA aP hm;obtain⟨m,rfl⟩:∃az,m=az+1:=⟨m-1,by omega⟩
   rw[drop_cons ls i aq]at aP;simp only[fE,eX]at aP;simp only[va,HF,HD];rw[eP aq,fD _ i aq,eW i _ aq (by omega)];simp only[cond_true,bind_some];have e:i64.wrap (v+(ls[i].length:Int))=v+(ls[i].length:Int):=gg (v+(ls[i].length:Int)) ⟨by omega,by omega⟩;have d:decide (v+(ls[i].length:Int)<0)=false:=by simp only[decide_eq_false_iff_not];omega
   rw[e,d,cond_false];exact ih _ m (by omega) (by simp only[fE];omega) (by omega)
 refine hT (ls.length+1) λm hm=>?_;exact key 0 (by omega) 0 m (by omega) (by rw[List.drop_zero];omega) (by omega)
theorem QT (a b:ahB) (bY:a.length<=1048576) (U:b.length<=1048576):ti [a,b]=some (a++b):=by
 rw[ae7 [a,b] (by simp) (by simp only[fE,eX];omega)];simp
theorem Jz (a b:ahK) (bY:a.length<=1048576) (U:b.length<=1048576):tk [a,b]=some (a++b):=by
 rw[ae8 [a,b] (by simp) (by simp only[fE,eX];omega)];simp
theorem ae9 (n:Nat) (h:n<=1048576):i64.wrap (0+(n:Int))=(n:Int):=by rw[gg _ (by omega)];omega
theorem ae_ (a b:a8) (n m:Nat) (bY:kh a) (U:kh b) (ba:a.aE=(n:Int)) (hm:b.aE=(m:Int)) (wC:n<=1048576) (xU:m<=1048576):CK a b=some (hE a b n m):=by
 have Er:=bY;have hp:=U;obtain⟨J,aB,eb⟩:=bY;obtain⟨gr,dL,jd⟩:=U;have QU:∀(f:Int) (k:Nat),k<=1048576->pn (kM f k):=λf k au=>⟨by rw[sq];exact au,λe he=>by rw[QR f k e he];omega⟩
 have yo:∀v:ahP,v.length<=1048576->cm (λk=>vb a b (a.Start++b.Start) ⟨b.aE,b.Start,b.aU.map (gM 0 n)⟩ k v (kM 0 n) (List.map (λx=>(false,x)) (b.aU.map (gM 0 n))) 0)=some ⟨i64.wrap ((n:Int)+(m:Int)),a.Start++b.Start,v++b.aU.map (tO 0 n 0 n)⟩:=by
  intro v aP;rw[DF];have hl:(b.aU.map (gM 0 n)).length<=1048576:=by rw[List.length_map];exact dL
  refine(k8 (L:=λk v i=>vb a b (a.Start++b.Start) ⟨b.aE,b.Start,b.aU.map (gM 0 n)⟩ k v (kM 0 n) (oB (b.aU.map (gM 0 n)) i) i) (b.aU.map (gM 0 n)) (λy=>⟨y.a5,y.Guard,y.Name,y.aW,kM 0 n++y.Next⟩) 1048576 (λv=>some ⟨i64.wrap ((n:Int)+(m:Int)),a.Start++b.Start,v⟩) (λk v aP=>?_) (λi aq k v aP=>?_) v aP).trans ?_
  .simp only[vb,HI,ba,hm];rw[dY (Nat.le_refl _)];rfl
  .have uU:(b.aU.map (gM 0 n))[i].Next.length<=1048576:=by
    rw[List.getElem_map];simp only[gM,List.length_map];exact(jd _ (List.getElem_mem _)).2.2.2.2.1
   simp only[vb,HI];rw[eP aq,DG _ i aq,eW i _ aq (by omega)];simp only[cond_true,bind_some,Bool.not_false,show nk true=some ()from rfl,DH _ i aq];rw[QO _ (QU 0 n wC)];simp only[bind_some];rw[Jz _ _ (by rw[sq];exact wC) uU];simp only[bind_some];rw[gl (by omega) (by omega)];rfl
  .rw[List.map_map];rfl
 have QV:cm (λk=>tm a b (a.Start++b.Start) ⟨a.aE,a.Start,a.aU.map (gM n m)⟩ k [] (kM 0 n) (kM n m) (List.map (λx=>(false,x)) (a.aU.map (gM n m))) 0)=some (hE a b n m):=by
  rw[DF];have hl:(a.aU.map (gM n m)).length<=1048576:=by rw[List.length_map];exact aB
  refine(k8 (L:=λk v i=>tm a b (a.Start++b.Start) ⟨a.aE,a.Start,a.aU.map (gM n m)⟩ k v (kM 0 n) (kM n m) (oB (a.aU.map (gM n m)) i) i) (a.aU.map (gM n m)) (λy=>⟨y.a5,y.Guard,y.Name,y.aW,y.Next++kM n m⟩) 0 (λv=>some ⟨i64.wrap ((n:Int)+(m:Int)),a.Start++b.Start,v++b.aU.map (tO 0 n 0 n)⟩) (λk v aP=>?_) (λi aq k v aP=>?_) [] (by simp)).trans ?_
  .simp only[tm,HJ];rw[dY (Nat.le_refl _)];simp only[cond_false];rw[ae4 b a hp,ba];simp only[bind_some];exact yo v (by omega)
  .have uU:(a.aU.map (gM n m))[i].Next.length<=1048576:=by
    rw[List.getElem_map];simp only[gM,List.length_map];exact(eb _ (List.getElem_mem _)).2.2.2.2.1
   simp only[tm,HJ];rw[eP aq,DG _ i aq,eW i _ aq (by omega)];simp only[cond_true,bind_some,Bool.not_false,show nk true=some ()from rfl,DH _ i aq];rw[QO _ (QU n m xU)];simp only[bind_some];rw[Jz _ _ uU (by rw[sq];exact xU)];simp only[bind_some];rw[gl (by omega) (by omega)];rfl
  .rw[List.map_map];rfl
 have afa:cm (λk=>tn a b (a.Start++b.Start) k (kM 0 n) [] 0)=some (hE a b n m):=by
  refine(k8 (L:=λk v i=>tn a b (a.Start++b.Start) k (kM 0 n) v i) (List.range m) (λ(i:Nat)=>vz (i64.wrap ((n:Int)+(i:Int)))) 0 (λv=>(zM a a b).bind λa2=>cm λk=>tm a b (a.Start++b.Start) a2 k [] (kM 0 n) v (List.map (λx=>(false,x)) a2.aU) 0) (λk v aP=>?_) (λi aq k v aP=>?_) [] (by simp)).trans ?_
  .rw[List.length_range];simp only[tn,HK,hm];rw[dY (Nat.le_refl _)];rfl
  .rw[List.length_range]at aq;simp only[tn,HK,hm,ba,zJ];rw[eP aq,eW i _ aq (by omega),gl (by omega) (by omega)];simp only[cond_true,bind_some,vz,List.getElem_range]
  .rw[ae3 a a b Er,ba,hm];simp only[bind_some,List.nil_append];rw[ba]at QV;exact QV
 unfold CK;rw[QT _ _ J gr];simp only[bind_some];refine(k8 (L:=xg a b (a.Start++b.Start)) (List.range n) (λ(i:Nat)=>vz (i64.wrap (0+(i:Int)))) 0 (λv=>cm λk=>tn a b (a.Start++b.Start) k v [] 0) (λk v aP=>?_) (λi aq k v aP=>?_) [] (by simp)).trans ?_
 .rw[List.length_range];simp only[xg,HL,ba];rw[dY (Nat.le_refl _)];rfl
 .rw[List.length_range]at aq;simp only[xg,HL,ba,zJ];rw[eP aq,eW i _ aq (by omega),gl (by omega) (by omega)];simp only[cond_true,bind_some,vz,List.getElem_range,ae9 i (by omega)]
 .exact afa
theorem DJ {x:aN} {p:Int} (h:jn x p=true):(x.Next.length:Int)=p:=by
 simp only[jn,Bool.and_eq_true,beq_iff_eq]at h;exact h.2.2.1
theorem rh {l:a8} (h:jo l=true):0<=l.aE/\l.aE<=21/\(l.Start.length:Int)=l.aE/\l.aU.length<=60/\∀x∈l.aU,jn x l.aE=true:=by
 simp only[jo,tL,iX,Bool.and_eq_true,beq_iff_eq,decide_eq_true_eq,List.all_eq_true]at h;exact⟨h.1.1,h.1.2,h.2.1.1,h.2.2.1,h.2.2.2⟩
theorem JA (a b:a8) (n m:Nat) (bY:kh a) (U:kh b) (afb:jo a=true) (afc:jo b=true) (ba:a.aE=(n:Int)) (hm:b.aE=(m:Int)):kh (hE a b n m):=by
 obtain⟨J,aB,eb⟩:=bY;obtain⟨gr,dL,jd⟩:=U;obtain⟨fp,fP,ha,qD,e9⟩:=rh afb;obtain⟨gu,fF,jb,iC,mx⟩:=rh afc;refine⟨by simp only[hE,List.length_append];omega,by simp only[hE,List.length_append,List.length_map];omega,λx aA=>?_⟩;simp only[hE,List.mem_append,List.mem_map]at aA;have au:∀(f:Int) (k:Nat),∀e∈kM f k,e.length<=1048576:=λf k e he=>by rw[QR f k e he];omega
 rcases aA with⟨y,bu,rfl⟩|⟨y,bu,rfl⟩
 .obtain⟨aa,ak,aL,a2,aY⟩:=eb y bu;have qs:=DJ (e9 y bu);refine⟨aa,by simp only[AJ,fT,List.length_map];exact ak,aL,DI _ _ _ a2,by simp only[AJ,List.length_append,List.length_map,sq];omega,λt aZ=>?_⟩;simp only[AJ,List.mem_append]at aZ;rcases aZ with aZ|aZ
  .exact(DI _ _ _ aY).2 t aZ
  .exact au _ _ t aZ
 .obtain⟨aa,ak,aL,a2,aY⟩:=jd y bu;have qs:=DJ (mx y bu);refine⟨aa,by simp only[tO,fT,List.length_map];exact ak,aL,DI _ _ _ a2,by simp only[tO,List.length_append,List.length_map,sq];omega,λt aZ=>?_⟩;simp only[tO,List.mem_append]at aZ;rcases aZ with aZ|aZ
  .exact au _ _ t aZ
  .exact(DI _ _ _ aY).2 t aZ
set_option linter.unusedSimpArgs false
theorem QW (a b:ahz):(!(Op.bytesLess a b))=(Op.bytesLess b a||b==a):=by
 induction a generalizing b with
 |nil=>cases b<;>simp[Op.bytesLess]
 |cons x a ih=>
  cases b with
  |nil=>simp[Op.bytesLess]
  |cons y b=>
   simp only[Op.bytesLess];have:=ih b;by_cases af:x<y
   .have ag:¬y<x:=λh=>by have:=UInt8.lt_asymm af h;exact this
    have aJ:y≠x:=λh=>by subst h;exact absurd af (UInt8.lt_irrefl _)
    simp[af,ag,aJ]
   .by_cases ag:y<x
    .have aJ:x≠y:=λh=>by subst h;exact absurd ag (UInt8.lt_irrefl _)
     simp[af,ag,aJ]
    .have aJ:x=y:=by
      have a1:=UInt8.not_lt.1 af;have bc:=UInt8.not_lt.1 ag;exact UInt8.le_antisymm bc a1
     subst aJ;simp[af,this]
theorem afd (a:ahz):Op.bytesLess a a=false:=by
 have:=QW a a;cases h:Op.bytesLess a a with
 |false=>rfl
 |true=>rw[h]at this;simp at this
theorem QX {β:Type} {l:Nat->Int->Option β} {n:Nat} (p:Nat->Bool) (JB bad:Option β) (bA:∀m,l (m+1) (n:Int)=JB)
  (ae:∀i,i<n->∀m,l (m+1) (i:Int)=cond (p i) (l m ((i+1:Nat):Int)) bad):cm (λm=>l m 0)=cond (pk p n) JB bad:=by
 rw[tE (n:=n) (λi=>cond ((List.range' i (n-i)).all p) JB bad)]
 .simp[pk,List.range_eq_range']
 .intro m;rw[bA];simp
 .intro i aq m ih;rw[ae i aq,ih,show n-i=(n-(i+1))+1 by omega,List.range'_succ];cases aw:p i<;>simp[aw]
theorem afe (s:ahz):tf s=some (jF s):=QE s
theorem JC (s:ahz) (ae:s.length<=1048576):r4 s=some (jF s):=QF s (by omega)
def dB (a:ahQ) (i:Nat):bQ:=a.getD i ⟨[],[],[]⟩
def vA (p m:bQ):Bool:=Op.bytesLess p.Left m.Left||(p.Left==m.Left&&Op.bytesLess p.cf m.cf)
def vB (a:ahQ) (m:bQ):Bool:=pk (λaz=> !((dB a az).Left==m.Result||(dB a az).cf==m.Result)) a.length
def xV (a:ahQ) (i:Nat):Bool:=
 ((((jF (dB a i).Left&&jF (dB a i).cf)&&jF (dB a i).Result)&&(Op.bytesLess (dB a i).Left (dB a i).cf||(dB a i).Left==(dB a i).cf))&&(decide (i=0)||vA (dB a (i-1)) (dB a i)))&&vB a (dB a i)
def oC (a:ahQ):Bool:=decide (a.length<=6)&&pk (xV a) a.length
def sr (a:ahQ):Prop:=a.length<=1048576/\∀m∈a,m.Left.length<=1048576/\m.cf.length<=1048576/\m.Result.length<=1048576
theorem aff (p m:bQ):((!(Op.bytesLess p.Left m.Left||p.Left==m.Left))||((p.Left==m.Left)&&(!(Op.bytesLess p.cf m.cf))))= !(vA p m):=by
 unfold vA;cases he:p.Left==m.Left
 .cases Op.bytesLess p.Left m.Left<;>rfl
 .have:p.Left=m.Left:=by simpa using he
  rw[this,afd];cases Op.bytesLess p.cf m.cf<;>rfl
def ss (a b:ahz):Int:=cond (Op.bytesLess a b) (-1) (cond (!(Op.bytesLess a b||a==b)) 1 0)
theorem afg (a b:ahz):CC a b=some (ss a b):=by
 unfold CC CB ss;simp only[bind_some,cond_false];cases Op.bytesLess a b<;>cases a==b<;>rfl
theorem afh (p m:bQ):∃v,CF p m=some v/\decide (0<=v)= !(vA p m):=by
 have afi:CE [p.Left,p.cf] [m.Left,m.cf]=some (cond (ss p.Left m.Left !=0) (ss p.Left m.Left) (cond (ss p.cf m.cf !=0) (ss p.cf m.cf) 0)):=by
  unfold CE;refine hT 3 λn ba=>?_;obtain⟨n,rfl⟩:∃k,n=k+3:=⟨n-3,by omega⟩
  have fV:bZ [p.Left,p.cf] 0=some p.Left:=rfl;have a1:bZ [m.Left,m.cf] 0=some m.Left:=rfl;have bc:bZ [p.Left,p.cf] 1=some p.cf:=rfl;have bb:bZ [m.Left,m.cf] 1=some m.cf:=rfl;have hI:i64.wrap (0+1)=1:=by decide
  have jR:i64.wrap (1+1)=2:=by decide
  simp only[CD,N8,List.length_cons,List.length_nil,fV,a1,bc,bb,hI,jR,bind_some,afg];cases ss p.Left m.Left !=0
  .cases ss p.cf m.cf !=0<;>rfl
  .rfl
 unfold CF;rw[afi];refine⟨_,rfl,?_⟩;unfold vA ss;cases hl:Op.bytesLess p.Left m.Left
 .cases he:p.Left==m.Left
  .rfl
  .cases aV:Op.bytesLess p.cf m.cf
   .cases p.cf==m.cf<;>rfl
   .rfl
 .rfl
theorem afj (a:ahQ) (h:a.length<=1048576) (m:bQ):zI a m=some (!(vB a m)):=by
 unfold zI Hr;rw[Qc (n:=a.length) (λaz=>((dB a az).Left==m.Result||(dB a az).cf==m.Result))]
 .simp only[bind_some,aei];rfl
 .intro k;simp only[zH,Hq];rw[dY (Nat.le_refl _)];rfl
 .intro i aq k;simp only[zH,Hq];rw[eP aq,Aw _ i ⟨[],[],[]⟩ aq,eW i _ aq (by omega)];simp only[cond_true,bind_some,Hp];rfl
theorem QY {a:ahQ} (h:sr a) {i:Nat} (aq:i<a.length):(dB a i).Left.length<=1048576/\(dB a i).cf.length<=1048576/\(dB a i).Result.length<=1048576:=by
 have:dB a i=a[i]:=by simp[dB,List.getD,aq]
 rw[this];exact h.2 _ (List.getElem_mem aq)
theorem AK {a:ahQ} {i:Nat} (aq:i<a.length):bZ a (i:Int)=some (dB a i):=Aw a i _ aq
theorem afk (a:ahQ) (h:sr a):Cc a=some (oC a):=by
 unfold Cc oC;by_cases hl:6<a.length
 .have d1:decide ((6:Int)<(a.length:Int))=true:=decide_eq_true (by omega);have d2:decide (a.length<=6)=false:=decide_eq_false (by omega);rw[d1,d2];rfl
 .have d1:decide ((6:Int)<(a.length:Int))=false:=decide_eq_false (by omega);have d2:decide (a.length<=6)=true:=decide_eq_true (by omega);rw[d1,d2,cond_false,Bool.true_and];refine aeh (l:=λm i=>p_ a m i) _ (λm=>?_) (λi aq m=>?_)
  .simp only[p_,GV];rw[dY (Nat.le_refl _)];rfl
  .have zh:(cm λn=>r0 (p_ a m) a (dB a i) n (i:Int) 0)=cond (vB a (dB a i)) (p_ a m ((i+1:Nat):Int)) (some false):=by
    refine QX (l:=λjs az=>r0 (p_ a m) a (dB a i) js (i:Int) az) _ _ _ (λjs=>?_) (λaz ch js=>?_)
    .simp only[r0,GS];rw[dY (Nat.le_refl _),eW i _ aq (by omega)];rfl
    .simp only[r0,GS];rw[eP ch,AK ch,eW az _ ch (by omega)];simp only[cond_true,bind_some];cases((dB a az).Left==(dB a i).Result||(dB a az).cf==(dB a i).Result)<;>rfl
   simp only[p_,GV];rw[eP aq,AK aq];simp only[cond_true,bind_some,afe,zh];unfold xV;by_cases bA:i=0
   .subst bA;rw[Qe];simp only[cond_false,decide_true,Bool.true_or,Bool.and_true];cases jF (dB a 0).Left<;>cases jF (dB a 0).cf<;>cases jF (dB a 0).Result<;>cases(Op.bytesLess (dB a 0).Left (dB a 0).cf||(dB a 0).Left==(dB a 0).cf)<;>cases vB a (dB a 0)<;>rfl
   .rw[Qf bA,Qd i (by omega) (by omega),AK (show i-1<a.length by omega)];have al:decide (i=0)=false:=decide_eq_false bA;simp only[cond_true,bind_some,al,Bool.false_or,aff];cases jF (dB a i).Left<;>cases jF (dB a i).cf<;>cases jF (dB a i).Result<;>cases(Op.bytesLess (dB a i).Left (dB a i).cf||(dB a i).Left==(dB a i).cf)<;>cases vA (dB a (i-1)) (dB a i)<;>cases vB a (dB a i)<;>rfl
theorem afl (a:ahQ) (h:sr a):CG a=some (oC a):=by
 unfold CG oC;rw[QX (l:=λm i=>xa a m i) (n:=a.length) (xV a) (some (decide ((a.length:Int)<=6))) (some false)]
 .have e:decide ((a.length:Int)<=6)=decide (a.length<=6):=decide_eq_decide.2 (by omega);rw[e];cases pk (xV a) a.length<;>cases decide (a.length<=6)<;>rfl
 .intro m;simp only[xa,Hs];rw[dY (Nat.le_refl _)];rfl
 .intro i aq m;have hl:=h.1;obtain⟨s1,s2,kV⟩:=QY h aq;simp only[xa,Hs];rw[eP aq,AK aq,eW i _ aq (by omega)];simp only[cond_true,bind_some,JC _ s1,JC _ s2,JC _ kV,afj a hl];unfold xV;by_cases bA:i=0
  .subst bA;rw[Qe];simp only[cond_false,decide_true,Bool.true_or,Bool.and_true];cases jF (dB a 0).Left<;>cases jF (dB a 0).cf<;>cases jF (dB a 0).Result<;>cases(Op.bytesLess (dB a 0).Left (dB a 0).cf||(dB a 0).Left==(dB a 0).cf)<;>cases vB a (dB a 0)<;>rfl
  .rw[Qf bA,Qd i (by omega) (by omega),AK (show i-1<a.length by omega)];obtain⟨v,v1,v2⟩:=afh (dB a (i-1)) (dB a i);have al:decide (i=0)=false:=decide_eq_false bA;simp only[cond_true,bind_some,al,Bool.false_or,v1,v2];cases jF (dB a i).Left<;>cases jF (dB a i).cf<;>cases jF (dB a i).Result<;>cases(Op.bytesLess (dB a i).Left (dB a i).cf||(dB a i).Left==(dB a i).cf)<;>cases vA (dB a (i-1)) (dB a i)<;>cases vB a (dB a i)<;>rfl
def qt (a:ahQ) (x y:ahz) (i:Nat):Bool:=((dB a i).Left==x)&&((dB a i).cf==y)
def nj (a:ahQ) (z:Int):ahz:=cond (decide (z<0)) [] (dB a z.toNat).Result
theorem JD (p:Nat->Bool):∀(k i:Nat),kK p i k<((i+k:Nat):Int)
 |0,i=>by simp only[kK];omega
 |k+1,i=>by
  simp only[kK];split
  .omega
  .have:=JD p k (i+1);omega
theorem QZ (a:ahQ) (bY:a.length<=1048576) (x y:ahz) (afm:(Op.bytesLess x y||x==y)=true) (Q0:ahQ->ahz->ahz->Option ahz):
  u1 Q0 a x y=some (nj a (kK (qt a x y) 0 a.length)):=by
 unfold u1;rw[afm];simp only[Bool.not_true,cond_false];rw[tE (l:=λm i=>w1 Q0 a x y m i) (n:=a.length) (λi=>some (nj a (kK (qt a x y) i (a.length-i))))]
 .rfl
 .intro m;simp only[w1,G6];rw[dY (Nat.le_refl _),Nat.sub_self];rfl
 .intro i aq m ih;simp only[w1,G6];rw[eP aq,Aw _ i ⟨[],[],[]⟩ aq,eW i _ aq (by omega)];show cond true (Option.bind (some (dB a i)) _) _=_;simp only[cond_true,bind_some];rw[ih,show a.length-i=(a.length-(i+1))+1 by omega];show cond (qt a x y i) _ _=_;cases aw:qt a x y i
  .simp only[kK,aw,cond_false];rfl
  .simp only[kK,aw,cond_true,if_true,nj];have:decide ((i:Int)<0)=false:=decide_eq_false (by omega);rw[this];rfl
theorem afn (a:ahQ) (bY:a.length<=1048576) (x y:ahz):
  Cf a x y=some (nj a (kK (qt a (g4 false x y) (g4 true x y)) 0 a.length)):=by
 unfold Cf;refine hT 2 λn ba=>?_;obtain⟨n,rfl⟩:∃k,n=k+2:=⟨n-2,by omega⟩
 show u1 (w2 (n+1)) a x y=_;cases h:(Op.bytesLess x y||x==y)
 .have af:(Op.bytesLess y x||y==x)=true:=by
   rw[<-QW x y];cases hl:Op.bytesLess x y
   .rfl
   .rw[hl]at h;cases h
  have ag:Op.bytesLess x y=false:=by cases hl:Op.bytesLess x y;·rfl
                                     .rw[hl]at h;cases h
  have a1:g4 false x y=y:=by simp only[g4,h,Bool.false_eq_true,if_false]
  have bc:g4 true x y=x:=by simp only[g4,ag,Bool.not_false,if_true]
  unfold u1;rw[h];simp only[Bool.not_false,cond_true];show(u1 (w2 n) a y x).bind _=_;rw[QZ a bY y x af,a1,bc];rfl
 .have a1:g4 false x y=x:=by simp only[g4,h,Bool.false_eq_true,if_false,if_true]
  have bc:g4 true x y=y:=by
   cases hl:Op.bytesLess x y
   .rw[hl,Bool.false_or]at h;have:x=y:=by simpa using h
    subst this;simp[g4]
   .simp[g4,hl]
  rw[QZ a bY x y h,a1,bc]
theorem afo (s:uV) (bY:s.lK.length<=1048576) (x y:ahz) (z:Int) (b3:z=kK (qt s.lK (g4 false x y) (g4 true x y)) 0 s.lK.length):
  CL s x y=some (nj s.lK z,!(decide (z<0))):=by
 unfold CL HN;rw[Qc (l:=λm i=>xh s.lK x y m i) (n:=s.lK.length) (qt s.lK (g4 false x y) (g4 true x y)),<-b3]
 .simp only[bind_some];have hl:=JD (qt s.lK (g4 false x y) (g4 true x y)) s.lK.length 0;rw[<-b3]at hl;cases h:decide (z<0)
  .have bA:¬z<0:=of_decide_eq_false h;have e:bZ s.lK z=some (dB s.lK z.toNat):=by
    obtain⟨i,rfl⟩:∃i:Nat,z=i:=⟨z.toNat,by omega⟩
    exact Aw s.lK i (⟨[],[],[]⟩:bQ) (by omega)
   rw[e];simp only[nj,h];rfl
  .simp only[nj,h];rfl
 .intro m;simp only[xh,HM];rw[dY (Nat.le_refl _)];rfl
 .intro i aq m;simp only[xh,HM];rw[eP aq,Aw _ i ⟨[],[],[]⟩ aq,eW i _ aq (by omega)];rfl
theorem afp {a:ahQ} (hm:oC a=true) (i:Nat) (aq:i<a.length):((dB a i).Result==([]:ahz))=false:=by
 simp only[oC,Bool.and_eq_true,Jo]at hm;have:=hm.2 i aq;simp only[xV,Bool.and_eq_true]at this;have h:=this.1.1.1.2;simp only[jF,tI,Bool.and_eq_true]at h;have ag:=h.1.2;cases aV:(dB a i).Result with
 |nil=>rw[aV]at ag;cases ag
 |cons x r=>rfl
end Go.ob
