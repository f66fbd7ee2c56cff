/- Part of a proof that a law returns true for every input. No condition. -/
import Derived.Test.YtcmimclaknmnbaaGreatDoorP3
import Derived.Test.YtcmimclaknmnbaaGreatDoorUV0x
import Derived.Test.YtcmimclaknmnbaaGreatDoorUV1x
namespace Go.lT
open Option Go.IntKind Nat Or
open Go Go.cC
set_option linter.unusedSimpArgs false
theorem UG (x:anT) (n:Int) (ag:(x.length<=9223372036854775807/\∀y∈x,(-9223372036854775808<=y/\y<=9223372036854775807))) (ba:0<=n) (aN:n<=1048576):Bh x n=some (jq n (x.length+0)):=by
 unfold Bh;refine xf ag.1 ba aN λh=>?_;rw[dQ _ (by omega)];exact Cv (by omega)
theorem UH (x:aoc) (n:Int) (ag:(x.length<=9223372036854775807/\∀y∈x,um y)) (ba:0<=n) (aN:n<=1048576):yj x n=some (jq n (x.length+0)):=by
 unfold yj;refine xf ag.1 ba aN λh=>?_;rw[dQ _ (by omega)];exact Cv (by omega)
theorem UI (x:aoa) (n:Int) (ag:(x.length<=9223372036854775807/\∀y∈x,(y.length<=9223372036854775807/\∀z∈y,um z))) (ba:0<=n) (aN:n<=1048576):Bi x n=some (jq n (fu (λx=>x.length+0) x)):=by
 unfold Bi;refine xf ag.1 ba aN λh=>?_;rw[dQ _ (by omega)];exact T3 (f:=yj) (λx=>x.length+0) x (λ_ _ _=>rfl) (λy hy n ba aN=>UH y n (ag.2 y hy) ba aN) (by omega) _ (by omega) (by omega)
def q5 (x:jH):Nat:=((x.a7.length+0)+((x.Guard.length+0)+(x.Name.length+((fu (λx=>x.length+0) x.bU)+((fu (λx=>x.length+0) x.Next)+0)))))
theorem aj4 (x:jH) (n:Int) (ag:Bg x) (ba:0<=n) (aN:n<=1048576):Bj x n=some (jq n (q5 x)):=by
 unfold Bj;unfold q5;obtain⟨w0,mB,mz,mA,LS⟩:=ag;refine xe (UG _ _ w0 (by omega) (by omega)) λc0=>?_;refine xe (UH _ _ mB (by omega) (by omega)) λc1=>?_;refine xf mz (by omega) (by omega) λc2=>?_;rw[dQ (((n-(((x.a7.length+0):Nat):Int))-(((x.Guard.length+0):Nat):Int))-(x.Name.length:Int)) (by omega)];refine xe (UI _ _ mA (by omega) (by omega)) λc3=>?_;refine xe (UI _ _ LS (by omega) (by omega)) λc4=>?_;exact Cv (by omega)
theorem aj5 (x:aod) (n:Int) (ag:(x.length<=9223372036854775807/\∀y∈x,Bg y)) (ba:0<=n) (aN:n<=1048576):Ed x n=some (jq n (fu q5 x)):=by
 unfold Ed;refine xf ag.1 ba aN λh=>?_;rw[dQ _ (by omega)];exact T3 (f:=Bj) q5 x (λ_ _ _=>rfl) (λy hy n ba aN=>aj4 y n (ag.2 y hy) ba aN) (by omega) _ (by omega) (by omega)
def si (x:nP):Nat:=((x.Start.length+0)+((fu q5 x.cG)+0))
theorem aj6 (x:nP) (n:Int) (ag:Ec x) (ba:0<=n) (aN:n<=1048576):Ee x n=some (jq n (si x)):=by
 unfold Ee;unfold si;obtain⟨w0,mB,mz⟩:=ag;refine xe (UG _ _ mB (by omega) (by omega)) λc1=>?_;refine xe (aj5 _ _ mz (by omega) (by omega)) λc2=>?_;exact Cv (by omega)
theorem aj7 (x:anQ) (n:Int) (ag:(x.length<=9223372036854775807/\∀y∈x,y.length<=9223372036854775807)) (ba:0<=n) (aN:n<=1048576):Ef x n=some (jq n (fu List.length x)):=by
 unfold Ef;refine xf ag.1 ba aN λh=>?_;rw[dQ _ (by omega)];exact ajt x (λ_ _ _=>rfl) ag.2 (by omega) _ (by omega) (by omega)
theorem UJ (x:anT) (h:(x.length+0)<=1048576):Bk x=some x:=by
 unfold Bk;have hl:x.length<=1048576:=by omega
 rw[uV _ hl (by decide)];simp only[bind_some];rw[Cw (f:=some) id x _ (λ_ _ _=>rfl) (λ_ _=>rfl) hl,List.map_id]
def uZ (x:hi):aO:=⟨x.Kind,x.Value⟩
theorem aj8 (x:hi):Bl x=some (uZ x):=by
 unfold Bl;rfl
theorem UK (x:aoc) (h:(x.length+0)<=1048576):yk x=some (x.map uZ):=by
 unfold yk;have hl:x.length<=1048576:=by omega
 rw[uV _ hl (by decide)];simp only[bind_some];rw[Cw (f:=Bl) uZ x _ (λ_ _ _=>rfl) (λy hy=>aj8 y) hl]
theorem UL (x:aoa) (h:(fu (λx=>x.length+0) x)<=1048576):Bm x=some (x.map (List.map uZ)):=by
 unfold Bm;have hl:x.length<=1048576:=Nat.le_trans (oL _ _) h;rw[uV _ hl (by decide)];simp only[bind_some];rw[Cw (f:=yk) (List.map uZ) x _ (λ_ _ _=>rfl) (λy hy=>UK y (Nat.le_trans (uU (f:=(λx=>x.length+0)) hy) h)) hl]
def zz (x:jH):bS:=⟨x.a7,(x.Guard.map uZ),x.Name,(x.bU.map (List.map uZ)),(x.Next.map (List.map uZ))⟩
def lE (x:bS):Nat:=((x.a7.length+0)+((x.Guard.length+0)+(x.Name.length+((fu (λx=>x.length+0) x.bU)+((fu (λx=>x.length+0) x.Next)+0)))))
theorem aj9 (x:jH):lE (zz x)=q5 x:=by
 simp only[lE,q5,zz,T1,List.length_map]
theorem aj_ (x:jH) (h:(q5 x)<=1048576):Bn x=some (zz x):=by
 unfold Bn;unfold q5 at h;rw[UJ _ (by omega),UK _ (by omega),UL _ (by omega),UL _ (by omega)];rfl
theorem aka (x:aod) (h:(fu q5 x)<=1048576):Eg x=some (x.map zz):=by
 unfold Eg;have hl:x.length<=1048576:=Nat.le_trans (oL _ _) h;rw[uV _ hl (by decide)];simp only[bind_some];rw[Cw (f:=Bn) zz x _ (λ_ _ _=>rfl) (λy hy=>aj_ y (Nat.le_trans (uU (f:=q5) hy) h)) hl]
def CI (x:nP):dw:=⟨x.eY,x.Start,(x.cG.map zz)⟩
def sj (x:dw):Nat:=((x.Start.length+0)+((fu lE x.cG)+0))
theorem akb (x:nP):sj (CI x)=si x:=by
 simp only[sj,si,CI,T1,List.length_map,aj9]
theorem akc (x:nP) (h:(si x)<=1048576):we x=some (CI x):=by
 unfold we;unfold si at h;rw[UJ _ (by omega),aka _ (by omega)];rfl
theorem akd (x:anQ) (h:(fu List.length x)<=1048576):wg x=some x:=by
 unfold wg;have hl:x.length<=1048576:=Nat.le_trans (oL _ _) h;rw[uV _ hl (by decide)];simp only[bind_some];rw[Cw (f:=some) id x _ (λ_ _ _=>rfl) (λ_ _=>rfl) hl,List.map_id]
theorem L_ (x:anT) (h:(x.length+0)<=1048576):wR x x=some true:=by
 unfold wR;have hl:x.length<=1048576:=by omega
 rw[zw,cond_false];exact T4 x (λ_ _=>rfl) F2 hl
theorem ake (x:List anT) (h:(fu (λx=>x.length+0) x)<=1048576):y4 x x=some true:=by
 unfold y4;have hl:x.length<=1048576:=Nat.le_trans (oL _ _) h;rw[zw,cond_false];exact F1 (f:=wR) x (λ_ _=>rfl) (λy hy=>L_ y (Nat.le_trans (uU (f:=(λx=>x.length+0)) hy) h)) hl
theorem akf (x:aO):BU x x=some true:=by
 unfold BU;simp only[F2,F3,LV,cond_false,bind_some,Bool.not_true]
theorem UM (x:aoe) (h:(x.length+0)<=1048576):y5 x x=some true:=by
 unfold y5;have hl:x.length<=1048576:=by omega
 rw[zw,cond_false];exact F1 (f:=BU) x (λ_ _=>rfl) (λy hy=>akf y) hl
theorem UN (x:aob) (h:(fu (λx=>x.length+0) x)<=1048576):BV x x=some true:=by
 unfold BV;have hl:x.length<=1048576:=Nat.le_trans (oL _ _) h;rw[zw,cond_false];exact F1 (f:=y5) x (λ_ _=>rfl) (λy hy=>UM y (Nat.le_trans (uU (f:=(λx=>x.length+0)) hy) h)) hl
theorem akg (x:bS) (h:(lE x)<=1048576):BW x x=some true:=by
 unfold BW;unfold lE at h;simp only[F2,F3,LV,cond_false,bind_some,Bool.not_true,L_ x.a7 (by omega),UM x.Guard (by omega),UN x.bU (by omega),UN x.Next (by omega)]
theorem akh (x:aof) (h:(fu lE x)<=1048576):Ff x x=some true:=by
 unfold Ff;have hl:x.length<=1048576:=Nat.le_trans (oL _ _) h;rw[zw,cond_false];exact F1 (f:=BW) x (λ_ _=>rfl) (λy hy=>akg y (Nat.le_trans (uU (f:=lE) hy) h)) hl
theorem aki (x:dw) (h:(sj x)<=1048576):Fg x x=some true:=by
 unfold Fg;unfold sj at h;simp only[F2,F3,LV,cond_false,bind_some,Bool.not_true,L_ x.Start (by omega),akh x.cG (by omega)]
theorem akj (x:anQ) (h:(fu List.length x)<=1048576):Fh x x=some true:=by
 unfold Fh;have hl:x.length<=1048576:=Nat.le_trans (oL _ _) h;rw[zw,cond_false];exact T4 x (λ_ _=>rfl) F3 hl
theorem UO (k:Int) (ba:0<=k) (R:k<=1099511627776):∃t,BZ k=some t:=by
 have key:∀(n:Nat) (k:Int),0<=k->k<=n->n<=1099511627776->∀t:anR,t.length+n<=1099511627776->∃r,∀m,n<m->wS m k t=some r:=by
  intro n;induction n with
  |zero=>
   intro k h1 ab ay t aL;refine⟨[109]++t,λm hm=>?_⟩;obtain⟨m,rfl⟩:∃j,m=j+1:=⟨m-1,by omega⟩
   simp only[wS,Fi];rw[show decide (0<k)=false by simp;omega,cond_false,show iO (1+t.length)=some () by unfold iO;rw[if_pos (by omega)]];rfl
  |succ n ih=>
   intro k h1 ab ay t aL;by_cases hk:0<k
   .have ae:Int.tdiv k 10=k/10:=Int.tdiv_eq_ediv_of_nonneg h1;have hw:i64.wrap (Int.tdiv k 10)=k/10:=by rw[ae];exact dQ _ (by omega)
    obtain⟨r,ax⟩:=ih (k/10) (by omega) (by omega) (by omega) ([(ns (i64.wrap (48+(Int.tmod k 10))))]++t) (by simp only[List.length_append,List.length_cons,List.length_nil];omega);refine⟨r,λm hm=>?_⟩;obtain⟨m,rfl⟩:∃j,m=j+1:=⟨m-1,by omega⟩
    simp only[wS,Fi];rw[show decide (0<k)=true by simp;omega,cond_true,show iO (1+t.length)=some () by unfold iO;rw[if_pos (by omega)]];simp only[bind_some,hw];exact ax m (by omega)
   .refine⟨[109]++t,λm hm=>?_⟩;obtain⟨m,rfl⟩:∃j,m=j+1:=⟨m-1,by omega⟩
    simp only[wS,Fi];rw[show decide (0<k)=false by simp;omega,cond_false,show iO (1+t.length)=some () by unfold iO;rw[if_pos (by omega)]];rfl
 unfold BZ;by_cases hk:k<=0
 .exact⟨_,by rw[show decide (k<=0)=true by simpa using hk];rfl⟩
 .obtain⟨r,ax⟩:=key k.toNat k ba (by omega) (by omega) [] (by simp only[List.length_nil];omega);exact⟨r,by rw[show decide (k<=0)=false by simp;omega,cond_false];exact eU (k.toNat+1) λm hm=>ax m (by omega)⟩
theorem Ma (x:anT) (k:Int) (ba:0<=k) (R:k+64*(x.length+0)<=1099511627776):∃(cF:anT) (c:Nat),c<=64*(x.length+0)/\y7 x k=some (k+(c:Int),cF)/\Fo cF k=some (k+(c:Int)):=by
 unfold y7 Fo;have e:fN (λ_=>64) x=64*x.length:=LW 64 x;obtain⟨cF,c,h1,ab,ay⟩:=T9 (l:=y6) (hl:=zd) (λ_=>64) (λm v k=>by simp only[y6,Kn];rw[eT (Nat.le_refl _)];rfl) (λa m k=>by simp only[zd,Kt];rw[eT (Nat.le_refl _)];rfl) (λx k ba R=>by
  have mB:i64.wrap (k+1)=k+1:=dQ _ (by omega);refine⟨k,1,by omega,λm d r ae=>⟨?_,?_⟩⟩
  .simp only[y6,Kn];rw[uX];simp only[cond_true,uW,zx,bind_some,mB];rw[uY ae];rw[show((k+1):Int)=k+((1:Nat):Int) by omega]
  .simp only[zd,Kt];rw[uX];simp only[cond_true,cond_false,uW,bind_some,bne_self_eq_false,beq_self_eq_true,Bool.not_true,mB];rw[uY ae];rw[show((k+1):Int)=k+((1:Nat):Int) by omega]) x k ba (by omega) (by omega)
 exact⟨cF,c,by omega,ab,ay⟩
theorem UP (x:aoe) (k:Int) (ba:0<=k) (R:k+64*(x.length+0)<=1099511627776):∃(cF:aoe) (c:Nat),c<=64*(x.length+0)/\BX x k=some (k+(c:Int),cF):=by
 unfold BX;have e:fN (λ_=>64) x=64*x.length:=LW 64 x;obtain⟨cF,c,h1,ab⟩:=F7 (l:=y8) (λ_=>64) (λm v k=>by simp only[y8,Ko];rw[eT (Nat.le_refl _)];rfl) (λx k ba R=>by
  have mB:i64.wrap (k+1)=k+1:=dQ _ (by omega);have mz:i64.wrap ((k+1)+1)=(k+1)+1:=dQ _ (by omega);refine⟨(aO.mk k (k+1)),1+1,by omega,λm d r ae=>?_⟩;simp only[y8,Ko];rw[uX];simp only[cond_true,uW,zx,bind_some,mB,mz];rw[uY ae];rw[show(((k+1)+1):Int)=k+((1+1:Nat):Int) by omega]) x k ba (by omega) (by omega)
 exact⟨cF,c,by omega,ab⟩
theorem UQ (x:aob) (k:Int) (ba:0<=k) (R:k+64*(fu (λx=>x.length+0) x)<=1099511627776):∃(cF:aob) (c:Nat),c<=64*(fu (λx=>x.length+0) x)/\B0 x k=some (k+(c:Int),cF):=by
 unfold B0;have e:fN (λx=>64*((x.length+0)+1)) x=64*fu (λx=>x.length+0) x:=Cz (λx=>x.length+0) x;have hl:x.length<=fu (λx=>x.length+0) x:=oL _ _;obtain⟨cF,c,h1,ab⟩:=F7 (l:=y9) (λx=>64*((x.length+0)+1)) (λm v k=>by simp only[y9,Kp];rw[eT (Nat.le_refl _)];rfl) (λx k ba R=>by
  obtain⟨f_,c1,ik,m1⟩:=UP x k (by omega) (by omega);refine⟨f_,c1,by omega,λm d r ae=>?_⟩;simp only[y9,Kp];rw[uX];simp only[cond_true,uW,zx,bind_some,m1];rw[uY ae]) x k ba (by omega) (by omega)
 exact⟨cF,c,by omega,ab⟩
theorem akk (x:aof) (k:Int) (ba:0<=k) (R:k+64*(fu lE x)<=1099511627776):∃(cF:aof) (c:Nat),c<=64*(fu lE x)/\Fj x k=some (k+(c:Int),cF):=by
 unfold Fj;have e:fN (λx=>64*((lE x)+1)) x=64*fu lE x:=Cz lE x;have hl:x.length<=fu lE x:=oL _ _;obtain⟨cF,c,h1,ab⟩:=F7 (l:=y_) (λx=>64*((lE x)+1)) (λm v k=>by simp only[y_,Kq];rw[eT (Nat.le_refl _)];rfl) (λx k ba R=>by
  simp only[lE]at R⊢;obtain⟨f_,c1,ik,m1⟩:=Ma x.a7 k (by omega) (by omega);obtain⟨iW,c2,gJ,m2⟩:=UP x.Guard (k+(c1:Int)) (by omega) (by omega);obtain⟨gz,t3⟩:=UO ((k+(c1:Int))+(c2:Int)) (by omega) (by omega);have mA:i64.wrap (((k+(c1:Int))+(c2:Int))+1)=((k+(c1:Int))+(c2:Int))+1:=dQ _ (by omega);obtain⟨zu,c4,cw,m4⟩:=UQ x.bU (((k+(c1:Int))+(c2:Int))+1) (by omega) (by omega);obtain⟨akl,c5,dt,m5⟩:=UQ x.Next ((((k+(c1:Int))+(c2:Int))+1)+(c4:Int)) (by omega) (by omega);refine⟨(bS.mk f_ iW gz zu akl),c1+c2+1+c4+c5,by omega,λm d r ae=>?_⟩;simp only[y_,Kq];rw[uX];simp only[cond_true,uW,zx,bind_some,m1,m2,t3,mA,m4,m5];rw[uY ae];rw[show((((((k+(c1:Int))+(c2:Int))+1)+(c4:Int))+(c5:Int)):Int)=k+((c1+c2+1+c4+c5:Nat):Int) by omega]) x k ba (by omega) (by omega)
 exact⟨cF,c,by omega,ab⟩
theorem akm (x:dw) (k:Int) (ba:0<=k) (R:k+64*((sj x)+1)<=1099511627776):∃(iC:Int) (f_:anT) (iW:aof) (c:Nat),c<=64*((sj x)+1)/\Fk x.eY x.Start x.cG k=some (k+(c:Int),iC,f_,iW):=by
 unfold Fk;simp only[sj]at R⊢;obtain⟨f_,c1,ik,m1⟩:=Ma x.Start k (by omega) (by omega);obtain⟨iW,c2,gJ,m2⟩:=akk x.cG (k+(c1:Int)) (by omega) (by omega);refine⟨x.eY,f_,iW,c1+c2,by omega,?_⟩;simp only[bind_some,m1,m2];rw[show(k+((c1+c2:Nat):Int))=((k+(c1:Int))+(c2:Int)) by omega]
theorem akn (x:anQ) (k:Int) (ba:0<=k) (R:k+64*(fu List.length x)<=1099511627776):∃(cF:anQ) (c:Nat),c<=64*(fu List.length x)/\Fl x k=some (k+(c:Int),cF):=by
 unfold Fl;have e:fN (λx=>64*(x.length+1)) x=64*fu List.length x:=Cz List.length x;have hl:x.length<=fu List.length x:=oL _ _;obtain⟨cF,c,h1,ab⟩:=F7 (l:=zb) (λx=>64*(x.length+1)) (λm v k=>by simp only[zb,Kr];rw[eT (Nat.le_refl _)];rfl) (λx k ba R=>by
  obtain⟨s1,t1⟩:=UO k (by omega) (by omega);have mB:i64.wrap (k+1)=k+1:=dQ _ (by omega);refine⟨s1,1,by omega,λm d r ae=>?_⟩;simp only[zb,Kr];rw[uX];simp only[cond_true,uW,zx,bind_some,t1,mB];rw[uY ae];rw[show((k+1):Int)=k+((1:Nat):Int) by omega]) x k ba (by omega) (by omega)
 exact⟨cF,c,by omega,ab⟩
theorem ako (x:List anT) (k:Int) (ba:0<=k) (R:k+64*(fu (λx=>x.length+0) x)<=1099511627776):∃(cF:List anT) (c:Nat),c<=64*(fu (λx=>x.length+0) x)/\Fm x k=some (k+(c:Int),cF)/\B1 cF k=some (k+(c:Int)):=by
 unfold Fm B1;have e:fN (λx=>64*((x.length+0)+1)) x=64*fu (λx=>x.length+0) x:=Cz (λx=>x.length+0) x;have hl:x.length<=fu (λx=>x.length+0) x:=oL _ _;obtain⟨cF,c,h1,ab,ay⟩:=T9 (l:=zc) (hl:=ze) (λx=>64*((x.length+0)+1)) (λm v k=>by simp only[zc,Ks];rw[eT (Nat.le_refl _)];rfl) (λa m k=>by simp only[ze,Ku];rw[eT (Nat.le_refl _)];rfl) (λx k ba R=>by
  obtain⟨f_,c1,ik,m1,eH⟩:=Ma x k (by omega) (by omega);have jW:=F6 (k:=(k+(c1:Int))) (by omega);refine⟨f_,c1,by omega,λm d r ae=>⟨?_,?_⟩⟩
  .simp only[zc,Ks];rw[uX];simp only[cond_true,uW,zx,bind_some,m1];rw[uY ae]
  .simp only[ze,Ku];rw[uX];simp only[cond_true,cond_false,uW,bind_some,bne_self_eq_false,beq_self_eq_true,Bool.not_true,eH,jW];rw[uY ae]) x k ba (by omega) (by omega)
 exact⟨cF,c,by omega,ab,ay⟩
def k3 (t:aO):Nat:=if t.Kind=2 then 2 else if t.Kind=3 then 1 else 0
theorem F_ (t:aO):k3 t<=2:=by unfold k3;split<;>(try split)<;>omega
theorem UR (t:aO):cond (t.Kind==2) (some 2) (cond (t.Kind==3) (some 1) (some 0))=some (k3 t:Int):=by
 unfold k3;by_cases ab:t.Kind=2
 .simp[ab]
 .by_cases ay:t.Kind=3
  .simp[ay]
  .have aM:(t.Kind==2)=false:=by simpa using ab
   have aP:(t.Kind==3)=false:=by simpa using ay
   rw[aM,aP,if_neg ab,if_neg ay];rfl
def ho (n eK ak:Int):Bool:=decide (eK<=n)&&decide (n<=ak)
def nn (t:aO) (v:Int):Bool:=cond (t.Kind==0) (ho t.Value 0 63) (cond (t.Kind==1) (ho t.Value 0 (v-1)) (cond (t.Kind==2) (ho t.Value 0 8) (cond (t.Kind==3) (t.Value==0) false)))
def qd (v:Int):aoe->Nat->Bool
 |[],k=>k==0
 |t::r,k=> !(k==0)&&(nn t v&&qd v r (k+k3 t-1))
def i7 (e:aoe) (v most:Int):Bool:=decide ((e.length:Int)<=most)&&qd v e 1
theorem akp (t:aO) (v:Int) (aD: -1000000<=v/\v<=1000000):Ek t v=some (nn t v):=by
 unfold Ek pd nn ho;rw[dQ (v-1) (by omega)];cases t.Kind==0<;>cases t.Kind==1<;>cases t.Kind==2<;>cases t.Kind==3<;>rfl
theorem akq (t:aO) (v:Int) (aD: -1000000<=v/\v<=1000000):EL t v=some (nn t v):=by
 unfold EL BE oF nn ho;rw[dQ (v-1) (by omega)];cases t.Kind==0<;>cases t.Kind==1<;>cases t.Kind==2<;>cases t.Kind==3<;>rfl
theorem US (t:aO):El t=some (k3 t:Int):=UR t
theorem UT (t:aO):EM t=some (k3 t:Int):=UR t
theorem Mb {k a:Nat} (hk:1<=k) (oW:k<=100000000) (bg:a<=2):i64.wrap ((k:Int)+i64.wrap ((a:Int)-1))=((k+a-1:Nat):Int):=by
 rw[dQ ((a:Int)-1) (by omega),dQ _ (by omega)];omega
theorem Ga (k:Nat):((k:Int)==0)=(k==0):=by
 by_cases h:k=0
 .subst h;rfl
 .have h1:((k:Int)==0)=false:=by simp;omega
  have ab:(k==0)=false:=by simpa using h
  rw[h1,ab]
theorem UU (e:aoe) (v most:Int) (aD: -1000000<=v/\v<=1000000) (he:e.length<=1048576):Bp e v most=some (i7 e v most):=by
 unfold Bp i7;by_cases hm:(e.length:Int)<=most
 .have d1:decide (most<(e.length:Int))=false:=by simp;omega
  have d2:decide ((e.length:Int)<=most)=true:=by simpa using hm
  rw[d1,d2,cond_false,Bool.true_and];have key:∀i,i<=e.length->∀(k:Nat) m,k<=1+2*i->e.length-i<m->ym e v m (k:Int) (i:Int)=some (qd v (e.drop i) k):=by
   refine down e.length ?_ ?_
   .intro k m _ hm;obtain⟨m,rfl⟩:∃j,m=j+1:=⟨m-1,by omega⟩
    simp only[ym,Jc];rw[eT (Nat.le_refl _),List.drop_of_length_le (Nat.le_refl _),Ga];rfl
   .intro i ak ih k m hk hm;obtain⟨m,rfl⟩:∃j,m=j+1:=⟨m-1,by omega⟩
    simp only[ym,Jc];rw[fq ak,eu _ i ak,fV i _ ak (by omega),drop_cons e i ak,Ga];simp only[cond_true,bind_some,akp _ v aD,US,qd];by_cases ba:k=0
    .subst ba;rfl
    .have R:(k==0)=false:=by simpa using ba
     have bg:=F_ e[i];rw[R,Mb (by omega) (by omega) bg,ih _ m (by omega) (by omega)];simp only[cond_false,Bool.not_false,Bool.true_and];cases nn e[i] v<;>rfl
  refine eU (e.length+1) λm hm=>?_;have:=key 0 (by omega) 1 m (by omega) (by omega);simpa using this
 .have d1:decide (most<(e.length:Int))=true:=by simp;omega
  have d2:decide ((e.length:Int)<=most)=false:=by simpa using hm
  rw[d1,d2];rfl
theorem akr (e:aoe) (v most:Int) (aD:0<=v/\v<=29) (anK:1<=most/\most<=60) (he:e.length<=1048576):EN e v most=some (i7 e v most):=by
 unfold EN oF i7;have d1:(!(decide (0<=v)&&decide (v<=29)))=false:=by simp;omega
 have d2:(!(decide (1<=most)&&decide (most<=60)))=false:=by simp;omega
 simp only[bind_some,d1,d2,cond_false];by_cases h1:e.length=0
 .have:e=[]:=List.length_eq_zero_iff.1 h1;subst this;simp[qd]
 .by_cases hm:(e.length:Int)<=most
  .have d3:(!(decide ((1:Int)<=(e.length:Int))&&decide ((e.length:Int)<=most)))=false:=by simp;omega
   have d4:decide ((e.length:Int)<=most)=true:=by simpa using hm
   rw[d3,d4,cond_false,Bool.true_and];have key:∀i,i<=e.length->∀(k:Nat) m,k<=1+2*i->e.length-i<m->yK e v m (k:Int) (i:Int)=some (qd v (e.drop i) k):=by
    refine down e.length ?_ ?_
    .intro k m _ hm;obtain⟨m,rfl⟩:∃j,m=j+1:=⟨m-1,by omega⟩
     simp only[yK,JK];rw[eT (Nat.le_refl _),List.drop_of_length_le (Nat.le_refl _),Ga];rfl
    .intro i ak ih k m hk hm;obtain⟨m,rfl⟩:∃j,m=j+1:=⟨m-1,by omega⟩
     simp only[yK,JK];rw[fq ak,eu _ i ak,fV i _ ak (by omega),drop_cons e i ak,Ga];simp only[cond_true,bind_some,akq _ v (by omega),UT,qd];by_cases ba:k=0
     .subst ba;rfl
     .have R:(k==0)=false:=by simpa using ba
      have bg:=F_ e[i];rw[R,Mb (by omega) (by omega) bg,ih _ m (by omega) (by omega)];simp only[cond_false,Bool.not_false,Bool.true_and];cases nn e[i] v<;>rfl
   refine eU (e.length+1) λm hm=>?_;have:=key 0 (by omega) 1 m (by omega) (by omega);simpa using this
  .have d3:(!(decide ((1:Int)<=(e.length:Int))&&decide ((e.length:Int)<=most)))=true:=by simp;omega
   have d4:decide ((e.length:Int)<=most)=false:=by simpa using hm
   rw[d3,d4];rfl
section
variable {α β:Type}
theorem aks {l:Nat->Int->Option β} (a:List α) (F:List α->Option β) (ba:∀m,l (m+1) (a.length:Int)=F [])
  (U:∀i (h:i<a.length) m,l m ((i+1:Nat):Int)=F (a.drop (i+1))->l (m+1) (i:Int)=F (a[i]::a.drop (i+1))):lim (λm=>l m 0)=F a:=by
 rw[uT (n:=a.length) (λi=>F (a.drop i))]
 .simp
 .intro m;rw[ba,List.drop_of_length_le (Nat.le_refl _)]
 .intro i ak m ih;rw[drop_cons a i ak];exact U i ak m ih
theorem Mc {l:Nat->Int->anV} (a:List α) (p:α->Bool) (ba:∀m,l (m+1) (a.length:Int)=some true)
  (U:∀i (h:i<a.length) m,l (m+1) (i:Int)=cond (p a[i]) (l m ((i+1:Nat):Int)) (some false)):lim (λm=>l m 0)=some (a.all p):=by
 refine aks a (λr=>some (r.all p)) ba λi h m ih=>?_;rw[U i h m,ih,List.all_cons];cases p a[i]<;>rfl
def u0 (p:α->Bool):Nat->List α->Int
 |_,[]=> -1
 |i,x::r=>if p x=true then(i:Int)else u0 p (i+1) r
theorem CJ (p:α->Bool):∀(r:List α) (i:Nat),decide (0<=u0 p i r)=r.any p
 |[],i=>by simp[u0]
 |x::r,i=>by
  simp only[u0,List.any_cons];by_cases h:p x=true
  .simp[h]
  .have e:p x=false:=by simpa using h
   simp[e,CJ p r (i+1)]
theorem akt {l:Nat->Int->anW} (a:List α) (p:α->Bool) (ba:∀m,l (m+1) (a.length:Int)=some (-1))
  (U:∀i (h:i<a.length) m,l (m+1) (i:Int)=cond (p a[i]) (some (i:Int)) (l m ((i+1:Nat):Int))):lim (λm=>l m 0)=some (u0 p 0 a):=by
 have key:∀i,i<=a.length->∀m,a.length-i<m->l m (i:Int)=some (u0 p i (a.drop i)):=by
  refine down a.length ?_ ?_
  .intro m hm;obtain⟨m,rfl⟩:∃j,m=j+1:=⟨m-1,by omega⟩
   rw[ba,List.drop_of_length_le (Nat.le_refl _)];rfl
  .intro i ak ih m hm;obtain⟨m,rfl⟩:∃j,m=j+1:=⟨m-1,by omega⟩
   rw[U i ak m,ih m (by omega),drop_cons a i ak];simp only[u0];cases p a[i]<;>rfl
 refine eU (a.length+1) λm hm=>?_;have:=key 0 (by omega) m (by omega);simpa using this
theorem Gb {l:Nat->Int->anW} {f:α->anV} (a:List α) (p:α->Bool)
  (mc:∀m i,l (m+1) i=cond (decide (i<(a.length:Int))) ((bI a i).bind λx=>(f x).bind λy=>cond y (some i) (l m (i64.wrap (i+1)))) (some (-1)))
  (bc:∀x∈a,f x=some (p x)) (bg:a.length<=1099511627776):lim (λm=>l m 0)=some (u0 p 0 a):=by
 refine akt a p (λm=>by rw[mc,eT (Nat.le_refl _)];rfl) λi h m=>?_;rw[mc,fq h,eu _ i h,fV i _ h (by omega)];simp only[cond_true,bind_some,bc _ (List.getElem_mem h)]
theorem Gc (a:List α) (p:α->Bool):(a.any λx=> !p x)= !(a.all p):=by
 induction a with
 |nil=>rfl
 |cons x r ih=>simp only[List.any_cons,List.all_cons,ih];cases p x<;>simp
end
def py (p:Int) (s:anT):Int:=s.foldl (λp n=>i64.wrap (p*i64.wrap (n+1))) p
def u1 (v:Int):Bool:=decide (v<=4096)
def qe (s:anT):Bool:=decide (s.length<=8)&&(s.all (λn=>ho n 1 7)&&u1 (py 1 s))
def q6:anR:=[116,97,117]
def tv (s:anR):Bool:=me s&& !(s==q6)
def pz (es:aob) (v:Int):Bool:=es.all λe=>i7 e v 60
def sk (x:bS) (p:Int):Bool:=
 qe x.a7&&(i7 x.Guard (p+x.a7.length) 60&&((x.Next.length:Int)==p&&((if x.Name=q6 then decide (x.bU.length=0)else tv x.Name&&decide (x.bU.length<=2))&&
  (pz x.bU (p+x.a7.length)&&pz x.Next (p+x.a7.length)))))
def u2 (s:anT) (p:Int):Bool:=(s.length:Int)==p&&s.all (λn=>ho n 0 63)
def zA (l:dw):Bool:=ho l.eY 0 21&&(u2 l.Start l.eY&&(decide (l.cG.length<=60)&&l.cG.all λx=>sk x l.eY))
theorem UW (p:Int):py p []=p:=rfl
theorem Md (p n:Int) (s:anT):py p (n::s)=py (i64.wrap (p*i64.wrap (n+1))) s:=rfl
theorem CK (n eK ak:Int):(decide (eK<=n)&&decide (n<=ak))=ho n eK ak:=rfl
theorem UX:∀(s:anT) (p:Int),s.all (λn=>ho n 1 7)=true->1<=p->p*8^s.length<=1099511627776->1<=py p s
 |[],p,_,h,_=>h
 |n::s,p,bg,h,R=>by
  simp only[List.all_cons,Bool.and_eq_true,ho,decide_eq_true_eq]at bg;obtain⟨⟨h1,ab⟩,ay⟩:=bg;have aI:i64.wrap (n+1)=n+1:=dQ _ (by omega);have Me:(1:Int)<=8^s.length:=by
   have:(0:Int)<8^s.length:=Int.pow_pos (by decide);omega
  have Mf:p*8*8^s.length<=1099511627776:=by
   have:p*8*8^s.length=p*8^(n::s).length:=by rw[List.length_cons,Int.pow_succ,Int.mul_assoc,Int.mul_comm 8]
   rw[this];exact R
  have hle:p*(n+1)<=p*8:=Int.mul_le_mul_of_nonneg_left (by omega) (by omega);have aku:p*8*1<=p*8*8^s.length:=Int.mul_le_mul_of_nonneg_left Me (by omega);have vn:p*1<=p*(n+1):=Int.mul_le_mul_of_nonneg_left (by omega) (by omega);have aM:i64.wrap (p*(n+1))=p*(n+1):=dQ _ (by omega);simp only[py,List.foldl_cons,aI,aM];refine UX s (p*(n+1)) (by simpa [ho]using ay) (by omega) ?_;exact Int.le_trans (Int.mul_le_mul_of_nonneg_right hle (by omega)) Mf
def Gd (v:Int) (s:anT):Int:=cond (s.all λn=>ho n 1 7) (cond (u1 (py v s)) (py v s) 0) 0
theorem akv (v:Int):decide (4096<v)= !u1 v:=by
 unfold u1;by_cases h:v<=4096
 .have:¬4096<v:=by omega
  simp[h,this]
 .have:4096<v:=by omega
  simp[h,this]
theorem akw (s:anT) (h:s.length<=1048576):∃n,Ej s=some n/\(n==0)= !qe s:=by
 unfold Ej;by_cases dy:s.length<=8
 .have d:decide ((8:Int)<(s.length:Int))=false:=by simp only[decide_eq_false_iff_not];omega
  rw[d,cond_false];have key:∀i,i<=s.length->∀(v:Int) m,s.length-i<m->yl s m v (i:Int)=some (Gd v (s.drop i)):=by
   refine down s.length ?_ ?_
   .intro v m hm;obtain⟨m,rfl⟩:∃j,m=j+1:=⟨m-1,by omega⟩
    simp only[yl,Jb];rw[eT (Nat.le_refl _),List.drop_of_length_le (Nat.le_refl _),akv];simp only[Gd,List.all_nil,cond_true,cond_false,UW];cases u1 v<;>rfl
   .intro i ak ih v m hm;obtain⟨m,rfl⟩:∃j,m=j+1:=⟨m-1,by omega⟩
    simp only[yl,Jb,pd];rw[fq ak,eu _ i ak,fV i _ ak (by omega),drop_cons s i ak];simp only[cond_true,bind_some];rw[ih _ m (by omega)];simp only[CK,Gd,List.all_cons,Md];cases ho s[i] 1 7
    .rfl
    .rfl
  refine⟨_,eU (s.length+1) λm hm=>by have:=key 0 (by omega) 1 m (by omega);simpa using this,?_⟩;unfold qe Gd;have d8:decide (s.length<=8)=true:=by simpa using dy
  rw[d8,Bool.true_and];cases bg:s.all (λn=>ho n 1 7)
  .rfl
  .have al:=UX s 1 bg (by omega) (by
    have:∀k:Nat,k<=8->(8:Int)^k<=16777216:=by decide
    have:=this s.length dy;omega)
   cases hw:u1 (py 1 s)
   .rfl
   .have:(py 1 s==0)=false:=by simp;omega
    simpa using this
 .have d:decide ((8:Int)<(s.length:Int))=true:=by simp only[decide_eq_true_eq];omega
  rw[d,cond_true];refine⟨0,rfl,?_⟩;unfold qe;have d8:decide (s.length<=8)=false:=by simpa using dy
  rw[d8];rfl
theorem akx (x:bS) (h:x.a7.length<=1048576):EF x=some (qe x.a7):=by
 unfold EF;have key:∀i,i<=x.a7.length->∀(v:Int) m,x.a7.length-i<m->yI x m v (i:Int)=some ((x.a7.drop i).all (λn=>ho n 1 7)&&(decide (x.a7.length<=8)&&u1 (py v (x.a7.drop i)))):=by
  refine down x.a7.length ?_ ?_
  .intro v m hm;obtain⟨m,rfl⟩:∃j,m=j+1:=⟨m-1,by omega⟩
   simp only[yI,JE];rw[eT (Nat.le_refl _),List.drop_of_length_le (Nat.le_refl _)];have:decide ((x.a7.length:Int)<=8)=decide (x.a7.length<=8):=by
    by_cases h:x.a7.length<=8
    .have bn:(x.a7.length:Int)<=8:=by omega
     simp[h,bn]
    .have bn:¬(x.a7.length:Int)<=8:=by omega
     simp[h,bn]
   rw[this];simp only[cond_false,List.all_nil,Bool.true_and,UW];rfl
  .intro i ak ih v m hm;obtain⟨m,rfl⟩:∃j,m=j+1:=⟨m-1,by omega⟩
   simp only[yI,JE,oF];rw[fq ak,eu _ i ak,fV i _ ak (by omega),drop_cons x.a7 i ak];simp only[cond_true,bind_some,List.all_cons];rw[ih _ m (by omega)];simp only[CK,Md];cases ho x.a7[i] 1 7<;>simp
 refine eU (x.a7.length+1) λm hm=>?_;have:=key 0 (by omega) 1 m (by omega);rw[List.drop_zero]at this;refine this.trans ?_;unfold qe;cases x.a7.all (λn=>ho n 1 7)<;>simp
theorem UY (es:aob) (v:Int) (aD: -1000000<=v/\v<=1000000) (h:es.length<=1048576) (he:∀e∈es,e.length<=1048576):wh es v=some (pz es v):=by
 unfold wh pz;refine Mc es (λe=>i7 e v 60) (λm=>?_) λi ak m=>?_
 .simp only[Bq,Jd];rw[eT (Nat.le_refl _)];rfl
 .simp only[Bq,Jd];rw[fq ak,eu _ i ak,fV i _ ak (by omega)];simp only[cond_true,bind_some,UU _ v 60 aD (he _ (List.getElem_mem ak))];cases i7 es[i] v 60<;>rfl
theorem aky (s:anR):wi s=some (tv s):=by
 unfold wi;rw[L8];rfl
theorem UZ (s:anR) (U:s.length<=140737488355328):uy s=some (tv s):=by
 unfold uy;rw[Uw s U];rfl
def Mg (e:aob):Prop:=e.length<=1048576/\∀t∈e,t.length<=1048576
def Ge (x:bS):Prop:=x.a7.length<=1048576/\x.Guard.length<=1048576/\x.Name.length<=1048576/\Mg x.bU/\Mg x.Next
def Gf (l:dw):Prop:=l.Start.length<=1048576/\l.cG.length<=1048576/\∀x∈l.cG,Ge x
theorem U0 {s:anR} (h:s=q6):(s==([116,97,117]:anR))=true:=by subst h;rfl
theorem U1 {s:anR} (h:s≠q6):(s==([116,97,117]:anR))=false:=by simpa [q6]using h
theorem akz (x:bS) (p:Int) (al:0<=p/\p<=21) (ag:Ge x):Em x p=some (sk x p):=by
 obtain⟨h1,ab,ay,aT,bp⟩:=ag;unfold Em sk;obtain⟨n,aI,aM⟩:=akw x.a7 h1;rw[aI];simp only[bind_some,aM];cases U:qe x.a7
 .rfl
 .have dy:x.a7.length<=8:=by simp only[qe,Bool.and_eq_true,decide_eq_true_eq]at U;exact U.1
  have hw:i64.wrap (p+(x.a7.length:Int))=p+(x.a7.length:Int):=dQ (p+(x.a7.length:Int)) ⟨by omega,by omega⟩;simp only[hw,UU x.Guard (p+(x.a7.length:Int)) 60 (by omega) ab,UY x.bU (p+(x.a7.length:Int)) (by omega) aT.1 aT.2,UY x.Next (p+(x.a7.length:Int)) (by omega) bp.1 bp.2,aky,bind_some,Bool.not_true,cond_false,Bool.true_and];cases i7 x.Guard (p+(x.a7.length:Int)) 60
  .rfl
  .cases aN:(x.Next.length:Int)==p
   .have:((x.Next.length:Int) !=p)=true:=by simp only[bne,aN];rfl
    rw[this];rfl
   .have:((x.Next.length:Int) !=p)=false:=by simp only[bne,aN];rfl
    rw[this];simp only[Bool.not_true,Bool.or_self,cond_false,Bool.true_and];by_cases aL:x.Name=q6
    .rw[U0 aL,if_pos aL];simp only[cond_true,Bool.not_true,cond_false];by_cases bg:x.bU.length=0
     .have d1:decide ((0:Int)<(x.bU.length:Int))=false:=by simp only[decide_eq_false_iff_not];omega
      have d2:decide ((2:Int)<(x.bU.length:Int))=false:=by simp only[decide_eq_false_iff_not];omega
      have d3:decide (x.bU.length=0)=true:=by simpa using bg
      rw[d1,d2,d3];cases pz x.bU (p+(x.a7.length:Int))<;>cases pz x.Next (p+(x.a7.length:Int))<;>rfl
     .have d1:decide ((0:Int)<(x.bU.length:Int))=true:=by simp only[decide_eq_true_eq];omega
      have d3:decide (x.bU.length=0)=false:=by simpa using bg
      rw[d1,d3];rfl
    .rw[U1 aL,if_neg aL];simp only[Bool.not_false,cond_true,cond_false];cases tv x.Name
     .rfl
     .by_cases bg:x.bU.length<=2
      .have d2:decide ((2:Int)<(x.bU.length:Int))=false:=by simp only[decide_eq_false_iff_not];omega
       have d3:decide (x.bU.length<=2)=true:=by simpa using bg
       rw[d2,d3];cases pz x.bU (p+(x.a7.length:Int))<;>cases pz x.Next (p+(x.a7.length:Int))<;>rfl
      .have d2:decide ((2:Int)<(x.bU.length:Int))=true:=by simp only[decide_eq_true_eq];omega
       have d3:decide (x.bU.length<=2)=false:=by simpa using bg
       rw[d2,d3];rfl
theorem akA (s:anT) (p:Int) (h:s.length<=1048576):Ei s p=some (u2 s p):=by
 unfold Ei u2;have e:Eh s=some (s.all λn=>ho n 0 63):=by
  unfold Eh;refine Mc s (λn=>ho n 0 63) (λm=>?_) λi ak m=>?_
  .simp only[Bo,Ja];rw[eT (Nat.le_refl _)];rfl
  .simp only[Bo,Ja,pd];rw[fq ak,eu _ i ak,fV i _ ak (by omega)];simp only[cond_true,bind_some,CK];cases ho s[i] 0 63<;>rfl
 rw[e];cases(s.length:Int)==p<;>rfl
theorem akB (l:dw) (h:Gf l):En l=some (zA l):=by
 unfold En zA pd;simp only[bind_some,CK];rw[akA _ _ h.1];simp only[bind_some];cases al:ho l.eY 0 21
 .rfl
 .cases u2 l.Start l.eY
  .rfl
  .simp only[Bool.not_true,cond_false,Bool.false_or,Bool.true_and];have eg:0<=l.eY/\l.eY<=21:=by simpa [ho]using al
   by_cases CL:l.cG.length<=60
   .have d1:decide ((60:Int)<(l.cG.length:Int))=false:=by simp only[decide_eq_false_iff_not];omega
    have d2:decide (l.cG.length<=60)=true:=by simpa using CL
    rw[d1,d2,cond_false,Bool.true_and];refine Mc l.cG (λx=>sk x l.eY) (λm=>?_) λi ak m=>?_
    .simp only[Bu,Jf];rw[eT (Nat.le_refl _)];rfl
    .simp only[Bu,Jf];rw[fq ak,eu _ i ak,fV i _ ak (by omega)];simp only[cond_true,bind_some,akz _ _ eg (h.2.2 _ (List.getElem_mem ak))];cases sk l.cG[i] l.eY<;>rfl
   .have d1:decide ((60:Int)<(l.cG.length:Int))=true:=by simp only[decide_eq_true_eq];omega
    have d2:decide (l.cG.length<=60)=false:=by simpa using CL
    rw[d1,d2];rfl
def np {α:Type} (ls:List (List α)):Nat:=fN List.length ls
theorem akC (n:Int) (ba:0<=n) (h:n<=1099511627776):EJ n=some ():=by
 unfold EJ JG EI;have fA:i64.wrap 0=0:=dQ 0 (by omega);have aI:i64.wrap (n-0)=n:=by rw[dQ (n-0) (by omega)];omega
 have d:decide (n<0)=false:=by simp only[decide_eq_false_iff_not];omega
 rw[d,fA,aI,show kg 24 n=some () by unfold kg;rw[if_pos ⟨by omega,by omega,by omega⟩]];cases decide (0<n)<;>rfl
theorem akD (ls:List aob) (h:ls.length<=1048576) (U:np ls<=1099511627776):EK ls=some ls.flatten:=by
 have wA:lim (λn=>wB ls n [] 0)=some ls.flatten:=by
  have key:∀i,i<=ls.length->∀(v:aob) m,v.length+np (ls.drop i)<=1099511627776->ls.length-i<m->wB ls m v (i:Int)=some (v++(ls.drop i).flatten):=by
   refine down ls.length ?_ ?_
   .intro v m _ hm;obtain⟨m,rfl⟩:∃j,m=j+1:=⟨m-1,by omega⟩
    simp only[wB,JI];rw[eT (Nat.le_refl _),List.drop_of_length_le (Nat.le_refl _)];simp
   .intro i ak ih v m aD hm;obtain⟨m,rfl⟩:∃j,m=j+1:=⟨m-1,by omega⟩
    rw[drop_cons ls i ak]at aD⊢;simp only[np,fN]at aD;simp only[wB,JI];rw[fq ak,eu _ i ak,fV i _ ak (by omega)];simp only[cond_true,bind_some];rw[lC (by omega) (by omega)];simp only[bind_some];rw[ih _ m (by simp only[List.length_append,np];omega) (by omega)];simp only[List.flatten_cons,List.append_assoc]
  refine eU (ls.length+1) λm hm=>?_;have:=key 0 (by omega) [] m (by simpa using U) (by omega);simpa using this
 unfold EK;have key:∀i,i<=ls.length->∀(v:Int) m,0<=v->v+np (ls.drop i)<=1099511627776->ls.length-i<m->wC ls m v (i:Int)=some ls.flatten:=by
  refine down ls.length ?_ ?_
  .intro v m ba aD hm;obtain⟨m,rfl⟩:∃j,m=j+1:=⟨m-1,by omega⟩
   simp only[wC,JJ];rw[eT (Nat.le_refl _),akC v ba (by omega)];simp only[cond_false,bind_some];exact wA
  .intro i ak ih v m ba aD hm;obtain⟨m,rfl⟩:∃j,m=j+1:=⟨m-1,by omega⟩
   rw[drop_cons ls i ak]at aD;simp only[np,fN]at aD;simp only[wC,JJ,JH];rw[fq ak,eu _ i ak,fV i _ ak (by omega)];simp only[cond_true,bind_some];have e:i64.wrap (v+(ls[i].length:Int))=v+(ls[i].length:Int):=dQ (v+(ls[i].length:Int)) ⟨by omega,by omega⟩;have d:decide (v+(ls[i].length:Int)<0)=false:=by simp only[decide_eq_false_iff_not];omega
   rw[e,d,cond_false];exact ih _ m (by omega) (by simp only[np];omega) (by omega)
 refine eU (ls.length+1) λm hm=>?_;exact key 0 (by omega) 0 m (by omega) (by rw[List.drop_zero];omega) (by omega)
theorem akE (x:bS) (ag:Ge x):yJ x=some (x.Guard::(x.bU++x.Next)):=by
 unfold yJ;have aT:=ag.2.2.2.1.1;have bp:=ag.2.2.2.2.1;rw[akD _ (by simp) (by simp only[np,fN,List.length_cons,List.length_nil];omega)];simp
theorem akF (x:bS) (p:Int) (al:0<=p/\p<=21) (dy:x.a7.length<=8) (es:aob) (h:es.length<=1099511627776) (he:∀e∈es,e.length<=1048576):
  wD es p x=some (!pz es (p+x.a7.length)):=by
 unfold wD JL;rw[Gb (f:=λe=>EO e p x) es (λe=> !i7 e (p+x.a7.length) 60) (λm i=>by simp only[EP,Ru]) (λe hm=>by
  unfold EO;have hw:i64.wrap (p+(x.a7.length:Int))=p+(x.a7.length:Int):=dQ (p+(x.a7.length:Int)) ⟨by omega,by omega⟩;rw[hw,akr e _ 60 (by omega) (by omega) (he e hm)];rfl) h]
 simp only[bind_some,CJ,Gc];rfl
theorem akG (x:bS) (p:Int) (al:0<=p/\p<=21) (ag:Ge x):ER x p=some (sk x p):=by
 have tG:=ag;obtain⟨h1,ab,ay,aT,bp⟩:=ag;unfold ER sk;rw[akx x h1];simp only[bind_some];cases U:qe x.a7
 .rfl
 .have dy:x.a7.length<=8:=by simp only[qe,Bool.and_eq_true,decide_eq_true_eq]at U;exact U.1
  have Ay:wD (x.Guard::(x.bU++x.Next)) p x=some (!(i7 x.Guard (p+x.a7.length) 60&&(pz x.bU (p+x.a7.length)&&pz x.Next (p+x.a7.length)))):=by
   have anL:=aT.1;have anM:=bp.1;rw[akF x p al dy _ (by simp only[List.length_cons,List.length_append];omega) (λe he=>by
    rcases List.mem_cons.1 he with rfl|he
    .exact ab
    .rcases List.mem_append.1 he with he|he
     .exact aT.2 e he
     .exact bp.2 e he)]
   simp only[pz,List.all_cons,List.all_append]
  rw[akE x tG,UZ _ (by omega)];simp only[bind_some,Ay,Bool.not_true,Bool.false_or,Bool.true_and,Bool.not_not];cases aN:(x.Next.length:Int)==p
  .have:((x.Next.length:Int) !=p)=true:=by simp only[bne,aN];rfl
   rw[this];cases i7 x.Guard (p+(x.a7.length:Int)) 60<;>rfl
  .have:((x.Next.length:Int) !=p)=false:=by simp only[bne,aN];rfl
   rw[this];simp only[cond_false,Bool.true_and];by_cases aL:x.Name=q6
   .rw[U0 aL,if_pos aL];simp only[cond_true,Bool.not_true,cond_false];by_cases bg:x.bU.length=0
    .have d1:decide ((0:Int)<(x.bU.length:Int))=false:=by simp only[decide_eq_false_iff_not];omega
     have d3:decide (x.bU.length=0)=true:=by simpa using bg
     rw[d1,d3];simp
    .have d1:decide ((0:Int)<(x.bU.length:Int))=true:=by simp only[decide_eq_true_eq];omega
     have d3:decide (x.bU.length=0)=false:=by simpa using bg
     rw[d1,d3];cases i7 x.Guard (p+(x.a7.length:Int)) 60<;>rfl
   .rw[U1 aL,if_neg aL];simp only[Bool.not_false,cond_true,cond_false];by_cases bg:x.bU.length<=2
    .have d2:decide ((2:Int)<(x.bU.length:Int))=false:=by simp only[decide_eq_false_iff_not];omega
     have d3:decide (x.bU.length<=2)=true:=by simpa using bg
     rw[d2,d3];cases decide ((0:Int)<(x.bU.length:Int))<;>cases tv x.Name<;>cases i7 x.Guard (p+(x.a7.length:Int)) 60<;>simp
    .have d1:decide ((0:Int)<(x.bU.length:Int))=true:=by simp only[decide_eq_true_eq];omega
     have d2:decide ((2:Int)<(x.bU.length:Int))=true:=by simp only[decide_eq_true_eq];omega
     have d3:decide (x.bU.length<=2)=false:=by simpa using bg
     rw[d1,d2,d3];cases tv x.Name<;>cases i7 x.Guard (p+(x.a7.length:Int)) 60<;>rfl
theorem akH (l:dw) (s:anT) (h:s.length<=1048576):EE l s=some (u2 s l.eY):=by
 unfold EE uw BI BH;rw[Gb (f:=BF) s (λn=> !ho n 0 63) (λm i=>by simp only[uv,BG]) (λn _=>rfl) (by omega)];simp only[bind_some,CJ,Gc,Bool.not_not];unfold u2;cases(s.length:Int)==l.eY<;>rfl
theorem akI (l:dw) (h:Gf l):EU l=some (zA l):=by
 unfold EU zA oF;simp only[bind_some,CK];rw[akH _ _ h.1];simp only[bind_some];cases al:ho l.eY 0 21
 .rfl
 .cases u2 l.Start l.eY
  .rfl
  .simp only[Bool.not_true,cond_false,Bool.false_or,Bool.true_and];have eg:0<=l.eY/\l.eY<=21:=by simpa [ho]using al
   by_cases CL:l.cG.length<=60
   .have d1:decide ((60:Int)<(l.cG.length:Int))=false:=by simp only[decide_eq_false_iff_not];omega
    have d2:decide (l.cG.length<=60)=true:=by simpa using CL
    rw[d1,d2,cond_false,Bool.true_and];unfold JN JM;rw[Gb (f:=λx=>ES x l) l.cG (λx=> !sk x l.eY) (λm i=>by simp only[ET,Rv]) (λx ag=>by
     unfold ES;rw[akG x _ eg (h.2.2 x ag)];rfl) (by omega)]
    simp only[bind_some,CJ,Gc,Bool.not_not]
   .have d1:decide ((60:Int)<(l.cG.length:Int))=true:=by simp only[decide_eq_true_eq];omega
    have d2:decide (l.cG.length<=60)=false:=by simpa using CL
    rw[d1,d2];rfl
theorem U2 (es:aob) (h:fu (λx:List aO=>x.length+0) es<=1048576):Mg es:=
 ⟨Nat.le_trans (oL _ _) h,λt aL=>by
  have:=uU (f:=λx:List aO=>x.length+0) aL;simp only[Nat.add_zero]at this h;omega⟩
theorem akJ (l:dw) (h:sj l<=1048576):Gf l:=by
 unfold sj at h;have U:fu lE l.cG<=1048576:=by omega
 refine⟨by omega,Nat.le_trans (oL _ _) U,λx ag=>?_⟩;have hm:=uU (f:=lE) ag;have U3:lE x<=1048576:=by omega
 unfold lE at U3;exact⟨by omega,by omega,by omega,U2 _ (by omega),U2 _ (by omega)⟩
end Go.lT
