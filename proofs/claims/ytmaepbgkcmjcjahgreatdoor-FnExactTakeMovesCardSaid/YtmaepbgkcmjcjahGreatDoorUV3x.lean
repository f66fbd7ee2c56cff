/- Part of a proof that a law returns true for every input. No condition. -/
import Derived.Test.YtmaepbgkcmjcjahGreatDoorP3
import Derived.Test.YtmaepbgkcmjcjahGreatDoorUV0x
import Derived.Test.YtmaepbgkcmjcjahGreatDoorUV2x
import Derived.Test.YtmaepbgkcmjcjahGreatDoorUV1x
namespace Go.k6
open List Option Go.IntKind Nat Or
open Go Go.ei
set_option linter.unusedSimpArgs false
theorem atW (x:azo) (n:Int) (aq:(x.length<=9223372036854775807/\∀y∈x,Cc y)) (bc:0<=n) (aV:n<=1048576):F1 x n=some (je n (x.length+0)):=by
 unfold F1;refine pW aq.1 bc aV λh=>?_;rw[eE _ (by omega)];exact w7 (by omega)
theorem atX (x:azl) (n:Int) (aq:(x.length<=9223372036854775807/\∀y∈x,(y.length<=9223372036854775807/\∀z∈y,Cc z))) (bc:0<=n) (aV:n<=1048576):JK x n=some (je n (eg (λx=>x.length+0) x)):=by
 unfold JK;refine pW aq.1 bc aV λh=>?_;rw[eE _ (by omega)];exact D4 (f:=F1) (λx=>x.length+0) x (λ_ _ _=>rfl) (λy hy n bc aV=>atW y n (aq.2 y hy) bc aV) (by omega) _ (by omega) (by omega)
def tR (x:lx):Nat:=(x.Name.length+((eg (λx=>x.length+0) x.cl)+0))
theorem atY (x:lx) (n:Int) (aq:FV x) (bc:0<=n) (aV:n<=1048576):F2 x n=some (je n (tR x)):=by
 unfold F2;unfold tR;obtain⟨w0,ft,hR,qQ⟩:=aq;refine pW hR (by omega) (by omega) λc2=>?_;rw[eE (n-(x.Name.length:Int)) (by omega)];refine vz (atX _ _ qQ (by omega) (by omega)) λc3=>?_;exact w7 (by omega)
theorem atZ (x:azp) (n:Int) (aq:(x.length<=9223372036854775807/\∀y∈x,FV y)) (bc:0<=n) (aV:n<=1048576):JL x n=some (je n (eg tR x)):=by
 unfold JL;refine pW aq.1 bc aV λh=>?_;rw[eE _ (by omega)];exact D4 (f:=F2) tR x (λ_ _ _=>rfl) (λy hy n bc aV=>atY y n (aq.2 y hy) bc aV) (by omega) _ (by omega) (by omega)
def tS (x:ly):Nat:=(x.Name.length+((eg tR x.Body)+0))
theorem at0 (x:ly) (n:Int) (aq:FW x) (bc:0<=n) (aV:n<=1048576):F3 x n=some (je n (tS x)):=by
 unfold F3;unfold tS;obtain⟨w0,ft,hR⟩:=aq;refine pW w0 (by omega) (by omega) λc0=>?_;rw[eE (n-(x.Name.length:Int)) (by omega)];refine vz (atZ _ _ hR (by omega) (by omega)) λc2=>?_;exact w7 (by omega)
theorem at1 (x:azq) (n:Int) (aq:(x.length<=9223372036854775807/\∀y∈x,FW y)) (bc:0<=n) (aV:n<=1048576):JM x n=some (je n (eg tS x)):=by
 unfold JM;refine pW aq.1 bc aV λh=>?_;rw[eE _ (by omega)];exact D4 (f:=F3) tS x (λ_ _ _=>rfl) (λy hy n bc aV=>at0 y n (aq.2 y hy) bc aV) (by omega) _ (by omega) (by omega)
theorem abK (x:aze) (n:Int) (aq:(x.length<=9223372036854775807/\∀y∈x,(-9223372036854775808<=y/\y<=9223372036854775807))) (bc:0<=n) (aV:n<=1048576):F4 x n=some (je n (x.length+0)):=by
 unfold F4;refine pW aq.1 bc aV λh=>?_;rw[eE _ (by omega)];exact w7 (by omega)
def tT (x:lz):Nat:=((x.bK.length+0)+0)
theorem at2 (x:lz) (n:Int) (aq:FX x) (bc:0<=n) (aV:n<=1048576):F5 x n=some (je n (tT x)):=by
 unfold F5;unfold tT;obtain⟨w0,ft⟩:=aq;refine vz (abK _ _ ft (by omega) (by omega)) λcx=>?_;exact w7 (by omega)
theorem at3 (x:azr) (n:Int) (aq:(x.length<=9223372036854775807/\∀y∈x,FX y)) (bc:0<=n) (aV:n<=1048576):JN x n=some (je n (eg tT x)):=by
 unfold JN;refine pW aq.1 bc aV λh=>?_;rw[eE _ (by omega)];exact D4 (f:=F5) tT x (λ_ _ _=>rfl) (λy hy n bc aV=>at2 y n (aq.2 y hy) bc aV) (by omega) _ (by omega) (by omega)
def tU (x:k7):Nat:=(x.Left.length+(x.cH.length+(x.Result.length+0)))
theorem at4 (x:k7) (n:Int) (aq:FY x) (bc:0<=n) (aV:n<=1048576):F6 x n=some (je n (tU x)):=by
 unfold F6;unfold tU;obtain⟨w0,ft,hR⟩:=aq;refine pW w0 (by omega) (by omega) λc0=>?_;rw[eE (n-(x.Left.length:Int)) (by omega)];refine pW ft (by omega) (by omega) λcx=>?_;rw[eE ((n-(x.Left.length:Int))-(x.cH.length:Int)) (by omega)];refine pW hR (by omega) (by omega) λc2=>?_;rw[eE (((n-(x.Left.length:Int))-(x.cH.length:Int))-(x.Result.length:Int)) (by omega)];exact w7 (by omega)
theorem at5 (x:azs) (n:Int) (aq:(x.length<=9223372036854775807/\∀y∈x,FY y)) (bc:0<=n) (aV:n<=1048576):JO x n=some (je n (eg tU x)):=by
 unfold JO;refine pW aq.1 bc aV λh=>?_;rw[eE _ (by omega)];exact D4 (f:=F6) tU x (λ_ _ _=>rfl) (λy hy n bc aV=>at4 y n (aq.2 y hy) bc aV) (by omega) _ (by omega) (by omega)
theorem abL (x:azb) (n:Int) (aq:(x.length<=9223372036854775807/\∀y∈x,y.length<=9223372036854775807)) (bc:0<=n) (aV:n<=1048576):F7 x n=some (je n (eg length x)):=by
 unfold F7;refine pW aq.1 bc aV λh=>?_;rw[eE _ (by omega)];exact as0 x (λ_ _ _=>rfl) aq.2 (by omega) _ (by omega) (by omega)
def yX (x:o2):Nat:=((eg tS x.cw)+((eg tT x.ch)+((eg tU x.b_)+((eg length x.cD)+((eg length x.cB)+0)))))
theorem at6 (x:o2) (n:Int) (aq:FZ x) (bc:0<=n) (aV:n<=1048576):F8 x n=some (je n (yX x)):=by
 unfold F8;unfold yX;obtain⟨w0,ft,hR,qQ,S9⟩:=aq;refine vz (at1 _ _ w0 (by omega) (by omega)) λc0=>?_;refine vz (at3 _ _ ft (by omega) (by omega)) λcx=>?_;refine vz (at5 _ _ hR (by omega) (by omega)) λc2=>?_;refine vz (abL _ _ qQ (by omega) (by omega)) λc3=>?_;refine vz (abL _ _ S9 (by omega) (by omega)) λc4=>?_;exact w7 (by omega)
def rm (x:lA):Nat:=((x.bK.length+0)+0)
theorem at7 (x:lA) (n:Int) (aq:Cd x) (bc:0<=n) (aV:n<=1048576):F9 x n=some (je n (rm x)):=by
 unfold F9;unfold rm;obtain⟨w0,ft,hR⟩:=aq;refine vz (abK _ _ hR (by omega) (by omega)) λc2=>?_;exact w7 (by omega)
theorem aua (x:azt) (n:Int) (aq:(x.length<=9223372036854775807/\∀y∈x,Cd y)) (bc:0<=n) (aV:n<=1048576):JP x n=some (je n (eg rm x)):=by
 unfold JP;refine pW aq.1 bc aV λh=>?_;rw[eE _ (by omega)];exact D4 (f:=F9) rm x (λ_ _ _=>rfl) (λy hy n bc aV=>at7 y n (aq.2 y hy) bc aV) (by omega) _ (by omega) (by omega)
def Eb (x:jx):bV:=⟨x.Kind,x.Value⟩
theorem aub (x:jx):F_ x=some (Eb x):=by
 unfold F_;rfl
theorem auc (x:azo) (h:(x.length+0)<=1048576):Ga x=some (x.map Eb):=by
 unfold Ga;have hl:x.length<=1048576:=by omega
 rw[tL _ hl (by decide)];simp only[bind_some];rw[w8 (f:=F_) Eb x _ (λ_ _ _=>rfl) (λy hy=>aub y) hl]
theorem aud (x:azl) (h:(eg (λx=>x.length+0) x)<=1048576):JQ x=some (x.map (map Eb)):=by
 unfold JQ;have hl:x.length<=1048576:=Nat.le_trans (kd _ _) h;rw[tL _ hl (by decide)];simp only[bind_some];rw[w8 (f:=Ga) (map Eb) x _ (λ_ _ _=>rfl) (λy hy=>auc y (Nat.le_trans (nn (f:=(λx=>x.length+0)) hy) h)) hl]
def Ec (x:lx):ca:=⟨x.Kind,x.Number,x.Name,(x.cl.map (map Eb))⟩
def nq (x:ca):Nat:=(x.Name.length+((eg (λx=>x.length+0) x.cl)+0))
theorem aue (x:lx):nq (Ec x)=tR x:=by
 simp only[nq,tR,Ec,A4,length_map]
theorem auf (x:lx) (h:(tR x)<=1048576):Gb x=some (Ec x):=by
 unfold Gb;unfold tR at h;rw[aud _ (by omega)];rfl
theorem aug (x:azp) (h:(eg tR x)<=1048576):JR x=some (x.map Ec):=by
 unfold JR;have hl:x.length<=1048576:=Nat.le_trans (kd _ _) h;rw[tL _ hl (by decide)];simp only[bind_some];rw[w8 (f:=Gb) Ec x _ (λ_ _ _=>rfl) (λy hy=>auf y (Nat.le_trans (nn (f:=tR) hy) h)) hl]
def Ed (x:ly):a6:=⟨x.Name,x.dU,(x.Body.map Ec)⟩
def oa (x:a6):Nat:=(x.Name.length+((eg nq x.Body)+0))
theorem auh (x:ly):oa (Ed x)=tS x:=by
 simp only[oa,tS,Ed,A4,length_map,aue]
theorem aui (x:ly) (h:(tS x)<=1048576):Gc x=some (Ed x):=by
 unfold Gc;unfold tS at h;rw[aug _ (by omega)];rfl
theorem auj (x:azq) (h:(eg tS x)<=1048576):JS x=some (x.map Ed):=by
 unfold JS;have hl:x.length<=1048576:=Nat.le_trans (kd _ _) h;rw[tL _ hl (by decide)];simp only[bind_some];rw[w8 (f:=Gc) Ed x _ (λ_ _ _=>rfl) (λy hy=>aui y (Nat.le_trans (nn (f:=tS) hy) h)) hl]
theorem Tt (x:aze) (h:(x.length+0)<=1048576):wi x=some x:=by
 unfold wi;have hl:x.length<=1048576:=by omega
 rw[tL _ hl (by decide)];simp only[bind_some];rw[w8 (f:=some) id x _ (λ_ _ _=>rfl) (λ_ _=>rfl) hl,List.map_id]
def Ee (x:lz):cV:=⟨x.cA,x.bK⟩
def nr (x:cV):Nat:=((x.bK.length+0)+0)
theorem auk (x:lz):nr (Ee x)=tT x:=by
 simp only[nr,tT,Ee,A4,length_map]
theorem aul (x:lz) (h:(tT x)<=1048576):Gd x=some (Ee x):=by
 unfold Gd;unfold tT at h;rw[Tt _ (by omega)];rfl
theorem aum (x:azr) (h:(eg tT x)<=1048576):JT x=some (x.map Ee):=by
 unfold JT;have hl:x.length<=1048576:=Nat.le_trans (kd _ _) h;rw[tL _ hl (by decide)];simp only[bind_some];rw[w8 (f:=Gd) Ee x _ (λ_ _ _=>rfl) (λy hy=>aul y (Nat.le_trans (nn (f:=tT) hy) h)) hl]
def Ef (x:k7):bZ:=⟨x.Left,x.cH,x.Result⟩
def ns (x:bZ):Nat:=(x.Left.length+(x.cH.length+(x.Result.length+0)))
theorem aun (x:k7):ns (Ef x)=tU x:=by
 simp only[ns,tU,Ef,A4,length_map]
theorem auo (x:k7) (h:(tU x)<=1048576):Ge x=some (Ef x):=by
 unfold Ge;unfold tU at h;rfl
theorem aup (x:azs) (h:(eg tU x)<=1048576):JU x=some (x.map Ef):=by
 unfold JU;have hl:x.length<=1048576:=Nat.le_trans (kd _ _) h;rw[tL _ hl (by decide)];simp only[bind_some];rw[w8 (f:=Ge) Ef x _ (λ_ _ _=>rfl) (λy hy=>auo y (Nat.le_trans (nn (f:=tU) hy) h)) hl]
theorem abM (x:azb) (h:(eg length x)<=1048576):Gf x=some x:=by
 unfold Gf;have hl:x.length<=1048576:=Nat.le_trans (kd _ _) h;rw[tL _ hl (by decide)];simp only[bind_some];rw[w8 (f:=some) id x _ (λ_ _ _=>rfl) (λ_ _=>rfl) hl,List.map_id]
def vD (x:o2):cL:=⟨(x.cw.map Ed),(x.ch.map Ee),(x.b_.map Ef),x.cD,x.cB⟩
def tV (x:cL):Nat:=((eg oa x.cw)+((eg nr x.ch)+((eg ns x.b_)+((eg length x.cD)+((eg length x.cB)+0)))))
theorem abN (x:o2):tV (vD x)=yX x:=by
 simp only[tV,yX,vD,A4,length_map,auh,auk,aun]
theorem auq (x:o2) (h:(yX x)<=1048576):yd x=some (vD x):=by
 unfold yd;unfold yX at h;rw[auj _ (by omega),aum _ (by omega),aup _ (by omega),abM _ (by omega),abM _ (by omega)];rfl
def vE (x:lA):a8:=⟨x.cA,x.Part,x.bK⟩
def l6 (x:a8):Nat:=((x.bK.length+0)+0)
theorem aur (x:lA):l6 (vE x)=rm x:=by
 simp only[l6,rm,vE,A4,length_map]
theorem aus (x:lA) (h:(rm x)<=1048576):Gg x=some (vE x):=by
 unfold Gg;unfold rm at h;rw[Tt _ (by omega)];rfl
theorem aut (x:azt) (h:(eg rm x)<=1048576):zN x=some (x.map vE):=by
 unfold zN;have hl:x.length<=1048576:=Nat.le_trans (kd _ _) h;rw[tL _ hl (by decide)];simp only[bind_some];rw[w8 (f:=Gg) vE x _ (λ_ _ _=>rfl) (λy hy=>aus y (Nat.le_trans (nn (f:=rm) hy) h)) hl]
theorem Tu (x:aze) (h:(x.length+0)<=1048576):Dy x x=some true:=by
 unfold Dy;have hl:x.length<=1048576:=by omega
 rw[vA,cond_false];exact S_ x (λ_ _=>rfl) yQ hl
theorem auu (x:a8) (h:(l6 x)<=1048576):Hd x x=some true:=by
 unfold Hd;unfold l6 at h;simp only[yQ,w9,A6,cond_false,bind_some,Bool.not_true,Tu x.bK (by omega)]
theorem abO (x:azz) (h:(eg l6 x)<=1048576):Ap x x=some true:=by
 unfold Ap;have hl:x.length<=1048576:=Nat.le_trans (kd _ _) h;rw[vA,cond_false];exact A5 (f:=Hd) x (λ_ _=>rfl) (λy hy=>auu y (Nat.le_trans (nn (f:=l6) hy) h)) hl
theorem abP (x:azb) (h:(eg length x)<=1048576):vt x x=some true:=by
 unfold vt;have hl:x.length<=1048576:=Nat.le_trans (kd _ _) h;rw[vA,cond_false];exact S_ x (λ_ _=>rfl) w9 hl
theorem auv (x:bV):He x x=some true:=by
 unfold He;simp only[yQ,w9,A6,cond_false,bind_some,Bool.not_true]
theorem auw (x:azu) (h:(x.length+0)<=1048576):Hf x x=some true:=by
 unfold Hf;have hl:x.length<=1048576:=by omega
 rw[vA,cond_false];exact A5 (f:=He) x (λ_ _=>rfl) (λy hy=>auv y) hl
theorem auy (x:azm) (h:(eg (λx=>x.length+0) x)<=1048576):K0 x x=some true:=by
 unfold K0;have hl:x.length<=1048576:=Nat.le_trans (kd _ _) h;rw[vA,cond_false];exact A5 (f:=Hf) x (λ_ _=>rfl) (λy hy=>auw y (Nat.le_trans (nn (f:=(λx=>x.length+0)) hy) h)) hl
theorem auz (x:ca) (h:(nq x)<=1048576):Hg x x=some true:=by
 unfold Hg;unfold nq at h;simp only[yQ,w9,A6,cond_false,bind_some,Bool.not_true,auy x.cl (by omega)]
theorem auA (x:azv) (h:(eg nq x)<=1048576):K1 x x=some true:=by
 unfold K1;have hl:x.length<=1048576:=Nat.le_trans (kd _ _) h;rw[vA,cond_false];exact A5 (f:=Hg) x (λ_ _=>rfl) (λy hy=>auz y (Nat.le_trans (nn (f:=nq) hy) h)) hl
theorem auB (x:a6) (h:(oa x)<=1048576):Hh x x=some true:=by
 unfold Hh;unfold oa at h;simp only[yQ,w9,A6,cond_false,bind_some,Bool.not_true,auA x.Body (by omega)]
theorem auC (x:azw) (h:(eg oa x)<=1048576):K2 x x=some true:=by
 unfold K2;have hl:x.length<=1048576:=Nat.le_trans (kd _ _) h;rw[vA,cond_false];exact A5 (f:=Hh) x (λ_ _=>rfl) (λy hy=>auB y (Nat.le_trans (nn (f:=oa) hy) h)) hl
theorem auD (x:cV) (h:(nr x)<=1048576):Hi x x=some true:=by
 unfold Hi;unfold nr at h;simp only[yQ,w9,A6,cond_false,bind_some,Bool.not_true,Tu x.bK (by omega)]
theorem auE (x:azx) (h:(eg nr x)<=1048576):K3 x x=some true:=by
 unfold K3;have hl:x.length<=1048576:=Nat.le_trans (kd _ _) h;rw[vA,cond_false];exact A5 (f:=Hi) x (λ_ _=>rfl) (λy hy=>auD y (Nat.le_trans (nn (f:=nr) hy) h)) hl
theorem auF (x:bZ) (h:(ns x)<=1048576):Hj x x=some true:=by
 unfold Hj;unfold ns at h;simp only[yQ,w9,A6,cond_false,bind_some,Bool.not_true]
theorem auG (x:azy) (h:(eg ns x)<=1048576):K4 x x=some true:=by
 unfold K4;have hl:x.length<=1048576:=Nat.le_trans (kd _ _) h;rw[vA,cond_false];exact A5 (f:=Hj) x (λ_ _=>rfl) (λy hy=>auF y (Nat.le_trans (nn (f:=ns) hy) h)) hl
theorem auH (x:cL) (h:(tV x)<=1048576):Hk x x=some true:=by
 unfold Hk;unfold tV at h;simp only[yQ,w9,A6,cond_false,bind_some,Bool.not_true,auC x.cw (by omega),auE x.ch (by omega),auG x.b_ (by omega),abP x.cD (by omega),abP x.cB (by omega)]
theorem Eg (k:Int) (bc:0<=k) (ab:k<=1099511627776):∃t,vu k=some t:=by
 have key:∀(n:Nat) (k:Int),0<=k->k<=n->n<=1099511627776->∀t:azc,t.length+n<=1099511627776->∃r,∀m,n<m->Aq m k t=some r:=by
  intro n;induction n with
  |zero=>
   intro k ad ag aD t bb;refine⟨[109]++t,λm hm=>?_⟩;obtain⟨m,rfl⟩:∃j,m=j+1:=⟨m-1,by omega⟩
   simp only[Aq,K5];rw[show decide (0<k)=false by simp;omega,cond_false,show iJ (1+t.length)=some () by unfold iJ;rw[if_pos (by omega)]];rfl
  |succ n ih=>
   intro k ad ag aD t bb;by_cases aw:0<k
   .have ao:Int.tdiv k 10=k/10:=Int.tdiv_eq_ediv_of_nonneg ad;have hw:i64.wrap (Int.tdiv k 10)=k/10:=by rw[ao];exact eE _ (by omega)
    obtain⟨r,aS⟩:=ih (k/10) (by omega) (by omega) (by omega) ([(pk (i64.wrap (48+(Int.tmod k 10))))]++t) (by simp only[length_append,length_cons,length_nil];omega);refine⟨r,λm hm=>?_⟩;obtain⟨m,rfl⟩:∃j,m=j+1:=⟨m-1,by omega⟩
    simp only[Aq,K5];rw[show decide (0<k)=true by simp;omega,cond_true,show iJ (1+t.length)=some () by unfold iJ;rw[if_pos (by omega)]];simp only[bind_some,hw];exact aS m (by omega)
   .refine⟨[109]++t,λm hm=>?_⟩;obtain⟨m,rfl⟩:∃j,m=j+1:=⟨m-1,by omega⟩
    simp only[Aq,K5];rw[show decide (0<k)=false by simp;omega,cond_false,show iJ (1+t.length)=some () by unfold iJ;rw[if_pos (by omega)]];rfl
 unfold vu;by_cases aw:k<=0
 .exact⟨_,by rw[show decide (k<=0)=true by simpa using aw];rfl⟩
 .obtain⟨r,aS⟩:=key k.toNat k bc (by omega) (by omega) [] (by simp only[length_nil];omega);exact⟨r,by rw[show decide (k<=0)=false by simp;omega,cond_false];exact e5 (k.toNat+1) λm hm=>aS m (by omega)⟩
theorem auI (x:azu) (k:Int) (bc:0<=k) (ab:k+64*(x.length+0)<=1099511627776):∃(cU:azu) (c:Nat),c<=64*(x.length+0)/\K6 x k=some (k+(c:Int),cU):=by
 unfold K6;have e:hV (λ_=>64) x=64*x.length:=Tb 64 x;obtain⟨cU,c,ad,ag⟩:=D5 (l:=Dz) (λ_=>64) (λm v k=>by simp only[Dz,Rd];rw[eh (Nat.le_refl _)];rfl) (λx k bc ab=>by
  have ft:i64.wrap (k+1)=k+1:=eE _ (by omega);have hR:i64.wrap ((k+1)+1)=(k+1)+1:=eE _ (by omega);refine⟨(bV.mk k (k+1)),1+1,by omega,λm d r ao=>?_⟩;simp only[Dz,Rd];rw[sv];simp only[cond_true,su,xb,bind_some,ft,hR];rw[sw ao];rw[show(((k+1)+1):Int)=k+((1+1:Nat):Int) by omega]) x k bc (by omega) (by omega)
 exact⟨cU,c,by omega,ag⟩
theorem auJ (x:azm) (k:Int) (bc:0<=k) (ab:k+64*(eg (λx=>x.length+0) x)<=1099511627776):∃(cU:azm) (c:Nat),c<=64*(eg (λx=>x.length+0) x)/\K7 x k=some (k+(c:Int),cU):=by
 unfold K7;have e:hV (λx=>64*((x.length+0)+1)) x=64*eg (λx=>x.length+0) x:=yR (λx=>x.length+0) x;have hl:x.length<=eg (λx=>x.length+0) x:=kd _ _;obtain⟨cU,c,ad,ag⟩:=D5 (l:=DA) (λx=>64*((x.length+0)+1)) (λm v k=>by simp only[DA,Re];rw[eh (Nat.le_refl _)];rfl) (λx k bc ab=>by
  obtain⟨fy,cx,hG,m1⟩:=auI x k (by omega) (by omega);refine⟨fy,cx,by omega,λm d r ao=>?_⟩;simp only[DA,Re];rw[sv];simp only[cond_true,su,xb,bind_some,m1];rw[sw ao]) x k bc (by omega) (by omega)
 exact⟨cU,c,by omega,ag⟩
theorem auK (x:azv) (k:Int) (bc:0<=k) (ab:k+64*(eg nq x)<=1099511627776):∃(cU:azv) (c:Nat),c<=64*(eg nq x)/\K8 x k=some (k+(c:Int),cU):=by
 unfold K8;have e:hV (λx=>64*((nq x)+1)) x=64*eg nq x:=yR nq x;have hl:x.length<=eg nq x:=kd _ _;obtain⟨cU,c,ad,ag⟩:=D5 (l:=DB) (λx=>64*((nq x)+1)) (λm v k=>by simp only[DB,Rf];rw[eh (Nat.le_refl _)];rfl) (λx k bc ab=>by
  simp only[nq]at ab⊢;have ft:i64.wrap (k+1)=k+1:=eE _ (by omega);have hR:i64.wrap ((k+1)+1)=(k+1)+1:=eE _ (by omega);obtain⟨oZ,t3⟩:=Eg ((k+1)+1) (by omega) (by omega);have qQ:i64.wrap (((k+1)+1)+1)=((k+1)+1)+1:=eE _ (by omega);obtain⟨tK,c4,bT,m4⟩:=auJ x.cl (((k+1)+1)+1) (by omega) (by omega);refine⟨(ca.mk k (k+1) oZ tK),1+1+1+c4,by omega,λm d r ao=>?_⟩;simp only[DB,Rf];rw[sv];simp only[cond_true,su,xb,bind_some,ft,hR,t3,qQ,m4];rw[sw ao];rw[show(((((k+1)+1)+1)+(c4:Int)):Int)=k+((1+1+1+c4:Nat):Int) by omega]) x k bc (by omega) (by omega)
 exact⟨cU,c,by omega,ag⟩
theorem auL (x:azw) (k:Int) (bc:0<=k) (ab:k+64*(eg oa x)<=1099511627776):∃(cU:azw) (c:Nat),c<=64*(eg oa x)/\K9 x k=some (k+(c:Int),cU):=by
 unfold K9;have e:hV (λx=>64*((oa x)+1)) x=64*eg oa x:=yR oa x;have hl:x.length<=eg oa x:=kd _ _;obtain⟨cU,c,ad,ag⟩:=D5 (l:=DC) (λx=>64*((oa x)+1)) (λm v k=>by simp only[DC,Rg];rw[eh (Nat.le_refl _)];rfl) (λx k bc ab=>by
  simp only[oa]at ab⊢;obtain⟨s1,t1⟩:=Eg k (by omega) (by omega);have ft:i64.wrap (k+1)=k+1:=eE _ (by omega);have hR:i64.wrap ((k+1)+1)=(k+1)+1:=eE _ (by omega);obtain⟨na,c3,gj,m3⟩:=auK x.Body ((k+1)+1) (by omega) (by omega);refine⟨(a6.mk s1 (k+1) na),1+1+c3,by omega,λm d r ao=>?_⟩;simp only[DC,Rg];rw[sv];simp only[cond_true,su,xb,bind_some,t1,ft,hR,m3];rw[sw ao];rw[show((((k+1)+1)+(c3:Int)):Int)=k+((1+1+c3:Nat):Int) by omega]) x k bc (by omega) (by omega)
 exact⟨cU,c,by omega,ag⟩
theorem Tv (x:aze) (k:Int) (bc:0<=k) (ab:k+64*(x.length+0)<=1099511627776):∃(cU:aze) (c:Nat),c<=64*(x.length+0)/\DE x k=some (k+(c:Int),cU)/\Lc cU k=some (k+(c:Int)):=by
 unfold DE Lc;have e:hV (λ_=>64) x=64*x.length:=Tb 64 x;obtain⟨cU,c,ad,ag,aD⟩:=Tc (l:=DD) (hl:=DK) (λ_=>64) (λm v k=>by simp only[DD,Rh];rw[eh (Nat.le_refl _)];rfl) (λa m k=>by simp only[DK,Rm];rw[eh (Nat.le_refl _)];rfl) (λx k bc ab=>by
  have ft:i64.wrap (k+1)=k+1:=eE _ (by omega);refine⟨k,1,by omega,λm d r ao=>⟨?_,?_⟩⟩
  .simp only[DD,Rh];rw[sv];simp only[cond_true,su,xb,bind_some,ft];rw[sw ao];rw[show((k+1):Int)=k+((1:Nat):Int) by omega]
  .simp only[DK,Rm];rw[sv];simp only[cond_true,cond_false,su,bind_some,bne_self_eq_false,beq_self_eq_true,Bool.not_true,ft];rw[sw ao];rw[show((k+1):Int)=k+((1:Nat):Int) by omega]) x k bc (by omega) (by omega)
 exact⟨cU,c,by omega,ag,aD⟩
theorem auM (x:azx) (k:Int) (bc:0<=k) (ab:k+64*(eg nr x)<=1099511627776):∃(cU:azx) (c:Nat),c<=64*(eg nr x)/\K_ x k=some (k+(c:Int),cU):=by
 unfold K_;have e:hV (λx=>64*((nr x)+1)) x=64*eg nr x:=yR nr x;have hl:x.length<=eg nr x:=kd _ _;obtain⟨cU,c,ad,ag⟩:=D5 (l:=DF) (λx=>64*((nr x)+1)) (λm v k=>by simp only[DF,Ri];rw[eh (Nat.le_refl _)];rfl) (λx k bc ab=>by
  simp only[nr]at ab⊢;have ft:i64.wrap (k+1)=k+1:=eE _ (by omega);obtain⟨gk,c2,fP,m2⟩:=Tv x.bK (k+1) (by omega) (by omega);refine⟨(cV.mk k gk),1+c2,by omega,λm d r ao=>?_⟩;simp only[DF,Ri];rw[sv];simp only[cond_true,su,xb,bind_some,ft,m2];rw[sw ao];rw[show(((k+1)+(c2:Int)):Int)=k+((1+c2:Nat):Int) by omega]) x k bc (by omega) (by omega)
 exact⟨cU,c,by omega,ag⟩
theorem auN (x:azy) (k:Int) (bc:0<=k) (ab:k+64*(eg ns x)<=1099511627776):∃(cU:azy) (c:Nat),c<=64*(eg ns x)/\La x k=some (k+(c:Int),cU):=by
 unfold La;have e:hV (λx=>64*((ns x)+1)) x=64*eg ns x:=yR ns x;have hl:x.length<=eg ns x:=kd _ _;obtain⟨cU,c,ad,ag⟩:=D5 (l:=DG) (λx=>64*((ns x)+1)) (λm v k=>by simp only[DG,Rj];rw[eh (Nat.le_refl _)];rfl) (λx k bc ab=>by
  simp only[ns]at ab⊢;obtain⟨s1,t1⟩:=Eg k (by omega) (by omega);have ft:i64.wrap (k+1)=k+1:=eE _ (by omega);obtain⟨s2,t2⟩:=Eg (k+1) (by omega) (by omega);have hR:i64.wrap ((k+1)+1)=(k+1)+1:=eE _ (by omega);obtain⟨oZ,t3⟩:=Eg ((k+1)+1) (by omega) (by omega);have qQ:i64.wrap (((k+1)+1)+1)=((k+1)+1)+1:=eE _ (by omega);refine⟨(bZ.mk s1 s2 oZ),1+1+1,by omega,λm d r ao=>?_⟩;simp only[DG,Rj];rw[sv];simp only[cond_true,su,xb,bind_some,t1,ft,t2,hR,t3,qQ];rw[sw ao];rw[show((((k+1)+1)+1):Int)=k+((1+1+1:Nat):Int) by omega]) x k bc (by omega) (by omega)
 exact⟨cU,c,by omega,ag⟩
theorem Tw (x:azb) (k:Int) (bc:0<=k) (ab:k+64*(eg length x)<=1099511627776):∃(cU:azb) (c:Nat),c<=64*(eg length x)/\DI x k=some (k+(c:Int),cU)/\Hn cU k=some (k+(c:Int)):=by
 unfold DI Hn;have e:hV (λx=>64*(x.length+1)) x=64*eg length x:=yR length x;have hl:x.length<=eg length x:=kd _ _;obtain⟨cU,c,ad,ag,aD⟩:=Tc (l:=DH) (hl:=DM) (λx=>64*(x.length+1)) (λm v k=>by simp only[DH,Rk];rw[eh (Nat.le_refl _)];rfl) (λa m k=>by simp only[DM,Ro];rw[eh (Nat.le_refl _)];rfl) (λx k bc ab=>by
  obtain⟨s1,t1⟩:=Eg k (by omega) (by omega);have ft:i64.wrap (k+1)=k+1:=eE _ (by omega);refine⟨s1,1,by omega,λm d r ao=>⟨?_,?_⟩⟩
  .simp only[DH,Rk];rw[sv];simp only[cond_true,su,xb,bind_some,t1,ft];rw[sw ao];rw[show((k+1):Int)=k+((1:Nat):Int) by omega]
  .simp only[DM,Ro];rw[sv];simp only[cond_true,cond_false,su,bind_some,bne_self_eq_false,beq_self_eq_true,Bool.not_true,t1,ft];rw[sw ao];rw[show((k+1):Int)=k+((1:Nat):Int) by omega]) x k bc (by omega) (by omega)
 exact⟨cU,c,by omega,ag,aD⟩
theorem auO (x:cL) (k:Int) (bc:0<=k) (ab:k+64*((tV x)+1)<=1099511627776):∃(gm:azw) (fy:azx) (gk:azy) (na:azb) (tK:azb) (c:Nat),c<=64*((tV x)+1)/\Lb x.cw x.ch x.b_ x.cD x.cB k=some (k+(c:Int),gm,fy,gk,na,tK):=by
 unfold Lb;simp only[tV]at ab⊢;obtain⟨fy,cx,hG,m1⟩:=auL x.cw k (by omega) (by omega);obtain⟨gk,c2,fP,m2⟩:=auM x.ch (k+(cx:Int)) (by omega) (by omega);obtain⟨na,c3,gj,m3⟩:=auN x.b_ ((k+(cx:Int))+(c2:Int)) (by omega) (by omega);obtain⟨tK,c4,bT,m4⟩:=Tw x.cD (((k+(cx:Int))+(c2:Int))+(c3:Int)) (by omega) (by omega);obtain⟨auP,c5,da,m5⟩:=Tw x.cB ((((k+(cx:Int))+(c2:Int))+(c3:Int))+(c4:Int)) (by omega) (by omega);refine⟨fy,gk,na,tK,auP,cx+c2+c3+c4+c5,by omega,?_⟩;simp only[bind_some,m1,m2,m3,m4,m5];rw[show(k+((cx+c2+c3+c4+c5:Nat):Int))=(((((k+(cx:Int))+(c2:Int))+(c3:Int))+(c4:Int))+(c5:Int)) by omega]
theorem abQ (x:azz) (k:Int) (bc:0<=k) (ab:k+64*(eg l6 x)<=1099511627776):∃(cU:azz) (c:Nat),c<=64*(eg l6 x)/\Hl x k=some (k+(c:Int),cU)/\Hm cU k=some (k+(c:Int)):=by
 unfold Hl Hm;have e:hV (λx=>64*((l6 x)+1)) x=64*eg l6 x:=yR l6 x;have hl:x.length<=eg l6 x:=kd _ _;obtain⟨cU,c,ad,ag,aD⟩:=Tc (l:=DJ) (hl:=DL) (λx=>64*((l6 x)+1)) (λm v k=>by simp only[DJ,Rl];rw[eh (Nat.le_refl _)];rfl) (λa m k=>by simp only[DL,Rn];rw[eh (Nat.le_refl _)];rfl) (λx k bc ab=>by
  simp only[l6]at ab⊢;have ft:i64.wrap (k+1)=k+1:=eE _ (by omega);have hR:i64.wrap ((k+1)+1)=(k+1)+1:=eE _ (by omega);obtain⟨na,c3,gj,m3,iM⟩:=Tv x.bK ((k+1)+1) (by omega) (by omega);have fe:=L1 (k:=(((k+1)+1)+(c3:Int))) (by omega);refine⟨(a8.mk k (k+1) na),1+1+c3,by omega,λm d r ao=>⟨?_,?_⟩⟩
  .simp only[DJ,Rl];rw[sv];simp only[cond_true,su,xb,bind_some,ft,hR,m3];rw[sw ao];rw[show((((k+1)+1)+(c3:Int)):Int)=k+((1+1+c3:Nat):Int) by omega]
  .simp only[DL,Rn];rw[sv];simp only[cond_true,cond_false,su,bind_some,bne_self_eq_false,beq_self_eq_true,Bool.not_true,iM,fe,ft,hR];rw[sw ao];rw[show((((k+1)+1)+(c3:Int)):Int)=k+((1+1+c3:Nat):Int) by omega]) x k bc (by omega) (by omega)
 exact⟨cU,c,by omega,ag,aD⟩
theorem auQ {list:azw} (h:eg oa list<=1048576):pf list:=by
 refine⟨Nat.le_trans (kd _ _) h,λd ao=>?_⟩;have ad:=Nat.le_trans (nn (f:=oa) ao) h;unfold oa at ad;refine⟨by omega,Nat.le_trans (kd nq _) (by omega),λp ax=>?_⟩;have bc:nq p<=eg nq d.Body:=nn ax;have ag:nq p<=1048576:=by omega
 clear bc;unfold nq at ag;have aD:=kd (λx:List bV=>x.length+0) p.cl;refine⟨by omega,by omega,λe he=>?_⟩;have bh:e.length+0<=_:=nn (f:=λx:List bV=>x.length+0) he;omega
def mN (e:azw) (i:Nat):azc:=(e.getD i ⟨[],0,[]⟩).Name
theorem xj {e:azw} {i:Nat} (ai:i<e.length):e.getD i ⟨[],0,[]⟩=e[i]:=by simp[List.getD,ai]
def tW (e:azw) (i:Nat):Bool:=gf (λj=> !(mN e j==mN e i)) i
noncomputable def sC (e:azw) (i:Nat):Bool:=match wo e (e.getD i ⟨[],0,[]⟩)with
 |some r=>r.2==0
 |none=>false
noncomputable def lL (e:azw):Bool:=((decide (1<=e.length)&&decide (e.length<=4))&&gf (λi=>(hN (mN e i)&&xi (e.getD i ⟨[],0,[]⟩))&&tW e i) e.length)&&gf (sC e) e.length
theorem Tx {e:azw} (h:pf e) (bh:e.length<=4) (ax:Ea e=true) {i:Nat} (ai:i<e.length):
  ∃r,wo e e[i]=some r/\GS e e[i]=some r/\decide (0<r.2)= !(sC e i)/\(r.2 !=0)= !(sC e i)/\(sC e i=true->xg e[i].Body=true/\r.2=0):=by
 obtain⟨r,ek,bf,dA,bL⟩:=atU e bh e[i] (h.2 _ (getElem_mem ai)) (abJ ax i ai);have ab:sC e i=(r.2==0):=by unfold sC;rw[xj ai,ek]
 refine⟨r,ek,bf,?_,?_,λkz=>?_⟩
 .rw[ab];by_cases bc:r.2=0
  .rw[bc];rfl
  .have aR:(r.2==0)=false:=by simpa using bc
   rw[aR];exact decide_eq_true (by omega)
 .rw[ab];rfl
 .rw[ab]at kz;have bc:r.2=0:=by simpa using kz
  exact⟨bL bc,bc⟩
theorem xk {p q:Nat->Bool} {n:Nat}:gf (λi=>p i&&q i) n=(gf p n&&gf q n):=by
 rw[Bool.eq_iff_iff,Bool.and_eq_true,pd,pd,pd];constructor
 .intro h;exact⟨λi ai=>((Bool.and_eq_true _ _).mp (h i ai)).1,λi ai=>((Bool.and_eq_true _ _).mp (h i ai)).2⟩
 .rintro⟨ad,ag⟩ i ai;rw[ad i ai,ag i ai];rfl
theorem auR (e:azw) (h:pf e):J0 e=some (lL e):=by
 unfold J0 lL;by_cases hl:1<=e.length/\e.length<=4
 .have d1:(((e.length:Int)==0)||decide ((4:Int)<(e.length:Int)))=false:=by
   rw[Bool.or_eq_false_iff,beq_eq_false_iff_ne,decide_eq_false_iff_not];omega
  have d2:(decide (1<=e.length)&&decide (e.length<=4))=true:=by simp;omega
  rw[d1,d2,cond_false,Bool.true_and];rw[Be (l:=λm i=>wq e m i) (n:=e.length) (λi=>(hN (mN e i)&&xi (e.getD i ⟨[],0,[]⟩))&&tW e i) (b5 λn=>zP e n 0) (some false)]
  .cases bo:gf (λi=>(hN (mN e i)&&xi (e.getD i ⟨[],0,[]⟩))&&tW e i) e.length
   .rfl
   .have ax:Ea e=true:=by
     rw[xk,xk,Bool.and_eq_true,Bool.and_eq_true]at bo;exact bo.1.2
    rw[cond_true,Bool.true_and];rw[Be (l:=λm i=>zP e m i) (n:=e.length) (sC e) (some true) (some false)]
    .cases gf (sC e) e.length<;>rfl
    .intro m;simp only[zP,Ps];rw[eh (Nat.le_refl _)];rfl
    .intro i ai m;obtain⟨r,ek,_,dA,_⟩:=Tx h hl.2 ax ai;simp only[zP,Ps];rw[ev ai,dX _ i ai,et i _ ai (by omega)];simp only[cond_true,bind_some,ek,dA];cases sC e i<;>rfl
  .intro m;simp only[wq,Pt];rw[eh (Nat.le_refl _)];rfl
  .intro i ai m;simp only[wq,Pt];rw[ev ai,dX _ i ai];simp only[cond_true,bind_some,D7,k8];rw[Be (l:=λjS j=>Cl (wq e m) e jS (i:Int) j) (n:=i) (λj=> !(mN e j==mN e i)) (wq e m ((i+1:Nat):Int)) (some false)]
   .have aR:mN e i=e[i].Name:=by unfold mN;rw[xj ai]
    rw[<-aR,xj ai];show cond (!hN (mN e i)) _ (cond (!xi e[i]) _ (cond (tW e i) _ _))=_;cases hN (mN e i)<;>cases xi e[i]<;>cases tW e i<;>rfl
   .intro jS;simp only[Cl,Pq];rw[eh (Nat.le_refl _),et i _ ai (by omega)];rfl
   .intro j bG jS;have L9:j<e.length:=by omega
    simp only[Cl,Pq];rw[ev bG,dX _ j L9,dX _ i ai,et j _ bG (by omega)];simp only[cond_true,bind_some,mN,xj ai,xj L9];cases e[j].Name==e[i].Name<;>rfl
 .have d1:(((e.length:Int)==0)||decide ((4:Int)<(e.length:Int)))=true:=by
   by_cases bc:e.length=0
   .simp[bc]
   .have:decide ((4:Int)<(e.length:Int))=true:=decide_eq_true (by omega);rw[this,Bool.or_true]
  have d2:(decide (1<=e.length)&&decide (e.length<=4))=false:=by
   rw[Bool.and_eq_false_iff,decide_eq_false_iff_not,decide_eq_false_iff_not];omega
  rw[d1,d2];rfl
theorem auS (e:azw) (i:Nat) (ai:i<e.length) (bh:e.length<=4):((gL e 0 (i:Int)).bind λba=>(Kr ba e[i].Name).bind λaZ=>some (decide (0<=aZ)))=some (!(tW e i)):=by
 rw[w6 e i (by omega)];simp only[bind_some];unfold Kr P7;have hlen:(e.take i).length=i:=by rw[length_take];omega
 rw[tM (n:=i) (λj=>mN e j==mN e i)]
 .simp only[bind_some,w_];rfl
 .intro m;simp only[GI,P6];rw[hlen,eh (Nat.le_refl _)];rfl
 .intro j bG m;have L9:j<e.length:=by omega
  simp only[GI,P6];rw[hlen,ev bG,dX _ j (by omega),et j _ bG (by omega)];have:(e.take i)[j]'(by omega)=e[j]:=by simp
  simp only[cond_true,bind_some,P5,this,mN,xj ai,xj L9]
theorem auT (e:azw) (h:pf e):Kz e=some (lL e):=by
 unfold Kz kX lL;have nB:decide ((1:Int)<=(e.length:Int))=decide (1<=e.length):=decide_eq_decide.2 (by omega);have lo:decide ((e.length:Int)<=4)=decide (e.length<=4):=decide_eq_decide.2 (by omega);simp only[bind_some];rw[nB,lo];cases hl:(decide (1<=e.length)&&decide (e.length<=4))
 .rfl
 .have abR:1<=e.length/\e.length<=4:=by simpa using hl
  rw[atV e h.1];simp only[Bool.not_true,cond_false,bind_some,Bool.true_and];have auU:gf (λi=>(hN (mN e i)&&xi (e.getD i ⟨[],0,[]⟩))&&tW e i) e.length=((gf (λi=>hN (mN e i)) e.length&&Ea e)&&gf (tW e) e.length):=by
   rw[xk,xk];rfl
  rw[auU];cases ax:Ea e
  .simp
  .simp only[Bool.not_true,cond_false,Bool.and_true];rw[Be (l:=λm i=>CY e m i) (n:=e.length) (λi=>(hN (mN e i)&&tW e i)&&sC e i) (some true) (some false)]
   .rw[xk,xk];cases((gf (λi=>hN (mN e i)) e.length&&gf (λi=>tW e i) e.length)&&gf (λi=>sC e i) e.length)<;>rfl
   .intro m;simp only[CY,Qg];rw[eh (Nat.le_refl _)];rfl
   .intro i ai m;obtain⟨r,_,bf,_,bL,_⟩:=Tx h abR.2 ax ai;have aV:=auS e i ai abR.2;have Ty:=(h.2 _ (getElem_mem ai)).1;simp only[CY,Qg];rw[ev ai,dX _ i ai,et i _ ai (by omega)];simp only[cond_true,bind_some,abh _ (show e[i].Name.length<=140737488355328 by omega),mN,xj ai];cases hN e[i].Name
    .rfl
    .simp only[Bool.not_true,cond_false,Bool.true_and];rw[w6 e i (by omega)]at aV⊢;simp only[bind_some]at aV⊢;obtain⟨v,aF,yW⟩:=an aV;rw[aF];simp only[some.injEq]at yW;simp only[bind_some,yW,bf,bL];cases tW e i<;>cases sC e i<;>rfl
theorem Bf {e:azw} (h:pf e) (aF:lL e=true):1<=e.length/\e.length<=4/\∀i (ai:i<e.length),(0<=e[i].dU/\e[i].dU<=3)/\xg e[i].Body=true/\hN e[i].Name=true/\
  ∃r,wo e e[i]=some r/\r.2=0:=by
 unfold lL at aF;rw[Bool.and_eq_true,Bool.and_eq_true,Bool.and_eq_true,decide_eq_true_eq,decide_eq_true_eq,xk,xk,Bool.and_eq_true,Bool.and_eq_true]at aF;obtain⟨⟨⟨ad,ag⟩,⟨aD,bh⟩,b1⟩,du⟩:=aF;refine⟨ad,ag,λi ai=>?_⟩;obtain⟨r,ek,_,_,_,cG⟩:=Tx h ag bh ai;obtain⟨s1,s2⟩:=cG (pd.1 du i ai);have aV:=pd.1 aD i ai;rw[mN,xj ai]at aV;exact⟨abJ bh i ai,s1,aV,r,ek,s2⟩
theorem abS {e:azw} (h:pf e) (aF:lL e=true) {i j:Nat} (ai:i<e.length) (bG:j<e[i].Body.length):
  wj e[i] (j:Int)=some (h8 e[i] j).scope/\∃ps,CW e[i]=some ps/\bj ps (j:Int)=some (h8 e[i] j):=by
 obtain⟨_,_,ao⟩:=Bf h aF;obtain⟨ax,aa,_⟩:=ao i ai;obtain⟨s1,s2,oZ⟩:=xh aa;have ab:=(h.2 _ (getElem_mem ai)).2.1;obtain⟨gZ,_,_,_,rA⟩:=L8 e[i] aa ax j bG;exact⟨gZ,_,aby e[i] ab s1 ax.1 (by omega),by unfold bj;rw[if_pos (by omega)];exact rA⟩
theorem auV {α:Type} {L:Nat->azc->Int->Option azc} (a:List α) (t:α->azc) (c:UInt8) (k:Nat) (aw:∀x∈a,(t x).length<=k)
  (bc:∀m v,L (m+1) v (a.length:Int)=some v)
  (aa:∀i (h:i<a.length) m v,v.length<=i*(k+1)->L (m+1) v (i:Int)=L m ((if i=0 then v else v++[c])++t a[i]) ((i+1:Nat):Int)):b5 (λm=>L m [] 0)=some (jQ (a.map t) [c]):=by
 have key:∀i,i<=a.length->∀m,a.length-i<m->L m (jQ ((a.take i).map t) [c]) (i:Int)=some (jQ (a.map t) [c]):=by
  refine down a.length ?_ ?_
  .intro m hm;obtain⟨m,rfl⟩:∃j,m=j+1:=⟨m-1,by omega⟩
   rw[bc,take_length]
  .intro i ai ih m hm;obtain⟨m,rfl⟩:∃j,m=j+1:=⟨m-1,by omega⟩
   have hl:(jQ ((a.take i).map t) [c]).length<=i*(k+1):=by
    have:=Ie c k ((a.take i).map t) λx aq=>by
     obtain⟨y,hy,rfl⟩:=mem_map.1 aq;exact aw y (mem_of_mem_take hy)
    rwa [length_map,length_take,Nat.min_eq_left (Nat.le_of_lt ai)]at this
   rw[aa i ai m _ hl,<-ih m (by omega)];congr 1;rw[take_succ_eq_append_getElem ai,map_append,map_cons,map_nil];by_cases h:i=0
   .subst h;rw[if_pos rfl,take_zero,map_nil,nil_append,join_one];rfl
   .rw[if_neg h,abf _ _ _ (by simp;exact⟨h,by intro e;subst e;simp at ai⟩),append_assoc]
 refine e5 (a.length+1) λm hm=>?_;have:=key 0 (by omega) m (by omega);simpa [jQ,intercalate,intersperse]using this
theorem auW:∀d:Fin 10,pk (i64.wrap (48+((d:Nat):Int)))=UInt8.ofNat (48+d):=by decide
theorem auX (n:Nat) (h:n<10):pk (i64.wrap (48+(n:Int)))=UInt8.ofNat (48+n):=auW ⟨n,h⟩
theorem auY (a:UInt8):yi [a]=some [a]:=by
 unfold yi;refine e5 2 λm hm=>?_;obtain⟨m,rfl⟩:∃j,m=j+2:=⟨m-2,by omega⟩
 rfl
theorem auZ (a b:UInt8):yi [a,b]=some [b,a]:=by
 unfold yi;refine e5 3 λm hm=>?_;obtain⟨m,rfl⟩:∃j,m=j+3:=⟨m-3,by omega⟩
 rfl
theorem abT (a:Int) (m:Nat) (v:azc) (n:Nat) (aV:n≠0) (ayS:n<1000) (aF:v.length<=10):wv a (m+1) v (n:Int)=wv a m (v++[UInt8.ofNat (48+n%10)]) ((n/10:Nat):Int):=by
 simp only[wv,PG,Ka];have aR:((n:Int) !=0)=true:=by simp;omega
 have aW:Int.tmod (n:Int) 10=((n%10:Nat):Int):=rfl;have aU:decide (((n%10:Nat):Int)<0)=false:=by simp only[decide_eq_false_iff_not];omega
 have cc:Int.tdiv (n:Int) 10=((n/10:Nat):Int):=rfl;rw[aR,aW,aU,cc,auX (n%10) (by omega),eE ((n/10:Nat):Int) (by omega),lJ (by omega) (by omega)];rfl
theorem abU (a:Int) (bo:0<=a) (m:Nat) (v:azc):wv a (m+1) v 0=yi v:=by
 simp only[wv,PG];have e:decide (a<0)=false:=by simp only[decide_eq_false_iff_not];omega
 rw[e];rfl
theorem au0 (n:Nat) (h:n<100):Gw (n:Int)=some (jn n):=by
 unfold Gw;by_cases bc:n=0
 .subst bc;rfl
 have e:((n:Int)==0)=false:=by simp;omega
 rw[e,cond_false];refine e5 3 λm hm=>?_;obtain⟨m,rfl⟩:∃j,m=j+3:=⟨m-3,by omega⟩
 rw[abT _ _ _ n bc (by omega) (by simp)];by_cases ad:n<10
 .have aR:n/10=0:=by omega
  have aW:n%10=n:=by omega
  rw[aR,aW];rw[show(((0:Nat):Int))=0 from rfl,abU _ (by omega),nil_append,auY,jn,if_pos ad]
 .rw[abT _ _ _ (n/10) (by omega) (by omega) (by simp)];have aR:n/10/10=0:=by omega
  have aW:n/10%10=n/10:=by omega
  rw[aR,aW];rw[show(((0:Nat):Int))=0 from rfl,abU _ (by omega),nil_append,singleton_append,auZ,jn,if_neg ad]
def iS (a:aze):azc:=if a=[]then [45]else jQ (a.map ku) [44]
theorem xl (a:aze):(iS a).length<=a.length*3+1:=by
 unfold iS;split
 .simp
 .have:=Ie 44 2 (a.map ku) λx aq=>by
   obtain⟨y,_,rfl⟩:=mem_map.1 aq;exact Ig y
  rw[length_map]at this;omega
theorem au1 {x:Int} (h:0<=x/\x<=63):Gw x=some (ku x):=by
 have:=au0 x.toNat (by omega)
 rwa [Int.toNat_of_nonneg h.1]at this
theorem au2 (a:aze) (h:a.length<=64) (aF:∀x∈a,0<=x/\x<=63):Kc a=some (iS a):=by
 unfold Kc iS;by_cases bo:a=[]
 .subst bo;rfl
 have e:((a.length:Int)==0)=false:=by
  have:a.length≠0:=λh=>bo (length_eq_zero_iff.1 h);simp;exact bo
 rw[e,cond_false,if_neg bo];refine auV (L:=zT a) a ku 44 2 (λx _=>Ig x) (λm v=>?_) (λi ai m v hl=>?_)
 .simp only[zT,PH];rw[eh (Nat.le_refl _)];rfl
 .simp only[zT,PH,Kb];have aq:=Ig a[i];have ok:∀n,n<=1048576->iJ n=some ():=λn aV=>by unfold iJ;rw[if_pos (by omega)]
  rw[ev ai,dX _ i ai,et i _ ai (by omega),ok _ (by omega)];simp only[cond_true,bind_some];rw[au1 (aF _ (getElem_mem ai))];simp only[bind_some];by_cases bc:i=0
  .subst bc;rw[if_pos rfl,show decide ((0:Int)<((0:Nat):Int))=false from by decide,cond_false,ok _ (by omega)];rfl
  .rw[if_neg bc,show decide ((0:Int)<(i:Int))=true from by simp;omega,cond_true,ok _ (by simp only[length_append,length_cons,length_nil];omega)];rfl
theorem abV (a:aze) (h:a.length<=64) (aF:∀x∈a,0<=x/\x<=63):KO a=some true:=by
 unfold KO QH QG;have e:decide ((a.length:Int)<=64)=true:=by simp;omega
 rw[e,cond_true];have:=tM (n:=a.length) (l:=C_ a) (λ_=>false) (λm=>?_) (λi ai m=>?_)
 .rw[this];simp only[bind_some,w_];have:gf (λ_=> !false) a.length=true:=by simp[gf]
  rw[this];rfl
 .simp only[C_,QF];rw[eh (Nat.le_refl _)];rfl
 .have aq:=aF _ (getElem_mem ai);simp only[C_,QF,QE,kX];rw[ev ai,dX _ i ai,et i _ ai (by omega)];simp only[cond_true,bind_some,show decide (-1000000000000<=a[i])=true from by simp;omega,show decide (a[i]<=1000000000000)=true from by simp;omega,Bool.and_self,Bool.not_true,cond_false]
theorem Tz (a:aze) (h:a.length<=64) (aF:∀x∈a,0<=x/\x<=63):G4 a=some (iS a):=by
 unfold G4 iS;rw[abV a h aF];simp only[bind_some,Bool.not_true,cond_false];by_cases bo:a=[]
 .subst bo;rfl
 have e:((a.length:Int)==0)=false:=by
  have:a.length≠0:=λh=>bo (length_eq_zero_iff.1 h);simp;exact bo
 rw[e,cond_false,if_neg bo];first|exact abg a h aF|(rw[abg a h aF];rfl)
end Go.k6
