/- Part of a proof that a law returns true for every input. No condition. -/
import Derived.Test.YtmaepbgkcmjcjajGreatDoorP3
import Derived.Test.YtmaepbgkcmjcjajGreatDoorUV0x
import Derived.Test.YtmaepbgkcmjcjajGreatDoorUV2x
namespace Go.ld
open List Option Go.IntKind Nat Or
open Go Go.ep
set_option linter.unusedSimpArgs false
theorem at3 (x:azC) (n:Int) (ao:(x.length<=9223372036854775807/\∀y∈x,B5 y)) (a_:0<=n) (aX:n<=1048576):FO x n=some (ji n (x.length+0)):=by
 unfold FO;refine o9 ao.1 a_ aX λh=>?_;rw[eC _ (by omega)];exact w9 (by omega)
theorem at4 (x:azz) (n:Int) (ao:(x.length<=9223372036854775807/\∀y∈x,(y.length<=9223372036854775807/\∀z∈y,B5 z))) (a_:0<=n) (aX:n<=1048576):Jw x n=some (ji n (eg (λx=>x.length+0) x)):=by
 unfold Jw;refine o9 ao.1 a_ aX λh=>?_;rw[eC _ (by omega)];exact DW (f:=FO) (λx=>x.length+0) x (λ_ _ _=>rfl) (λy hy n a_ aX=>at3 y n (ao.2 y hy) a_ aX) (by omega) _ (by omega) (by omega)
def tM (x:lE):Nat:=(x.Name.length+((eg (λx=>x.length+0) x.ck)+0))
theorem at5 (x:lE) (n:Int) (ao:FJ x) (a_:0<=n) (aX:n<=1048576):FP x n=some (ji n (tM x)):=by
 unfold FP;unfold tM;obtain⟨w0,ft,hR,nJ⟩:=ao;refine o9 hR (by omega) (by omega) λc2=>?_;rw[eC (n-(x.Name.length:Int)) (by omega)];refine w8 (at4 _ _ nJ (by omega) (by omega)) λc3=>?_;exact w9 (by omega)
theorem at6 (x:azD) (n:Int) (ao:(x.length<=9223372036854775807/\∀y∈x,FJ y)) (a_:0<=n) (aX:n<=1048576):Jx x n=some (ji n (eg tM x)):=by
 unfold Jx;refine o9 ao.1 a_ aX λh=>?_;rw[eC _ (by omega)];exact DW (f:=FP) tM x (λ_ _ _=>rfl) (λy hy n a_ aX=>at5 y n (ao.2 y hy) a_ aX) (by omega) _ (by omega) (by omega)
def tN (x:lF):Nat:=(x.Name.length+((eg tM x.Body)+0))
theorem at7 (x:lF) (n:Int) (ao:FK x) (a_:0<=n) (aX:n<=1048576):FQ x n=some (ji n (tN x)):=by
 unfold FQ;unfold tN;obtain⟨w0,ft,hR⟩:=ao;refine o9 w0 (by omega) (by omega) λc0=>?_;rw[eC (n-(x.Name.length:Int)) (by omega)];refine w8 (at6 _ _ hR (by omega) (by omega)) λc2=>?_;exact w9 (by omega)
theorem aua (x:azE) (n:Int) (ao:(x.length<=9223372036854775807/\∀y∈x,FK y)) (a_:0<=n) (aX:n<=1048576):Jy x n=some (ji n (eg tN x)):=by
 unfold Jy;refine o9 ao.1 a_ aX λh=>?_;rw[eC _ (by omega)];exact DW (f:=FQ) tN x (λ_ _ _=>rfl) (λy hy n a_ aX=>at7 y n (ao.2 y hy) a_ aX) (by omega) _ (by omega) (by omega)
theorem aub (x:azs) (n:Int) (ao:(x.length<=9223372036854775807/\∀y∈x,(-9223372036854775808<=y/\y<=9223372036854775807))) (a_:0<=n) (aX:n<=1048576):Jz x n=some (ji n (x.length+0)):=by
 unfold Jz;refine o9 ao.1 a_ aX λh=>?_;rw[eC _ (by omega)];exact w9 (by omega)
def tO (x:lG):Nat:=((x.b5.length+0)+0)
theorem auc (x:lG) (n:Int) (ao:FL x) (a_:0<=n) (aX:n<=1048576):FR x n=some (ji n (tO x)):=by
 unfold FR;unfold tO;obtain⟨w0,ft⟩:=ao;refine w8 (aub _ _ ft (by omega) (by omega)) λct=>?_;exact w9 (by omega)
theorem aud (x:azF) (n:Int) (ao:(x.length<=9223372036854775807/\∀y∈x,FL y)) (a_:0<=n) (aX:n<=1048576):JA x n=some (ji n (eg tO x)):=by
 unfold JA;refine o9 ao.1 a_ aX λh=>?_;rw[eC _ (by omega)];exact DW (f:=FR) tO x (λ_ _ _=>rfl) (λy hy n a_ aX=>auc y n (ao.2 y hy) a_ aX) (by omega) _ (by omega) (by omega)
def tP (x:lf):Nat:=(x.Left.length+(x.cH.length+(x.Result.length+0)))
theorem aue (x:lf) (n:Int) (ao:FM x) (a_:0<=n) (aX:n<=1048576):FT x n=some (ji n (tP x)):=by
 unfold FT;unfold tP;obtain⟨w0,ft,hR⟩:=ao;refine o9 w0 (by omega) (by omega) λc0=>?_;rw[eC (n-(x.Left.length:Int)) (by omega)];refine o9 ft (by omega) (by omega) λct=>?_;rw[eC ((n-(x.Left.length:Int))-(x.cH.length:Int)) (by omega)];refine o9 hR (by omega) (by omega) λc2=>?_;rw[eC (((n-(x.Left.length:Int))-(x.cH.length:Int))-(x.Result.length:Int)) (by omega)];exact w9 (by omega)
theorem auf (x:azG) (n:Int) (ao:(x.length<=9223372036854775807/\∀y∈x,FM y)) (a_:0<=n) (aX:n<=1048576):JB x n=some (ji n (eg tP x)):=by
 unfold JB;refine o9 ao.1 a_ aX λh=>?_;rw[eC _ (by omega)];exact DW (f:=FT) tP x (λ_ _ _=>rfl) (λy hy n a_ aX=>aue y n (ao.2 y hy) a_ aX) (by omega) _ (by omega) (by omega)
theorem abA (x:azp) (n:Int) (ao:(x.length<=9223372036854775807/\∀y∈x,y.length<=9223372036854775807)) (a_:0<=n) (aX:n<=1048576):FU x n=some (ji n (eg length x)):=by
 unfold FU;refine o9 ao.1 a_ aX λh=>?_;rw[eC _ (by omega)];exact as_ x (λ_ _ _=>rfl) ao.2 (by omega) _ (by omega) (by omega)
def yS (x:oZ):Nat:=((eg tN x.cI)+((eg tO x.b0)+((eg tP x.cb)+((eg length x.cD)+((eg length x.cA)+0)))))
theorem aug (x:oZ) (n:Int) (ao:FN x) (a_:0<=n) (aX:n<=1048576):FV x n=some (ji n (yS x)):=by
 unfold FV;unfold yS;obtain⟨w0,ft,hR,nJ,HP⟩:=ao;refine w8 (aua _ _ w0 (by omega) (by omega)) λc0=>?_;refine w8 (aud _ _ ft (by omega) (by omega)) λct=>?_;refine w8 (auf _ _ hR (by omega) (by omega)) λc2=>?_;refine w8 (abA _ _ nJ (by omega) (by omega)) λc3=>?_;refine w8 (abA _ _ HP (by omega) (by omega)) λc4=>?_;exact w9 (by omega)
def q1 (x:lg):Nat:=(x.Label.length+0)
theorem auh (x:lg) (n:Int) (ao:B6 x) (a_:0<=n) (aX:n<=1048576):FW x n=some (ji n (q1 x)):=by
 unfold FW;unfold q1;obtain⟨w0,ft,hR,nJ⟩:=ao;refine o9 nJ (by omega) (by omega) λc3=>?_;rw[eC (n-(x.Label.length:Int)) (by omega)];exact w9 (by omega)
theorem aui (x:azH) (n:Int) (ao:(x.length<=9223372036854775807/\∀y∈x,B6 y)) (a_:0<=n) (aX:n<=1048576):JC x n=some (ji n (eg q1 x)):=by
 unfold JC;refine o9 ao.1 a_ aX λh=>?_;rw[eC _ (by omega)];exact DW (f:=FW) q1 x (λ_ _ _=>rfl) (λy hy n a_ aX=>auh y n (ao.2 y hy) a_ aX) (by omega) _ (by omega) (by omega)
def D4 (x:jE):bY:=⟨x.Kind,x.Value⟩
theorem auj (x:jE):FX x=some (D4 x):=by
 unfold FX;rfl
theorem auk (x:azC) (h:(x.length+0)<=1048576):FY x=some (x.map D4):=by
 unfold FY;have hl:x.length<=1048576:=by omega
 rw[tI _ hl (by decide)];simp only[bind_some];rw[w_ (f:=FX) D4 x _ (λ_ _ _=>rfl) (λy hy=>auj y) hl]
theorem aul (x:azz) (h:(eg (λx=>x.length+0) x)<=1048576):JD x=some (x.map (map D4)):=by
 unfold JD;have hl:x.length<=1048576:=Nat.le_trans (jL _ _) h;rw[tI _ hl (by decide)];simp only[bind_some];rw[w_ (f:=FY) (map D4) x _ (λ_ _ _=>rfl) (λy hy=>auk y (Nat.le_trans (mS (f:=(λx=>x.length+0)) hy) h)) hl]
def D5 (x:lE):b_:=⟨x.Kind,x.Number,x.Name,(x.ck.map (map D4))⟩
def nr (x:b_):Nat:=(x.Name.length+((eg (λx=>x.length+0) x.ck)+0))
theorem aum (x:lE):nr (D5 x)=tM x:=by
 simp only[nr,tM,D5,AY,length_map]
theorem aun (x:lE) (h:(tM x)<=1048576):FZ x=some (D5 x):=by
 unfold FZ;unfold tM at h;rw[aul _ (by omega)];rfl
theorem auo (x:azD) (h:(eg tM x)<=1048576):JE x=some (x.map D5):=by
 unfold JE;have hl:x.length<=1048576:=Nat.le_trans (jL _ _) h;rw[tI _ hl (by decide)];simp only[bind_some];rw[w_ (f:=FZ) D5 x _ (λ_ _ _=>rfl) (λy hy=>aun y (Nat.le_trans (mS (f:=tM) hy) h)) hl]
def D6 (x:lF):a1:=⟨x.Name,x.dV,(x.Body.map D5)⟩
def oa (x:a1):Nat:=(x.Name.length+((eg nr x.Body)+0))
theorem aup (x:lF):oa (D6 x)=tN x:=by
 simp only[oa,tN,D6,AY,length_map,aum]
theorem auq (x:lF) (h:(tN x)<=1048576):F1 x=some (D6 x):=by
 unfold F1;unfold tN at h;rw[auo _ (by omega)];rfl
theorem aur (x:azE) (h:(eg tN x)<=1048576):JF x=some (x.map D6):=by
 unfold JF;have hl:x.length<=1048576:=Nat.le_trans (jL _ _) h;rw[tI _ hl (by decide)];simp only[bind_some];rw[w_ (f:=F1) D6 x _ (λ_ _ _=>rfl) (λy hy=>auq y (Nat.le_trans (mS (f:=tN) hy) h)) hl]
theorem aus (x:azs) (h:(x.length+0)<=1048576):JG x=some x:=by
 unfold JG;have hl:x.length<=1048576:=by omega
 rw[tI _ hl (by decide)];simp only[bind_some];rw[w_ (f:=some) id x _ (λ_ _ _=>rfl) (λ_ _=>rfl) hl,List.map_id]
def D7 (x:lG):cQ:=⟨x.cJ,x.b5⟩
def ns (x:cQ):Nat:=((x.b5.length+0)+0)
theorem aut (x:lG):ns (D7 x)=tO x:=by
 simp only[ns,tO,D7,AY,length_map]
theorem auu (x:lG) (h:(tO x)<=1048576):F2 x=some (D7 x):=by
 unfold F2;unfold tO at h;rw[aus _ (by omega)];rfl
theorem auv (x:azF) (h:(eg tO x)<=1048576):JH x=some (x.map D7):=by
 unfold JH;have hl:x.length<=1048576:=Nat.le_trans (jL _ _) h;rw[tI _ hl (by decide)];simp only[bind_some];rw[w_ (f:=F2) D7 x _ (λ_ _ _=>rfl) (λy hy=>auu y (Nat.le_trans (mS (f:=tO) hy) h)) hl]
def D8 (x:lf):bX:=⟨x.Left,x.cH,x.Result⟩
def nt (x:bX):Nat:=(x.Left.length+(x.cH.length+(x.Result.length+0)))
theorem auw (x:lf):nt (D8 x)=tP x:=by
 simp only[nt,tP,D8,AY,length_map]
theorem auy (x:lf) (h:(tP x)<=1048576):F3 x=some (D8 x):=by
 unfold F3;unfold tP at h;rfl
theorem auz (x:azG) (h:(eg tP x)<=1048576):JI x=some (x.map D8):=by
 unfold JI;have hl:x.length<=1048576:=Nat.le_trans (jL _ _) h;rw[tI _ hl (by decide)];simp only[bind_some];rw[w_ (f:=F3) D8 x _ (λ_ _ _=>rfl) (λy hy=>auy y (Nat.le_trans (mS (f:=tP) hy) h)) hl]
theorem abB (x:azp) (h:(eg length x)<=1048576):F4 x=some x:=by
 unfold F4;have hl:x.length<=1048576:=Nat.le_trans (jL _ _) h;rw[tI _ hl (by decide)];simp only[bind_some];rw[w_ (f:=some) id x _ (λ_ _ _=>rfl) (λ_ _=>rfl) hl,List.map_id]
def vy (x:oZ):cY:=⟨(x.cI.map D6),(x.b0.map D7),(x.cb.map D8),x.cD,x.cA⟩
def tQ (x:cY):Nat:=((eg oa x.cI)+((eg ns x.b0)+((eg nt x.cb)+((eg length x.cD)+((eg length x.cA)+0)))))
theorem abC (x:oZ):tQ (vy x)=yS x:=by
 simp only[tQ,yS,vy,AY,length_map,aup,aut,auw]
theorem auA (x:oZ) (h:(yS x)<=1048576):ye x=some (vy x):=by
 unfold ye;unfold yS at h;rw[aur _ (by omega),auv _ (by omega),auz _ (by omega),abB _ (by omega),abB _ (by omega)];rfl
def vz (x:lg):dC:=⟨x.Choice,x.ef,x.Second,x.Label⟩
def nu (x:dC):Nat:=(x.Label.length+0)
theorem auB (x:lg):nu (vz x)=q1 x:=by
 simp only[nu,q1,vz,AY,length_map]
theorem auC (x:lg) (h:(q1 x)<=1048576):F5 x=some (vz x):=by
 unfold F5;unfold q1 at h;rfl
theorem auD (x:azH) (h:(eg q1 x)<=1048576):zK x=some (x.map vz):=by
 unfold zK;have hl:x.length<=1048576:=Nat.le_trans (jL _ _) h;rw[tI _ hl (by decide)];simp only[bind_some];rw[w_ (f:=F5) vz x _ (λ_ _ _=>rfl) (λy hy=>auC y (Nat.le_trans (mS (f:=q1) hy) h)) hl]
theorem abD (x:azs) (h:(x.length+0)<=1048576):GU x x=some true:=by
 unfold GU;have hl:x.length<=1048576:=by omega
 rw[vq,cond_false];exact aaB x (λ_ _=>rfl) xa hl
def pU (x:ba):Nat:=((x.b5.length+0)+0)
theorem auE (x:ba) (h:(pU x)<=1048576):GV x x=some true:=by
 unfold GV;unfold pU at h;simp only[xa,xb,yJ,cond_false,bind_some,Bool.not_true,abD x.b5 (by omega)]
theorem auF (x:azO) (h:(eg pU x)<=1048576):Ds x x=some true:=by
 unfold Ds;have hl:x.length<=1048576:=Nat.le_trans (jL _ _) h;rw[vq,cond_false];exact yI (f:=GV) x (λ_ _=>rfl) (λy hy=>auE y (Nat.le_trans (mS (f:=pU) hy) h)) hl
theorem auG (x:bY):GW x x=some true:=by
 unfold GW;simp only[xa,xb,yJ,cond_false,bind_some,Bool.not_true]
theorem auH (x:azI) (h:(x.length+0)<=1048576):GX x x=some true:=by
 unfold GX;have hl:x.length<=1048576:=by omega
 rw[vq,cond_false];exact yI (f:=GW) x (λ_ _=>rfl) (λy hy=>auG y) hl
theorem auI (x:azA) (h:(eg (λx=>x.length+0) x)<=1048576):K1 x x=some true:=by
 unfold K1;have hl:x.length<=1048576:=Nat.le_trans (jL _ _) h;rw[vq,cond_false];exact yI (f:=GX) x (λ_ _=>rfl) (λy hy=>auH y (Nat.le_trans (mS (f:=(λx=>x.length+0)) hy) h)) hl
theorem auJ (x:b_) (h:(nr x)<=1048576):GY x x=some true:=by
 unfold GY;unfold nr at h;simp only[xa,xb,yJ,cond_false,bind_some,Bool.not_true,auI x.ck (by omega)]
theorem auK (x:azJ) (h:(eg nr x)<=1048576):K2 x x=some true:=by
 unfold K2;have hl:x.length<=1048576:=Nat.le_trans (jL _ _) h;rw[vq,cond_false];exact yI (f:=GY) x (λ_ _=>rfl) (λy hy=>auJ y (Nat.le_trans (mS (f:=nr) hy) h)) hl
theorem auL (x:a1) (h:(oa x)<=1048576):GZ x x=some true:=by
 unfold GZ;unfold oa at h;simp only[xa,xb,yJ,cond_false,bind_some,Bool.not_true,auK x.Body (by omega)]
theorem auM (x:azK) (h:(eg oa x)<=1048576):K3 x x=some true:=by
 unfold K3;have hl:x.length<=1048576:=Nat.le_trans (jL _ _) h;rw[vq,cond_false];exact yI (f:=GZ) x (λ_ _=>rfl) (λy hy=>auL y (Nat.le_trans (mS (f:=oa) hy) h)) hl
theorem auN (x:cQ) (h:(ns x)<=1048576):G0 x x=some true:=by
 unfold G0;unfold ns at h;simp only[xa,xb,yJ,cond_false,bind_some,Bool.not_true,abD x.b5 (by omega)]
theorem auO (x:azL) (h:(eg ns x)<=1048576):K4 x x=some true:=by
 unfold K4;have hl:x.length<=1048576:=Nat.le_trans (jL _ _) h;rw[vq,cond_false];exact yI (f:=G0) x (λ_ _=>rfl) (λy hy=>auN y (Nat.le_trans (mS (f:=ns) hy) h)) hl
theorem auP (x:bX) (h:(nt x)<=1048576):G1 x x=some true:=by
 unfold G1;unfold nt at h;simp only[xa,xb,yJ,cond_false,bind_some,Bool.not_true]
theorem auQ (x:azM) (h:(eg nt x)<=1048576):K5 x x=some true:=by
 unfold K5;have hl:x.length<=1048576:=Nat.le_trans (jL _ _) h;rw[vq,cond_false];exact yI (f:=G1) x (λ_ _=>rfl) (λy hy=>auP y (Nat.le_trans (mS (f:=nt) hy) h)) hl
theorem abE (x:azp) (h:(eg length x)<=1048576):G2 x x=some true:=by
 unfold G2;have hl:x.length<=1048576:=Nat.le_trans (jL _ _) h;rw[vq,cond_false];exact aaB x (λ_ _=>rfl) xb hl
theorem auR (x:cY) (h:(tQ x)<=1048576):G3 x x=some true:=by
 unfold G3;unfold tQ at h;simp only[xa,xb,yJ,cond_false,bind_some,Bool.not_true,auM x.cI (by omega),auO x.b0 (by omega),auQ x.cb (by omega),abE x.cD (by omega),abE x.cA (by omega)]
theorem auS (x:dC) (h:(nu x)<=1048576):G4 x x=some true:=by
 unfold G4;unfold nu at h;simp only[xa,xb,yJ,cond_false,bind_some,Bool.not_true]
theorem auT (x:azN) (h:(eg nu x)<=1048576):K6 x x=some true:=by
 unfold K6;have hl:x.length<=1048576:=Nat.le_trans (jL _ _) h;rw[vq,cond_false];exact yI (f:=G4) x (λ_ _=>rfl) (λy hy=>auS y (Nat.le_trans (mS (f:=nu) hy) h)) hl
theorem A6 (k:Int) (a_:0<=k) (ab:k<=1099511627776):∃t,vj k=some t:=by
 have key:∀(n:Nat) (k:Int),0<=k->k<=n->n<=1099511627776->∀t:azq,t.length+n<=1099511627776->∃r,∀m,n<m->An m k t=some r:=by
  intro n;induction n with
  |zero=>
   intro k ad af aG t a8;refine⟨[109]++t,λm hm=>?_⟩;obtain⟨m,rfl⟩:∃j,m=j+1:=⟨m-1,by omega⟩
   simp only[An,K7];rw[show decide (0<k)=false by simp;omega,cond_false,show il (1+t.length)=some () by unfold il;rw[if_pos (by omega)]];rfl
  |succ n ih=>
   intro k ad af aG t a8;by_cases aw:0<k
   .have aq:Int.tdiv k 10=k/10:=Int.tdiv_eq_ediv_of_nonneg ad;have hw:i64.wrap (Int.tdiv k 10)=k/10:=by rw[aq];exact eC _ (by omega)
    obtain⟨r,aR⟩:=ih (k/10) (by omega) (by omega) (by omega) ([(pe (i64.wrap (48+(Int.tmod k 10))))]++t) (by simp only[length_append,length_cons,length_nil];omega);refine⟨r,λm hm=>?_⟩;obtain⟨m,rfl⟩:∃j,m=j+1:=⟨m-1,by omega⟩
    simp only[An,K7];rw[show decide (0<k)=true by simp;omega,cond_true,show il (1+t.length)=some () by unfold il;rw[if_pos (by omega)]];simp only[bind_some,hw];exact aR m (by omega)
   .refine⟨[109]++t,λm hm=>?_⟩;obtain⟨m,rfl⟩:∃j,m=j+1:=⟨m-1,by omega⟩
    simp only[An,K7];rw[show decide (0<k)=false by simp;omega,cond_false,show il (1+t.length)=some () by unfold il;rw[if_pos (by omega)]];rfl
 unfold vj;by_cases aw:k<=0
 .exact⟨_,by rw[show decide (k<=0)=true by simpa using aw];rfl⟩
 .obtain⟨r,aR⟩:=key k.toNat k a_ (by omega) (by omega) [] (by simp only[length_nil];omega);exact⟨r,by rw[show decide (k<=0)=false by simp;omega,cond_false];exact e5 (k.toNat+1) λm hm=>aR m (by omega)⟩
theorem auU (x:azI) (k:Int) (a_:0<=k) (ab:k+64*(x.length+0)<=1099511627776):∃(da:azI) (c:Nat),c<=64*(x.length+0)/\K8 x k=some (k+(c:Int),da):=by
 unfold K8;have e:hU (λ_=>64) x=64*x.length:=SZ 64 x;obtain⟨da,c,ad,af⟩:=yK (l:=Dt) (λ_=>64) (λm v k=>by simp only[Dt,Rc];rw[ei (Nat.le_refl _)];rfl) (λx k a_ ab=>by
  have ft:i64.wrap (k+1)=k+1:=eC _ (by omega);have hR:i64.wrap ((k+1)+1)=(k+1)+1:=eC _ (by omega);refine⟨(bY.mk k (k+1)),1+1,by omega,λm d r aq=>?_⟩;simp only[Dt,Rc];rw[se];simp only[cond_true,sd,vt,bind_some,ft,hR];rw[sf aq];rw[show(((k+1)+1):Int)=k+((1+1:Nat):Int) by omega]) x k a_ (by omega) (by omega)
 exact⟨da,c,by omega,af⟩
theorem auV (x:azA) (k:Int) (a_:0<=k) (ab:k+64*(eg (λx=>x.length+0) x)<=1099511627776):∃(da:azA) (c:Nat),c<=64*(eg (λx=>x.length+0) x)/\K9 x k=some (k+(c:Int),da):=by
 unfold K9;have e:hU (λx=>64*((x.length+0)+1)) x=64*eg (λx=>x.length+0) x:=xd (λx=>x.length+0) x;have hl:x.length<=eg (λx=>x.length+0) x:=jL _ _;obtain⟨da,c,ad,af⟩:=yK (l:=Du) (λx=>64*((x.length+0)+1)) (λm v k=>by simp only[Du,Rd];rw[ei (Nat.le_refl _)];rfl) (λx k a_ ab=>by
  obtain⟨fC,ct,h3,m1⟩:=auU x k (by omega) (by omega);refine⟨fC,ct,by omega,λm d r aq=>?_⟩;simp only[Du,Rd];rw[se];simp only[cond_true,sd,vt,bind_some,m1];rw[sf aq]) x k a_ (by omega) (by omega)
 exact⟨da,c,by omega,af⟩
theorem auW (x:azJ) (k:Int) (a_:0<=k) (ab:k+64*(eg nr x)<=1099511627776):∃(da:azJ) (c:Nat),c<=64*(eg nr x)/\K_ x k=some (k+(c:Int),da):=by
 unfold K_;have e:hU (λx=>64*((nr x)+1)) x=64*eg nr x:=xd nr x;have hl:x.length<=eg nr x:=jL _ _;obtain⟨da,c,ad,af⟩:=yK (l:=Dv) (λx=>64*((nr x)+1)) (λm v k=>by simp only[Dv,Re];rw[ei (Nat.le_refl _)];rfl) (λx k a_ ab=>by
  simp only[nr]at ab⊢;have ft:i64.wrap (k+1)=k+1:=eC _ (by omega);have hR:i64.wrap ((k+1)+1)=(k+1)+1:=eC _ (by omega);obtain⟨px,t3⟩:=A6 ((k+1)+1) (by omega) (by omega);have nJ:i64.wrap (((k+1)+1)+1)=((k+1)+1)+1:=eC _ (by omega);obtain⟨tG,c4,bw,m4⟩:=auV x.ck (((k+1)+1)+1) (by omega) (by omega);refine⟨(b_.mk k (k+1) px tG),1+1+1+c4,by omega,λm d r aq=>?_⟩;simp only[Dv,Re];rw[se];simp only[cond_true,sd,vt,bind_some,ft,hR,t3,nJ,m4];rw[sf aq];rw[show(((((k+1)+1)+1)+(c4:Int)):Int)=k+((1+1+1+c4:Nat):Int) by omega]) x k a_ (by omega) (by omega)
 exact⟨da,c,by omega,af⟩
theorem auX (x:azK) (k:Int) (a_:0<=k) (ab:k+64*(eg oa x)<=1099511627776):∃(da:azK) (c:Nat),c<=64*(eg oa x)/\La x k=some (k+(c:Int),da):=by
 unfold La;have e:hU (λx=>64*((oa x)+1)) x=64*eg oa x:=xd oa x;have hl:x.length<=eg oa x:=jL _ _;obtain⟨da,c,ad,af⟩:=yK (l:=Dw) (λx=>64*((oa x)+1)) (λm v k=>by simp only[Dw,Rf];rw[ei (Nat.le_refl _)];rfl) (λx k a_ ab=>by
  simp only[oa]at ab⊢;obtain⟨s1,t1⟩:=A6 k (by omega) (by omega);have ft:i64.wrap (k+1)=k+1:=eC _ (by omega);have hR:i64.wrap ((k+1)+1)=(k+1)+1:=eC _ (by omega);obtain⟨lb,c3,f_,m3⟩:=auW x.Body ((k+1)+1) (by omega) (by omega);refine⟨(a1.mk s1 (k+1) lb),1+1+c3,by omega,λm d r aq=>?_⟩;simp only[Dw,Rf];rw[se];simp only[cond_true,sd,vt,bind_some,t1,ft,hR,m3];rw[sf aq];rw[show((((k+1)+1)+(c3:Int)):Int)=k+((1+1+c3:Nat):Int) by omega]) x k a_ (by omega) (by omega)
 exact⟨da,c,by omega,af⟩
theorem abF (x:azs) (k:Int) (a_:0<=k) (ab:k+64*(x.length+0)<=1099511627776):∃(da:azs) (c:Nat),c<=64*(x.length+0)/\G5 x k=some (k+(c:Int),da)/\Lg da k=some (k+(c:Int)):=by
 unfold G5 Lg;have e:hU (λ_=>64) x=64*x.length:=SZ 64 x;obtain⟨da,c,ad,af,aG⟩:=aaE (l:=Dx) (hl:=DD) (λ_=>64) (λm v k=>by simp only[Dx,Rg];rw[ei (Nat.le_refl _)];rfl) (λa m k=>by simp only[DD,Rm];rw[ei (Nat.le_refl _)];rfl) (λx k a_ ab=>by
  have ft:i64.wrap (k+1)=k+1:=eC _ (by omega);refine⟨k,1,by omega,λm d r aq=>⟨?_,?_⟩⟩
  .simp only[Dx,Rg];rw[se];simp only[cond_true,sd,vt,bind_some,ft];rw[sf aq];rw[show((k+1):Int)=k+((1:Nat):Int) by omega]
  .simp only[DD,Rm];rw[se];simp only[cond_true,cond_false,sd,bind_some,bne_self_eq_false,beq_self_eq_true,Bool.not_true,ft];rw[sf aq];rw[show((k+1):Int)=k+((1:Nat):Int) by omega]) x k a_ (by omega) (by omega)
 exact⟨da,c,by omega,af,aG⟩
theorem auY (x:azL) (k:Int) (a_:0<=k) (ab:k+64*(eg ns x)<=1099511627776):∃(da:azL) (c:Nat),c<=64*(eg ns x)/\Lb x k=some (k+(c:Int),da):=by
 unfold Lb;have e:hU (λx=>64*((ns x)+1)) x=64*eg ns x:=xd ns x;have hl:x.length<=eg ns x:=jL _ _;obtain⟨da,c,ad,af⟩:=yK (l:=Dy) (λx=>64*((ns x)+1)) (λm v k=>by simp only[Dy,Rh];rw[ei (Nat.le_refl _)];rfl) (λx k a_ ab=>by
  simp only[ns]at ab⊢;have ft:i64.wrap (k+1)=k+1:=eC _ (by omega);obtain⟨hG,c2,fZ,m2⟩:=abF x.b5 (k+1) (by omega) (by omega);refine⟨(cQ.mk k hG),1+c2,by omega,λm d r aq=>?_⟩;simp only[Dy,Rh];rw[se];simp only[cond_true,sd,vt,bind_some,ft,m2];rw[sf aq];rw[show(((k+1)+(c2:Int)):Int)=k+((1+c2:Nat):Int) by omega]) x k a_ (by omega) (by omega)
 exact⟨da,c,by omega,af⟩
theorem auZ (x:azM) (k:Int) (a_:0<=k) (ab:k+64*(eg nt x)<=1099511627776):∃(da:azM) (c:Nat),c<=64*(eg nt x)/\Lc x k=some (k+(c:Int),da):=by
 unfold Lc;have e:hU (λx=>64*((nt x)+1)) x=64*eg nt x:=xd nt x;have hl:x.length<=eg nt x:=jL _ _;obtain⟨da,c,ad,af⟩:=yK (l:=Dz) (λx=>64*((nt x)+1)) (λm v k=>by simp only[Dz,Ri];rw[ei (Nat.le_refl _)];rfl) (λx k a_ ab=>by
  simp only[nt]at ab⊢;obtain⟨s1,t1⟩:=A6 k (by omega) (by omega);have ft:i64.wrap (k+1)=k+1:=eC _ (by omega);obtain⟨s2,t2⟩:=A6 (k+1) (by omega) (by omega);have hR:i64.wrap ((k+1)+1)=(k+1)+1:=eC _ (by omega);obtain⟨px,t3⟩:=A6 ((k+1)+1) (by omega) (by omega);have nJ:i64.wrap (((k+1)+1)+1)=((k+1)+1)+1:=eC _ (by omega);refine⟨(bX.mk s1 s2 px),1+1+1,by omega,λm d r aq=>?_⟩;simp only[Dz,Ri];rw[se];simp only[cond_true,sd,vt,bind_some,t1,ft,t2,hR,t3,nJ];rw[sf aq];rw[show((((k+1)+1)+1):Int)=k+((1+1+1:Nat):Int) by omega]) x k a_ (by omega) (by omega)
 exact⟨da,c,by omega,af⟩
theorem abG (x:azp) (k:Int) (a_:0<=k) (ab:k+64*(eg length x)<=1099511627776):∃(da:azp) (c:Nat),c<=64*(eg length x)/\G6 x k=some (k+(c:Int),da):=by
 unfold G6;have e:hU (λx=>64*(x.length+1)) x=64*eg length x:=xd length x;have hl:x.length<=eg length x:=jL _ _;obtain⟨da,c,ad,af⟩:=yK (l:=DA) (λx=>64*(x.length+1)) (λm v k=>by simp only[DA,Rj];rw[ei (Nat.le_refl _)];rfl) (λx k a_ ab=>by
  obtain⟨s1,t1⟩:=A6 k (by omega) (by omega);have ft:i64.wrap (k+1)=k+1:=eC _ (by omega);refine⟨s1,1,by omega,λm d r aq=>?_⟩;simp only[DA,Rj];rw[se];simp only[cond_true,sd,vt,bind_some,t1,ft];rw[sf aq];rw[show((k+1):Int)=k+((1:Nat):Int) by omega]) x k a_ (by omega) (by omega)
 exact⟨da,c,by omega,af⟩
theorem au0 (x:cY) (k:Int) (a_:0<=k) (ab:k+64*((tQ x)+1)<=1099511627776):∃(gm:azK) (fC:azL) (hG:azM) (lb:azp) (tG:azp) (c:Nat),c<=64*((tQ x)+1)/\Ld x.cI x.b0 x.cb x.cD x.cA k=some (k+(c:Int),gm,fC,hG,lb,tG):=by
 unfold Ld;simp only[tQ]at ab⊢;obtain⟨fC,ct,h3,m1⟩:=auX x.cI k (by omega) (by omega);obtain⟨hG,c2,fZ,m2⟩:=auY x.b0 (k+(ct:Int)) (by omega) (by omega);obtain⟨lb,c3,f_,m3⟩:=auZ x.cb ((k+(ct:Int))+(c2:Int)) (by omega) (by omega);obtain⟨tG,c4,bw,m4⟩:=abG x.cD (((k+(ct:Int))+(c2:Int))+(c3:Int)) (by omega) (by omega);obtain⟨au1,c5,dR,m5⟩:=abG x.cA ((((k+(ct:Int))+(c2:Int))+(c3:Int))+(c4:Int)) (by omega) (by omega);refine⟨fC,hG,lb,tG,au1,ct+c2+c3+c4+c5,by omega,?_⟩;simp only[bind_some,m1,m2,m3,m4,m5];rw[show(k+((ct+c2+c3+c4+c5:Nat):Int))=(((((k+(ct:Int))+(c2:Int))+(c3:Int))+(c4:Int))+(c5:Int)) by omega]
theorem au2 (x:azN) (k:Int) (a_:0<=k) (ab:k+64*(eg nu x)<=1099511627776):∃(da:azN) (c:Nat),c<=64*(eg nu x)/\Le x k=some (k+(c:Int),da):=by
 unfold Le;have e:hU (λx=>64*((nu x)+1)) x=64*eg nu x:=xd nu x;have hl:x.length<=eg nu x:=jL _ _;obtain⟨da,c,ad,af⟩:=yK (l:=DB) (λx=>64*((nu x)+1)) (λm v k=>by simp only[DB,Rk];rw[ei (Nat.le_refl _)];rfl) (λx k a_ ab=>by
  simp only[nu]at ab⊢;have ft:i64.wrap (k+1)=k+1:=eC _ (by omega);have hR:i64.wrap ((k+1)+1)=(k+1)+1:=eC _ (by omega);have nJ:i64.wrap (((k+1)+1)+1)=((k+1)+1)+1:=eC _ (by omega);obtain⟨mj,t4⟩:=A6 (((k+1)+1)+1) (by omega) (by omega);have HP:i64.wrap ((((k+1)+1)+1)+1)=(((k+1)+1)+1)+1:=eC _ (by omega);refine⟨(dC.mk k (k+1) ((k+1)+1) mj),1+1+1+1,by omega,λm d r aq=>?_⟩;simp only[DB,Rk];rw[se];simp only[cond_true,sd,vt,bind_some,ft,hR,nJ,t4,HP];rw[sf aq];rw[show(((((k+1)+1)+1)+1):Int)=k+((1+1+1+1:Nat):Int) by omega]) x k a_ (by omega) (by omega)
 exact⟨da,c,by omega,af⟩
theorem au3 (x:azO) (k:Int) (a_:0<=k) (ab:k+64*(eg pU x)<=1099511627776):∃(da:azO) (c:Nat),c<=64*(eg pU x)/\Lf x k=some (k+(c:Int),da)/\G7 da k=some (k+(c:Int)):=by
 unfold Lf G7;have e:hU (λx=>64*((pU x)+1)) x=64*eg pU x:=xd pU x;have hl:x.length<=eg pU x:=jL _ _;obtain⟨da,c,ad,af,aG⟩:=aaE (l:=DC) (hl:=DE) (λx=>64*((pU x)+1)) (λm v k=>by simp only[DC,Rl];rw[ei (Nat.le_refl _)];rfl) (λa m k=>by simp only[DE,Rn];rw[ei (Nat.le_refl _)];rfl) (λx k a_ ab=>by
  simp only[pU]at ab⊢;have ft:i64.wrap (k+1)=k+1:=eC _ (by omega);have hR:i64.wrap ((k+1)+1)=(k+1)+1:=eC _ (by omega);obtain⟨lb,c3,f_,m3,jm⟩:=abF x.b5 ((k+1)+1) (by omega) (by omega);have eZ:=SY (k:=(((k+1)+1)+(c3:Int))) (by omega);refine⟨(ba.mk k (k+1) lb),1+1+c3,by omega,λm d r aq=>⟨?_,?_⟩⟩
  .simp only[DC,Rl];rw[se];simp only[cond_true,sd,vt,bind_some,ft,hR,m3];rw[sf aq];rw[show((((k+1)+1)+(c3:Int)):Int)=k+((1+1+c3:Nat):Int) by omega]
  .simp only[DE,Rn];rw[se];simp only[cond_true,cond_false,sd,bind_some,bne_self_eq_false,beq_self_eq_true,Bool.not_true,jm,eZ,ft,hR];rw[sf aq];rw[show((((k+1)+1)+(c3:Int)):Int)=k+((1+1+c3:Nat):Int) by omega]) x k a_ (by omega) (by omega)
 exact⟨da,c,by omega,af,aG⟩
theorem au4 {list:azK} (h:eg oa list<=1048576):vx list:=by
 refine⟨Nat.le_trans (jL _ _) h,λd aq=>?_⟩;have ad:=Nat.le_trans (mS (f:=oa) aq) h;unfold oa at ad;refine⟨by omega,Nat.le_trans (jL nr _) (by omega),λp ay=>?_⟩;have a_:nr p<=eg nr d.Body:=mS ay;have af:nr p<=1048576:=by omega
 clear a_;unfold nr at af;have aG:=jL (λx:List bY=>x.length+0) p.ck;refine⟨by omega,by omega,λe he=>?_⟩;have bh:e.length+0<=_:=mS (f:=λx:List bY=>x.length+0) he;omega
def mU (e:azK) (i:Nat):azq:=(e.getD i ⟨[],0,[]⟩).Name
theorem xk {e:azK} {i:Nat} (ai:i<e.length):e.getD i ⟨[],0,[]⟩=e[i]:=by simp[List.getD,ai]
def tR (e:azK) (i:Nat):Bool:=gq (λj=> !(mU e j==mU e i)) i
noncomputable def so (e:azK) (i:Nat):Bool:=match wc e (e.getD i ⟨[],0,[]⟩)with
 |some r=>r.2==0
 |none=>false
noncomputable def nM (e:azK):Bool:=((decide (1<=e.length)&&decide (e.length<=4))&&gq (λi=>(hk (mU e i)&&xj (e.getD i ⟨[],0,[]⟩))&&tR e i) e.length)&&gq (so e) e.length
theorem Tn {e:azK} (h:vx e) (bh:e.length<=4) (ay:D3 e=true) {i:Nat} (ai:i<e.length):
  ∃r,wc e e[i]=some r/\GC e e[i]=some r/\decide (0<r.2)= !(so e i)/\(r.2 !=0)= !(so e i)/\(so e i=true->xh e[i].Body=true/\r.2=0):=by
 obtain⟨r,en,bd,c_,bR⟩:=at1 e bh e[i] (h.2 _ (getElem_mem ai)) (abz ay i ai);have ab:so e i=(r.2==0):=by unfold so;rw[xk ai,en]
 refine⟨r,en,bd,?_,?_,λjQ=>?_⟩
 .rw[ab];by_cases a_:r.2=0
  .rw[a_];rfl
  .have aP:(r.2==0)=false:=by simpa using a_
   rw[aP];exact decide_eq_true (by omega)
 .rw[ab];rfl
 .rw[ab]at jQ;have a_:r.2=0:=by simpa using jQ
  exact⟨bR a_,a_⟩
theorem xl {p q:Nat->Bool} {n:Nat}:gq (λi=>p i&&q i) n=(gq p n&&gq q n):=by
 rw[Bool.eq_iff_iff,Bool.and_eq_true,n_,n_,n_];constructor
 .intro h;exact⟨λi ai=>((Bool.and_eq_true _ _).mp (h i ai)).1,λi ai=>((Bool.and_eq_true _ _).mp (h i ai)).2⟩
 .rintro⟨ad,af⟩ i ai;rw[ad i ai,af i ai];rfl
theorem au5 (e:azK) (h:vx e):JO e=some (nM e):=by
 unfold JO nM;by_cases hl:1<=e.length/\e.length<=4
 .have d1:(((e.length:Int)==0)||decide ((4:Int)<(e.length:Int)))=false:=by
   rw[Bool.or_eq_false_iff,beq_eq_false_iff_ne,decide_eq_false_iff_not];omega
  have d2:(decide (1<=e.length)&&decide (e.length<=4))=true:=by simp;omega
  rw[d1,d2,cond_false,Bool.true_and];rw[A5 (l:=λm i=>we e m i) (n:=e.length) (λi=>(hk (mU e i)&&xj (e.getD i ⟨[],0,[]⟩))&&tR e i) (b3 λn=>zN e n 0) (some false)]
  .cases bq:gq (λi=>(hk (mU e i)&&xj (e.getD i ⟨[],0,[]⟩))&&tR e i) e.length
   .rfl
   .have ay:D3 e=true:=by
     rw[xl,xl,Bool.and_eq_true,Bool.and_eq_true]at bq;exact bq.1.2
    rw[cond_true,Bool.true_and];rw[A5 (l:=λm i=>zN e m i) (n:=e.length) (so e) (some true) (some false)]
    .cases gq (so e) e.length<;>rfl
    .intro m;simp only[zN,Pt];rw[ei (Nat.le_refl _)];rfl
    .intro i ai m;obtain⟨r,en,_,c_,_⟩:=Tn h hl.2 ay ai;simp only[zN,Pt];rw[el ai,dX _ i ai,ek i _ ai (by omega)];simp only[cond_true,bind_some,en,c_];cases so e i<;>rfl
  .intro m;simp only[we,Pu];rw[ei (Nat.le_refl _)];rfl
  .intro i ai m;simp only[we,Pu];rw[el ai,dX _ i ai];simp only[cond_true,bind_some,yL,mr];rw[A5 (l:=λjY j=>Cd (we e m) e jY (i:Int) j) (n:=i) (λj=> !(mU e j==mU e i)) (we e m ((i+1:Nat):Int)) (some false)]
   .have aP:mU e i=e[i].Name:=by unfold mU;rw[xk ai]
    rw[<-aP,xk ai];show cond (!hk (mU e i)) _ (cond (!xj e[i]) _ (cond (tR e i) _ _))=_;cases hk (mU e i)<;>cases xj e[i]<;>cases tR e i<;>rfl
   .intro jY;simp only[Cd,Pr];rw[ei (Nat.le_refl _),ek i _ ai (by omega)];rfl
   .intro j bQ jY;have Mb:j<e.length:=by omega
    simp only[Cd,Pr];rw[el bQ,dX _ j Mb,dX _ i ai,ek j _ bQ (by omega)];simp only[cond_true,bind_some,mU,xk ai,xk Mb];cases e[j].Name==e[i].Name<;>rfl
 .have d1:(((e.length:Int)==0)||decide ((4:Int)<(e.length:Int)))=true:=by
   by_cases a_:e.length=0
   .simp[a_]
   .have:decide ((4:Int)<(e.length:Int))=true:=decide_eq_true (by omega);rw[this,Bool.or_true]
  have d2:(decide (1<=e.length)&&decide (e.length<=4))=false:=by
   rw[Bool.and_eq_false_iff,decide_eq_false_iff_not,decide_eq_false_iff_not];omega
  rw[d1,d2];rfl
theorem au6 (e:azK) (i:Nat) (ai:i<e.length) (bh:e.length<=4):((gG e 0 (i:Int)).bind λaU=>(Kj aU e[i].Name).bind λbB=>some (decide (0<=bB)))=some (!(tR e i)):=by
 rw[tH e i (by omega)];simp only[bind_some];unfold Kj P9;have hlen:(e.take i).length=i:=by rw[length_take];omega
 rw[sc (n:=i) (λj=>mU e j==mU e i)]
 .simp only[bind_some,vr];rfl
 .intro m;simp only[Gt,P8];rw[hlen,ei (Nat.le_refl _)];rfl
 .intro j bQ m;have Mb:j<e.length:=by omega
  simp only[Gt,P8];rw[hlen,el bQ,dX _ j (by omega),ek j _ bQ (by omega)];have:(e.take i)[j]'(by omega)=e[j]:=by simp
  simp only[cond_true,bind_some,P7,this,mU,xk ai,xk Mb]
theorem au7 (e:azK) (h:vx e):Ks e=some (nM e):=by
 unfold Ks jG nM;have nC:decide ((1:Int)<=(e.length:Int))=decide (1<=e.length):=decide_eq_decide.2 (by omega);have ly:decide ((e.length:Int)<=4)=decide (e.length<=4):=decide_eq_decide.2 (by omega);simp only[bind_some];rw[nC,ly];cases hl:(decide (1<=e.length)&&decide (e.length<=4))
 .rfl
 .have S4:1<=e.length/\e.length<=4:=by simpa using hl
  rw[at2 e h.1];simp only[Bool.not_true,cond_false,bind_some,Bool.true_and];have au8:gq (λi=>(hk (mU e i)&&xj (e.getD i ⟨[],0,[]⟩))&&tR e i) e.length=((gq (λi=>hk (mU e i)) e.length&&D3 e)&&gq (tR e) e.length):=by
   rw[xl,xl];rfl
  rw[au8];cases ay:D3 e
  .simp
  .simp only[Bool.not_true,cond_false,Bool.and_true];rw[A5 (l:=λm i=>CR e m i) (n:=e.length) (λi=>(hk (mU e i)&&tR e i)&&so e i) (some true) (some false)]
   .rw[xl,xl];cases((gq (λi=>hk (mU e i)) e.length&&gq (λi=>tR e i) e.length)&&gq (λi=>so e i) e.length)<;>rfl
   .intro m;simp only[CR,Qi];rw[ei (Nat.le_refl _)];rfl
   .intro i ai m;obtain⟨r,_,bd,_,bR,_⟩:=Tn h S4.2 ay ai;have aX:=au6 e i ai S4.2;have To:=(h.2 _ (getElem_mem ai)).1;simp only[CR,Qi];rw[el ai,dX _ i ai,ek i _ ai (by omega)];simp only[cond_true,bind_some,Td _ (show e[i].Name.length<=140737488355328 by omega),mU,xk ai];cases hk e[i].Name
    .rfl
    .simp only[Bool.not_true,cond_false,Bool.true_and];rw[tH e i (by omega)]at aX⊢;simp only[bind_some]at aX⊢;obtain⟨v,aJ,yR⟩:=an aX;rw[aJ];simp only[some.injEq]at yR;simp only[bind_some,yR,bd,bR];cases tR e i<;>cases so e i<;>rfl
theorem A7 {e:azK} (h:vx e) (aJ:nM e=true):1<=e.length/\e.length<=4/\∀i (ai:i<e.length),(0<=e[i].dV/\e[i].dV<=3)/\xh e[i].Body=true/\hk e[i].Name=true/\
  ∃r,wc e e[i]=some r/\r.2=0:=by
 unfold nM at aJ;rw[Bool.and_eq_true,Bool.and_eq_true,Bool.and_eq_true,decide_eq_true_eq,decide_eq_true_eq,xl,xl,Bool.and_eq_true,Bool.and_eq_true]at aJ;obtain⟨⟨⟨ad,af⟩,⟨aG,bh⟩,b6⟩,dt⟩:=aJ;refine⟨ad,af,λi ai=>?_⟩;obtain⟨r,en,_,_,_,cv⟩:=Tn h af bh ai;obtain⟨s1,s2⟩:=cv (n_.1 dt i ai);have aX:=n_.1 aG i ai;rw[mU,xk ai]at aX;exact⟨abz bh i ai,s1,aX,r,en,s2⟩
end Go.ld
