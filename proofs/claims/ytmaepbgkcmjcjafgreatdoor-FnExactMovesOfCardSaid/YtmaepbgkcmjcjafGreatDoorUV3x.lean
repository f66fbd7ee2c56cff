/- Part of a proof that a law returns true for every input. No condition. -/
import Derived.Test.YtmaepbgkcmjcjafGreatDoorP3
import Derived.Test.YtmaepbgkcmjcjafGreatDoorUV0x
import Derived.Test.YtmaepbgkcmjcjafGreatDoorUV2x
namespace Go.kX
open List Option Go.IntKind Nat
open Go Go.eg
set_option linter.unusedSimpArgs false
theorem ata (x:ayo) (n:Int) (ao:(x.length<=9223372036854775807/\∀y∈x,Br y)) (a_:0<=n) (aV:n<=1048576):E8 x n=some (i6 n (x.length+0)):=by
 unfold E8;refine pB ao.1 a_ aV λh=>?_;rw[ew _ (by omega)];exact wu (by omega)
theorem atb (x:ayl) (n:Int) (ao:(x.length<=9223372036854775807/\∀y∈x,(y.length<=9223372036854775807/\∀z∈y,Br z))) (a_:0<=n) (aV:n<=1048576):I4 x n=some (i6 n (dS (λx=>x.length+0) x)):=by
 unfold I4;refine pB ao.1 a_ aV λh=>?_;rw[ew _ (by omega)];exact Dk (f:=E8) (λx=>x.length+0) x (λ_ _ _=>rfl) (λy hy n a_ aV=>ata y n (ao.2 y hy) a_ aV) (by omega) _ (by omega) (by omega)
def tj (x:ll):Nat:=(x.Name.length+((dS (λx=>x.length+0) x.cd)+0))
theorem atc (x:ll) (n:Int) (ao:E3 x) (a_:0<=n) (aV:n<=1048576):E9 x n=some (i6 n (tj x)):=by
 unfold E9;unfold tj;obtain⟨w0,fe,hf,oL⟩:=ao;refine pB hf (by omega) (by omega) λc2=>?_;rw[ew (n-(x.Name.length:Int)) (by omega)];refine uW (atb _ _ oL (by omega) (by omega)) λc3=>?_;exact wu (by omega)
theorem atd (x:ayp) (n:Int) (ao:(x.length<=9223372036854775807/\∀y∈x,E3 y)) (a_:0<=n) (aV:n<=1048576):I5 x n=some (i6 n (dS tj x)):=by
 unfold I5;refine pB ao.1 a_ aV λh=>?_;rw[ew _ (by omega)];exact Dk (f:=E9) tj x (λ_ _ _=>rfl) (λy hy n a_ aV=>atc y n (ao.2 y hy) a_ aV) (by omega) _ (by omega) (by omega)
def tk (x:ln):Nat:=(x.Name.length+((dS tj x.Body)+0))
theorem ate (x:ln) (n:Int) (ao:E4 x) (a_:0<=n) (aV:n<=1048576):E_ x n=some (i6 n (tk x)):=by
 unfold E_;unfold tk;obtain⟨w0,fe,hf⟩:=ao;refine pB w0 (by omega) (by omega) λc0=>?_;rw[ew (n-(x.Name.length:Int)) (by omega)];refine uW (atd _ _ hf (by omega) (by omega)) λc2=>?_;exact wu (by omega)
theorem atf (x:ayq) (n:Int) (ao:(x.length<=9223372036854775807/\∀y∈x,E4 y)) (a_:0<=n) (aV:n<=1048576):I6 x n=some (i6 n (dS tk x)):=by
 unfold I6;refine pB ao.1 a_ aV λh=>?_;rw[ew _ (by omega)];exact Dk (f:=E_) tk x (λ_ _ _=>rfl) (λy hy n a_ aV=>ate y n (ao.2 y hy) a_ aV) (by omega) _ (by omega) (by omega)
theorem aaZ (x:aye) (n:Int) (ao:(x.length<=9223372036854775807/\∀y∈x,(-9223372036854775808<=y/\y<=9223372036854775807))) (a_:0<=n) (aV:n<=1048576):Fa x n=some (i6 n (x.length+0)):=by
 unfold Fa;refine pB ao.1 a_ aV λh=>?_;rw[ew _ (by omega)];exact wu (by omega)
def tl (x:lo):Nat:=((x.bH.length+0)+0)
theorem atg (x:lo) (n:Int) (ao:E5 x) (a_:0<=n) (aV:n<=1048576):Fb x n=some (i6 n (tl x)):=by
 unfold Fb;unfold tl;obtain⟨w0,fe⟩:=ao;refine uW (aaZ _ _ fe (by omega) (by omega)) λcr=>?_;exact wu (by omega)
theorem ath (x:ayr) (n:Int) (ao:(x.length<=9223372036854775807/\∀y∈x,E5 y)) (a_:0<=n) (aV:n<=1048576):I7 x n=some (i6 n (dS tl x)):=by
 unfold I7;refine pB ao.1 a_ aV λh=>?_;rw[ew _ (by omega)];exact Dk (f:=Fb) tl x (λ_ _ _=>rfl) (λy hy n a_ aV=>atg y n (ao.2 y hy) a_ aV) (by omega) _ (by omega) (by omega)
def tm (x:kY):Nat:=(x.Left.length+(x.cx.length+(x.Result.length+0)))
theorem ati (x:kY) (n:Int) (ao:E6 x) (a_:0<=n) (aV:n<=1048576):Fe x n=some (i6 n (tm x)):=by
 unfold Fe;unfold tm;obtain⟨w0,fe,hf⟩:=ao;refine pB w0 (by omega) (by omega) λc0=>?_;rw[ew (n-(x.Left.length:Int)) (by omega)];refine pB fe (by omega) (by omega) λcr=>?_;rw[ew ((n-(x.Left.length:Int))-(x.cx.length:Int)) (by omega)];refine pB hf (by omega) (by omega) λc2=>?_;rw[ew (((n-(x.Left.length:Int))-(x.cx.length:Int))-(x.Result.length:Int)) (by omega)];exact wu (by omega)
theorem atj (x:ays) (n:Int) (ao:(x.length<=9223372036854775807/\∀y∈x,E6 y)) (a_:0<=n) (aV:n<=1048576):I8 x n=some (i6 n (dS tm x)):=by
 unfold I8;refine pB ao.1 a_ aV λh=>?_;rw[ew _ (by omega)];exact Dk (f:=Fe) tm x (λ_ _ _=>rfl) (λy hy n a_ aV=>ati y n (ao.2 y hy) a_ aV) (by omega) _ (by omega) (by omega)
theorem aa0 (x:ayb) (n:Int) (ao:(x.length<=9223372036854775807/\∀y∈x,y.length<=9223372036854775807)) (a_:0<=n) (aV:n<=1048576):Ff x n=some (i6 n (dS length x)):=by
 unfold Ff;refine pB ao.1 a_ aV λh=>?_;rw[ew _ (by omega)];exact ase x (λ_ _ _=>rfl) ao.2 (by omega) _ (by omega) (by omega)
def yi (x:oN):Nat:=((dS tk x.c8)+((dS tl x.cL)+((dS tm x.cz)+((dS length x.dj)+((dS length x.dk)+0)))))
theorem atk (x:oN) (n:Int) (ao:E7 x) (a_:0<=n) (aV:n<=1048576):Fg x n=some (i6 n (yi x)):=by
 unfold Fg;unfold yi;obtain⟨w0,fe,hf,oL,Sk⟩:=ao;refine uW (atf _ _ w0 (by omega) (by omega)) λc0=>?_;refine uW (ath _ _ fe (by omega) (by omega)) λcr=>?_;refine uW (atj _ _ hf (by omega) (by omega)) λc2=>?_;refine uW (aa0 _ _ oL (by omega) (by omega)) λc3=>?_;refine uW (aa0 _ _ Sk (by omega) (by omega)) λc4=>?_;exact wu (by omega)
def qQ (x:lp):Nat:=((x.bH.length+0)+0)
theorem atl (x:lp) (n:Int) (ao:Bs x) (a_:0<=n) (aV:n<=1048576):Fh x n=some (i6 n (qQ x)):=by
 unfold Fh;unfold qQ;obtain⟨w0,fe,hf⟩:=ao;refine uW (aaZ _ _ hf (by omega) (by omega)) λc2=>?_;exact wu (by omega)
theorem atm (x:ayt) (n:Int) (ao:(x.length<=9223372036854775807/\∀y∈x,Bs y)) (a_:0<=n) (aV:n<=1048576):I9 x n=some (i6 n (dS qQ x)):=by
 unfold I9;refine pB ao.1 a_ aV λh=>?_;rw[ew _ (by omega)];exact Dk (f:=Fh) qQ x (λ_ _ _=>rfl) (λy hy n a_ aV=>atl y n (ao.2 y hy) a_ aV) (by omega) _ (by omega) (by omega)
def Dt (x:jq):bQ:=⟨x.Kind,x.Value⟩
theorem atn (x:jq):Fi x=some (Dt x):=by
 unfold Fi;rfl
theorem ato (x:ayo) (h:(x.length+0)<=1048576):Fj x=some (x.map Dt):=by
 unfold Fj;have hl:x.length<=1048576:=by omega
 rw[te _ hl (by decide)];simp only[bind_some];rw[wv (f:=Fi) Dt x _ (λ_ _ _=>rfl) (λy hy=>atn y) hl]
theorem atp (x:ayl) (h:(dS (λx=>x.length+0) x)<=1048576):I_ x=some (x.map (map Dt)):=by
 unfold I_;have hl:x.length<=1048576:=Nat.le_trans (ju _ _) h;rw[te _ hl (by decide)];simp only[bind_some];rw[wv (f:=Fj) (map Dt) x _ (λ_ _ _=>rfl) (λy hy=>ato y (Nat.le_trans (mB (f:=(λx=>x.length+0)) hy) h)) hl]
def Du (x:ll):b1:=⟨x.Kind,x.Number,x.Name,(x.cd.map (map Dt))⟩
def mZ (x:b1):Nat:=(x.Name.length+((dS (λx=>x.length+0) x.cd)+0))
theorem atq (x:ll):mZ (Du x)=tj x:=by
 simp only[mZ,tj,Du,Ae,length_map]
theorem atr (x:ll) (h:(tj x)<=1048576):Fk x=some (Du x):=by
 unfold Fk;unfold tj at h;rw[atp _ (by omega)];rfl
theorem ats (x:ayp) (h:(dS tj x)<=1048576):Ja x=some (x.map Du):=by
 unfold Ja;have hl:x.length<=1048576:=Nat.le_trans (ju _ _) h;rw[te _ hl (by decide)];simp only[bind_some];rw[wv (f:=Fk) Du x _ (λ_ _ _=>rfl) (λy hy=>atr y (Nat.le_trans (mB (f:=tj) hy) h)) hl]
def Dv (x:ln):bb:=⟨x.Name,x.dP,(x.Body.map Du)⟩
def nU (x:bb):Nat:=(x.Name.length+((dS mZ x.Body)+0))
theorem att (x:ln):nU (Dv x)=tk x:=by
 simp only[nU,tk,Dv,Ae,length_map,atq]
theorem atu (x:ln) (h:(tk x)<=1048576):Fl x=some (Dv x):=by
 unfold Fl;unfold tk at h;rw[ats _ (by omega)];rfl
theorem atv (x:ayq) (h:(dS tk x)<=1048576):Jb x=some (x.map Dv):=by
 unfold Jb;have hl:x.length<=1048576:=Nat.le_trans (ju _ _) h;rw[te _ hl (by decide)];simp only[bind_some];rw[wv (f:=Fl) Dv x _ (λ_ _ _=>rfl) (λy hy=>atu y (Nat.le_trans (mB (f:=tk) hy) h)) hl]
theorem aa1 (x:aye) (h:(x.length+0)<=1048576):Fm x=some x:=by
 unfold Fm;have hl:x.length<=1048576:=by omega
 rw[te _ hl (by decide)];simp only[bind_some];rw[wv (f:=some) id x _ (λ_ _ _=>rfl) (λ_ _=>rfl) hl,List.map_id]
def Dw (x:lo):df:=⟨x.cp,x.bH⟩
def na (x:df):Nat:=((x.bH.length+0)+0)
theorem atw (x:lo):na (Dw x)=tl x:=by
 simp only[na,tl,Dw,Ae,length_map]
theorem atx (x:lo) (h:(tl x)<=1048576):Fo x=some (Dw x):=by
 unfold Fo;unfold tl at h;rw[aa1 _ (by omega)];rfl
theorem aty (x:ayr) (h:(dS tl x)<=1048576):Jc x=some (x.map Dw):=by
 unfold Jc;have hl:x.length<=1048576:=Nat.le_trans (ju _ _) h;rw[te _ hl (by decide)];simp only[bind_some];rw[wv (f:=Fo) Dw x _ (λ_ _ _=>rfl) (λy hy=>atx y (Nat.le_trans (mB (f:=tl) hy) h)) hl]
def Dx (x:kY):b0:=⟨x.Left,x.cx,x.Result⟩
def nb (x:b0):Nat:=(x.Left.length+(x.cx.length+(x.Result.length+0)))
theorem atz (x:kY):nb (Dx x)=tm x:=by
 simp only[nb,tm,Dx,Ae,length_map]
theorem atA (x:kY) (h:(tm x)<=1048576):Fp x=some (Dx x):=by
 unfold Fp;unfold tm at h;rfl
theorem atB (x:ays) (h:(dS tm x)<=1048576):Jd x=some (x.map Dx):=by
 unfold Jd;have hl:x.length<=1048576:=Nat.le_trans (ju _ _) h;rw[te _ hl (by decide)];simp only[bind_some];rw[wv (f:=Fp) Dx x _ (λ_ _ _=>rfl) (λy hy=>atA y (Nat.le_trans (mB (f:=tm) hy) h)) hl]
theorem aa2 (x:ayb) (h:(dS length x)<=1048576):Fq x=some x:=by
 unfold Fq;have hl:x.length<=1048576:=Nat.le_trans (ju _ _) h;rw[te _ hl (by decide)];simp only[bind_some];rw[wv (f:=some) id x _ (λ_ _ _=>rfl) (λ_ _=>rfl) hl,List.map_id]
def u2 (x:oN):cE:=⟨(x.c8.map Dv),(x.cL.map Dw),(x.cz.map Dx),x.dj,x.dk⟩
def tn (x:cE):Nat:=((dS nU x.c8)+((dS na x.cL)+((dS nb x.cz)+((dS length x.dj)+((dS length x.dk)+0)))))
theorem aa3 (x:oN):tn (u2 x)=yi x:=by
 simp only[tn,yi,u2,Ae,length_map,att,atw,atz]
theorem atC (x:oN) (h:(yi x)<=1048576):xH x=some (u2 x):=by
 unfold xH;unfold yi at h;rw[atv _ (by omega),aty _ (by omega),atB _ (by omega),aa2 _ (by omega),aa2 _ (by omega)];rfl
def u3 (x:lp):bd:=⟨x.cp,x.Part,x.bH⟩
def lT (x:bd):Nat:=((x.bH.length+0)+0)
theorem atD (x:lp):lT (u3 x)=qQ x:=by
 simp only[lT,qQ,u3,Ae,length_map]
theorem atE (x:lp) (h:(qQ x)<=1048576):Fs x=some (u3 x):=by
 unfold Fs;unfold qQ at h;rw[aa1 _ (by omega)];rfl
theorem atF (x:ayt) (h:(dS qQ x)<=1048576):za x=some (x.map u3):=by
 unfold za;have hl:x.length<=1048576:=Nat.le_trans (ju _ _) h;rw[te _ hl (by decide)];simp only[bind_some];rw[wv (f:=Fs) u3 x _ (λ_ _ _=>rfl) (λy hy=>atE y (Nat.le_trans (mB (f:=qQ) hy) h)) hl]
theorem aa4 (x:aye) (h:(x.length+0)<=1048576):Gl x x=some true:=by
 unfold Gl;have hl:x.length<=1048576:=by omega
 rw[uX,cond_false];exact Z8 x (λ_ _=>rfl) wx hl
theorem atG (x:bd) (h:(lT x)<=1048576):Gm x x=some true:=by
 unfold Gm;unfold lT at h;simp only[wx,wy,ye,cond_false,bind_some,Bool.not_true,aa4 x.bH (by omega)]
theorem aa5 (x:ayz) (h:(dS lT x)<=1048576):Gn x x=some true:=by
 unfold Gn;have hl:x.length<=1048576:=Nat.le_trans (ju _ _) h;rw[uX,cond_false];exact yd (f:=Gm) x (λ_ _=>rfl) (λy hy=>atG y (Nat.le_trans (mB (f:=lT) hy) h)) hl
def oZ (x:a1):Nat:=(x.Label.length+((dS lT x.State)+0))
theorem atH (x:a1) (h:(oZ x)<=1048576):Gp x x=some true:=by
 unfold Gp;unfold oZ at h;simp only[wx,wy,ye,cond_false,bind_some,Bool.not_true,aa5 x.State (by omega)]
theorem atI (x:ayA) (h:(dS oZ x)<=1048576):CO x x=some true:=by
 unfold CO;have hl:x.length<=1048576:=Nat.le_trans (ju _ _) h;rw[uX,cond_false];exact yd (f:=Gp) x (λ_ _=>rfl) (λy hy=>atH y (Nat.le_trans (mB (f:=oZ) hy) h)) hl
theorem atJ (x:bQ):Gq x x=some true:=by
 unfold Gq;simp only[wx,wy,ye,cond_false,bind_some,Bool.not_true]
theorem atK (x:ayu) (h:(x.length+0)<=1048576):Gr x x=some true:=by
 unfold Gr;have hl:x.length<=1048576:=by omega
 rw[uX,cond_false];exact yd (f:=Gq) x (λ_ _=>rfl) (λy hy=>atJ y) hl
theorem atL (x:aym) (h:(dS (λx=>x.length+0) x)<=1048576):Kl x x=some true:=by
 unfold Kl;have hl:x.length<=1048576:=Nat.le_trans (ju _ _) h;rw[uX,cond_false];exact yd (f:=Gr) x (λ_ _=>rfl) (λy hy=>atK y (Nat.le_trans (mB (f:=(λx=>x.length+0)) hy) h)) hl
theorem atM (x:b1) (h:(mZ x)<=1048576):Gs x x=some true:=by
 unfold Gs;unfold mZ at h;simp only[wx,wy,ye,cond_false,bind_some,Bool.not_true,atL x.cd (by omega)]
theorem atN (x:ayv) (h:(dS mZ x)<=1048576):Km x x=some true:=by
 unfold Km;have hl:x.length<=1048576:=Nat.le_trans (ju _ _) h;rw[uX,cond_false];exact yd (f:=Gs) x (λ_ _=>rfl) (λy hy=>atM y (Nat.le_trans (mB (f:=mZ) hy) h)) hl
theorem atO (x:bb) (h:(nU x)<=1048576):Gt x x=some true:=by
 unfold Gt;unfold nU at h;simp only[wx,wy,ye,cond_false,bind_some,Bool.not_true,atN x.Body (by omega)]
theorem atP (x:ayw) (h:(dS nU x)<=1048576):Kn x x=some true:=by
 unfold Kn;have hl:x.length<=1048576:=Nat.le_trans (ju _ _) h;rw[uX,cond_false];exact yd (f:=Gt) x (λ_ _=>rfl) (λy hy=>atO y (Nat.le_trans (mB (f:=nU) hy) h)) hl
theorem atQ (x:df) (h:(na x)<=1048576):Gu x x=some true:=by
 unfold Gu;unfold na at h;simp only[wx,wy,ye,cond_false,bind_some,Bool.not_true,aa4 x.bH (by omega)]
theorem atS (x:ayx) (h:(dS na x)<=1048576):Ko x x=some true:=by
 unfold Ko;have hl:x.length<=1048576:=Nat.le_trans (ju _ _) h;rw[uX,cond_false];exact yd (f:=Gu) x (λ_ _=>rfl) (λy hy=>atQ y (Nat.le_trans (mB (f:=na) hy) h)) hl
theorem atT (x:b0) (h:(nb x)<=1048576):Gv x x=some true:=by
 unfold Gv;unfold nb at h;simp only[wx,wy,ye,cond_false,bind_some,Bool.not_true]
theorem atU (x:ayy) (h:(dS nb x)<=1048576):Kp x x=some true:=by
 unfold Kp;have hl:x.length<=1048576:=Nat.le_trans (ju _ _) h;rw[uX,cond_false];exact yd (f:=Gv) x (λ_ _=>rfl) (λy hy=>atT y (Nat.le_trans (mB (f:=nb) hy) h)) hl
theorem aa6 (x:ayb) (h:(dS length x)<=1048576):Gw x x=some true:=by
 unfold Gw;have hl:x.length<=1048576:=Nat.le_trans (ju _ _) h;rw[uX,cond_false];exact Z8 x (λ_ _=>rfl) wy hl
theorem atV (x:cE) (h:(tn x)<=1048576):Gx x x=some true:=by
 unfold Gx;unfold tn at h;simp only[wx,wy,ye,cond_false,bind_some,Bool.not_true,atP x.c8 (by omega),atS x.cL (by omega),atU x.cz (by omega),aa6 x.dj (by omega),aa6 x.dk (by omega)]
theorem Ar (k:Int) (a_:0<=k) (aa:k<=1099511627776):∃t,sY k=some t:=by
 have key:∀(n:Nat) (k:Int),0<=k->k<=n->n<=1099511627776->∀t:ayc,t.length+n<=1099511627776->∃r,∀m,n<m->zH m k t=some r:=by
  intro n;induction n with
  |zero=>
   intro k ad af aG t ba;refine⟨[109]++t,λm hm=>?_⟩;obtain⟨m,rfl⟩:∃j,m=j+1:=⟨m-1,by omega⟩
   simp only[zH,Kq];rw[show decide (0<k)=false by simp;omega,cond_false,show iz (1+t.length)=some () by unfold iz;rw[if_pos (by omega)]];rfl
  |succ n ih=>
   intro k ad af aG t ba;by_cases au:0<k
   .have an:Int.tdiv k 10=k/10:=Int.tdiv_eq_ediv_of_nonneg ad;have hw:i64.wrap (Int.tdiv k 10)=k/10:=by rw[an];exact ew _ (by omega)
    obtain⟨r,aQ⟩:=ih (k/10) (by omega) (by omega) (by omega) ([(o3 (i64.wrap (48+(Int.tmod k 10))))]++t) (by simp only[length_append,length_cons,length_nil];omega);refine⟨r,λm hm=>?_⟩;obtain⟨m,rfl⟩:∃j,m=j+1:=⟨m-1,by omega⟩
    simp only[zH,Kq];rw[show decide (0<k)=true by simp;omega,cond_true,show iz (1+t.length)=some () by unfold iz;rw[if_pos (by omega)]];simp only[bind_some,hw];exact aQ m (by omega)
   .refine⟨[109]++t,λm hm=>?_⟩;obtain⟨m,rfl⟩:∃j,m=j+1:=⟨m-1,by omega⟩
    simp only[zH,Kq];rw[show decide (0<k)=false by simp;omega,cond_false,show iz (1+t.length)=some () by unfold iz;rw[if_pos (by omega)]];rfl
 unfold sY;by_cases au:k<=0
 .exact⟨_,by rw[show decide (k<=0)=true by simpa using au];rfl⟩
 .obtain⟨r,aQ⟩:=key k.toNat k a_ (by omega) (by omega) [] (by simp only[length_nil];omega);exact⟨r,by rw[show decide (k<=0)=false by simp;omega,cond_false];exact fb (k.toNat+1) λm hm=>aQ m (by omega)⟩
theorem atW (x:ayu) (k:Int) (a_:0<=k) (aa:k+64*(x.length+0)<=1099511627776):∃(cN:ayu) (c:Nat),c<=64*(x.length+0)/\Kr x k=some (k+(c:Int),cN):=by
 unfold Kr;have e:hD (λ_=>64) x=64*x.length:=So 64 x;obtain⟨cN,c,ad,af⟩:=Ag (l:=CP) (λ_=>64) (λm v k=>by simp only[CP,QA];rw[eb (Nat.le_refl _)];rfl) (λx k a_ aa=>by
  have fe:i64.wrap (k+1)=k+1:=ew _ (by omega);have hf:i64.wrap ((k+1)+1)=(k+1)+1:=ew _ (by omega);refine⟨(bQ.mk k (k+1)),1+1,by omega,λm d r an=>?_⟩;simp only[CP,QA];rw[qO];simp only[cond_true,qN,uY,bind_some,fe,hf];rw[qP an];rw[show(((k+1)+1):Int)=k+((1+1:Nat):Int) by omega]) x k a_ (by omega) (by omega)
 exact⟨cN,c,by omega,af⟩
theorem atX (x:aym) (k:Int) (a_:0<=k) (aa:k+64*(dS (λx=>x.length+0) x)<=1099511627776):∃(cN:aym) (c:Nat),c<=64*(dS (λx=>x.length+0) x)/\Ks x k=some (k+(c:Int),cN):=by
 unfold Ks;have e:hD (λx=>64*((x.length+0)+1)) x=64*dS (λx=>x.length+0) x:=wB (λx=>x.length+0) x;have hl:x.length<=dS (λx=>x.length+0) x:=ju _ _;obtain⟨cN,c,ad,af⟩:=Ag (l:=CQ) (λx=>64*((x.length+0)+1)) (λm v k=>by simp only[CQ,QB];rw[eb (Nat.le_refl _)];rfl) (λx k a_ aa=>by
  obtain⟨ft,cr,hA,m1⟩:=atW x k (by omega) (by omega);refine⟨ft,cr,by omega,λm d r an=>?_⟩;simp only[CQ,QB];rw[qO];simp only[cond_true,qN,uY,bind_some,m1];rw[qP an]) x k a_ (by omega) (by omega)
 exact⟨cN,c,by omega,af⟩
theorem atY (x:ayv) (k:Int) (a_:0<=k) (aa:k+64*(dS mZ x)<=1099511627776):∃(cN:ayv) (c:Nat),c<=64*(dS mZ x)/\Kt x k=some (k+(c:Int),cN):=by
 unfold Kt;have e:hD (λx=>64*((mZ x)+1)) x=64*dS mZ x:=wB mZ x;have hl:x.length<=dS mZ x:=ju _ _;obtain⟨cN,c,ad,af⟩:=Ag (l:=CR) (λx=>64*((mZ x)+1)) (λm v k=>by simp only[CR,QC];rw[eb (Nat.le_refl _)];rfl) (λx k a_ aa=>by
  simp only[mZ]at aa⊢;have fe:i64.wrap (k+1)=k+1:=ew _ (by omega);have hf:i64.wrap ((k+1)+1)=(k+1)+1:=ew _ (by omega);obtain⟨pg,t3⟩:=Ar ((k+1)+1) (by omega) (by omega);have oL:i64.wrap (((k+1)+1)+1)=((k+1)+1)+1:=ew _ (by omega);obtain⟨qM,c4,bM,m4⟩:=atX x.cd (((k+1)+1)+1) (by omega) (by omega);refine⟨(b1.mk k (k+1) pg qM),1+1+1+c4,by omega,λm d r an=>?_⟩;simp only[CR,QC];rw[qO];simp only[cond_true,qN,uY,bind_some,fe,hf,t3,oL,m4];rw[qP an];rw[show(((((k+1)+1)+1)+(c4:Int)):Int)=k+((1+1+1+c4:Nat):Int) by omega]) x k a_ (by omega) (by omega)
 exact⟨cN,c,by omega,af⟩
theorem atZ (x:ayw) (k:Int) (a_:0<=k) (aa:k+64*(dS nU x)<=1099511627776):∃(cN:ayw) (c:Nat),c<=64*(dS nU x)/\Ku x k=some (k+(c:Int),cN):=by
 unfold Ku;have e:hD (λx=>64*((nU x)+1)) x=64*dS nU x:=wB nU x;have hl:x.length<=dS nU x:=ju _ _;obtain⟨cN,c,ad,af⟩:=Ag (l:=CS) (λx=>64*((nU x)+1)) (λm v k=>by simp only[CS,QD];rw[eb (Nat.le_refl _)];rfl) (λx k a_ aa=>by
  simp only[nU]at aa⊢;obtain⟨s1,t1⟩:=Ar k (by omega) (by omega);have fe:i64.wrap (k+1)=k+1:=ew _ (by omega);have hf:i64.wrap ((k+1)+1)=(k+1)+1:=ew _ (by omega);obtain⟨mP,c3,gd,m3⟩:=atY x.Body ((k+1)+1) (by omega) (by omega);refine⟨(bb.mk s1 (k+1) mP),1+1+c3,by omega,λm d r an=>?_⟩;simp only[CS,QD];rw[qO];simp only[cond_true,qN,uY,bind_some,t1,fe,hf,m3];rw[qP an];rw[show((((k+1)+1)+(c3:Int)):Int)=k+((1+1+c3:Nat):Int) by omega]) x k a_ (by omega) (by omega)
 exact⟨cN,c,by omega,af⟩
theorem aa7 (x:aye) (k:Int) (a_:0<=k) (aa:k+64*(x.length+0)<=1099511627776):∃(cN:aye) (c:Nat),c<=64*(x.length+0)/\Gy x k=some (k+(c:Int),cN)/\Kz cN k=some (k+(c:Int)):=by
 unfold Gy Kz;have e:hD (λ_=>64) x=64*x.length:=So 64 x;obtain⟨cN,c,ad,af,aG⟩:=Sp (l:=CT) (hl:=CZ) (λ_=>64) (λm v k=>by simp only[CT,QE];rw[eb (Nat.le_refl _)];rfl) (λa m k=>by simp only[CZ,QK];rw[eb (Nat.le_refl _)];rfl) (λx k a_ aa=>by
  have fe:i64.wrap (k+1)=k+1:=ew _ (by omega);refine⟨k,1,by omega,λm d r an=>⟨?_,?_⟩⟩
  .simp only[CT,QE];rw[qO];simp only[cond_true,qN,uY,bind_some,fe];rw[qP an];rw[show((k+1):Int)=k+((1:Nat):Int) by omega]
  .simp only[CZ,QK];rw[qO];simp only[cond_true,cond_false,qN,bind_some,bne_self_eq_false,beq_self_eq_true,Bool.not_true,fe];rw[qP an];rw[show((k+1):Int)=k+((1:Nat):Int) by omega]) x k a_ (by omega) (by omega)
 exact⟨cN,c,by omega,af,aG⟩
theorem at0 (x:ayx) (k:Int) (a_:0<=k) (aa:k+64*(dS na x)<=1099511627776):∃(cN:ayx) (c:Nat),c<=64*(dS na x)/\Kv x k=some (k+(c:Int),cN):=by
 unfold Kv;have e:hD (λx=>64*((na x)+1)) x=64*dS na x:=wB na x;have hl:x.length<=dS na x:=ju _ _;obtain⟨cN,c,ad,af⟩:=Ag (l:=CU) (λx=>64*((na x)+1)) (λm v k=>by simp only[CU,QF];rw[eb (Nat.le_refl _)];rfl) (λx k a_ aa=>by
  simp only[na]at aa⊢;have fe:i64.wrap (k+1)=k+1:=ew _ (by omega);obtain⟨hr,c2,fV,m2⟩:=aa7 x.bH (k+1) (by omega) (by omega);refine⟨(df.mk k hr),1+c2,by omega,λm d r an=>?_⟩;simp only[CU,QF];rw[qO];simp only[cond_true,qN,uY,bind_some,fe,m2];rw[qP an];rw[show(((k+1)+(c2:Int)):Int)=k+((1+c2:Nat):Int) by omega]) x k a_ (by omega) (by omega)
 exact⟨cN,c,by omega,af⟩
theorem at1 (x:ayy) (k:Int) (a_:0<=k) (aa:k+64*(dS nb x)<=1099511627776):∃(cN:ayy) (c:Nat),c<=64*(dS nb x)/\Kw x k=some (k+(c:Int),cN):=by
 unfold Kw;have e:hD (λx=>64*((nb x)+1)) x=64*dS nb x:=wB nb x;have hl:x.length<=dS nb x:=ju _ _;obtain⟨cN,c,ad,af⟩:=Ag (l:=CV) (λx=>64*((nb x)+1)) (λm v k=>by simp only[CV,QG];rw[eb (Nat.le_refl _)];rfl) (λx k a_ aa=>by
  simp only[nb]at aa⊢;obtain⟨s1,t1⟩:=Ar k (by omega) (by omega);have fe:i64.wrap (k+1)=k+1:=ew _ (by omega);obtain⟨s2,t2⟩:=Ar (k+1) (by omega) (by omega);have hf:i64.wrap ((k+1)+1)=(k+1)+1:=ew _ (by omega);obtain⟨pg,t3⟩:=Ar ((k+1)+1) (by omega) (by omega);have oL:i64.wrap (((k+1)+1)+1)=((k+1)+1)+1:=ew _ (by omega);refine⟨(b0.mk s1 s2 pg),1+1+1,by omega,λm d r an=>?_⟩;simp only[CV,QG];rw[qO];simp only[cond_true,qN,uY,bind_some,t1,fe,t2,hf,t3,oL];rw[qP an];rw[show((((k+1)+1)+1):Int)=k+((1+1+1:Nat):Int) by omega]) x k a_ (by omega) (by omega)
 exact⟨cN,c,by omega,af⟩
theorem aa8 (x:ayb) (k:Int) (a_:0<=k) (aa:k+64*(dS length x)<=1099511627776):∃(cN:ayb) (c:Nat),c<=64*(dS length x)/\Gz x k=some (k+(c:Int),cN):=by
 unfold Gz;have e:hD (λx=>64*(x.length+1)) x=64*dS length x:=wB length x;have hl:x.length<=dS length x:=ju _ _;obtain⟨cN,c,ad,af⟩:=Ag (l:=CW) (λx=>64*(x.length+1)) (λm v k=>by simp only[CW,QH];rw[eb (Nat.le_refl _)];rfl) (λx k a_ aa=>by
  obtain⟨s1,t1⟩:=Ar k (by omega) (by omega);have fe:i64.wrap (k+1)=k+1:=ew _ (by omega);refine⟨s1,1,by omega,λm d r an=>?_⟩;simp only[CW,QH];rw[qO];simp only[cond_true,qN,uY,bind_some,t1,fe];rw[qP an];rw[show((k+1):Int)=k+((1:Nat):Int) by omega]) x k a_ (by omega) (by omega)
 exact⟨cN,c,by omega,af⟩
theorem at2 (x:cE) (k:Int) (a_:0<=k) (aa:k+64*((tn x)+1)<=1099511627776):∃(gg:ayw) (ft:ayx) (hr:ayy) (mP:ayb) (qM:ayb) (c:Nat),c<=64*((tn x)+1)/\Kx x.c8 x.cL x.cz x.dj x.dk k=some (k+(c:Int),gg,ft,hr,mP,qM):=by
 unfold Kx;simp only[tn]at aa⊢;obtain⟨ft,cr,hA,m1⟩:=atZ x.c8 k (by omega) (by omega);obtain⟨hr,c2,fV,m2⟩:=at0 x.cL (k+(cr:Int)) (by omega) (by omega);obtain⟨mP,c3,gd,m3⟩:=at1 x.cz ((k+(cr:Int))+(c2:Int)) (by omega) (by omega);obtain⟨qM,c4,bM,m4⟩:=aa8 x.dj (((k+(cr:Int))+(c2:Int))+(c3:Int)) (by omega) (by omega);obtain⟨at3,c5,cV,m5⟩:=aa8 x.dk ((((k+(cr:Int))+(c2:Int))+(c3:Int))+(c4:Int)) (by omega) (by omega);refine⟨ft,hr,mP,qM,at3,cr+c2+c3+c4+c5,by omega,?_⟩;simp only[bind_some,m1,m2,m3,m4,m5];rw[show(k+((cr+c2+c3+c4+c5:Nat):Int))=(((((k+(cr:Int))+(c2:Int))+(c3:Int))+(c4:Int))+(c5:Int)) by omega]
theorem aa9 (x:ayz) (k:Int) (a_:0<=k) (aa:k+64*(dS lT x)<=1099511627776):∃(cN:ayz) (c:Nat),c<=64*(dS lT x)/\GA x k=some (k+(c:Int),cN)/\KA cN k=some (k+(c:Int)):=by
 unfold GA KA;have e:hD (λx=>64*((lT x)+1)) x=64*dS lT x:=wB lT x;have hl:x.length<=dS lT x:=ju _ _;obtain⟨cN,c,ad,af,aG⟩:=Sp (l:=CX) (hl:=C0) (λx=>64*((lT x)+1)) (λm v k=>by simp only[CX,QI];rw[eb (Nat.le_refl _)];rfl) (λa m k=>by simp only[C0,QL];rw[eb (Nat.le_refl _)];rfl) (λx k a_ aa=>by
  simp only[lT]at aa⊢;have fe:i64.wrap (k+1)=k+1:=ew _ (by omega);have hf:i64.wrap ((k+1)+1)=(k+1)+1:=ew _ (by omega);obtain⟨mP,c3,gd,m3,iE⟩:=aa7 x.bH ((k+1)+1) (by omega) (by omega);have fg:=Lk (k:=(((k+1)+1)+(c3:Int))) (by omega);refine⟨(bd.mk k (k+1) mP),1+1+c3,by omega,λm d r an=>⟨?_,?_⟩⟩
  .simp only[CX,QI];rw[qO];simp only[cond_true,qN,uY,bind_some,fe,hf,m3];rw[qP an];rw[show((((k+1)+1)+(c3:Int)):Int)=k+((1+1+c3:Nat):Int) by omega]
  .simp only[C0,QL];rw[qO];simp only[cond_true,cond_false,qN,bind_some,bne_self_eq_false,beq_self_eq_true,Bool.not_true,iE,fg,fe,hf];rw[qP an];rw[show((((k+1)+1)+(c3:Int)):Int)=k+((1+1+c3:Nat):Int) by omega]) x k a_ (by omega) (by omega)
 exact⟨cN,c,by omega,af,aG⟩
theorem at4 (x:ayA) (k:Int) (a_:0<=k) (aa:k+64*(dS oZ x)<=1099511627776):∃(cN:ayA) (c:Nat),c<=64*(dS oZ x)/\Ky x k=some (k+(c:Int),cN)/\GB cN k=some (k+(c:Int)):=by
 unfold Ky GB;have e:hD (λx=>64*((oZ x)+1)) x=64*dS oZ x:=wB oZ x;have hl:x.length<=dS oZ x:=ju _ _;obtain⟨cN,c,ad,af,aG⟩:=Sp (l:=CY) (hl:=C1) (λx=>64*((oZ x)+1)) (λm v k=>by simp only[CY,QJ];rw[eb (Nat.le_refl _)];rfl) (λa m k=>by simp only[C1,QM];rw[eb (Nat.le_refl _)];rfl) (λx k a_ aa=>by
  simp only[oZ]at aa⊢;obtain⟨s1,t1⟩:=Ar k (by omega) (by omega);have fe:i64.wrap (k+1)=k+1:=ew _ (by omega);have hf:i64.wrap ((k+1)+1)=(k+1)+1:=ew _ (by omega);have oL:i64.wrap (((k+1)+1)+1)=((k+1)+1)+1:=ew _ (by omega);obtain⟨qM,c4,bM,m4,i7⟩:=aa9 x.State (((k+1)+1)+1) (by omega) (by omega);have fa:=Lk (k:=((((k+1)+1)+1)+(c4:Int))) (by omega);refine⟨(a1.mk s1 (k+1) ((k+1)+1) qM),1+1+1+c4,by omega,λm d r an=>⟨?_,?_⟩⟩
  .simp only[CY,QJ];rw[qO];simp only[cond_true,qN,uY,bind_some,t1,fe,hf,oL,m4];rw[qP an];rw[show(((((k+1)+1)+1)+(c4:Int)):Int)=k+((1+1+1+c4:Nat):Int) by omega]
  .simp only[C1,QM];rw[qO];simp only[cond_true,cond_false,qN,bind_some,bne_self_eq_false,beq_self_eq_true,Bool.not_true,i7,fa,t1,fe,hf,oL];rw[qP an];rw[show(((((k+1)+1)+1)+(c4:Int)):Int)=k+((1+1+1+c4:Nat):Int) by omega]) x k a_ (by omega) (by omega)
 exact⟨cN,c,by omega,af,aG⟩
theorem at5 {list:ayw} (h:dS nU list<=1048576):pE list:=by
 refine⟨Nat.le_trans (ju _ _) h,λd an=>?_⟩;have ad:=Nat.le_trans (mB (f:=nU) an) h;unfold nU at ad;refine⟨by omega,Nat.le_trans (ju mZ _) (by omega),λp ax=>?_⟩;have a_:mZ p<=dS mZ d.Body:=mB ax;have af:mZ p<=1048576:=by omega
 clear a_;unfold mZ at af;have aG:=ju (λx:List bQ=>x.length+0) p.cd;refine⟨by omega,by omega,λe he=>?_⟩;have bf:e.length+0<=_:=mB (f:=λx:List bQ=>x.length+0) he;omega
def mC (e:ayw) (i:Nat):ayc:=(e.getD i ⟨[],0,[]⟩).Name
theorem wI {e:ayw} {i:Nat} (aj:i<e.length):e.getD i ⟨[],0,[]⟩=e[i]:=by simp[List.getD,aj]
def tp (e:ayw) (i:Nat):Bool:=fZ (λj=> !(mC e j==mC e i)) i
noncomputable def rY (e:ayw) (i:Nat):Bool:=match vB e (e.getD i ⟨[],0,[]⟩)with
 |some r=>r.2==0
 |none=>false
noncomputable def lU (e:ayw):Bool:=((decide (1<=e.length)&&decide (e.length<=4))&&fZ (λi=>(hE (mC e i)&&wH (e.getD i ⟨[],0,[]⟩))&&tp e i) e.length)&&fZ (rY e) e.length
theorem SH {e:ayw} (h:pE e) (bf:e.length<=4) (ax:Ds e=true) {i:Nat} (aj:i<e.length):
  ∃r,vB e e[i]=some r/\F3 e e[i]=some r/\decide (0<r.2)= !(rY e i)/\(r.2 !=0)= !(rY e i)/\(rY e i=true->wG e[i].Body=true/\r.2=0):=by
 obtain⟨r,eh,bc,dm,bG⟩:=as9 e bf e[i] (h.2 _ (getElem_mem aj)) (aaY ax i aj);have aa:rY e i=(r.2==0):=by unfold rY;rw[wI aj,eh]
 refine⟨r,eh,bc,?_,?_,λkj=>?_⟩
 .rw[aa];by_cases a_:r.2=0
  .rw[a_];rfl
  .have aP:(r.2==0)=false:=by simpa using a_
   rw[aP];exact decide_eq_true (by omega)
 .rw[aa];rfl
 .rw[aa]at kj;have a_:r.2=0:=by simpa using kj
  exact⟨bG a_,a_⟩
theorem wJ {p q:Nat->Bool} {n:Nat}:fZ (λi=>p i&&q i) n=(fZ p n&&fZ q n):=by
 rw[Bool.eq_iff_iff,Bool.and_eq_true,oX,oX,oX];constructor
 .intro h;exact⟨λi aj=>((Bool.and_eq_true _ _).mp (h i aj)).1,λi aj=>((Bool.and_eq_true _ _).mp (h i aj)).2⟩
 .rintro⟨ad,af⟩ i aj;rw[ad i aj,af i aj];rfl
theorem at6 (e:ayw) (h:pE e):Jj e=some (lU e):=by
 unfold Jj lU;by_cases hl:1<=e.length/\e.length<=4
 .have d1:(((e.length:Int)==0)||decide ((4:Int)<(e.length:Int)))=false:=by
   rw[Bool.or_eq_false_iff,beq_eq_false_iff_ne,decide_eq_false_iff_not];omega
  have d2:(decide (1<=e.length)&&decide (e.length<=4))=true:=by simp;omega
  rw[d1,d2,cond_false,Bool.true_and];rw[Ao (l:=λm i=>vC e m i) (n:=e.length) (λi=>(hE (mC e i)&&wH (e.getD i ⟨[],0,[]⟩))&&tp e i) (bZ λn=>zc e n 0) (some false)]
  .cases br:fZ (λi=>(hE (mC e i)&&wH (e.getD i ⟨[],0,[]⟩))&&tp e i) e.length
   .rfl
   .have ax:Ds e=true:=by
     rw[wJ,wJ,Bool.and_eq_true,Bool.and_eq_true]at br;exact br.1.2
    rw[cond_true,Bool.true_and];rw[Ao (l:=λm i=>zc e m i) (n:=e.length) (rY e) (some true) (some false)]
    .cases fZ (rY e) e.length<;>rfl
    .intro m;simp only[zc,ON];rw[eb (Nat.le_refl _)];rfl
    .intro i aj m;obtain⟨r,eh,_,dm,_⟩:=SH h hl.2 ax aj;simp only[zc,ON];rw[ey aj,dV _ i aj,eo i _ aj (by omega)];simp only[cond_true,bind_some,eh,dm];cases rY e i<;>rfl
  .intro m;simp only[vC,OO];rw[eb (Nat.le_refl _)];rfl
  .intro i aj m;simp only[vC,OO];rw[ey aj,dV _ i aj];simp only[cond_true,bind_some,Dm,l_];rw[Ao (l:=λjG j=>BB (vC e m) e jG (i:Int) j) (n:=i) (λj=> !(mC e j==mC e i)) (vC e m ((i+1:Nat):Int)) (some false)]
   .have aP:mC e i=e[i].Name:=by unfold mC;rw[wI aj]
    rw[<-aP,wI aj];show cond (!hE (mC e i)) _ (cond (!wH e[i]) _ (cond (tp e i) _ _))=_;cases hE (mC e i)<;>cases wH e[i]<;>cases tp e i<;>rfl
   .intro jG;simp only[BB,OL];rw[eb (Nat.le_refl _),eo i _ aj (by omega)];rfl
   .intro j bF jG;have Ls:j<e.length:=by omega
    simp only[BB,OL];rw[ey bF,dV _ j Ls,dV _ i aj,eo j _ bF (by omega)];simp only[cond_true,bind_some,mC,wI aj,wI Ls];cases e[j].Name==e[i].Name<;>rfl
 .have d1:(((e.length:Int)==0)||decide ((4:Int)<(e.length:Int)))=true:=by
   by_cases a_:e.length=0
   .simp[a_]
   .have:decide ((4:Int)<(e.length:Int))=true:=decide_eq_true (by omega);rw[this,Bool.or_true]
  have d2:(decide (1<=e.length)&&decide (e.length<=4))=false:=by
   rw[Bool.and_eq_false_iff,decide_eq_false_iff_not,decide_eq_false_iff_not];omega
  rw[d1,d2];rfl
theorem at7 (e:ayw) (i:Nat) (aj:i<e.length) (bf:e.length<=4):((gB e 0 (i:Int)).bind λaT=>(JM aT e[i].Name).bind λbp=>some (decide (0<=bp)))=some (!(tp e i)):=by
 rw[wt e i (by omega)];simp only[bind_some];unfold JM Pr;have hlen:(e.take i).length=i:=by rw[length_take];omega
 rw[tf (n:=i) (λj=>mC e j==mC e i)]
 .simp only[bind_some,wz];rfl
 .intro m;simp only[FR,Pq];rw[hlen,eb (Nat.le_refl _)];rfl
 .intro j bF m;have Ls:j<e.length:=by omega
  simp only[FR,Pq];rw[hlen,ey bF,dV _ j (by omega),eo j _ bF (by omega)];have:(e.take i)[j]'(by omega)=e[j]:=by simp
  simp only[cond_true,bind_some,Pp,this,mC,wI aj,wI Ls]
theorem aua (e:ayw) (h:pE e):JU e=some (lU e):=by
 unfold JU k2 lU;have nj:decide ((1:Int)<=(e.length:Int))=decide (1<=e.length):=decide_eq_decide.2 (by omega);have lf:decide ((e.length:Int)<=4)=decide (e.length<=4):=decide_eq_decide.2 (by omega);simp only[bind_some];rw[nj,lf];cases hl:(decide (1<=e.length)&&decide (e.length<=4))
 .rfl
 .have aa_:1<=e.length/\e.length<=4:=by simpa using hl
  rw[as_ e h.1];simp only[Bool.not_true,cond_false,bind_some,Bool.true_and];have aub:fZ (λi=>(hE (mC e i)&&wH (e.getD i ⟨[],0,[]⟩))&&tp e i) e.length=((fZ (λi=>hE (mC e i)) e.length&&Ds e)&&fZ (tp e) e.length):=by
   rw[wJ,wJ];rfl
  rw[aub];cases ax:Ds e
  .simp
  .simp only[Bool.not_true,cond_false,Bool.and_true];rw[Ao (l:=λm i=>Ce e m i) (n:=e.length) (λi=>(hE (mC e i)&&tp e i)&&rY e i) (some true) (some false)]
   .rw[wJ,wJ];cases((fZ (λi=>hE (mC e i)) e.length&&fZ (λi=>tp e i) e.length)&&fZ (λi=>rY e i) e.length)<;>rfl
   .intro m;simp only[Ce,PB];rw[eb (Nat.le_refl _)];rfl
   .intro i aj m;obtain⟨r,_,bc,_,bG,_⟩:=SH h aa_.2 ax aj;have aV:=at7 e i aj aa_.2;have SI:=(h.2 _ (getElem_mem aj)).1;simp only[Ce,PB];rw[ey aj,dV _ i aj,eo i _ aj (by omega)];simp only[cond_true,bind_some,aay _ (show e[i].Name.length<=140737488355328 by omega),mC,wI aj];cases hE e[i].Name
    .rfl
    .simp only[Bool.not_true,cond_false,Bool.true_and];rw[wt e i (by omega)]at aV⊢;simp only[bind_some]at aV⊢;obtain⟨v,aJ,Aq⟩:=al aV;rw[aJ];simp only[some.injEq]at Aq;simp only[bind_some,Aq,bc,bG];cases tp e i<;>cases rY e i<;>rfl
theorem Dy {e:ayw} (h:pE e) (aJ:lU e=true):1<=e.length/\e.length<=4/\∀i (aj:i<e.length),(0<=e[i].dP/\e[i].dP<=3)/\wG e[i].Body=true/\hE e[i].Name=true/\
  ∃r,vB e e[i]=some r/\r.2=0:=by
 unfold lU at aJ;rw[Bool.and_eq_true,Bool.and_eq_true,Bool.and_eq_true,decide_eq_true_eq,decide_eq_true_eq,wJ,wJ,Bool.and_eq_true,Bool.and_eq_true]at aJ;obtain⟨⟨⟨ad,af⟩,⟨aG,bf⟩,bU⟩,dc⟩:=aJ;refine⟨ad,af,λi aj=>?_⟩;obtain⟨r,eh,_,_,_,cn⟩:=SH h af bf aj;obtain⟨s1,s2⟩:=cn (oX.1 dc i aj);have aV:=oX.1 aG i aj;rw[mC,wI aj]at aV;exact⟨aaY bf i aj,s1,aV,r,eh,s2⟩
theorem aba {e:ayw} (h:pE e) (aJ:lU e=true) {i j:Nat} (aj:i<e.length) (bF:j<e[i].Body.length):
  vy e[i] (j:Int)=some (jC e[i] j).scope/\∃ps,Cc e[i]=some ps/\bh ps (j:Int)=some (jC e[i] j):=by
 obtain⟨_,_,an⟩:=Dy h aJ;obtain⟨ax,ab,_⟩:=an i aj;obtain⟨s1,s2,pg⟩:=Ap ab;have aa:=(h.2 _ (getElem_mem aj)).2.1;obtain⟨gU,_,_,_,qX⟩:=Lr e[i] ab ax j bF;exact⟨gU,_,aaN e[i] aa s1 ax.1 (by omega),by unfold bh;rw[if_pos (by omega)];exact qX⟩
end Go.kX
