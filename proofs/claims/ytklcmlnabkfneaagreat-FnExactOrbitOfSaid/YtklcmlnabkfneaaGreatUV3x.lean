/- Part of a proof that a law returns true for every input. No condition. -/
import Derived.Test.YtklcmlnabkfneaaGreatP7
import Derived.Test.YtklcmlnabkfneaaGreatUV2x
import Derived.Test.YtklcmlnabkfneaaGreatUV1x
namespace Go.l3
open List Option Go.IntKind Nat Or
open Go Go.de
set_option linter.unusedSimpArgs false
theorem aih (x:ama) (n:Int) (au:(x.length<=9223372036854775807/\∀y∈x,vq y)) (aX:0<=n) (aS:n<=1048576):yH x n=some (ht n (x.length+0)):=by
 unfold yH;refine mE au.1 aX aS λh=>?_;rw[eN _ (by omega)];exact rB (by omega)
theorem aii (x:alX) (n:Int) (au:(x.length<=9223372036854775807/\∀y∈x,(y.length<=9223372036854775807/\∀z∈y,vq z))) (aX:0<=n) (aS:n<=1048576):BV x n=some (ht n (cu (λx=>x.length+0) x)):=by
 unfold BV;refine mE au.1 aX aS λh=>?_;rw[eN _ (by omega)];exact wW (f:=yH) (λx=>x.length+0) x (λ_ _ _=>rfl) (λy bb n aX aS=>aih y n (au.2 y bb) aX aS) (by omega) _ (by omega) (by omega)
def pv (x:jk):Nat:=(x.Name.length+((cu (λx=>x.length+0) x.cw)+0))
theorem aij (x:jk) (n:Int) (au:yC x) (aX:0<=n) (aS:n<=1048576):yI x n=some (ht n (pv x)):=by
 unfold yI;unfold pv;obtain⟨w0,eC,eY,jj⟩:=au;refine mE eY (by omega) (by omega) λc2=>?_;rw[eN (n-(x.Name.length:Int)) (by omega)];refine qy (aii _ _ jj (by omega) (by omega)) λj5=>?_;exact rB (by omega)
theorem aik (x:amb) (n:Int) (au:(x.length<=9223372036854775807/\∀y∈x,yC y)) (aX:0<=n) (aS:n<=1048576):BW x n=some (ht n (cu pv x)):=by
 unfold BW;refine mE au.1 aX aS λh=>?_;rw[eN _ (by omega)];exact wW (f:=yI) pv x (λ_ _ _=>rfl) (λy bb n aX aS=>aij y n (au.2 y bb) aX aS) (by omega) _ (by omega) (by omega)
def pw (x:jl):Nat:=(x.Name.length+((cu pv x.Body)+0))
theorem ail (x:jl) (n:Int) (au:yD x) (aX:0<=n) (aS:n<=1048576):yJ x n=some (ht n (pw x)):=by
 unfold yJ;unfold pw;obtain⟨w0,eC,eY⟩:=au;refine mE w0 (by omega) (by omega) λni=>?_;rw[eN (n-(x.Name.length:Int)) (by omega)];refine qy (aik _ _ eY (by omega) (by omega)) λc2=>?_;exact rB (by omega)
theorem aim (x:amc) (n:Int) (au:(x.length<=9223372036854775807/\∀y∈x,yD y)) (aX:0<=n) (aS:n<=1048576):BX x n=some (ht n (cu pw x)):=by
 unfold BX;refine mE au.1 aX aS λh=>?_;rw[eN _ (by omega)];exact wW (f:=yJ) pw x (λ_ _ _=>rfl) (λy bb n aX aS=>ail y n (au.2 y bb) aX aS) (by omega) _ (by omega) (by omega)
theorem Rh (x:alQ) (n:Int) (au:(x.length<=9223372036854775807/\∀y∈x,(-9223372036854775808<=y/\y<=9223372036854775807))) (aX:0<=n) (aS:n<=1048576):yK x n=some (ht n (x.length+0)):=by
 unfold yK;refine mE au.1 aX aS λh=>?_;rw[eN _ (by omega)];exact rB (by omega)
def px (x:jm):Nat:=((x.bL.length+0)+0)
theorem ain (x:jm) (n:Int) (au:yE x) (aX:0<=n) (aS:n<=1048576):yL x n=some (ht n (px x)):=by
 unfold yL;unfold px;obtain⟨w0,eC⟩:=au;refine qy (Rh _ _ eC (by omega) (by omega)) λc1=>?_;exact rB (by omega)
theorem aio (x:amd) (n:Int) (au:(x.length<=9223372036854775807/\∀y∈x,yE y)) (aX:0<=n) (aS:n<=1048576):BZ x n=some (ht n (cu px x)):=by
 unfold BZ;refine mE au.1 aX aS λh=>?_;rw[eN _ (by omega)];exact wW (f:=yL) px x (λ_ _ _=>rfl) (λy bb n aX aS=>ain y n (au.2 y bb) aX aS) (by omega) _ (by omega) (by omega)
def py (x:iZ):Nat:=(x.Left.length+(x.b_.length+(x.Result.length+0)))
theorem aip (x:iZ) (n:Int) (au:yF x) (aX:0<=n) (aS:n<=1048576):yM x n=some (ht n (py x)):=by
 unfold yM;unfold py;obtain⟨w0,eC,eY⟩:=au;refine mE w0 (by omega) (by omega) λni=>?_;rw[eN (n-(x.Left.length:Int)) (by omega)];refine mE eC (by omega) (by omega) λc1=>?_;rw[eN ((n-(x.Left.length:Int))-(x.b_.length:Int)) (by omega)];refine mE eY (by omega) (by omega) λc2=>?_;rw[eN (((n-(x.Left.length:Int))-(x.b_.length:Int))-(x.Result.length:Int)) (by omega)];exact rB (by omega)
theorem aiq (x:ame) (n:Int) (au:(x.length<=9223372036854775807/\∀y∈x,yF y)) (aX:0<=n) (aS:n<=1048576):B0 x n=some (ht n (cu py x)):=by
 unfold B0;refine mE au.1 aX aS λh=>?_;rw[eN _ (by omega)];exact wW (f:=yM) py x (λ_ _ _=>rfl) (λy bb n aX aS=>aip y n (au.2 y bb) aX aS) (by omega) _ (by omega) (by omega)
theorem Ri (x:alN) (n:Int) (au:(x.length<=9223372036854775807/\∀y∈x,y.length<=9223372036854775807)) (aX:0<=n) (aS:n<=1048576):yN x n=some (ht n (cu length x)):=by
 unfold yN;refine mE au.1 aX aS λh=>?_;rw[eN _ (by omega)];exact agX x (λ_ _ _=>rfl) au.2 (by omega) _ (by omega) (by omega)
def sS (x:l4):Nat:=((cu pw x.dU)+((cu px x.cU)+((cu py x.gV)+((cu length x.gP)+((cu length x.gQ)+0)))))
theorem air (x:l4) (n:Int) (au:yG x) (aX:0<=n) (aS:n<=1048576):yO x n=some (ht n (sS x)):=by
 unfold yO;unfold sS;obtain⟨w0,eC,eY,jj,Ar⟩:=au;refine qy (aim _ _ w0 (by omega) (by omega)) λni=>?_;refine qy (aio _ _ eC (by omega) (by omega)) λc1=>?_;refine qy (aiq _ _ eY (by omega) (by omega)) λc2=>?_;refine qy (Ri _ _ jj (by omega) (by omega)) λj5=>?_;refine qy (Ri _ _ Ar (by omega) (by omega)) λmJ=>?_;exact rB (by omega)
def nP (x:jn):Nat:=((x.bL.length+0)+0)
theorem ais (x:jn) (n:Int) (au:vr x) (aX:0<=n) (aS:n<=1048576):yP x n=some (ht n (nP x)):=by
 unfold yP;unfold nP;obtain⟨w0,eC,eY⟩:=au;refine qy (Rh _ _ eY (by omega) (by omega)) λc2=>?_;exact rB (by omega)
theorem ait (x:amf) (n:Int) (au:(x.length<=9223372036854775807/\∀y∈x,vr y)) (aX:0<=n) (aS:n<=1048576):B1 x n=some (ht n (cu nP x)):=by
 unfold B1;refine mE au.1 aX aS λh=>?_;rw[eN _ (by omega)];exact wW (f:=yP) nP x (λ_ _ _=>rfl) (λy bb n aX aS=>ais y n (au.2 y bb) aX aS) (by omega) _ (by omega) (by omega)
def w2 (x:hS):ct:=⟨x.Kind,x.Value⟩
theorem aiu (x:hS):yQ x=some (w2 x):=by
 unfold yQ;rfl
theorem aiv (x:ama) (h:(x.length+0)<=1048576):yR x=some (x.map w2):=by
 unfold yR;have hl:x.length<=1048576:=by omega
 rw[qz _ hl (by decide)];simp only[bind_some];rw[rC (f:=yQ) w2 x _ (λ_ _ _=>rfl) (λy bb=>aiu y) hl]
theorem aiw (x:alX) (h:(cu (λx=>x.length+0) x)<=1048576):B2 x=some (x.map (map w2)):=by
 unfold B2;have hl:x.length<=1048576:=Nat.le_trans (hY _ _) h;rw[qz _ hl (by decide)];simp only[bind_some];rw[rC (f:=yR) (map w2) x _ (λ_ _ _=>rfl) (λy bb=>aiv y (Nat.le_trans (kl (f:=(λx=>x.length+0)) bb) h)) hl]
def w3 (x:jk):bT:=⟨x.Kind,x.Number,x.Name,(x.cw.map (map w2))⟩
def kD (x:bT):Nat:=(x.Name.length+((cu (λx=>x.length+0) x.cw)+0))
theorem aix (x:jk):kD (w3 x)=pv x:=by
 simp only[kD,pv,w3,uj,length_map]
theorem aiy (x:jk) (h:(pv x)<=1048576):yS x=some (w3 x):=by
 unfold yS;unfold pv at h;rw[aiw _ (by omega)];rfl
theorem aiz (x:amb) (h:(cu pv x)<=1048576):B3 x=some (x.map w3):=by
 unfold B3;have hl:x.length<=1048576:=Nat.le_trans (hY _ _) h;rw[qz _ hl (by decide)];simp only[bind_some];rw[rC (f:=yS) w3 x _ (λ_ _ _=>rfl) (λy bb=>aiy y (Nat.le_trans (kl (f:=pv) bb) h)) hl]
def w4 (x:jl):bs:=⟨x.Name,x.db,(x.Body.map w3)⟩
def lh (x:bs):Nat:=(x.Name.length+((cu kD x.Body)+0))
theorem aiA (x:jl):lh (w4 x)=pw x:=by
 simp only[lh,pw,w4,uj,length_map,aix]
theorem aiB (x:jl) (h:(pw x)<=1048576):yT x=some (w4 x):=by
 unfold yT;unfold pw at h;rw[aiz _ (by omega)];rfl
theorem aiC (x:amc) (h:(cu pw x)<=1048576):B4 x=some (x.map w4):=by
 unfold B4;have hl:x.length<=1048576:=Nat.le_trans (hY _ _) h;rw[qz _ hl (by decide)];simp only[bind_some];rw[rC (f:=yT) w4 x _ (λ_ _ _=>rfl) (λy bb=>aiB y (Nat.le_trans (kl (f:=pw) bb) h)) hl]
theorem Rj (x:alQ) (h:(x.length+0)<=1048576):yU x=some x:=by
 unfold yU;have hl:x.length<=1048576:=by omega
 rw[qz _ hl (by decide)];simp only[bind_some];rw[rC (f:=some) id x _ (λ_ _ _=>rfl) (λ_ _=>rfl) hl,List.map_id]
def w5 (x:jm):dR:=⟨x.b6,x.bL⟩
def kE (x:dR):Nat:=((x.bL.length+0)+0)
theorem aiD (x:jm):kE (w5 x)=px x:=by
 simp only[kE,px,w5,uj,length_map]
theorem aiE (x:jm) (h:(px x)<=1048576):yV x=some (w5 x):=by
 unfold yV;unfold px at h;rw[Rj _ (by omega)];rfl
theorem aiF (x:amd) (h:(cu px x)<=1048576):B5 x=some (x.map w5):=by
 unfold B5;have hl:x.length<=1048576:=Nat.le_trans (hY _ _) h;rw[qz _ hl (by decide)];simp only[bind_some];rw[rC (f:=yV) w5 x _ (λ_ _ _=>rfl) (λy bb=>aiE y (Nat.le_trans (kl (f:=px) bb) h)) hl]
def w6 (x:iZ):cA:=⟨x.Left,x.b_,x.Result⟩
def kF (x:cA):Nat:=(x.Left.length+(x.b_.length+(x.Result.length+0)))
theorem aiG (x:iZ):kF (w6 x)=py x:=by
 simp only[kF,py,w6,uj,length_map]
theorem aiH (x:iZ) (h:(py x)<=1048576):yW x=some (w6 x):=by
 unfold yW;unfold py at h;rfl
theorem aiI (x:ame) (h:(cu py x)<=1048576):B6 x=some (x.map w6):=by
 unfold B6;have hl:x.length<=1048576:=Nat.le_trans (hY _ _) h;rw[qz _ hl (by decide)];simp only[bind_some];rw[rC (f:=yW) w6 x _ (λ_ _ _=>rfl) (λy bb=>aiH y (Nat.le_trans (kl (f:=py) bb) h)) hl]
theorem Rk (x:alN) (h:(cu length x)<=1048576):yX x=some x:=by
 unfold yX;have hl:x.length<=1048576:=Nat.le_trans (hY _ _) h;rw[qz _ hl (by decide)];simp only[bind_some];rw[rC (f:=some) id x _ (λ_ _ _=>rfl) (λ_ _=>rfl) hl,List.map_id]
def qH (x:l4):e1:=⟨(x.dU.map w4),(x.cU.map w5),(x.gV.map w6),x.gP,x.gQ⟩
def pz (x:e1):Nat:=((cu lh x.dU)+((cu kE x.cU)+((cu kF x.gV)+((cu length x.gP)+((cu length x.gQ)+0)))))
theorem Rl (x:l4):pz (qH x)=sS x:=by
 simp only[pz,sS,qH,uj,length_map,aiA,aiD,aiG]
theorem aiJ (x:l4) (h:(sS x)<=1048576):sr x=some (qH x):=by
 unfold sr;unfold sS at h;rw[aiC _ (by omega),aiF _ (by omega),aiI _ (by omega),Rk _ (by omega),Rk _ (by omega)];rfl
def rL (x:jn):aT:=⟨x.b6,x.Part,x.bL⟩
def gl (x:aT):Nat:=((x.bL.length+0)+0)
theorem aiK (x:jn):gl (rL x)=nP x:=by
 simp only[gl,nP,rL,uj,length_map]
theorem aiL (x:jn) (h:(nP x)<=1048576):yY x=some (rL x):=by
 unfold yY;unfold nP at h;rw[Rj _ (by omega)];rfl
theorem aiM (x:amf) (h:(cu nP x)<=1048576):tK x=some (x.map rL):=by
 unfold tK;have hl:x.length<=1048576:=Nat.le_trans (hY _ _) h;rw[qz _ hl (by decide)];simp only[bind_some];rw[rC (f:=yY) rL x _ (λ_ _ _=>rfl) (λy bb=>aiL y (Nat.le_trans (kl (f:=nP) bb) h)) hl]
theorem Rm (x:alQ) (h:(x.length+0)<=1048576):zF x x=some true:=by
 unfold zF;have hl:x.length<=1048576:=by omega
 rw[qA,cond_false];exact Qt x (λ_ _=>rfl) sN hl
theorem aiN (x:aT) (h:(gl x)<=1048576):zG x x=some true:=by
 unfold zG;unfold gl at h;simp only[sN,sO,uk,cond_false,bind_some,Bool.not_true,Rm x.bL (by omega)]
theorem Rn (x:aml) (h:(cu gl x)<=1048576):wc x x=some true:=by
 unfold wc;have hl:x.length<=1048576:=Nat.le_trans (hY _ _) h;rw[qA,cond_false];exact sM (f:=zG) x (λ_ _=>rfl) (λy bb=>aiN y (Nat.le_trans (kl (f:=gl) bb) h)) hl
theorem aiO (x:alZ) (h:(cu (cu gl) x)<=1048576):we x x=some true:=by
 unfold we;have hl:x.length<=1048576:=Nat.le_trans (hY _ _) h;rw[qA,cond_false];exact sM (f:=wc) x (λ_ _=>rfl) (λy bb=>Rn y (Nat.le_trans (kl (f:=(cu gl)) bb) h)) hl
theorem aiP (x:ct):zH x x=some true:=by
 unfold zH;simp only[sN,sO,uk,cond_false,bind_some,Bool.not_true]
theorem aiQ (x:amg) (h:(x.length+0)<=1048576):zI x x=some true:=by
 unfold zI;have hl:x.length<=1048576:=by omega
 rw[qA,cond_false];exact sM (f:=zH) x (λ_ _=>rfl) (λy bb=>aiP y) hl
theorem aiR (x:alY) (h:(cu (λx=>x.length+0) x)<=1048576):CY x x=some true:=by
 unfold CY;have hl:x.length<=1048576:=Nat.le_trans (hY _ _) h;rw[qA,cond_false];exact sM (f:=zI) x (λ_ _=>rfl) (λy bb=>aiQ y (Nat.le_trans (kl (f:=(λx=>x.length+0)) bb) h)) hl
theorem aiS (x:bT) (h:(kD x)<=1048576):zJ x x=some true:=by
 unfold zJ;unfold kD at h;simp only[sN,sO,uk,cond_false,bind_some,Bool.not_true,aiR x.cw (by omega)]
theorem aiT (x:amh) (h:(cu kD x)<=1048576):CZ x x=some true:=by
 unfold CZ;have hl:x.length<=1048576:=Nat.le_trans (hY _ _) h;rw[qA,cond_false];exact sM (f:=zJ) x (λ_ _=>rfl) (λy bb=>aiS y (Nat.le_trans (kl (f:=kD) bb) h)) hl
theorem aiU (x:bs) (h:(lh x)<=1048576):zK x x=some true:=by
 unfold zK;unfold lh at h;simp only[sN,sO,uk,cond_false,bind_some,Bool.not_true,aiT x.Body (by omega)]
theorem aiV (x:ami) (h:(cu lh x)<=1048576):C0 x x=some true:=by
 unfold C0;have hl:x.length<=1048576:=Nat.le_trans (hY _ _) h;rw[qA,cond_false];exact sM (f:=zK) x (λ_ _=>rfl) (λy bb=>aiU y (Nat.le_trans (kl (f:=lh) bb) h)) hl
theorem aiW (x:dR) (h:(kE x)<=1048576):zL x x=some true:=by
 unfold zL;unfold kE at h;simp only[sN,sO,uk,cond_false,bind_some,Bool.not_true,Rm x.bL (by omega)]
theorem aiX (x:amj) (h:(cu kE x)<=1048576):C1 x x=some true:=by
 unfold C1;have hl:x.length<=1048576:=Nat.le_trans (hY _ _) h;rw[qA,cond_false];exact sM (f:=zL) x (λ_ _=>rfl) (λy bb=>aiW y (Nat.le_trans (kl (f:=kE) bb) h)) hl
theorem aiY (x:cA) (h:(kF x)<=1048576):zM x x=some true:=by
 unfold zM;unfold kF at h;simp only[sN,sO,uk,cond_false,bind_some,Bool.not_true]
theorem aiZ (x:amk) (h:(cu kF x)<=1048576):C2 x x=some true:=by
 unfold C2;have hl:x.length<=1048576:=Nat.le_trans (hY _ _) h;rw[qA,cond_false];exact sM (f:=zM) x (λ_ _=>rfl) (λy bb=>aiY y (Nat.le_trans (kl (f:=kF) bb) h)) hl
theorem Ro (x:alN) (h:(cu length x)<=1048576):zN x x=some true:=by
 unfold zN;have hl:x.length<=1048576:=Nat.le_trans (hY _ _) h;rw[qA,cond_false];exact Qt x (λ_ _=>rfl) sO hl
theorem ai0 (x:e1) (h:(pz x)<=1048576):zO x x=some true:=by
 unfold zO;unfold pz at h;simp only[sN,sO,uk,cond_false,bind_some,Bool.not_true,aiV x.dU (by omega),aiX x.cU (by omega),aiZ x.gV (by omega),Ro x.gP (by omega),Ro x.gQ (by omega)]
theorem w7 (k:Int) (aX:0<=k) (R:k<=1099511627776):∃t,rh k=some t:=by
 have key:∀(n:Nat) (k:Int),0<=k->k<=n->n<=1099511627776->∀t:alO,t.length+n<=1099511627776->∃r,∀m,n<m->tY m k t=some r:=by
  intro n;induction n with
  |zero=>
   intro k ab ae az t a8;refine⟨[109]++t,λm hm=>?_⟩;obtain⟨m,rfl⟩:∃j,m=j+1:=⟨m-1,by omega⟩
   simp only[tY,C3];rw[show decide (0<k)=false by simp;omega,cond_false,show pD (1+t.length)=some () by unfold pD;rw[if_pos (by omega)]];rfl
  |succ n ih=>
   intro k ab ae az t a8;by_cases ax:0<k
   .have ai:Int.tdiv k 10=k/10:=Int.tdiv_eq_ediv_of_nonneg ab;have hw:i64.wrap (Int.tdiv k 10)=k/10:=by rw[ai];exact eN _ (by omega)
    obtain⟨r,aM⟩:=ih (k/10) (by omega) (by omega) (by omega) ([(qJ (i64.wrap (48+(Int.tmod k 10))))]++t) (by simp only[length_append,length_cons,length_nil];omega);refine⟨r,λm hm=>?_⟩;obtain⟨m,rfl⟩:∃j,m=j+1:=⟨m-1,by omega⟩
    simp only[tY,C3];rw[show decide (0<k)=true by simp;omega,cond_true,show pD (1+t.length)=some () by unfold pD;rw[if_pos (by omega)]];simp only[bind_some,hw];exact aM m (by omega)
   .refine⟨[109]++t,λm hm=>?_⟩;obtain⟨m,rfl⟩:∃j,m=j+1:=⟨m-1,by omega⟩
    simp only[tY,C3];rw[show decide (0<k)=false by simp;omega,cond_false,show pD (1+t.length)=some () by unfold pD;rw[if_pos (by omega)]];rfl
 unfold rh;by_cases ax:k<=0
 .exact⟨_,by rw[show decide (k<=0)=true by simpa using ax];rfl⟩
 .obtain⟨r,aM⟩:=key k.toNat k aX (by omega) (by omega) [] (by simp only[length_nil];omega);exact⟨r,by rw[show decide (k<=0)=false by simp;omega,cond_false];exact eP (k.toNat+1) λm hm=>aM m (by omega)⟩
theorem ai1 (x:amg) (k:Int) (aX:0<=k) (R:k+64*(x.length+0)<=1099511627776):∃(cp:amg) (c:Nat),c<=64*(x.length+0)/\C4 x k=some (k+(c:Int),cp):=by
 unfold C4;have e:fB (λ_=>64) x=64*x.length:=Kg 64 x;obtain⟨cp,c,ab,ae⟩:=uA (l:=wg) (λ_=>64) (λm v k=>by simp only[wg,Ih];rw[eJ (Nat.le_refl _)];rfl) (λx k aX R=>by
  have eC:i64.wrap (k+1)=k+1:=eN _ (by omega);have eY:i64.wrap ((k+1)+1)=(k+1)+1:=eN _ (by omega);refine⟨(ct.mk k (k+1)),1+1,by omega,λm d r ai=>?_⟩;simp only[wg,Ih];rw[nN];simp only[cond_true,nM,qG,bind_some,eC,eY];rw[nO ai];rw[show(((k+1)+1):Int)=k+((1+1:Nat):Int) by omega]) x k aX (by omega) (by omega)
 exact⟨cp,c,by omega,ae⟩
theorem ai2 (x:alY) (k:Int) (aX:0<=k) (R:k+64*(cu (λx=>x.length+0) x)<=1099511627776):∃(cp:alY) (c:Nat),c<=64*(cu (λx=>x.length+0) x)/\C5 x k=some (k+(c:Int),cp):=by
 unfold C5;have e:fB (λx=>64*((x.length+0)+1)) x=64*cu (λx=>x.length+0) x:=rK (λx=>x.length+0) x;have hl:x.length<=cu (λx=>x.length+0) x:=hY _ _;obtain⟨cp,c,ab,ae⟩:=uA (l:=wh) (λx=>64*((x.length+0)+1)) (λm v k=>by simp only[wh,Ii];rw[eJ (Nat.le_refl _)];rfl) (λx k aX R=>by
  obtain⟨eo,c1,jO,m1⟩:=ai1 x k (by omega) (by omega);refine⟨eo,c1,by omega,λm d r ai=>?_⟩;simp only[wh,Ii];rw[nN];simp only[cond_true,nM,qG,bind_some,m1];rw[nO ai]) x k aX (by omega) (by omega)
 exact⟨cp,c,by omega,ae⟩
theorem ai3 (x:amh) (k:Int) (aX:0<=k) (R:k+64*(cu kD x)<=1099511627776):∃(cp:amh) (c:Nat),c<=64*(cu kD x)/\C6 x k=some (k+(c:Int),cp):=by
 unfold C6;have e:fB (λx=>64*((kD x)+1)) x=64*cu kD x:=rK kD x;have hl:x.length<=cu kD x:=hY _ _;obtain⟨cp,c,ab,ae⟩:=uA (l:=wi) (λx=>64*((kD x)+1)) (λm v k=>by simp only[wi,Ij];rw[eJ (Nat.le_refl _)];rfl) (λx k aX R=>by
  simp only[kD]at R⊢;have eC:i64.wrap (k+1)=k+1:=eN _ (by omega);have eY:i64.wrap ((k+1)+1)=(k+1)+1:=eN _ (by omega);obtain⟨n8,t3⟩:=w7 ((k+1)+1) (by omega) (by omega);have jj:i64.wrap (((k+1)+1)+1)=((k+1)+1)+1:=eN _ (by omega);obtain⟨po,mJ,bG,m4⟩:=ai2 x.cw (((k+1)+1)+1) (by omega) (by omega);refine⟨(bT.mk k (k+1) n8 po),1+1+1+mJ,by omega,λm d r ai=>?_⟩;simp only[wi,Ij];rw[nN];simp only[cond_true,nM,qG,bind_some,eC,eY,t3,jj,m4];rw[nO ai];rw[show(((((k+1)+1)+1)+(mJ:Int)):Int)=k+((1+1+1+mJ:Nat):Int) by omega]) x k aX (by omega) (by omega)
 exact⟨cp,c,by omega,ae⟩
theorem ai4 (x:ami) (k:Int) (aX:0<=k) (R:k+64*(cu lh x)<=1099511627776):∃(cp:ami) (c:Nat),c<=64*(cu lh x)/\C7 x k=some (k+(c:Int),cp):=by
 unfold C7;have e:fB (λx=>64*((lh x)+1)) x=64*cu lh x:=rK lh x;have hl:x.length<=cu lh x:=hY _ _;obtain⟨cp,c,ab,ae⟩:=uA (l:=wj) (λx=>64*((lh x)+1)) (λm v k=>by simp only[wj,Ik];rw[eJ (Nat.le_refl _)];rfl) (λx k aX R=>by
  simp only[lh]at R⊢;obtain⟨s1,t1⟩:=w7 k (by omega) (by omega);have eC:i64.wrap (k+1)=k+1:=eN _ (by omega);have eY:i64.wrap ((k+1)+1)=(k+1)+1:=eN _ (by omega);obtain⟨kx,j5,jQ,m3⟩:=ai3 x.Body ((k+1)+1) (by omega) (by omega);refine⟨(bs.mk s1 (k+1) kx),1+1+j5,by omega,λm d r ai=>?_⟩;simp only[wj,Ik];rw[nN];simp only[cond_true,nM,qG,bind_some,t1,eC,eY,m3];rw[nO ai];rw[show((((k+1)+1)+(j5:Int)):Int)=k+((1+1+j5:Nat):Int) by omega]) x k aX (by omega) (by omega)
 exact⟨cp,c,by omega,ae⟩
theorem Rp (x:alQ) (k:Int) (aX:0<=k) (R:k+64*(x.length+0)<=1099511627776):∃(cp:alQ) (c:Nat),c<=64*(x.length+0)/\zP x k=some (k+(c:Int),cp)/\Db cp k=some (k+(c:Int)):=by
 unfold zP Db;have e:fB (λ_=>64) x=64*x.length:=Kg 64 x;obtain⟨cp,c,ab,ae,az⟩:=Kh (l:=wk) (hl:=wx) (λ_=>64) (λm v k=>by simp only[wk,Il];rw[eJ (Nat.le_refl _)];rfl) (λa m k=>by simp only[wx,Is];rw[eJ (Nat.le_refl _)];rfl) (λx k aX R=>by
  have eC:i64.wrap (k+1)=k+1:=eN _ (by omega);refine⟨k,1,by omega,λm d r ai=>⟨?_,?_⟩⟩
  .simp only[wk,Il];rw[nN];simp only[cond_true,nM,qG,bind_some,eC];rw[nO ai];rw[show((k+1):Int)=k+((1:Nat):Int) by omega]
  .simp only[wx,Is];rw[nN];simp only[cond_true,cond_false,nM,bind_some,bne_self_eq_false,beq_self_eq_true,Bool.not_true,eC];rw[nO ai];rw[show((k+1):Int)=k+((1:Nat):Int) by omega]) x k aX (by omega) (by omega)
 exact⟨cp,c,by omega,ae,az⟩
theorem ai5 (x:amj) (k:Int) (aX:0<=k) (R:k+64*(cu kE x)<=1099511627776):∃(cp:amj) (c:Nat),c<=64*(cu kE x)/\C8 x k=some (k+(c:Int),cp):=by
 unfold C8;have e:fB (λx=>64*((kE x)+1)) x=64*cu kE x:=rK kE x;have hl:x.length<=cu kE x:=hY _ _;obtain⟨cp,c,ab,ae⟩:=uA (l:=wm) (λx=>64*((kE x)+1)) (λm v k=>by simp only[wm,Im];rw[eJ (Nat.le_refl _)];rfl) (λx k aX R=>by
  simp only[kE]at R⊢;have eC:i64.wrap (k+1)=k+1:=eN _ (by omega);obtain⟨gu,c2,hz,m2⟩:=Rp x.bL (k+1) (by omega) (by omega);refine⟨(dR.mk k gu),1+c2,by omega,λm d r ai=>?_⟩;simp only[wm,Im];rw[nN];simp only[cond_true,nM,qG,bind_some,eC,m2];rw[nO ai];rw[show(((k+1)+(c2:Int)):Int)=k+((1+c2:Nat):Int) by omega]) x k aX (by omega) (by omega)
 exact⟨cp,c,by omega,ae⟩
theorem ai6 (x:amk) (k:Int) (aX:0<=k) (R:k+64*(cu kF x)<=1099511627776):∃(cp:amk) (c:Nat),c<=64*(cu kF x)/\C9 x k=some (k+(c:Int),cp):=by
 unfold C9;have e:fB (λx=>64*((kF x)+1)) x=64*cu kF x:=rK kF x;have hl:x.length<=cu kF x:=hY _ _;obtain⟨cp,c,ab,ae⟩:=uA (l:=wo) (λx=>64*((kF x)+1)) (λm v k=>by simp only[wo,Io];rw[eJ (Nat.le_refl _)];rfl) (λx k aX R=>by
  simp only[kF]at R⊢;obtain⟨s1,t1⟩:=w7 k (by omega) (by omega);have eC:i64.wrap (k+1)=k+1:=eN _ (by omega);obtain⟨s2,t2⟩:=w7 (k+1) (by omega) (by omega);have eY:i64.wrap ((k+1)+1)=(k+1)+1:=eN _ (by omega);obtain⟨n8,t3⟩:=w7 ((k+1)+1) (by omega) (by omega);have jj:i64.wrap (((k+1)+1)+1)=((k+1)+1)+1:=eN _ (by omega);refine⟨(cA.mk s1 s2 n8),1+1+1,by omega,λm d r ai=>?_⟩;simp only[wo,Io];rw[nN];simp only[cond_true,nM,qG,bind_some,t1,eC,t2,eY,t3,jj];rw[nO ai];rw[show((((k+1)+1)+1):Int)=k+((1+1+1:Nat):Int) by omega]) x k aX (by omega) (by omega)
 exact⟨cp,c,by omega,ae⟩
theorem Rq (x:alN) (k:Int) (aX:0<=k) (R:k+64*(cu length x)<=1099511627776):∃(cp:alN) (c:Nat),c<=64*(cu length x)/\zQ x k=some (k+(c:Int),cp):=by
 unfold zQ;have e:fB (λx=>64*(x.length+1)) x=64*cu length x:=rK length x;have hl:x.length<=cu length x:=hY _ _;obtain⟨cp,c,ab,ae⟩:=uA (l:=wq) (λx=>64*(x.length+1)) (λm v k=>by simp only[wq,Ip];rw[eJ (Nat.le_refl _)];rfl) (λx k aX R=>by
  obtain⟨s1,t1⟩:=w7 k (by omega) (by omega);have eC:i64.wrap (k+1)=k+1:=eN _ (by omega);refine⟨s1,1,by omega,λm d r ai=>?_⟩;simp only[wq,Ip];rw[nN];simp only[cond_true,nM,qG,bind_some,t1,eC];rw[nO ai];rw[show((k+1):Int)=k+((1:Nat):Int) by omega]) x k aX (by omega) (by omega)
 exact⟨cp,c,by omega,ae⟩
theorem ai7 (x:e1) (k:Int) (aX:0<=k) (R:k+64*((pz x)+1)<=1099511627776):∃(fg:ami) (eo:amj) (gu:amk) (kx:alN) (po:alN) (c:Nat),c<=64*((pz x)+1)/\C_ x.dU x.cU x.gV x.gP x.gQ k=some (k+(c:Int),fg,eo,gu,kx,po):=by
 unfold C_;simp only[pz]at R⊢;obtain⟨eo,c1,jO,m1⟩:=ai4 x.dU k (by omega) (by omega);obtain⟨gu,c2,hz,m2⟩:=ai5 x.cU (k+(c1:Int)) (by omega) (by omega);obtain⟨kx,j5,jQ,m3⟩:=ai6 x.gV ((k+(c1:Int))+(c2:Int)) (by omega) (by omega);obtain⟨po,mJ,bG,m4⟩:=Rq x.gP (((k+(c1:Int))+(c2:Int))+(j5:Int)) (by omega) (by omega);obtain⟨ai8,tn,cI,m5⟩:=Rq x.gQ ((((k+(c1:Int))+(c2:Int))+(j5:Int))+(mJ:Int)) (by omega) (by omega);refine⟨eo,gu,kx,po,ai8,c1+c2+j5+mJ+tn,by omega,?_⟩;simp only[bind_some,m1,m2,m3,m4,m5];rw[show(k+((c1+c2+j5+mJ+tn:Nat):Int))=(((((k+(c1:Int))+(c2:Int))+(j5:Int))+(mJ:Int))+(tn:Int)) by omega]
theorem Rr (x:aml) (k:Int) (aX:0<=k) (R:k+64*(cu gl x)<=1099511627776):∃(cp:aml) (c:Nat),c<=64*(cu gl x)/\zR x k=some (k+(c:Int),cp)/\Dc cp k=some (k+(c:Int)):=by
 unfold zR Dc;have e:fB (λx=>64*((gl x)+1)) x=64*cu gl x:=rK gl x;have hl:x.length<=cu gl x:=hY _ _;obtain⟨cp,c,ab,ae,az⟩:=Kh (l:=wu) (hl:=wy) (λx=>64*((gl x)+1)) (λm v k=>by simp only[wu,Iq];rw[eJ (Nat.le_refl _)];rfl) (λa m k=>by simp only[wy,It];rw[eJ (Nat.le_refl _)];rfl) (λx k aX R=>by
  simp only[gl]at R⊢;have eC:i64.wrap (k+1)=k+1:=eN _ (by omega);have eY:i64.wrap ((k+1)+1)=(k+1)+1:=eN _ (by omega);obtain⟨kx,j5,jQ,m3,iH⟩:=Rp x.bL ((k+1)+1) (by omega) (by omega);have ff:=D3 (k:=(((k+1)+1)+(j5:Int))) (by omega);refine⟨(aT.mk k (k+1) kx),1+1+j5,by omega,λm d r ai=>⟨?_,?_⟩⟩
  .simp only[wu,Iq];rw[nN];simp only[cond_true,nM,qG,bind_some,eC,eY,m3];rw[nO ai];rw[show((((k+1)+1)+(j5:Int)):Int)=k+((1+1+j5:Nat):Int) by omega]
  .simp only[wy,It];rw[nN];simp only[cond_true,cond_false,nM,bind_some,bne_self_eq_false,beq_self_eq_true,Bool.not_true,iH,ff,eC,eY];rw[nO ai];rw[show((((k+1)+1)+(j5:Int)):Int)=k+((1+1+j5:Nat):Int) by omega]) x k aX (by omega) (by omega)
 exact⟨cp,c,by omega,ae,az⟩
theorem ai9 (x:alZ) (k:Int) (aX:0<=k) (R:k+64*(cu (cu gl) x)<=1099511627776):∃(cp:alZ) (c:Nat),c<=64*(cu (cu gl) x)/\Da x k=some (k+(c:Int),cp)/\zS cp k=some (k+(c:Int)):=by
 unfold Da zS;have e:fB (λx=>64*((cu gl x)+1)) x=64*cu (cu gl) x:=rK (cu gl) x;have hl:x.length<=cu (cu gl) x:=hY _ _;obtain⟨cp,c,ab,ae,az⟩:=Kh (l:=wv) (hl:=wz) (λx=>64*((cu gl x)+1)) (λm v k=>by simp only[wv,Ir];rw[eJ (Nat.le_refl _)];rfl) (λa m k=>by simp only[wz,Iu];rw[eJ (Nat.le_refl _)];rfl) (λx k aX R=>by
  obtain⟨eo,c1,jO,m1,gE⟩:=Rr x k (by omega) (by omega);have mR:=D3 (k:=(k+(c1:Int))) (by omega);refine⟨eo,c1,by omega,λm d r ai=>⟨?_,?_⟩⟩
  .simp only[wv,Ir];rw[nN];simp only[cond_true,nM,qG,bind_some,m1];rw[nO ai]
  .simp only[wz,Iu];rw[nN];simp only[cond_true,cond_false,nM,bind_some,bne_self_eq_false,beq_self_eq_true,Bool.not_true,gE,mR];rw[nO ai]) x k aX (by omega) (by omega)
 exact⟨cp,c,by omega,ae,az⟩
theorem ai_ {list:ami} (h:cu lh list<=1048576):ow list:=by
 refine⟨Nat.le_trans (hY _ _) h,λd ai=>?_⟩;have ab:=Nat.le_trans (kl (f:=lh) ai) h;unfold lh at ab;refine⟨by omega,Nat.le_trans (hY kD _) (by omega),λp aq=>?_⟩;have aX:kD p<=cu kD d.Body:=kl aq;have ae:kD p<=1048576:=by omega
 clear aX;unfold kD at ae;have az:=hY (λx:List ct=>x.length+0) p.cw;refine⟨by omega,by omega,λe he=>?_⟩;have a6:e.length+0<=_:=kl (f:=λx:List ct=>x.length+0) he;omega
def kn (e:ami) (i:Nat):alO:=(e.getD i ⟨[],0,[]⟩).Name
theorem rM {e:ami} {i:Nat} (ao:i<e.length):e.getD i ⟨[],0,[]⟩=e[i]:=by simp[List.getD,ao]
def pA (e:ami) (i:Nat):Bool:=fv (λj=> !(kn e j==kn e i)) i
noncomputable def ox (e:ami) (i:Nat):Bool:=match tQ e (e.getD i ⟨[],0,[]⟩)with
 |some r=>r.2==0
 |none=>false
noncomputable def lj (e:ami):Bool:=((decide (1<=e.length)&&decide (e.length<=4))&&fv (λi=>(kC (kn e i)&&rJ (e.getD i ⟨[],0,[]⟩))&&pA e i) e.length)&&fv (ox e) e.length
theorem Ki {e:ami} (h:ow e) (a6:e.length<=4) (aq:w1 e=true) {i:Nat} (ao:i<e.length):
  ∃r,tQ e e[i]=some r/\zo e e[i]=some r/\decide (0<r.2)= !(ox e i)/\(r.2 !=0)= !(ox e i)/\(ox e i=true->rI e[i].Body=true/\r.2=0):=by
 obtain⟨r,di,aZ,cZ,bU⟩:=aie e a6 e[i] (h.2 _ (getElem_mem ao)) (Rf aq i ao);have R:ox e i=(r.2==0):=by unfold ox;rw[rM ao,di]
 refine⟨r,di,aZ,?_,?_,λlo=>?_⟩
 .rw[R];by_cases aX:r.2=0
  .rw[aX];rfl
  .have aR:(r.2==0)=false:=by simpa using aX
   rw[aR];exact decide_eq_true (by omega)
 .rw[R];rfl
 .rw[R]at lo;have aX:r.2=0:=by simpa using lo
  exact⟨bU aX,aX⟩
theorem rN {p q:Nat->Bool} {n:Nat}:fv (λi=>p i&&q i) n=(fv p n&&fv q n):=by
 rw[Bool.eq_iff_iff,Bool.and_eq_true,rD,rD,rD];constructor
 .intro h;exact⟨λi ao=>((Bool.and_eq_true _ _).mp (h i ao)).1,λi ao=>((Bool.and_eq_true _ _).mp (h i ao)).2⟩
 .rintro⟨ab,ae⟩ i ao;rw[ab i ao,ae i ao];rfl
theorem aja (e:ami) (h:ow e):Cd e=some (lj e):=by
 unfold Cd lj;by_cases hl:1<=e.length/\e.length<=4
 .have d1:(((e.length:Int)==0)||decide ((4:Int)<(e.length:Int)))=false:=by
   rw[Bool.or_eq_false_iff,beq_eq_false_iff_ne,decide_eq_false_iff_not];omega
  have d2:(decide (1<=e.length)&&decide (e.length<=4))=true:=by simp;omega
  rw[d1,d2,cond_false,Bool.true_and];rw[uz (l:=λm i=>q9 e m i) (n:=e.length) (λi=>(kC (kn e i)&&rJ (e.getD i ⟨[],0,[]⟩))&&pA e i) (lim λn=>tR e n 0) (some false)]
  .cases cg:fv (λi=>(kC (kn e i)&&rJ (e.getD i ⟨[],0,[]⟩))&&pA e i) e.length
   .rfl
   .have aq:w1 e=true:=by
     rw[rN,rN,Bool.and_eq_true,Bool.and_eq_true]at cg;exact cg.1.2
    rw[cond_true,Bool.true_and];rw[uz (l:=λm i=>tR e m i) (n:=e.length) (ox e) (some true) (some false)]
    .cases fv (ox e) e.length<;>rfl
    .intro m;simp only[tR,G6];rw[eJ (Nat.le_refl _)];rfl
    .intro i ao m;obtain⟨r,di,_,cZ,_⟩:=Ki h hl.2 aq ao;simp only[tR,G6];rw[fA ao,e9 _ i ao,fu i _ ao (by omega)];simp only[cond_true,bind_some,di,cZ];cases ox e i<;>rfl
  .intro m;simp only[q9,G7];rw[eJ (Nat.le_refl _)];rfl
  .intro i ao m;simp only[q9,G7];rw[fA ao,e9 _ i ao];simp only[cond_true,bind_some,J7,kX];rw[uz (l:=λh8 j=>vA (q9 e m) e h8 (i:Int) j) (n:=i) (λj=> !(kn e j==kn e i)) (q9 e m ((i+1:Nat):Int)) (some false)]
   .have aR:kn e i=e[i].Name:=by unfold kn;rw[rM ao]
    rw[<-aR,rM ao];show cond (!kC (kn e i)) _ (cond (!rJ e[i]) _ (cond (pA e i) _ _))=_;cases kC (kn e i)<;>cases rJ e[i]<;>cases pA e i<;>rfl
   .intro h8;simp only[vA,G4];rw[eJ (Nat.le_refl _),fu i _ ao (by omega)];rfl
   .intro j bm h8;have D4:j<e.length:=by omega
    simp only[vA,G4];rw[fA bm,e9 _ j D4,e9 _ i ao,fu j _ bm (by omega)];simp only[cond_true,bind_some,kn,rM ao,rM D4];cases e[j].Name==e[i].Name<;>rfl
 .have d1:(((e.length:Int)==0)||decide ((4:Int)<(e.length:Int)))=true:=by
   by_cases aX:e.length=0
   .simp[aX]
   .have:decide ((4:Int)<(e.length:Int))=true:=decide_eq_true (by omega);rw[this,Bool.or_true]
  have d2:(decide (1<=e.length)&&decide (e.length<=4))=false:=by
   rw[Bool.and_eq_false_iff,decide_eq_false_iff_not,decide_eq_false_iff_not];omega
  rw[d1,d2];rfl
theorem ajb (e:ami) (i:Nat) (ao:i<e.length) (a6:e.length<=4):((lk e 0 (i:Int)).bind λa7=>(Cw a7 e[i].Name).bind λbM=>some (decide (0<=bM)))=some (!(pA e i)):=by
 rw[Qo e i (by omega)];simp only[bind_some];unfold Cw Hs;have hlen:(e.take i).length=i:=by rw[length_take];omega
 rw[uo (n:=i) (λj=>kn e j==kn e i)]
 .simp only[bind_some,um];rfl
 .intro m;simp only[zf,Hr];rw[hlen,eJ (Nat.le_refl _)];rfl
 .intro j bm m;have D4:j<e.length:=by omega
  simp only[zf,Hr];rw[hlen,fA bm,e9 _ j (by omega),fu j _ bm (by omega)];have:(e.take i)[j]'(by omega)=e[j]:=by simp
  simp only[cond_true,bind_some,Hq,this,kn,rM ao,rM D4]
theorem ajc (e:ami) (h:ow e):CE e=some (lj e):=by
 unfold CE jB lj;have nr:decide ((1:Int)<=(e.length:Int))=decide (1<=e.length):=decide_eq_decide.2 (by omega);have mI:decide ((e.length:Int)<=4)=decide (e.length<=4):=decide_eq_decide.2 (by omega);simp only[bind_some];rw[nr,mI];cases hl:(decide (1<=e.length)&&decide (e.length<=4))
 .rfl
 .have Rs:1<=e.length/\e.length<=4:=by simpa using hl
  rw[aif e h.1];simp only[Bool.not_true,cond_false,bind_some,Bool.true_and];have ajd:fv (λi=>(kC (kn e i)&&rJ (e.getD i ⟨[],0,[]⟩))&&pA e i) e.length=((fv (λi=>kC (kn e i)) e.length&&w1 e)&&fv (pA e) e.length):=by
   rw[rN,rN];rfl
  rw[ajd];cases aq:w1 e
  .simp
  .simp only[Bool.not_true,cond_false,Bool.and_true];rw[uz (l:=λm i=>vP e m i) (n:=e.length) (λi=>(kC (kn e i)&&pA e i)&&ox e i) (some true) (some false)]
   .rw[rN,rN];cases((fv (λi=>kC (kn e i)) e.length&&fv (λi=>pA e i) e.length)&&fv (λi=>ox e i) e.length)<;>rfl
   .intro m;simp only[vP,HD];rw[eJ (Nat.le_refl _)];rfl
   .intro i ao m;obtain⟨r,_,aZ,_,bU,_⟩:=Ki h Rs.2 aq ao;have aS:=ajb e i ao Rs.2;have rl:=(h.2 _ (getElem_mem ao)).1;simp only[vP,HD];rw[fA ao,e9 _ i ao,fu i _ ao (by omega)];simp only[cond_true,bind_some,QU _ (show e[i].Name.length<=140737488355328 by omega),kn,rM ao];cases kC e[i].Name
    .rfl
    .simp only[Bool.not_true,cond_false,Bool.true_and];rw[Qo e i (by omega)]at aS⊢;simp only[bind_some]at aS⊢;obtain⟨v,aJ,D2⟩:=aA aS;rw[aJ];simp only[some.injEq]at D2;simp only[bind_some,D2,aZ,bU];cases pA e i<;>cases ox e i<;>rfl
theorem Rt {e:ami} (h:ow e) (aJ:lj e=true):1<=e.length/\e.length<=4/\∀i (ao:i<e.length),(0<=e[i].db/\e[i].db<=3)/\rI e[i].Body=true/\kC e[i].Name=true/\
  ∃r,tQ e e[i]=some r/\r.2=0:=by
 unfold lj at aJ;rw[Bool.and_eq_true,Bool.and_eq_true,Bool.and_eq_true,decide_eq_true_eq,decide_eq_true_eq,rN,rN,Bool.and_eq_true,Bool.and_eq_true]at aJ;obtain⟨⟨⟨ab,ae⟩,⟨az,a6⟩,bF⟩,cP⟩:=aJ;refine⟨ab,ae,λi ao=>?_⟩;obtain⟨r,di,_,_,_,b9⟩:=Ki h ae a6 ao;obtain⟨s1,s2⟩:=b9 (rD.1 cP i ao);have aS:=rD.1 az i ao;rw[kn,rM ao]at aS;exact⟨Rf a6 i ao,s1,aS,r,di,s2⟩
def D5 (a:alQ):Bool:=fv (λi=>rF (a.getD i 0) 0 63) a.length
theorem Ru (a:alQ) (h:a.length<=1048576):y9 a=some (D5 a):=by
 unfold y9;refine Aw (l:=λm i=>vB a m i) _ (λm=>?_) (λi ao m=>?_)
 .simp only[vB,G8];rw[eJ (Nat.le_refl _)];rfl
 .simp only[vB,G8,kX];rw[fA ao,lO _ i 0 ao,fu i _ ao (by omega)];simp only[cond_true,bind_some];show cond (!rF (a.getD i 0) 0 63) _ _=_;cases rF (a.getD i 0) 0 63<;>rfl
theorem Rv (a:alQ) (h:a.length<=1048576):zq a=some (D5 a):=by
 unfold zq HH HG;rw[uo (n:=a.length) (λi=> !rF (a.getD i 0) 0 63)]
 .simp only[bind_some,um,Bool.not_not];rfl
 .intro m;simp only[zp,HF];rw[eJ (Nat.le_refl _)];rfl
 .intro i ao m;simp only[zp,HF];rw[fA ao,lO _ i 0 ao,fu i _ ao (by omega)];simp only[cond_true,bind_some,HE,zi,jB];rfl
set_option linter.unusedSimpArgs false
def jb (s:alO):Bool:=kC s&& !(s==([116,97,117]:alO))
theorem Rw (s:alO):tS s=some (jb s):=by unfold tS;rw[J7];rfl
theorem D6 (s:alO) (ad:s.length<=1048576):rb s=some (jb s):=Rb s ad
theorem aje {β:Type} {l:Nat->Int->Option β} {n:Nat} (p:Nat->Bool) (pt bad:Option β) (aX:∀m,l (m+1) (n:Int)=pt)
  (ad:∀i,i<n->∀m,l (m+1) (i:Int)=cond (p i) (l m ((i+1:Nat):Int)) bad) (i0:Nat) (ao:i0<=n):lim (λm=>l m (i0:Int))=cond ((range' i0 (n-i0)).all p) pt bad:=by
 refine eP (n+1) λm hm=>?_;refine up (λi=>cond ((range' i (n-i)).all p) pt bad) (λm=>?_) (λi ao m ih=>?_) i0 ao m (by omega)
 .rw[aX];simp
 .rw[ad i ao,ih,show n-i=(n-(i+1))+1 by omega,range'_succ];cases aq:p i<;>simp[aq]
def ng (a:alN) (i:Nat):Bool:=decide (i=0)||Op.bytesLess (a.getD (i-1) []) (a.getD i [])
def qI (a:alN):Bool:=decide (a.length<=12)&&(fv (λi=>jb (a.getD i [])) a.length&&fv (ng a) a.length)
theorem Rx (a:alN) (h:a.length<=1048576):y_ a=some (qI a):=by
 unfold y_ qI;by_cases hl:12<a.length
 .have d1:decide ((12:Int)<(a.length:Int))=true:=decide_eq_true (by omega);have d2:decide (a.length<=12)=false:=decide_eq_false (by omega);rw[d1,d2];rfl
 .have d1:decide ((12:Int)<(a.length:Int))=false:=decide_eq_false (by omega);have d2:decide (a.length<=12)=true:=decide_eq_true (by omega);have Kd:Cg a=some (fv (λi=>jb (a.getD i [])) a.length):=by
   unfold Cg;refine Aw (l:=λm i=>vD a m i) _ (λm=>?_) (λi ao m=>?_)
   .simp only[vD,Hb];rw[eJ (Nat.le_refl _)];rfl
   .simp only[vD,Hb];rw[fA ao,lO _ i [] ao,fu i _ ao (by omega)];simp only[cond_true,bind_some,Rw];cases jb (a.getD i [])<;>rfl
  rw[d1,d2,Kd];simp only[cond_false,bind_some,Bool.true_and];cases fv (λi=>jb (a.getD i [])) a.length
  .rfl
  .simp only[Bool.not_true,cond_false,Bool.true_and];by_cases aX:a.length=0
   .rw[eP (x:=some true) 1 (λm hm=>by
     obtain⟨k,rfl⟩:∃k,m=k+1:=⟨m-1,by omega⟩
     simp only[oh,Ch];rw[aX];rfl)]
    rw[aX];rfl
   .have key:=aje (l:=λm i=>oh a m i) (n:=a.length) (λi=>decide (i=0)||Op.bytesLess (a.getD (i-1) []) (a.getD i [])) (some true) (some false);have bZ:oh a=oh a:=rfl;have:∀i,1<=i->i<=a.length->∀m,a.length-i<m->oh a m (i:Int)=cond ((range' i (a.length-i)).all (ng a)) (some true) (some false):=by
     intro i ab ae;refine down a.length (P:=λi=>1<=i->∀m,a.length-i<m->oh a m (i:Int)=cond ((range' i (a.length-i)).all (ng a)) (some true) (some false)) ?_ ?_ i ae ab
     .intro _ m hm;obtain⟨k,rfl⟩:∃k,m=k+1:=⟨m-1,by omega⟩
      simp only[oh,Ch];rw[eJ (Nat.le_refl _)];simp
     .intro i ao ih ab m hm;obtain⟨k,rfl⟩:∃k,m=k+1:=⟨m-1,by omega⟩
      simp only[oh,Ch];rw[fA ao,Ax i (by omega) (by omega),lO _ (i-1) [] (by omega),lO _ i [] ao,fu i _ ao (by omega),ih (by omega) k (by omega),show a.length-i=(a.length-(i+1))+1 by omega,range'_succ];have aM:ng a i=Op.bytesLess (a.getD (i-1) []) (a.getD i []):=by
       unfold ng;have:decide (i=0)=false:=decide_eq_false (by omega);rw[this,Bool.false_or]
      simp only[cond_true,bind_some,all_cons,aM];cases Op.bytesLess (a.getD (i-1) []) (a.getD i [])<;>rfl
    have Kj:=eP (f:=λm=>oh a m 1) (a.length+1) (λm hm=>this 1 (by omega) (by omega) m (by omega));rw[Kj];have e:fv (ng a) a.length=(range' 1 (a.length-1)).all (ng a):=by
     unfold fv;rw[range_eq_range',show a.length=(a.length-1)+1 by omega,range'_succ];simp[ng]
    rw[e];cases(range' 1 (a.length-1)).all (ng a)<;>rfl
theorem ajf {p q:Nat->Bool} {n:Nat}:(fv p n&&fv q n)=fv (λi=>p i&&q i) n:=rN.symm
theorem Ry (a:alN) (h:a.length<=1048576) (ad:∀s∈a,s.length<=1048576):zu a=some (qI a):=by
 unfold zu qI;rw[ajf];rw[uz (l:=λm i=>vR a m i) (n:=a.length) (λi=>jb (a.getD i [])&&ng a i) (some (decide ((a.length:Int)<=12))) (some false)]
 .have e:decide ((a.length:Int)<=12)=decide (a.length<=12):=decide_eq_decide.2 (by omega);rw[e];cases fv (λi=>jb (a.getD i [])&&ng a i) a.length<;>cases decide (a.length<=12)<;>rfl
 .intro m;simp only[vR,HP];rw[eJ (Nat.le_refl _)];rfl
 .intro i ao m;simp only[vR,HP];have hm:(a.getD i []).length<=1048576:=by
   have:a.getD i []=a[i]:=by simp[List.getD,ao]
   rw[this];exact ad _ (getElem_mem ao)
  rw[fA ao,lO _ i [] ao,fu i _ ao (by omega)];simp only[cond_true,bind_some,D6 _ hm];by_cases aX:i=0
  .subst aX;rw[uq];simp only[cond_false,ng,decide_true,Bool.true_or,Bool.and_true];cases jb (a.getD 0 [])<;>rfl
  .rw[JU aX,Ax i (by omega) (by omega),lO _ (i-1) [] (by omega)];have aM:ng a i=Op.bytesLess (a.getD (i-1) []) (a.getD i []):=by
    unfold ng;have:decide (i=0)=false:=decide_eq_false aX;rw[this,Bool.false_or]
   have a8:=QQ (a.getD (i-1) []) (a.getD i []);simp only[cond_true,bind_some,aM,<-a8];cases jb (a.getD i [])<;>cases Op.bytesLess (a.getD (i-1) []) (a.getD i [])<;>rfl
end Go.l3
