/- Part of a proof that a law returns true for every input. No condition. -/
import Derived.Test.YtlkabaochkgkdaaGreatDoorP3
import Derived.Test.YtlkabaochkgkdaaGreatDoorUN
namespace Go.eU
open Go Go.c_
set_option linter.unusedSimpArgs false
theorem aEb (x:List hL) (n:Int) (aw:(x.length<=9223372036854775807/\∀y∈x,xx y)) (ba:0<=n) (a7:n<=1048576):zQ x n=some (ig n (x.length+0)):=by
 unfold zQ;refine mT aw.1 ba a7 λh=>?_;rw[eC _ (by omega)];exact sc (by omega)
theorem aEc (x:List (List hL)) (n:Int) (aw:(x.length<=9223372036854775807/\∀y∈x,(y.length<=9223372036854775807/\∀z∈y,xx z))) (ba:0<=n) (a7:n<=1048576):C2 x n=some (ig n (dO (λx=>x.length+0) x)):=by
 unfold C2;refine mT aw.1 ba a7 λh=>?_;rw[eC _ (by omega)];exact yl (f:=zQ) (λx=>x.length+0) x (λ_ _ _=>rfl) (λy hy n ba a7=>aEb y n (aw.2 y hy) ba a7) (by omega) _ (by omega) (by omega)
def qn (x:jf):Nat:=(x.Name.length+((dO (λx=>x.length+0) x.cN)+0))
theorem aEd (x:jf) (n:Int) (aw:zL x) (ba:0<=n) (a7:n<=1048576):zR x n=some (ig n (qn x)):=by
 unfold zR;unfold qn;obtain⟨w0,fU,hA,lJ⟩:=aw;refine mT hA (by omega) (by omega) λc2=>?_;rw[eC (n-(x.Name.length:Int)) (by omega)];refine sb (aEc _ _ lJ (by omega) (by omega)) λc3=>?_;exact sc (by omega)
theorem aEe (x:List jf) (n:Int) (aw:(x.length<=9223372036854775807/\∀y∈x,zL y)) (ba:0<=n) (a7:n<=1048576):C4 x n=some (ig n (dO qn x)):=by
 unfold C4;refine mT aw.1 ba a7 λh=>?_;rw[eC _ (by omega)];exact yl (f:=zR) qn x (λ_ _ _=>rfl) (λy hy n ba a7=>aEd y n (aw.2 y hy) ba a7) (by omega) _ (by omega) (by omega)
def qo (x:jg):Nat:=(x.Name.length+((dO qn x.Body)+0))
theorem aEf (x:jg) (n:Int) (aw:zM x) (ba:0<=n) (a7:n<=1048576):zS x n=some (ig n (qo x)):=by
 unfold zS;unfold qo;obtain⟨w0,fU,hA⟩:=aw;refine mT w0 (by omega) (by omega) λc0=>?_;rw[eC (n-(x.Name.length:Int)) (by omega)];refine sb (aEe _ _ hA (by omega) (by omega)) λc2=>?_;exact sc (by omega)
theorem aEg (x:List jg) (n:Int) (aw:(x.length<=9223372036854775807/\∀y∈x,zM y)) (ba:0<=n) (a7:n<=1048576):C6 x n=some (ig n (dO qo x)):=by
 unfold C6;refine mT aw.1 ba a7 λh=>?_;rw[eC _ (by omega)];exact yl (f:=zS) qo x (λ_ _ _=>rfl) (λy hy n ba a7=>aEf y n (aw.2 y hy) ba a7) (by omega) _ (by omega) (by omega)
theorem aEh (x:List Int) (n:Int) (aw:(x.length<=9223372036854775807/\∀y∈x,(-9223372036854775808<=y/\y<=9223372036854775807))) (ba:0<=n) (a7:n<=1048576):C7 x n=some (ig n (x.length+0)):=by
 unfold C7;refine mT aw.1 ba a7 λh=>?_;rw[eC _ (by omega)];exact sc (by omega)
def qp (x:jh):Nat:=((x.fE.length+0)+0)
theorem aEi (x:jh) (n:Int) (aw:zN x) (ba:0<=n) (a7:n<=1048576):zT x n=some (ig n (qp x)):=by
 unfold zT;unfold qp;obtain⟨w0,fU⟩:=aw;refine sb (aEh _ _ fU (by omega) (by omega)) λcv=>?_;exact sc (by omega)
theorem aEj (x:List jh) (n:Int) (aw:(x.length<=9223372036854775807/\∀y∈x,zN y)) (ba:0<=n) (a7:n<=1048576):C9 x n=some (ig n (dO qp x)):=by
 unfold C9;refine mT aw.1 ba a7 λh=>?_;rw[eC _ (by omega)];exact yl (f:=zT) qp x (λ_ _ _=>rfl) (λy hy n ba a7=>aEi y n (aw.2 y hy) ba a7) (by omega) _ (by omega) (by omega)
def qq (x:iZ):Nat:=(x.Left.length+(x.ch.length+(x.Result.length+0)))
theorem aEk (x:iZ) (n:Int) (aw:zO x) (ba:0<=n) (a7:n<=1048576):zU x n=some (ig n (qq x)):=by
 unfold zU;unfold qq;obtain⟨w0,fU,hA⟩:=aw;refine mT w0 (by omega) (by omega) λc0=>?_;rw[eC (n-(x.Left.length:Int)) (by omega)];refine mT fU (by omega) (by omega) λcv=>?_;rw[eC ((n-(x.Left.length:Int))-(x.ch.length:Int)) (by omega)];refine mT hA (by omega) (by omega) λc2=>?_;rw[eC (((n-(x.Left.length:Int))-(x.ch.length:Int))-(x.Result.length:Int)) (by omega)];exact sc (by omega)
theorem aEl (x:List iZ) (n:Int) (aw:(x.length<=9223372036854775807/\∀y∈x,zO y)) (ba:0<=n) (a7:n<=1048576):Da x n=some (ig n (dO qq x)):=by
 unfold Da;refine mT aw.1 ba a7 λh=>?_;rw[eC _ (by omega)];exact yl (f:=zU) qq x (λ_ _ _=>rfl) (λy hy n ba a7=>aEk y n (aw.2 y hy) ba a7) (by omega) _ (by omega) (by omega)
theorem Sl (x:List (List UInt8)) (n:Int) (aw:(x.length<=9223372036854775807/\∀y∈x,y.length<=9223372036854775807)) (ba:0<=n) (a7:n<=1048576):zV x n=some (ig n (dO List.length x)):=by
 unfold zV;refine mT aw.1 ba a7 λh=>?_;rw[eC _ (by omega)];exact aD_ x (λ_ _ _=>rfl) aw.2 (by omega) _ (by omega) (by omega)
def tE (x:lL):Nat:=((dO qo x.fv)+((dO qp x.bK)+((dO qq x.hZ)+((dO List.length x.hN)+((dO List.length x.hO)+0)))))
theorem aEm (x:lL) (n:Int) (aw:zP x) (ba:0<=n) (a7:n<=1048576):zW x n=some (ig n (tE x)):=by
 unfold zW;unfold tE;obtain⟨w0,fU,hA,lJ,Bu⟩:=aw;refine sb (aEg _ _ w0 (by omega) (by omega)) λc0=>?_;refine sb (aEj _ _ fU (by omega) (by omega)) λcv=>?_;refine sb (aEl _ _ hA (by omega) (by omega)) λc2=>?_;refine sb (Sl _ _ lJ (by omega) (by omega)) λc3=>?_;refine sb (Sl _ _ Bu (by omega) (by omega)) λc4=>?_;exact sc (by omega)
def oN (x:iG):Nat:=(x.Label.length+0)
theorem aEn (x:iG) (n:Int) (aw:xy x) (ba:0<=n) (a7:n<=1048576):zX x n=some (ig n (oN x)):=by
 unfold zX;unfold oN;obtain⟨w0,fU,hA,lJ⟩:=aw;refine mT lJ (by omega) (by omega) λc3=>?_;rw[eC (n-(x.Label.length:Int)) (by omega)];exact sc (by omega)
theorem aEo (x:List iG) (n:Int) (aw:(x.length<=9223372036854775807/\∀y∈x,xy y)) (ba:0<=n) (a7:n<=1048576):Dd x n=some (ig n (dO oN x)):=by
 unfold Dd;refine mT aw.1 ba a7 λh=>?_;rw[eC _ (by omega)];exact yl (f:=zX) oN x (λ_ _ _=>rfl) (λy hy n ba a7=>aEn y n (aw.2 y hy) ba a7) (by omega) _ (by omega) (by omega)
def ym (x:hL):b1:=⟨x.Kind,x.Value⟩
theorem aEp (x:hL):zY x=some (ym x):=by
 unfold zY;rfl
theorem aEq (x:List hL) (h:(x.length+0)<=1048576):zZ x=some (x.map ym):=by
 unfold zZ;have hl:x.length<=1048576:=by omega
 rw[pD _ hl (by decide)];simp only[Option.bind_some];rw[sd (f:=zY) ym x _ (λ_ _ _=>rfl) (λy hy=>aEp y) hl]
theorem aEr (x:List (List hL)) (h:(dO (λx=>x.length+0) x)<=1048576):Dg x=some (x.map (List.map ym)):=by
 unfold Dg;have hl:x.length<=1048576:=Nat.le_trans (i6 _ _) h;rw[pD _ hl (by decide)];simp only[Option.bind_some];rw[sd (f:=zZ) (List.map ym) x _ (λ_ _ _=>rfl) (λy hy=>aEq y (Nat.le_trans (lv (f:=(λx=>x.length+0)) hy) h)) hl]
def yn (x:jf):bH:=⟨x.Kind,x.Number,x.Name,(x.cN.map (List.map ym))⟩
def lx (x:bH):Nat:=(x.Name.length+((dO (λx=>x.length+0) x.cN)+0))
theorem aEs (x:jf):lx (yn x)=qn x:=by
 simp only[lx,qn,yn,vO,List.length_map]
theorem aEt (x:jf) (h:(qn x)<=1048576):z1 x=some (yn x):=by
 unfold z1;unfold qn at h;rw[aEr _ (by omega)];rfl
theorem aEu (x:List jf) (h:(dO qn x)<=1048576):Di x=some (x.map yn):=by
 unfold Di;have hl:x.length<=1048576:=Nat.le_trans (i6 _ _) h;rw[pD _ hl (by decide)];simp only[Option.bind_some];rw[sd (f:=z1) yn x _ (λ_ _ _=>rfl) (λy hy=>aEt y (Nat.le_trans (lv (f:=qn) hy) h)) hl]
def yo (x:jg):bs:=⟨x.Name,x.dE,(x.Body.map yn)⟩
def mb (x:bs):Nat:=(x.Name.length+((dO lx x.Body)+0))
theorem aEv (x:jg):mb (yo x)=qo x:=by
 simp only[mb,qo,yo,vO,List.length_map,aEs]
theorem aEw (x:jg) (h:(qo x)<=1048576):z6 x=some (yo x):=by
 unfold z6;unfold qo at h;rw[aEu _ (by omega)];rfl
theorem aEx (x:List jg) (h:(dO qo x)<=1048576):Dk x=some (x.map yo):=by
 unfold Dk;have hl:x.length<=1048576:=Nat.le_trans (i6 _ _) h;rw[pD _ hl (by decide)];simp only[Option.bind_some];rw[sd (f:=z6) yo x _ (λ_ _ _=>rfl) (λy hy=>aEw y (Nat.le_trans (lv (f:=qo) hy) h)) hl]
theorem aEy (x:List Int) (h:(x.length+0)<=1048576):Dm x=some x:=by
 unfold Dm;have hl:x.length<=1048576:=by omega
 rw[pD _ hl (by decide)];simp only[Option.bind_some];rw[sd (f:=some) id x _ (λ_ _ _=>rfl) (λ_ _=>rfl) hl,List.map_id]
def yp (x:jh):dr:=⟨x.hM,x.fE⟩
def ly (x:dr):Nat:=((x.fE.length+0)+0)
theorem aEz (x:jh):ly (yp x)=qp x:=by
 simp only[ly,qp,yp,vO,List.length_map]
theorem aEA (x:jh) (h:(qp x)<=1048576):z7 x=some (yp x):=by
 unfold z7;unfold qp at h;rw[aEy _ (by omega)];rfl
theorem aEB (x:List jh) (h:(dO qp x)<=1048576):Dp x=some (x.map yp):=by
 unfold Dp;have hl:x.length<=1048576:=Nat.le_trans (i6 _ _) h;rw[pD _ hl (by decide)];simp only[Option.bind_some];rw[sd (f:=z7) yp x _ (λ_ _ _=>rfl) (λy hy=>aEA y (Nat.le_trans (lv (f:=qp) hy) h)) hl]
def yq (x:iZ):b9:=⟨x.Left,x.ch,x.Result⟩
def lz (x:b9):Nat:=(x.Left.length+(x.ch.length+(x.Result.length+0)))
theorem aEC (x:iZ):lz (yq x)=qq x:=by
 simp only[lz,qq,yq,vO,List.length_map]
theorem aED (x:iZ) (h:(qq x)<=1048576):z8 x=some (yq x):=by
 unfold z8;unfold qq at h;rfl
theorem aEE (x:List iZ) (h:(dO qq x)<=1048576):Dr x=some (x.map yq):=by
 unfold Dr;have hl:x.length<=1048576:=Nat.le_trans (i6 _ _) h;rw[pD _ hl (by decide)];simp only[Option.bind_some];rw[sd (f:=z8) yq x _ (λ_ _ _=>rfl) (λy hy=>aED y (Nat.le_trans (lv (f:=qq) hy) h)) hl]
theorem Sm (x:List (List UInt8)) (h:(dO List.length x)<=1048576):z_ x=some x:=by
 unfold z_;have hl:x.length<=1048576:=Nat.le_trans (i6 _ _) h;rw[pD _ hl (by decide)];simp only[Option.bind_some];rw[sd (f:=some) id x _ (λ_ _ _=>rfl) (λ_ _=>rfl) hl,List.map_id]
def rh (x:lL):eI:=⟨(x.fv.map yo),(x.bK.map yp),(x.hZ.map yq),x.hN,x.hO⟩
def qs (x:eI):Nat:=((dO mb x.fv)+((dO ly x.bK)+((dO lz x.hZ)+((dO List.length x.hN)+((dO List.length x.hO)+0)))))
theorem So (x:lL):qs (rh x)=tE x:=by
 simp only[qs,tE,rh,vO,List.length_map,aEv,aEz,aEC]
theorem aEF (x:lL) (h:(tE x)<=1048576):tb x=some (rh x):=by
 unfold tb;unfold tE at h;rw[aEx _ (by omega),aEB _ (by omega),aEE _ (by omega),Sm _ (by omega),Sm _ (by omega)];rfl
def ri (x:iG):b_:=⟨x.Choice,x.c8,x.Second,x.Label⟩
def lA (x:b_):Nat:=(x.Label.length+0)
theorem aEG (x:iG):lA (ri x)=oN x:=by
 simp only[lA,oN,ri,vO,List.length_map]
theorem aEH (x:iG) (h:(oN x)<=1048576):Aa x=some (ri x):=by
 unfold Aa;unfold oN at h;rfl
theorem aEI (x:List iG) (h:(dO oN x)<=1048576):uH x=some (x.map ri):=by
 unfold uH;have hl:x.length<=1048576:=Nat.le_trans (i6 _ _) h;rw[pD _ hl (by decide)];simp only[Option.bind_some];rw[sd (f:=Aa) ri x _ (λ_ _ _=>rfl) (λy hy=>aEH y (Nat.le_trans (lv (f:=oN) hy) h)) hl]
theorem Sp (x:List Int) (h:(x.length+0)<=1048576):u_ x x=some true:=by
 unfold u_;have hl:x.length<=1048576:=by omega
 rw[se,cond_false];exact Sg x (λ_ _=>rfl) tw hl
theorem aEJ (x:b1):AM x x=some true:=by
 unfold AM;simp only[tw,tx,vQ,cond_false,Option.bind_some,Bool.not_true]
theorem aEK (x:List b1) (h:(x.length+0)<=1048576):AN x x=some true:=by
 unfold AN;have hl:x.length<=1048576:=by omega
 rw[se,cond_false];exact vP (f:=AM) x (λ_ _=>rfl) (λy hy=>aEJ y) hl
theorem aEL (x:List (List b1)) (h:(dO (λx=>x.length+0) x)<=1048576):E3 x x=some true:=by
 unfold E3;have hl:x.length<=1048576:=Nat.le_trans (i6 _ _) h;rw[se,cond_false];exact vP (f:=AN) x (λ_ _=>rfl) (λy hy=>aEK y (Nat.le_trans (lv (f:=(λx=>x.length+0)) hy) h)) hl
theorem aEM (x:bH) (h:(lx x)<=1048576):AO x x=some true:=by
 unfold AO;unfold lx at h;simp only[tw,tx,vQ,cond_false,Option.bind_some,Bool.not_true,aEL x.cN (by omega)]
theorem aEN (x:List bH) (h:(dO lx x)<=1048576):E5 x x=some true:=by
 unfold E5;have hl:x.length<=1048576:=Nat.le_trans (i6 _ _) h;rw[se,cond_false];exact vP (f:=AO) x (λ_ _=>rfl) (λy hy=>aEM y (Nat.le_trans (lv (f:=lx) hy) h)) hl
theorem aEO (x:bs) (h:(mb x)<=1048576):AP x x=some true:=by
 unfold AP;unfold mb at h;simp only[tw,tx,vQ,cond_false,Option.bind_some,Bool.not_true,aEN x.Body (by omega)]
theorem aEP (x:List bs) (h:(dO mb x)<=1048576):E7 x x=some true:=by
 unfold E7;have hl:x.length<=1048576:=Nat.le_trans (i6 _ _) h;rw[se,cond_false];exact vP (f:=AP) x (λ_ _=>rfl) (λy hy=>aEO y (Nat.le_trans (lv (f:=mb) hy) h)) hl
theorem aEQ (x:dr) (h:(ly x)<=1048576):AQ x x=some true:=by
 unfold AQ;unfold ly at h;simp only[tw,tx,vQ,cond_false,Option.bind_some,Bool.not_true,Sp x.fE (by omega)]
theorem aER (x:List dr) (h:(dO ly x)<=1048576):E9 x x=some true:=by
 unfold E9;have hl:x.length<=1048576:=Nat.le_trans (i6 _ _) h;rw[se,cond_false];exact vP (f:=AQ) x (λ_ _=>rfl) (λy hy=>aEQ y (Nat.le_trans (lv (f:=ly) hy) h)) hl
theorem aES (x:b9) (h:(lz x)<=1048576):AR x x=some true:=by
 unfold AR;unfold lz at h;simp only[tw,tx,vQ,cond_false,Option.bind_some,Bool.not_true]
theorem aET (x:List b9) (h:(dO lz x)<=1048576):Fa x x=some true:=by
 unfold Fa;have hl:x.length<=1048576:=Nat.le_trans (i6 _ _) h;rw[se,cond_false];exact vP (f:=AR) x (λ_ _=>rfl) (λy hy=>aES y (Nat.le_trans (lv (f:=lz) hy) h)) hl
theorem Sq (x:List (List UInt8)) (h:(dO List.length x)<=1048576):AU x x=some true:=by
 unfold AU;have hl:x.length<=1048576:=Nat.le_trans (i6 _ _) h;rw[se,cond_false];exact Sg x (λ_ _=>rfl) tx hl
theorem aEU (x:eI) (h:(qs x)<=1048576):AV x x=some true:=by
 unfold AV;unfold qs at h;simp only[tw,tx,vQ,cond_false,Option.bind_some,Bool.not_true,aEP x.fv (by omega),aER x.bK (by omega),aET x.hZ (by omega),Sq x.hN (by omega),Sq x.hO (by omega)]
theorem aEV (x:b_) (h:(lA x)<=1048576):AW x x=some true:=by
 unfold AW;unfold lA at h;simp only[tw,tx,vQ,cond_false,Option.bind_some,Bool.not_true]
theorem aEW (x:List b_) (h:(dO lA x)<=1048576):Ff x x=some true:=by
 unfold Ff;have hl:x.length<=1048576:=Nat.le_trans (i6 _ _) h;rw[se,cond_false];exact vP (f:=AW) x (λ_ _=>rfl) (λy hy=>aEV y (Nat.le_trans (lv (f:=lA) hy) h)) hl
theorem vS (k:Int) (ba:0<=k) (ad:k<=1099511627776):∃t,qY k=some t:=by
 have key:∀(n:Nat) (k:Int),0<=k->k<=n->n<=1099511627776->∀t:List UInt8,t.length+n<=1099511627776->∃r,∀m,n<m->tl m k t=some r:=by
  intro n;induction n with
  |zero=>
   intro k ag ah aN t bj;refine⟨[109]++t,λm hm=>?_⟩;obtain⟨m,rfl⟩:∃j,m=j+1:=⟨m-1,by omega⟩
   simp only[tl,AX];rw[show decide (0<k)=false by simp;omega,cond_false,show mU (1+t.length)=some () by unfold mU;rw[if_pos (by omega)]];rfl
  |succ n ih=>
   intro k ag ah aN t bj;by_cases ay:0<k
   .have aj:Int.tdiv k 10=k/10:=Int.tdiv_eq_ediv_of_nonneg ag;have hw:IntKind.i64.wrap (Int.tdiv k 10)=k/10:=by rw[aj];exact eC _ (by omega)
    obtain⟨r,aS⟩:=ih (k/10) (by omega) (by omega) (by omega) ([(rn (IntKind.i64.wrap (48+(Int.tmod k 10))))]++t) (by simp only[List.length_append,List.length_cons,List.length_nil];omega);refine⟨r,λm hm=>?_⟩;obtain⟨m,rfl⟩:∃j,m=j+1:=⟨m-1,by omega⟩
    simp only[tl,AX];rw[show decide (0<k)=true by simp;omega,cond_true,show mU (1+t.length)=some () by unfold mU;rw[if_pos (by omega)]];simp only[Option.bind_some,hw];exact aS m (by omega)
   .refine⟨[109]++t,λm hm=>?_⟩;obtain⟨m,rfl⟩:∃j,m=j+1:=⟨m-1,by omega⟩
    simp only[tl,AX];rw[show decide (0<k)=false by simp;omega,cond_false,show mU (1+t.length)=some () by unfold mU;rw[if_pos (by omega)]];rfl
 unfold qY;by_cases ay:k<=0
 .exact⟨_,by rw[show decide (k<=0)=true by simpa using ay];rfl⟩
 .obtain⟨r,aS⟩:=key k.toNat k ba (by omega) (by omega) [] (by simp only[List.length_nil];omega);exact⟨r,by rw[show decide (k<=0)=false by simp;omega,cond_false];exact ij (k.toNat+1) λm hm=>aS m (by omega)⟩
theorem aEX (x:List b1) (k:Int) (ba:0<=k) (ad:k+64*(x.length+0)<=1099511627776):∃(cA:List b1) (c:Nat),c<=64*(x.length+0)/\Fh x k=some (k+(c:Int),cA):=by
 unfold Fh;have e:hD (λ_=>64) x=64*x.length:=KJ 64 x;obtain⟨cA,c,ag,ah⟩:=tD (l:=va) (λ_=>64) (λm v k=>by simp only[va,Fg];rw[fh (Nat.le_refl _)];rfl) (λx k ba ad=>by
  have fU:IntKind.i64.wrap (k+1)=k+1:=eC _ (by omega);have hA:IntKind.i64.wrap ((k+1)+1)=(k+1)+1:=eC _ (by omega);refine⟨(b1.mk k (k+1)),1+1,by omega,λm d r aj=>?_⟩;simp only[va,Fg];rw[re];simp only[cond_true,rb,sf,Option.bind_some,fU,hA];rw[rf aj];rw[show(((k+1)+1):Int)=k+((1+1:Nat):Int) by omega]) x k ba (by omega) (by omega)
 exact⟨cA,c,by omega,ah⟩
theorem aEY (x:List (List b1)) (k:Int) (ba:0<=k) (ad:k+64*(dO (λx=>x.length+0) x)<=1099511627776):∃(cA:List (List b1)) (c:Nat),c<=64*(dO (λx=>x.length+0) x)/\Fj x k=some (k+(c:Int),cA):=by
 unfold Fj;have e:hD (λx=>64*((x.length+0)+1)) x=64*dO (λx=>x.length+0) x:=tC (λx=>x.length+0) x;have hl:x.length<=dO (λx=>x.length+0) x:=i6 _ _;obtain⟨cA,c,ag,ah⟩:=tD (l:=vb) (λx=>64*((x.length+0)+1)) (λm v k=>by simp only[vb,Fi];rw[fh (Nat.le_refl _)];rfl) (λx k ba ad=>by
  obtain⟨e0,cv,mn,m1⟩:=aEX x k (by omega) (by omega);refine⟨e0,cv,by omega,λm d r aj=>?_⟩;simp only[vb,Fi];rw[re];simp only[cond_true,rb,sf,Option.bind_some,m1];rw[rf aj]) x k ba (by omega) (by omega)
 exact⟨cA,c,by omega,ah⟩
theorem aEZ (x:List bH) (k:Int) (ba:0<=k) (ad:k+64*(dO lx x)<=1099511627776):∃(cA:List bH) (c:Nat),c<=64*(dO lx x)/\Fl x k=some (k+(c:Int),cA):=by
 unfold Fl;have e:hD (λx=>64*((lx x)+1)) x=64*dO lx x:=tC lx x;have hl:x.length<=dO lx x:=i6 _ _;obtain⟨cA,c,ag,ah⟩:=tD (l:=vc) (λx=>64*((lx x)+1)) (λm v k=>by simp only[vc,Fk];rw[fh (Nat.le_refl _)];rfl) (λx k ba ad=>by
  simp only[lx]at ad⊢;have fU:IntKind.i64.wrap (k+1)=k+1:=eC _ (by omega);have hA:IntKind.i64.wrap ((k+1)+1)=(k+1)+1:=eC _ (by omega);obtain⟨ff,t3⟩:=vS ((k+1)+1) (by omega) (by omega);have lJ:IntKind.i64.wrap (((k+1)+1)+1)=((k+1)+1)+1:=eC _ (by omega);obtain⟨qm,c4,bD,m4⟩:=aEY x.cN (((k+1)+1)+1) (by omega) (by omega);refine⟨(bH.mk k (k+1) ff qm),1+1+1+c4,by omega,λm d r aj=>?_⟩;simp only[vc,Fk];rw[re];simp only[cond_true,rb,sf,Option.bind_some,fU,hA,t3,lJ,m4];rw[rf aj];rw[show(((((k+1)+1)+1)+(c4:Int)):Int)=k+((1+1+1+c4:Nat):Int) by omega]) x k ba (by omega) (by omega)
 exact⟨cA,c,by omega,ah⟩
theorem aE0 (x:List bs) (k:Int) (ba:0<=k) (ad:k+64*(dO mb x)<=1099511627776):∃(cA:List bs) (c:Nat),c<=64*(dO mb x)/\Fo x k=some (k+(c:Int),cA):=by
 unfold Fo;have e:hD (λx=>64*((mb x)+1)) x=64*dO mb x:=tC mb x;have hl:x.length<=dO mb x:=i6 _ _;obtain⟨cA,c,ag,ah⟩:=tD (l:=vd) (λx=>64*((mb x)+1)) (λm v k=>by simp only[vd,Fm];rw[fh (Nat.le_refl _)];rfl) (λx k ba ad=>by
  simp only[mb]at ad⊢;obtain⟨s1,t1⟩:=vS k (by omega) (by omega);have fU:IntKind.i64.wrap (k+1)=k+1:=eC _ (by omega);have hA:IntKind.i64.wrap ((k+1)+1)=(k+1)+1:=eC _ (by omega);obtain⟨kh,c3,jA,m3⟩:=aEZ x.Body ((k+1)+1) (by omega) (by omega);refine⟨(bs.mk s1 (k+1) kh),1+1+c3,by omega,λm d r aj=>?_⟩;simp only[vd,Fm];rw[re];simp only[cond_true,rb,sf,Option.bind_some,t1,fU,hA,m3];rw[rf aj];rw[show((((k+1)+1)+(c3:Int)):Int)=k+((1+1+c3:Nat):Int) by omega]) x k ba (by omega) (by omega)
 exact⟨cA,c,by omega,ah⟩
theorem Sr (x:List Int) (k:Int) (ba:0<=k) (ad:k+64*(x.length+0)<=1099511627776):∃(cA:List Int) (c:Nat),c<=64*(x.length+0)/\AY x k=some (k+(c:Int),cA)/\A0 cA k=some (k+(c:Int)):=by
 unfold AY A0;have e:hD (λ_=>64) x=64*x.length:=KJ 64 x;obtain⟨cA,c,ag,ah,aN⟩:=aEa (l:=ve) (hl:=vk) (λ_=>64) (λm v k=>by simp only[ve,Fp];rw[fh (Nat.le_refl _)];rfl) (λa m k=>by simp only[vk,Fz];rw[fh (Nat.le_refl _)];rfl) (λx k ba ad=>by
  have fU:IntKind.i64.wrap (k+1)=k+1:=eC _ (by omega);refine⟨k,1,by omega,λm d r aj=>⟨?_,?_⟩⟩
  .simp only[ve,Fp];rw[re];simp only[cond_true,rb,sf,Option.bind_some,fU];rw[rf aj];rw[show((k+1):Int)=k+((1:Nat):Int) by omega]
  .simp only[vk,Fz];rw[re];simp only[cond_true,cond_false,rb,Option.bind_some,bne_self_eq_false,beq_self_eq_true,Bool.not_true,fU];rw[rf aj];rw[show((k+1):Int)=k+((1:Nat):Int) by omega]) x k ba (by omega) (by omega)
 exact⟨cA,c,by omega,ah,aN⟩
theorem aE1 (x:List dr) (k:Int) (ba:0<=k) (ad:k+64*(dO ly x)<=1099511627776):∃(cA:List dr) (c:Nat),c<=64*(dO ly x)/\Fs x k=some (k+(c:Int),cA):=by
 unfold Fs;have e:hD (λx=>64*((ly x)+1)) x=64*dO ly x:=tC ly x;have hl:x.length<=dO ly x:=i6 _ _;obtain⟨cA,c,ag,ah⟩:=tD (l:=vf) (λx=>64*((ly x)+1)) (λm v k=>by simp only[vf,Fq];rw[fh (Nat.le_refl _)];rfl) (λx k ba ad=>by
  simp only[ly]at ad⊢;have fU:IntKind.i64.wrap (k+1)=k+1:=eC _ (by omega);obtain⟨hd,c2,jy,m2⟩:=Sr x.fE (k+1) (by omega) (by omega);refine⟨(dr.mk k hd),1+c2,by omega,λm d r aj=>?_⟩;simp only[vf,Fq];rw[re];simp only[cond_true,rb,sf,Option.bind_some,fU,m2];rw[rf aj];rw[show(((k+1)+(c2:Int)):Int)=k+((1+c2:Nat):Int) by omega]) x k ba (by omega) (by omega)
 exact⟨cA,c,by omega,ah⟩
theorem aE2 (x:List b9) (k:Int) (ba:0<=k) (ad:k+64*(dO lz x)<=1099511627776):∃(cA:List b9) (c:Nat),c<=64*(dO lz x)/\Fu x k=some (k+(c:Int),cA):=by
 unfold Fu;have e:hD (λx=>64*((lz x)+1)) x=64*dO lz x:=tC lz x;have hl:x.length<=dO lz x:=i6 _ _;obtain⟨cA,c,ag,ah⟩:=tD (l:=vg) (λx=>64*((lz x)+1)) (λm v k=>by simp only[vg,Ft];rw[fh (Nat.le_refl _)];rfl) (λx k ba ad=>by
  simp only[lz]at ad⊢;obtain⟨s1,t1⟩:=vS k (by omega) (by omega);have fU:IntKind.i64.wrap (k+1)=k+1:=eC _ (by omega);obtain⟨s2,t2⟩:=vS (k+1) (by omega) (by omega);have hA:IntKind.i64.wrap ((k+1)+1)=(k+1)+1:=eC _ (by omega);obtain⟨ff,t3⟩:=vS ((k+1)+1) (by omega) (by omega);have lJ:IntKind.i64.wrap (((k+1)+1)+1)=((k+1)+1)+1:=eC _ (by omega);refine⟨(b9.mk s1 s2 ff),1+1+1,by omega,λm d r aj=>?_⟩;simp only[vg,Ft];rw[re];simp only[cond_true,rb,sf,Option.bind_some,t1,fU,t2,hA,t3,lJ];rw[rf aj];rw[show((((k+1)+1)+1):Int)=k+((1+1+1:Nat):Int) by omega]) x k ba (by omega) (by omega)
 exact⟨cA,c,by omega,ah⟩
theorem Ss (x:List (List UInt8)) (k:Int) (ba:0<=k) (ad:k+64*(dO List.length x)<=1099511627776):∃(cA:List (List UInt8)) (c:Nat),c<=64*(dO List.length x)/\AZ x k=some (k+(c:Int),cA):=by
 unfold AZ;have e:hD (λx=>64*(x.length+1)) x=64*dO List.length x:=tC List.length x;have hl:x.length<=dO List.length x:=i6 _ _;obtain⟨cA,c,ag,ah⟩:=tD (l:=vh) (λx=>64*(x.length+1)) (λm v k=>by simp only[vh,Fv];rw[fh (Nat.le_refl _)];rfl) (λx k ba ad=>by
  obtain⟨s1,t1⟩:=vS k (by omega) (by omega);have fU:IntKind.i64.wrap (k+1)=k+1:=eC _ (by omega);refine⟨s1,1,by omega,λm d r aj=>?_⟩;simp only[vh,Fv];rw[re];simp only[cond_true,rb,sf,Option.bind_some,t1,fU];rw[rf aj];rw[show((k+1):Int)=k+((1:Nat):Int) by omega]) x k ba (by omega) (by omega)
 exact⟨cA,c,by omega,ah⟩
theorem aE3 (x:eI) (k:Int) (ba:0<=k) (ad:k+64*((qs x)+1)<=1099511627776):∃(fD:List bs) (e0:List dr) (hd:List b9) (kh:List (List UInt8)) (qm:List (List UInt8)) (c:Nat),c<=64*((qs x)+1)/\Fw x.fv x.bK x.hZ x.hN x.hO k=some (k+(c:Int),fD,e0,hd,kh,qm):=by
 unfold Fw;simp only[qs]at ad⊢;obtain⟨e0,cv,mn,m1⟩:=aE0 x.fv k (by omega) (by omega);obtain⟨hd,c2,jy,m2⟩:=aE1 x.bK (k+(cv:Int)) (by omega) (by omega);obtain⟨kh,c3,jA,m3⟩:=aE2 x.hZ ((k+(cv:Int))+(c2:Int)) (by omega) (by omega);obtain⟨qm,c4,bD,m4⟩:=Ss x.hN (((k+(cv:Int))+(c2:Int))+(c3:Int)) (by omega) (by omega);obtain⟨aE4,c5,dQ,m5⟩:=Ss x.hO ((((k+(cv:Int))+(c2:Int))+(c3:Int))+(c4:Int)) (by omega) (by omega);refine⟨e0,hd,kh,qm,aE4,cv+c2+c3+c4+c5,by omega,?_⟩;simp only[Option.bind_some,m1,m2,m3,m4,m5];rw[show(k+((cv+c2+c3+c4+c5:Nat):Int))=(((((k+(cv:Int))+(c2:Int))+(c3:Int))+(c4:Int))+(c5:Int)) by omega]
theorem aE5 (x:List b_) (k:Int) (ba:0<=k) (ad:k+64*(dO lA x)<=1099511627776):∃(cA:List b_) (c:Nat),c<=64*(dO lA x)/\Fy x k=some (k+(c:Int),cA):=by
 unfold Fy;have e:hD (λx=>64*((lA x)+1)) x=64*dO lA x:=tC lA x;have hl:x.length<=dO lA x:=i6 _ _;obtain⟨cA,c,ag,ah⟩:=tD (l:=vj) (λx=>64*((lA x)+1)) (λm v k=>by simp only[vj,Fx];rw[fh (Nat.le_refl _)];rfl) (λx k ba ad=>by
  simp only[lA]at ad⊢;have fU:IntKind.i64.wrap (k+1)=k+1:=eC _ (by omega);have hA:IntKind.i64.wrap ((k+1)+1)=(k+1)+1:=eC _ (by omega);have lJ:IntKind.i64.wrap (((k+1)+1)+1)=((k+1)+1)+1:=eC _ (by omega);obtain⟨ho,t4⟩:=vS (((k+1)+1)+1) (by omega) (by omega);have Bu:IntKind.i64.wrap ((((k+1)+1)+1)+1)=(((k+1)+1)+1)+1:=eC _ (by omega);refine⟨(b_.mk k (k+1) ((k+1)+1) ho),1+1+1+1,by omega,λm d r aj=>?_⟩;simp only[vj,Fx];rw[re];simp only[cond_true,rb,sf,Option.bind_some,fU,hA,lJ,t4,Bu];rw[rf aj];rw[show(((((k+1)+1)+1)+1):Int)=k+((1+1+1+1:Nat):Int) by omega]) x k ba (by omega) (by omega)
 exact⟨cA,c,by omega,ah⟩
end Go.eU
