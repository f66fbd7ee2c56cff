/- Part of a proof that a law returns true for every input. No condition. -/
import Derived.Test.YtocllehpepigpaaGreatP3
import Derived.Test.YtocllehpepigpaaGreatUN
namespace Go.eN
open Go Go.cZ
set_option linter.unusedSimpArgs false
theorem aA0 (x:List ht) (n:Int) (aw:(x.length≤9223372036854775807∧∀y∈x,wx y)) (bf:0≤n) (a6:n≤1048576):yP x n=some (hX n (x.length+0)):=by
 unfold yP
 refine mS aw.1 bf a6 fun h=> ?_
 rw[fl _ (by omega)]
 exact rb (by omega)
theorem aA1 (x:List (List ht)) (n:Int) (aw:(x.length≤9223372036854775807∧∀y∈x,(y.length≤9223372036854775807∧∀z∈y,wx z))) (bf:0≤n) (a6:n≤1048576):B4 x n=some (hX n (dm (fun x=>x.length+0) x)):=by
 unfold B4
 refine mS aw.1 bf a6 fun h=> ?_
 rw[fl _ (by omega)]
 exact xd (f:=yP) (fun x=>x.length+0) x (fun _ _ _=>rfl) (fun y bt n bf a6=>aA0 y n (aw.2 y bt) bf a6) (by omega) _ (by omega) (by omega)
def pG (x:iT):Nat:=(x.Name.length+((dm (fun x=>x.length+0) x.cO)+0))
theorem aA2 (x:iT) (n:Int) (aw:yK x) (bf:0≤n) (a6:n≤1048576):yQ x n=some (hX n (pG x)):=by
 unfold yQ
 unfold pG
 obtain⟨w0,fe,gg,mJ⟩:=aw
 refine mS gg (by omega) (by omega) fun cu=> ?_
 rw[fl (n-(x.Name.length:Int)) (by omega)]
 refine qt (aA1 _ _ mJ (by omega) (by omega)) fun je=> ?_
 exact rb (by omega)
theorem aA3 (x:List iT) (n:Int) (aw:(x.length≤9223372036854775807∧∀y∈x,yK y)) (bf:0≤n) (a6:n≤1048576):B6 x n=some (hX n (dm pG x)):=by
 unfold B6
 refine mS aw.1 bf a6 fun h=> ?_
 rw[fl _ (by omega)]
 exact xd (f:=yQ) pG x (fun _ _ _=>rfl) (fun y bt n bf a6=>aA2 y n (aw.2 y bt) bf a6) (by omega) _ (by omega) (by omega)
def pH (x:iU):Nat:=(x.Name.length+((dm pG x.Body)+0))
theorem aA4 (x:iU) (n:Int) (aw:yL x) (bf:0≤n) (a6:n≤1048576):yR x n=some (hX n (pH x)):=by
 unfold yR
 unfold pH
 obtain⟨w0,fe,gg⟩:=aw
 refine mS w0 (by omega) (by omega) fun ny=> ?_
 rw[fl (n-(x.Name.length:Int)) (by omega)]
 refine qt (aA3 _ _ gg (by omega) (by omega)) fun cu=> ?_
 exact rb (by omega)
theorem aA5 (x:List iU) (n:Int) (aw:(x.length≤9223372036854775807∧∀y∈x,yL y)) (bf:0≤n) (a6:n≤1048576):B8 x n=some (hX n (dm pH x)):=by
 unfold B8
 refine mS aw.1 bf a6 fun h=> ?_
 rw[fl _ (by omega)]
 exact xd (f:=yR) pH x (fun _ _ _=>rfl) (fun y bt n bf a6=>aA4 y n (aw.2 y bt) bf a6) (by omega) _ (by omega) (by omega)
theorem Qw (x:List Int) (n:Int) (aw:(x.length≤9223372036854775807∧∀y∈x,(-9223372036854775808≤y∧y≤9223372036854775807))) (bf:0≤n) (a6:n≤1048576):yS x n=some (hX n (x.length+0)):=by
 unfold yS
 refine mS aw.1 bf a6 fun h=> ?_
 rw[fl _ (by omega)]
 exact rb (by omega)
def pI (x:iV):Nat:=((x.bS.length+0)+0)
theorem aA6 (x:iV) (n:Int) (aw:yM x) (bf:0≤n) (a6:n≤1048576):yT x n=some (hX n (pI x)):=by
 unfold yT
 unfold pI
 obtain⟨w0,fe⟩:=aw
 refine qt (Qw _ _ fe (by omega) (by omega)) fun cB=> ?_
 exact rb (by omega)
theorem aA7 (x:List iV) (n:Int) (aw:(x.length≤9223372036854775807∧∀y∈x,yM y)) (bf:0≤n) (a6:n≤1048576):B_ x n=some (hX n (dm pI x)):=by
 unfold B_
 refine mS aw.1 bf a6 fun h=> ?_
 rw[fl _ (by omega)]
 exact xd (f:=yT) pI x (fun _ _ _=>rfl) (fun y bt n bf a6=>aA6 y n (aw.2 y bt) bf a6) (by omega) _ (by omega) (by omega)
def pJ (x:iG):Nat:=(x.Left.length+(x.cp.length+(x.Result.length+0)))
theorem aA8 (x:iG) (n:Int) (aw:yN x) (bf:0≤n) (a6:n≤1048576):yU x n=some (hX n (pJ x)):=by
 unfold yU
 unfold pJ
 obtain⟨w0,fe,gg⟩:=aw
 refine mS w0 (by omega) (by omega) fun ny=> ?_
 rw[fl (n-(x.Left.length:Int)) (by omega)]
 refine mS fe (by omega) (by omega) fun cB=> ?_
 rw[fl ((n-(x.Left.length:Int))-(x.cp.length:Int)) (by omega)]
 refine mS gg (by omega) (by omega) fun cu=> ?_
 rw[fl (((n-(x.Left.length:Int))-(x.cp.length:Int))-(x.Result.length:Int)) (by omega)]
 exact rb (by omega)
theorem aA9 (x:List iG) (n:Int) (aw:(x.length≤9223372036854775807∧∀y∈x,yN y)) (bf:0≤n) (a6:n≤1048576):Cb x n=some (hX n (dm pJ x)):=by
 unfold Cb
 refine mS aw.1 bf a6 fun h=> ?_
 rw[fl _ (by omega)]
 exact xd (f:=yU) pJ x (fun _ _ _=>rfl) (fun y bt n bf a6=>aA8 y n (aw.2 y bt) bf a6) (by omega) _ (by omega) (by omega)
theorem Qx (x:List (List UInt8)) (n:Int) (aw:(x.length≤9223372036854775807∧∀y∈x,y.length≤9223372036854775807)) (bf:0≤n) (a6:n≤1048576):yV x n=some (hX n (dm List.length x)):=by
 unfold yV
 refine mS aw.1 bf a6 fun h=> ?_
 rw[fl _ (by omega)]
 exact aAZ x (fun _ _ _=>rfl) aw.2 (by omega) _ (by omega) (by omega)
def sA (x:k6):Nat:=((dm pH x.ew)+((dm pI x.c8)+((dm pJ x.hE)+((dm List.length x.hv)+((dm List.length x.hx)+0)))))
theorem aA_ (x:k6) (n:Int) (aw:yO x) (bf:0≤n) (a6:n≤1048576):yW x n=some (hX n (sA x)):=by
 unfold yW
 unfold sA
 obtain⟨w0,fe,gg,mJ,IP⟩:=aw
 refine qt (aA5 _ _ w0 (by omega) (by omega)) fun ny=> ?_
 refine qt (aA7 _ _ fe (by omega) (by omega)) fun cB=> ?_
 refine qt (aA9 _ _ gg (by omega) (by omega)) fun cu=> ?_
 refine qt (Qx _ _ mJ (by omega) (by omega)) fun je=> ?_
 refine qt (Qx _ _ IP (by omega) (by omega)) fun mX=> ?_
 exact rb (by omega)
def n4 (x:iH):Nat:=((x.bS.length+0)+0)
theorem aBa (x:iH) (n:Int) (aw:wy x) (bf:0≤n) (a6:n≤1048576):yX x n=some (hX n (n4 x)):=by
 unfold yX
 unfold n4
 obtain⟨w0,fe,gg⟩:=aw
 refine qt (Qw _ _ gg (by omega) (by omega)) fun cu=> ?_
 exact rb (by omega)
theorem aBb (x:List iH) (n:Int) (aw:(x.length≤9223372036854775807∧∀y∈x,wy y)) (bf:0≤n) (a6:n≤1048576):Ce x n=some (hX n (dm n4 x)):=by
 unfold Ce
 refine mS aw.1 bf a6 fun h=> ?_
 rw[fl _ (by omega)]
 exact xd (f:=yX) n4 x (fun _ _ _=>rfl) (fun y bt n bf a6=>aBa y n (aw.2 y bt) bf a6) (by omega) _ (by omega) (by omega)
def xe (x:ht):b7:=⟨x.Kind,x.Value⟩
theorem aBc (x:ht):yY x=some (xe x):=by
 unfold yY
 rfl
theorem aBd (x:List ht) (h:(x.length+0)≤1048576):yZ x=some (x.map xe):=by
 unfold yZ
 have hl:x.length≤1048576:=by omega
 rw[qu _ hl (by decide)]
 simp only[Option.bind_some]
 rw[re (f:=yY) xe x _ (fun _ _ _=>rfl) (fun y bt=>aBc y) hl]
theorem aBe (x:List (List ht)) (h:(dm (fun x=>x.length+0) x)≤1048576):Ch x=some (x.map (List.map xe)):=by
 unfold Ch
 have hl:x.length≤1048576:=Nat.le_trans (iN _ _) h
 rw[qu _ hl (by decide)]
 simp only[Option.bind_some]
 rw[re (f:=yZ) (List.map xe) x _ (fun _ _ _=>rfl) (fun y bt=>aBd y (Nat.le_trans (kL (f:=(fun x=>x.length+0)) bt) h)) hl]
def xf (x:iT):bJ:=⟨x.Kind,x.Number,x.Name,(x.cO.map (List.map xe))⟩
def kM (x:bJ):Nat:=(x.Name.length+((dm (fun x=>x.length+0) x.cO)+0))
theorem aBf (x:iT):kM (xf x)=pG x:=by
 simp only[kM,pG,xf,uN,List.length_map]
theorem aBg (x:iT) (h:(pG x)≤1048576):y0 x=some (xf x):=by
 unfold y0
 unfold pG at h
 rw[aBe _ (by omega)]
 rfl
theorem aBh (x:List iT) (h:(dm pG x)≤1048576):Cj x=some (x.map xf):=by
 unfold Cj
 have hl:x.length≤1048576:=Nat.le_trans (iN _ _) h
 rw[qu _ hl (by decide)]
 simp only[Option.bind_some]
 rw[re (f:=y0) xf x _ (fun _ _ _=>rfl) (fun y bt=>aBg y (Nat.le_trans (kL (f:=pG) bt) h)) hl]
def xg (x:iU):bj:=⟨x.Name,x.dt,(x.Body.map xf)⟩
def lz (x:bj):Nat:=(x.Name.length+((dm kM x.Body)+0))
theorem aBi (x:iU):lz (xg x)=pH x:=by
 simp only[lz,pH,xg,uN,List.length_map,aBf]
theorem aBj (x:iU) (h:(pH x)≤1048576):y1 x=some (xg x):=by
 unfold y1
 unfold pH at h
 rw[aBh _ (by omega)]
 rfl
theorem aBk (x:List iU) (h:(dm pH x)≤1048576):Cl x=some (x.map xg):=by
 unfold Cl
 have hl:x.length≤1048576:=Nat.le_trans (iN _ _) h
 rw[qu _ hl (by decide)]
 simp only[Option.bind_some]
 rw[re (f:=y1) xg x _ (fun _ _ _=>rfl) (fun y bt=>aBj y (Nat.le_trans (kL (f:=pH) bt) h)) hl]
theorem Qy (x:List Int) (h:(x.length+0)≤1048576):y2 x=some x:=by
 unfold y2
 have hl:x.length≤1048576:=by omega
 rw[qu _ hl (by decide)]
 simp only[Option.bind_some]
 rw[re (f:=some) id x _ (fun _ _ _=>rfl) (fun _ _=>rfl) hl,List.map_id]
def xh (x:iV):dk:=⟨x.cm,x.bS⟩
def kN (x:dk):Nat:=((x.bS.length+0)+0)
theorem aBl (x:iV):kN (xh x)=pI x:=by
 simp only[kN,pI,xh,uN,List.length_map]
theorem aBm (x:iV) (h:(pI x)≤1048576):y3 x=some (xh x):=by
 unfold y3
 unfold pI at h
 rw[Qy _ (by omega)]
 rfl
theorem aBn (x:List iV) (h:(dm pI x)≤1048576):Co x=some (x.map xh):=by
 unfold Co
 have hl:x.length≤1048576:=Nat.le_trans (iN _ _) h
 rw[qu _ hl (by decide)]
 simp only[Option.bind_some]
 rw[re (f:=y3) xh x _ (fun _ _ _=>rfl) (fun y bt=>aBm y (Nat.le_trans (kL (f:=pI) bt) h)) hl]
def xi (x:iG):cb:=⟨x.Left,x.cp,x.Result⟩
def kO (x:cb):Nat:=(x.Left.length+(x.cp.length+(x.Result.length+0)))
theorem aBo (x:iG):kO (xi x)=pJ x:=by
 simp only[kO,pJ,xi,uN,List.length_map]
theorem aBp (x:iG) (h:(pJ x)≤1048576):y4 x=some (xi x):=by
 unfold y4
 unfold pJ at h
 rfl
theorem aBq (x:List iG) (h:(dm pJ x)≤1048576):Cq x=some (x.map xi):=by
 unfold Cq
 have hl:x.length≤1048576:=Nat.le_trans (iN _ _) h
 rw[qu _ hl (by decide)]
 simp only[Option.bind_some]
 rw[re (f:=y4) xi x _ (fun _ _ _=>rfl) (fun y bt=>aBp y (Nat.le_trans (kL (f:=pJ) bt) h)) hl]
theorem Qz (x:List (List UInt8)) (h:(dm List.length x)≤1048576):y5 x=some x:=by
 unfold y5
 have hl:x.length≤1048576:=Nat.le_trans (iN _ _) h
 rw[qu _ hl (by decide)]
 simp only[Option.bind_some]
 rw[re (f:=some) id x _ (fun _ _ _=>rfl) (fun _ _=>rfl) hl,List.map_id]
def qw (x:k6):ea:=⟨(x.ew.map xg),(x.c8.map xh),(x.hE.map xi),x.hv,x.hx⟩
def pK (x:ea):Nat:=((dm lz x.ew)+((dm kN x.c8)+((dm kO x.hE)+((dm List.length x.hv)+((dm List.length x.hx)+0)))))
theorem QA (x:k6):pK (qw x)=sA x:=by
 simp only[pK,sA,qw,uN,List.length_map,aBi,aBl,aBo]
theorem aBr (x:k6) (h:(sA x)≤1048576):r6 x=some (qw x):=by
 unfold r6
 unfold sA at h
 rw[aBk _ (by omega),aBn _ (by omega),aBq _ (by omega),Qz _ (by omega),Qz _ (by omega)]
 rfl
def ri (x:iH):aW:=⟨x.cm,x.Part,x.bS⟩
def jr (x:aW):Nat:=((x.bS.length+0)+0)
theorem aBs (x:iH):jr (ri x)=n4 x:=by
 simp only[jr,n4,ri,uN,List.length_map]
theorem aBt (x:iH) (h:(n4 x)≤1048576):y6 x=some (ri x):=by
 unfold y6
 unfold n4 at h
 rw[Qy _ (by omega)]
 rfl
theorem aBu (x:List iH) (h:(dm n4 x)≤1048576):tE x=some (x.map ri):=by
 unfold tE
 have hl:x.length≤1048576:=Nat.le_trans (iN _ _) h
 rw[qu _ hl (by decide)]
 simp only[Option.bind_some]
 rw[re (f:=y6) ri x _ (fun _ _ _=>rfl) (fun y bt=>aBt y (Nat.le_trans (kL (f:=n4) bt) h)) hl]
theorem QB (x:List Int) (h:(x.length+0)≤1048576):zG x x=some true:=by
 unfold zG
 have hl:x.length≤1048576:=by omega
 rw[rf,cond_false]
 exact Qr x (fun _ _=>rfl) sv hl
theorem aBv (x:aW) (h:(jr x)≤1048576):zH x x=some true:=by
 unfold zH
 unfold jr at h
 simp only[sv,sw,uP,cond_false,Option.bind_some,Bool.not_true,QB x.bS (by omega)]
theorem QC (x:List aW) (h:(dm jr x)≤1048576):ub x x=some true:=by
 unfold ub
 have hl:x.length≤1048576:=Nat.le_trans (iN _ _) h
 rw[rf,cond_false]
 exact uO (f:=zH) x (fun _ _=>rfl) (fun y bt=>aBv y (Nat.le_trans (kL (f:=jr) bt) h)) hl
theorem aBw (x:b7):zI x x=some true:=by
 unfold zI
 simp only[sv,sw,uP,cond_false,Option.bind_some,Bool.not_true]
theorem aBx (x:List b7) (h:(x.length+0)≤1048576):zJ x x=some true:=by
 unfold zJ
 have hl:x.length≤1048576:=by omega
 rw[rf,cond_false]
 exact uO (f:=zI) x (fun _ _=>rfl) (fun y bt=>aBw y) hl
theorem aBy (x:List (List b7)) (h:(dm (fun x=>x.length+0) x)≤1048576):DI x x=some true:=by
 unfold DI
 have hl:x.length≤1048576:=Nat.le_trans (iN _ _) h
 rw[rf,cond_false]
 exact uO (f:=zJ) x (fun _ _=>rfl) (fun y bt=>aBx y (Nat.le_trans (kL (f:=(fun x=>x.length+0)) bt) h)) hl
theorem aBz (x:bJ) (h:(kM x)≤1048576):zK x x=some true:=by
 unfold zK
 unfold kM at h
 simp only[sv,sw,uP,cond_false,Option.bind_some,Bool.not_true,aBy x.cO (by omega)]
theorem aBA (x:List bJ) (h:(dm kM x)≤1048576):DK x x=some true:=by
 unfold DK
 have hl:x.length≤1048576:=Nat.le_trans (iN _ _) h
 rw[rf,cond_false]
 exact uO (f:=zK) x (fun _ _=>rfl) (fun y bt=>aBz y (Nat.le_trans (kL (f:=kM) bt) h)) hl
theorem aBB (x:bj) (h:(lz x)≤1048576):zL x x=some true:=by
 unfold zL
 unfold lz at h
 simp only[sv,sw,uP,cond_false,Option.bind_some,Bool.not_true,aBA x.Body (by omega)]
theorem aBC (x:List bj) (h:(dm lz x)≤1048576):DM x x=some true:=by
 unfold DM
 have hl:x.length≤1048576:=Nat.le_trans (iN _ _) h
 rw[rf,cond_false]
 exact uO (f:=zL) x (fun _ _=>rfl) (fun y bt=>aBB y (Nat.le_trans (kL (f:=lz) bt) h)) hl
theorem aBD (x:dk) (h:(kN x)≤1048576):zM x x=some true:=by
 unfold zM
 unfold kN at h
 simp only[sv,sw,uP,cond_false,Option.bind_some,Bool.not_true,QB x.bS (by omega)]
theorem aBE (x:List dk) (h:(dm kN x)≤1048576):DO x x=some true:=by
 unfold DO
 have hl:x.length≤1048576:=Nat.le_trans (iN _ _) h
 rw[rf,cond_false]
 exact uO (f:=zM) x (fun _ _=>rfl) (fun y bt=>aBD y (Nat.le_trans (kL (f:=kN) bt) h)) hl
theorem aBF (x:cb) (h:(kO x)≤1048576):zN x x=some true:=by
 unfold zN
 unfold kO at h
 simp only[sv,sw,uP,cond_false,Option.bind_some,Bool.not_true]
theorem aBG (x:List cb) (h:(dm kO x)≤1048576):DQ x x=some true:=by
 unfold DQ
 have hl:x.length≤1048576:=Nat.le_trans (iN _ _) h
 rw[rf,cond_false]
 exact uO (f:=zN) x (fun _ _=>rfl) (fun y bt=>aBF y (Nat.le_trans (kL (f:=kO) bt) h)) hl
theorem QD (x:List (List UInt8)) (h:(dm List.length x)≤1048576):zO x x=some true:=by
 unfold zO
 have hl:x.length≤1048576:=Nat.le_trans (iN _ _) h
 rw[rf,cond_false]
 exact Qr x (fun _ _=>rfl) sw hl
theorem aBH (x:ea) (h:(pK x)≤1048576):zP x x=some true:=by
 unfold zP
 unfold pK at h
 simp only[sv,sw,uP,cond_false,Option.bind_some,Bool.not_true,aBC x.ew (by omega),aBE x.c8 (by omega),aBG x.hE (by omega),QD x.hv (by omega),QD x.hx (by omega)]
theorem xj (k:Int) (bf:0≤k) (ae:k≤1099511627776):∃t,q5 k=some t:=by
 have key:∀(n:Nat) (k:Int),0≤k→k≤n→n≤1099511627776→∀t:List UInt8,t.length+n≤1099511627776→∃r,∀m,n<m→se m k t=some r:=by
  intro n
  induction n with
  |zero=>
   intro k h1 ah aC t ba
   refine⟨[109]++t,fun m hm=> ?_⟩
   obtain⟨m,rfl⟩:∃j,m=j+1:=⟨m-1,by omega⟩
   simp only[se,zQ]
   rw[show decide (0<k)=false by simp;omega,cond_false,show pP (1+t.length)=some () by unfold pP;rw[if_pos (by omega)]]
   rfl
  |succ n ih=>
   intro k h1 ah aC t ba
   by_cases hk:0<k
   ·have aj:Int.tdiv k 10=k/10:=Int.tdiv_eq_ediv_of_nonneg h1
    have hw:IntKind.i64.wrap (Int.tdiv k 10)=k/10:=by rw[aj];exact fl _ (by omega)
    obtain⟨r,aX⟩:=ih (k/10) (by omega) (by omega) (by omega) ([(qC (IntKind.i64.wrap (48+(Int.tmod k 10))))]++t) (by simp only[List.length_append,List.length_cons,List.length_nil];omega)
    refine⟨r,fun m hm=> ?_⟩
    obtain⟨m,rfl⟩:∃j,m=j+1:=⟨m-1,by omega⟩
    simp only[se,zQ]
    rw[show decide (0<k)=true by simp;omega,cond_true,show pP (1+t.length)=some () by unfold pP;rw[if_pos (by omega)]]
    simp only[Option.bind_some,hw]
    exact aX m (by omega)
   ·refine⟨[109]++t,fun m hm=> ?_⟩
    obtain⟨m,rfl⟩:∃j,m=j+1:=⟨m-1,by omega⟩
    simp only[se,zQ]
    rw[show decide (0<k)=false by simp;omega,cond_false,show pP (1+t.length)=some () by unfold pP;rw[if_pos (by omega)]]
    rfl
 unfold q5
 by_cases hk:k≤0
 ·exact⟨_,by rw[show decide (k≤0)=true by simpa using hk];rfl⟩
 ·obtain⟨r,aX⟩:=key k.toNat k bf (by omega) (by omega) [] (by simp only[List.length_nil];omega)
  exact⟨r,by rw[show decide (k≤0)=false by simp;omega,cond_false];exact iX (k.toNat+1) fun m hm=>aX m (by omega)⟩
theorem aBI (x:List b7) (k:Int) (bf:0≤k) (ae:k+64*(x.length+0)≤1099511627776):∃(cz:List b7) (c:Nat),c≤64*(x.length+0)∧DT x k=some (k+(c:Int),cz):=by
 unfold DT
 have e:gB (fun _=>64) x=64*x.length:=IX 64 x
 obtain⟨cz,c,h1,ah⟩:=uT (l:=uc) (fun _=>64) (fun m v k=>by simp only[uc,DS];rw[fq (Nat.le_refl _)];rfl) (fun x k bf ae=>by
  have fe:IntKind.i64.wrap (k+1)=k+1:=fl _ (by omega)
  have gg:IntKind.i64.wrap ((k+1)+1)=(k+1)+1:=fl _ (by omega)
  refine⟨(b7.mk k (k+1)),1+1,by omega,fun m d r aj=> ?_⟩
  simp only[uc,DS]
  rw[pE]
  simp only[cond_true,pD,rh,Option.bind_some,fe,gg]
  rw[pF aj]
  rw[show(((k+1)+1):Int)=k+((1+1:Nat):Int) by omega]) x k bf (by omega) (by omega)
 exact⟨cz,c,by omega,ah⟩
theorem aBJ (x:List (List b7)) (k:Int) (bf:0≤k) (ae:k+64*(dm (fun x=>x.length+0) x)≤1099511627776):∃(cz:List (List b7)) (c:Nat),c≤64*(dm (fun x=>x.length+0) x)∧DV x k=some (k+(c:Int),cz):=by
 unfold DV
 have e:gB (fun x=>64*((x.length+0)+1)) x=64*dm (fun x=>x.length+0) x:=sy (fun x=>x.length+0) x
 have hl:x.length≤dm (fun x=>x.length+0) x:=iN _ _
 obtain⟨cz,c,h1,ah⟩:=uT (l:=ud) (fun x=>64*((x.length+0)+1)) (fun m v k=>by simp only[ud,DU];rw[fq (Nat.le_refl _)];rfl) (fun x k bf ae=>by
  obtain⟨eT,cB,kW,m1⟩:=aBI x k (by omega) (by omega)
  refine⟨eT,cB,by omega,fun m d r aj=> ?_⟩
  simp only[ud,DU]
  rw[pE]
  simp only[cond_true,pD,rh,Option.bind_some,m1]
  rw[pF aj]) x k bf (by omega) (by omega)
 exact⟨cz,c,by omega,ah⟩
theorem aBK (x:List bJ) (k:Int) (bf:0≤k) (ae:k+64*(dm kM x)≤1099511627776):∃(cz:List bJ) (c:Nat),c≤64*(dm kM x)∧DX x k=some (k+(c:Int),cz):=by
 unfold DX
 have e:gB (fun x=>64*((kM x)+1)) x=64*dm kM x:=sy kM x
 have hl:x.length≤dm kM x:=iN _ _
 obtain⟨cz,c,h1,ah⟩:=uT (l:=ue) (fun x=>64*((kM x)+1)) (fun m v k=>by simp only[ue,DW];rw[fq (Nat.le_refl _)];rfl) (fun x k bf ae=>by
  simp only[kM]at ae⊢
  have fe:IntKind.i64.wrap (k+1)=k+1:=fl _ (by omega)
  have gg:IntKind.i64.wrap ((k+1)+1)=(k+1)+1:=fl _ (by omega)
  obtain⟨e4,t3⟩:=xj ((k+1)+1) (by omega) (by omega)
  have mJ:IntKind.i64.wrap (((k+1)+1)+1)=((k+1)+1)+1:=fl _ (by omega)
  obtain⟨pC,mX,b4,m4⟩:=aBJ x.cO (((k+1)+1)+1) (by omega) (by omega)
  refine⟨(bJ.mk k (k+1) e4 pC),1+1+1+mX,by omega,fun m d r aj=> ?_⟩
  simp only[ue,DW]
  rw[pE]
  simp only[cond_true,pD,rh,Option.bind_some,fe,gg,t3,mJ,m4]
  rw[pF aj]
  rw[show(((((k+1)+1)+1)+(mX:Int)):Int)=k+((1+1+1+mX:Nat):Int) by omega]) x k bf (by omega) (by omega)
 exact⟨cz,c,by omega,ah⟩
theorem aBL (x:List bj) (k:Int) (bf:0≤k) (ae:k+64*(dm lz x)≤1099511627776):∃(cz:List bj) (c:Nat),c≤64*(dm lz x)∧DZ x k=some (k+(c:Int),cz):=by
 unfold DZ
 have e:gB (fun x=>64*((lz x)+1)) x=64*dm lz x:=sy lz x
 have hl:x.length≤dm lz x:=iN _ _
 obtain⟨cz,c,h1,ah⟩:=uT (l:=uf) (fun x=>64*((lz x)+1)) (fun m v k=>by simp only[uf,DY];rw[fq (Nat.le_refl _)];rfl) (fun x k bf ae=>by
  simp only[lz]at ae⊢
  obtain⟨s1,t1⟩:=xj k (by omega) (by omega)
  have fe:IntKind.i64.wrap (k+1)=k+1:=fl _ (by omega)
  have gg:IntKind.i64.wrap ((k+1)+1)=(k+1)+1:=fl _ (by omega)
  obtain⟨kE,je,lJ,m3⟩:=aBK x.Body ((k+1)+1) (by omega) (by omega)
  refine⟨(bj.mk s1 (k+1) kE),1+1+je,by omega,fun m d r aj=> ?_⟩
  simp only[uf,DY]
  rw[pE]
  simp only[cond_true,pD,rh,Option.bind_some,t1,fe,gg,m3]
  rw[pF aj]
  rw[show((((k+1)+1)+(je:Int)):Int)=k+((1+1+je:Nat):Int) by omega]) x k bf (by omega) (by omega)
 exact⟨cz,c,by omega,ah⟩
theorem QE (x:List Int) (k:Int) (bf:0≤k) (ae:k+64*(x.length+0)≤1099511627776):∃(cz:List Int) (c:Nat),c≤64*(x.length+0)∧zR x k=some (k+(c:Int),cz)∧D9 cz k=some (k+(c:Int)):=by
 unfold zR D9
 have e:gB (fun _=>64) x=64*x.length:=IX 64 x
 obtain⟨cz,c,h1,ah,aC⟩:=Qu (l:=ug) (hl:=uo) (fun _=>64) (fun m v k=>by simp only[ug,D0];rw[fq (Nat.le_refl _)];rfl) (fun a m k=>by simp only[uo,D8];rw[fq (Nat.le_refl _)];rfl) (fun x k bf ae=>by
  have fe:IntKind.i64.wrap (k+1)=k+1:=fl _ (by omega)
  refine⟨k,1,by omega,fun m d r aj=>⟨?_,?_⟩⟩
  ·simp only[ug,D0]
   rw[pE]
   simp only[cond_true,pD,rh,Option.bind_some,fe]
   rw[pF aj]
   rw[show((k+1):Int)=k+((1:Nat):Int) by omega]
  ·simp only[uo,D8]
   rw[pE]
   simp only[cond_true,cond_false,pD,Option.bind_some,bne_self_eq_false,beq_self_eq_true,Bool.not_true,fe]
   rw[pF aj]
   rw[show((k+1):Int)=k+((1:Nat):Int) by omega]) x k bf (by omega) (by omega)
 exact⟨cz,c,by omega,ah,aC⟩
theorem aBM (x:List dk) (k:Int) (bf:0≤k) (ae:k+64*(dm kN x)≤1099511627776):∃(cz:List dk) (c:Nat),c≤64*(dm kN x)∧D2 x k=some (k+(c:Int),cz):=by
 unfold D2
 have e:gB (fun x=>64*((kN x)+1)) x=64*dm kN x:=sy kN x
 have hl:x.length≤dm kN x:=iN _ _
 obtain⟨cz,c,h1,ah⟩:=uT (l:=uh) (fun x=>64*((kN x)+1)) (fun m v k=>by simp only[uh,D1];rw[fq (Nat.le_refl _)];rfl) (fun x k bf ae=>by
  simp only[kN]at ae⊢
  have fe:IntKind.i64.wrap (k+1)=k+1:=fl _ (by omega)
  obtain⟨gV,cu,iP,m2⟩:=QE x.bS (k+1) (by omega) (by omega)
  refine⟨(dk.mk k gV),1+cu,by omega,fun m d r aj=> ?_⟩
  simp only[uh,D1]
  rw[pE]
  simp only[cond_true,pD,rh,Option.bind_some,fe,m2]
  rw[pF aj]
  rw[show(((k+1)+(cu:Int)):Int)=k+((1+cu:Nat):Int) by omega]) x k bf (by omega) (by omega)
 exact⟨cz,c,by omega,ah⟩
theorem aBN (x:List cb) (k:Int) (bf:0≤k) (ae:k+64*(dm kO x)≤1099511627776):∃(cz:List cb) (c:Nat),c≤64*(dm kO x)∧D4 x k=some (k+(c:Int),cz):=by
 unfold D4
 have e:gB (fun x=>64*((kO x)+1)) x=64*dm kO x:=sy kO x
 have hl:x.length≤dm kO x:=iN _ _
 obtain⟨cz,c,h1,ah⟩:=uT (l:=ui) (fun x=>64*((kO x)+1)) (fun m v k=>by simp only[ui,D3];rw[fq (Nat.le_refl _)];rfl) (fun x k bf ae=>by
  simp only[kO]at ae⊢
  obtain⟨s1,t1⟩:=xj k (by omega) (by omega)
  have fe:IntKind.i64.wrap (k+1)=k+1:=fl _ (by omega)
  obtain⟨s2,t2⟩:=xj (k+1) (by omega) (by omega)
  have gg:IntKind.i64.wrap ((k+1)+1)=(k+1)+1:=fl _ (by omega)
  obtain⟨e4,t3⟩:=xj ((k+1)+1) (by omega) (by omega)
  have mJ:IntKind.i64.wrap (((k+1)+1)+1)=((k+1)+1)+1:=fl _ (by omega)
  refine⟨(cb.mk s1 s2 e4),1+1+1,by omega,fun m d r aj=> ?_⟩
  simp only[ui,D3]
  rw[pE]
  simp only[cond_true,pD,rh,Option.bind_some,t1,fe,t2,gg,t3,mJ]
  rw[pF aj]
  rw[show((((k+1)+1)+1):Int)=k+((1+1+1:Nat):Int) by omega]) x k bf (by omega) (by omega)
 exact⟨cz,c,by omega,ah⟩
theorem QF (x:List (List UInt8)) (k:Int) (bf:0≤k) (ae:k+64*(dm List.length x)≤1099511627776):∃(cz:List (List UInt8)) (c:Nat),c≤64*(dm List.length x)∧zS x k=some (k+(c:Int),cz):=by
 unfold zS
 have e:gB (fun x=>64*(x.length+1)) x=64*dm List.length x:=sy List.length x
 have hl:x.length≤dm List.length x:=iN _ _
 obtain⟨cz,c,h1,ah⟩:=uT (l:=uj) (fun x=>64*(x.length+1)) (fun m v k=>by simp only[uj,D5];rw[fq (Nat.le_refl _)];rfl) (fun x k bf ae=>by
  obtain⟨s1,t1⟩:=xj k (by omega) (by omega)
  have fe:IntKind.i64.wrap (k+1)=k+1:=fl _ (by omega)
  refine⟨s1,1,by omega,fun m d r aj=> ?_⟩
  simp only[uj,D5]
  rw[pE]
  simp only[cond_true,pD,rh,Option.bind_some,t1,fe]
  rw[pF aj]
  rw[show((k+1):Int)=k+((1:Nat):Int) by omega]) x k bf (by omega) (by omega)
 exact⟨cz,c,by omega,ah⟩
theorem aBO (x:ea) (k:Int) (bf:0≤k) (ae:k+64*((pK x)+1)≤1099511627776):∃(fu:List bj) (eT:List dk) (gV:List cb) (kE:List (List UInt8)) (pC:List (List UInt8)) (c:Nat),c≤64*((pK x)+1)∧D6 x.ew x.c8 x.hE x.hv x.hx k=some (k+(c:Int),fu,eT,gV,kE,pC):=by
 unfold D6
 simp only[pK]at ae⊢
 obtain⟨eT,cB,kW,m1⟩:=aBL x.ew k (by omega) (by omega)
 obtain⟨gV,cu,iP,m2⟩:=aBM x.c8 (k+(cB:Int)) (by omega) (by omega)
 obtain⟨kE,je,lJ,m3⟩:=aBN x.hE ((k+(cB:Int))+(cu:Int)) (by omega) (by omega)
 obtain⟨pC,mX,b4,m4⟩:=QF x.hv (((k+(cB:Int))+(cu:Int))+(je:Int)) (by omega) (by omega)
 obtain⟨aBP,s8,cN,m5⟩:=QF x.hx ((((k+(cB:Int))+(cu:Int))+(je:Int))+(mX:Int)) (by omega) (by omega)
 refine⟨eT,gV,kE,pC,aBP,cB+cu+je+mX+s8,by omega,?_⟩
 simp only[Option.bind_some,m1,m2,m3,m4,m5]
 rw[show(k+((cB+cu+je+mX+s8:Nat):Int))=(((((k+(cB:Int))+(cu:Int))+(je:Int))+(mX:Int))+(s8:Int)) by omega]
theorem QG (x:List aW) (k:Int) (bf:0≤k) (ae:k+64*(dm jr x)≤1099511627776):∃(cz:List aW) (c:Nat),c≤64*(dm jr x)∧zT x k=some (k+(c:Int),cz)∧zU cz k=some (k+(c:Int)):=by
 unfold zT zU
 have e:gB (fun x=>64*((jr x)+1)) x=64*dm jr x:=sy jr x
 have hl:x.length≤dm jr x:=iN _ _
 obtain⟨cz,c,h1,ah,aC⟩:=Qu (l:=um) (hl:=uq) (fun x=>64*((jr x)+1)) (fun m v k=>by simp only[um,D7];rw[fq (Nat.le_refl _)];rfl) (fun a m k=>by simp only[uq,D_];rw[fq (Nat.le_refl _)];rfl) (fun x k bf ae=>by
  simp only[jr]at ae⊢
  have fe:IntKind.i64.wrap (k+1)=k+1:=fl _ (by omega)
  have gg:IntKind.i64.wrap ((k+1)+1)=(k+1)+1:=fl _ (by omega)
  obtain⟨kE,je,lJ,m3,h7⟩:=QE x.bS ((k+1)+1) (by omega) (by omega)
  have gL:=IW (k:=(((k+1)+1)+(je:Int))) (by omega)
  refine⟨(aW.mk k (k+1) kE),1+1+je,by omega,fun m d r aj=>⟨?_,?_⟩⟩
  ·simp only[um,D7]
   rw[pE]
   simp only[cond_true,pD,rh,Option.bind_some,fe,gg,m3]
   rw[pF aj]
   rw[show((((k+1)+1)+(je:Int)):Int)=k+((1+1+je:Nat):Int) by omega]
  ·simp only[uq,D_]
   rw[pE]
   simp only[cond_true,cond_false,pD,Option.bind_some,bne_self_eq_false,beq_self_eq_true,Bool.not_true,h7,gL,fe,gg]
   rw[pF aj]
   rw[show((((k+1)+1)+(je:Int)):Int)=k+((1+1+je:Nat):Int) by omega]) x k bf (by omega) (by omega)
 exact⟨cz,c,by omega,ah,aC⟩
end Go.eN
