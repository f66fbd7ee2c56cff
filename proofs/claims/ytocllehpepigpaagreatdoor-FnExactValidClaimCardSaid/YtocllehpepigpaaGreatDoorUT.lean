/- Part of a proof that a law returns true for every input. No condition. -/
import Derived.Test.YtocllehpepigpaaGreatDoorP3
import Derived.Test.YtocllehpepigpaaGreatDoorUG
namespace Go.gB
open Go Go.cI
set_option linter.unusedSimpArgs false
theorem Kb (x:List (List UInt8)) (n:Int) (ai:(x.length≤9223372036854775807∧∀y∈x,y.length≤9223372036854775807)) (bm:0≤n) (aV:n≤1048576):vv x n=some (hO n (ha List.length x)):=by
 unfold vv
 refine pL ai.1 bm aV fun h=> ?_
 rw[e0 _ (by omega)]
 exact ajY x (fun _ _ _=>rfl) ai.2 (by omega) _ (by omega) (by omega)
theorem aj0 (x:List jh) (n:Int) (ai:(x.length≤9223372036854775807∧∀y∈x,xT y)) (bm:0≤n) (aV:n≤1048576):xW x n=some (hO n (x.length+0)):=by
 unfold xW
 refine pL ai.1 bm aV fun h=> ?_
 rw[e0 _ (by omega)]
 exact r4 (by omega)
def mx (x:hS):Nat:=((ha List.length x.cW)+((x.cB.length+0)+0))
theorem aj1 (x:hS) (n:Int) (ai:vt x) (bm:0≤n) (aV:n≤1048576):vw x n=some (hO n (mx x)):=by
 unfold vw
 unfold mx
 obtain⟨w0,kg,ir,ll⟩:=ai
 refine qJ (Kb _ _ ir (by omega) (by omega)) fun c2=> ?_
 refine qJ (aj0 _ _ ll (by omega) (by omega)) fun c3=> ?_
 exact r4 (by omega)
theorem aj2 (x:List hS) (n:Int) (ai:(x.length≤9223372036854775807∧∀y∈x,vt y)) (bm:0≤n) (aV:n≤1048576):xY x n=some (hO n (ha mx x)):=by
 unfold xY
 refine pL ai.1 bm aV fun h=> ?_
 rw[e0 _ (by omega)]
 exact z1 (f:=vw) mx x (fun _ _ _=>rfl) (fun y hy n bm aV=>aj1 y n (ai.2 y hy) bm aV) (by omega) _ (by omega) (by omega)
theorem aj3 (x:List Int) (n:Int) (ai:(x.length≤9223372036854775807∧∀y∈x,(-9223372036854775808≤y∧y≤9223372036854775807))) (bm:0≤n) (aV:n≤1048576):vx x n=some (hO n (x.length+0)):=by
 unfold vx
 refine pL ai.1 bm aV fun h=> ?_
 rw[e0 _ (by omega)]
 exact r4 (by omega)
theorem aj4 (x:List (List Int)) (n:Int) (ai:(x.length≤9223372036854775807∧∀y∈x,(y.length≤9223372036854775807∧∀z∈y,(-9223372036854775808≤z∧z≤9223372036854775807)))) (bm:0≤n) (aV:n≤1048576):x0 x n=some (hO n (ha (fun x=>x.length+0) x)):=by
 unfold x0
 refine pL ai.1 bm aV fun h=> ?_
 rw[e0 _ (by omega)]
 exact z1 (f:=vx) (fun x=>x.length+0) x (fun _ _ _=>rfl) (fun y hy n bm aV=>aj3 y n (ai.2 y hy) bm aV) (by omega) _ (by omega) (by omega)
def my (x:hH):Nat:=(x.Label.length+0)
theorem aj5 (x:hH) (n:Int) (ai:vu x) (bm:0≤n) (aV:n≤1048576):vy x n=some (hO n (my x)):=by
 unfold vy
 unfold my
 obtain⟨w0,kg,ir,ll⟩:=ai
 refine pL ir (by omega) (by omega) fun c2=> ?_
 rw[e0 (n-(x.Label.length:Int)) (by omega)]
 exact r4 (by omega)
theorem aj6 (x:List hH) (n:Int) (ai:(x.length≤9223372036854775807∧∀y∈x,vu y)) (bm:0≤n) (aV:n≤1048576):x2 x n=some (hO n (ha my x)):=by
 unfold x2
 refine pL ai.1 bm aV fun h=> ?_
 rw[e0 _ (by omega)]
 exact z1 (f:=vy) my x (fun _ _ _=>rfl) (fun y hy n bm aV=>aj5 y n (ai.2 y hy) bm aV) (by omega) _ (by omega) (by omega)
def l5 (x:gQ):Nat:=((ha (fun x=>x.length+0) x.gz)+((ha my x.Formula)+0))
theorem Kc (x:gQ) (n:Int) (ai:rG x) (bm:0≤n) (aV:n≤1048576):tk x n=some (hO n (l5 x)):=by
 unfold tk
 unfold l5
 obtain⟨w0,kg,ir,ll,r3⟩:=ai
 refine qJ (aj4 _ _ ll (by omega) (by omega)) fun c3=> ?_
 refine qJ (aj6 _ _ r3 (by omega) (by omega)) fun c4=> ?_
 exact r4 (by omega)
theorem aj7 (x:List gQ) (n:Int) (ai:(x.length≤9223372036854775807∧∀y∈x,rG y)) (bm:0≤n) (aV:n≤1048576):x4 x n=some (hO n (ha l5 x)):=by
 unfold x4
 refine pL ai.1 bm aV fun h=> ?_
 rw[e0 _ (by omega)]
 exact z1 (f:=tk) l5 x (fun _ _ _=>rfl) (fun y hy n bm aV=>Kc y n (ai.2 y hy) bm aV) (by omega) _ (by omega) (by omega)
def oo (x:ky):Nat:=((ha List.length x.Names)+((ha mx x.dB)+((ha l5 x.ji)+0)))
theorem aj8 (x:ky) (n:Int) (ai:xU x) (bm:0≤n) (aV:n≤1048576):x5 x n=some (hO n (oo x)):=by
 unfold x5
 unfold oo
 obtain⟨w0,kg,ir⟩:=ai
 refine qJ (Kb _ _ w0 (by omega) (by omega)) fun c0=> ?_
 refine qJ (aj2 _ _ kg (by omega) (by omega)) fun b5=> ?_
 refine qJ (aj7 _ _ ir (by omega) (by omega)) fun c2=> ?_
 exact r4 (by omega)
theorem Kd (x:List (List UInt8)) (h:(ha List.length x)≤1048576):vz x=some x:=by
 unfold vz
 have aO:x.length≤1048576:=Nat.le_trans (mw _ _) h
 rw[qK _ aO (by decide)]
 simp only[Option.bind_some]
 rw[r5 (f:=some) id x _ (fun _ _ _=>rfl) (fun _ _=>rfl) aO,List.map_id]
def z7 (x:jh):ek:=⟨x.er,x.Label,x.gi⟩
theorem aj9 (x:jh):vA x=some (z7 x):=by
 unfold vA
 rfl
theorem aj_ (x:List jh) (h:(x.length+0)≤1048576):x8 x=some (x.map z7):=by
 unfold x8
 have aO:x.length≤1048576:=by omega
 rw[qK _ aO (by decide)]
 simp only[Option.bind_some]
 rw[r5 (f:=vA) z7 x _ (fun _ _ _=>rfl) (fun y hy=>aj9 y) aO]
def qL (x:hS):dC:=⟨x.eW,x.iL,x.cW,(x.cB.map z7)⟩
def r7 (x:dC):Nat:=((ha List.length x.cW)+((x.cB.length+0)+0))
theorem aka (x:hS):r7 (qL x)=mx x:=by
 simp only[r7,mx,qL,zZ,List.length_map]
theorem akb (x:hS) (h:(mx x)≤1048576):vB x=some (qL x):=by
 unfold vB
 unfold mx at h
 rw[Kd _ (by omega),aj_ _ (by omega)]
 rfl
theorem akc (x:List hS) (h:(ha mx x)≤1048576):x_ x=some (x.map qL):=by
 unfold x_
 have aO:x.length≤1048576:=Nat.le_trans (mw _ _) h
 rw[qK _ aO (by decide)]
 simp only[Option.bind_some]
 rw[r5 (f:=vB) qL x _ (fun _ _ _=>rfl) (fun y hy=>akb y (Nat.le_trans (nL (f:=mx) hy) h)) aO]
theorem akd (x:List Int) (h:(x.length+0)≤1048576):vC x=some x:=by
 unfold vC
 have aO:x.length≤1048576:=by omega
 rw[qK _ aO (by decide)]
 simp only[Option.bind_some]
 rw[r5 (f:=some) id x _ (fun _ _ _=>rfl) (fun _ _=>rfl) aO,List.map_id]
theorem ake (x:List (List Int)) (h:(ha (fun x=>x.length+0) x)≤1048576):yc x=some x:=by
 unfold yc
 have aO:x.length≤1048576:=Nat.le_trans (mw _ _) h
 rw[qK _ aO (by decide)]
 simp only[Option.bind_some]
 rw[r5 (f:=vC) id x _ (fun _ _ _=>rfl) (fun y hy=>akd y (Nat.le_trans (nL (f:=(fun x=>x.length+0)) hy) h)) aO,List.map_id]
def r8 (x:hH):bZ:=⟨x.Kind,x.Variable,x.Label,x.Not⟩
def r9 (x:bZ):Nat:=(x.Label.length+0)
theorem akf (x:hH):r9 (r8 x)=my x:=by
 simp only[r9,my,r8,zZ,List.length_map]
theorem akg (x:hH) (h:(my x)≤1048576):vD x=some (r8 x):=by
 unfold vD
 unfold my at h
 rfl
theorem akh (x:List hH) (h:(ha my x)≤1048576):ye x=some (x.map r8):=by
 unfold ye
 have aO:x.length≤1048576:=Nat.le_trans (mw _ _) h
 rw[qK _ aO (by decide)]
 simp only[Option.bind_some]
 rw[r5 (f:=vD) r8 x _ (fun _ _ _=>rfl) (fun y hy=>akg y (Nat.le_trans (nL (f:=my) hy) h)) aO]
def oq (x:gQ):dM:=⟨x.Kind,x.Left,x.hT,x.gz,(x.Formula.map r8)⟩
def r_ (x:dM):Nat:=((ha (fun x=>x.length+0) x.gz)+((ha r9 x.Formula)+0))
theorem Ke (x:gQ):r_ (oq x)=l5 x:=by
 simp only[r_,l5,oq,zZ,List.length_map,akf]
theorem Kf (x:gQ) (h:(l5 x)≤1048576):qq x=some (oq x):=by
 unfold qq
 unfold l5 at h
 rw[ake _ (by omega),akh _ (by omega)]
 rfl
theorem aki (x:List gQ) (h:(ha l5 x)≤1048576):yg x=some (x.map oq):=by
 unfold yg
 have aO:x.length≤1048576:=Nat.le_trans (mw _ _) h
 rw[qK _ aO (by decide)]
 simp only[Option.bind_some]
 rw[r5 (f:=qq) oq x _ (fun _ _ _=>rfl) (fun y hy=>Kf y (Nat.le_trans (nL (f:=l5) hy) h)) aO]
def sa (x:ky):gx:=⟨x.Names,(x.dB.map qL),(x.ji.map oq)⟩
def z8 (x:gx):Nat:=((ha List.length x.Names)+((ha r7 x.dB)+((ha r_ x.ji)+0)))
theorem akj (x:ky):z8 (sa x)=oo x:=by
 simp only[z8,oo,sa,zZ,List.length_map,aka,Ke]
theorem akk (x:ky) (h:(oo x)≤1048576):tl x=some (sa x):=by
 unfold tl
 unfold oo at h
 rw[Kd _ (by omega),akc _ (by omega),aki _ (by omega)]
 rfl
theorem Kg (x:List (List UInt8)) (h:(ha List.length x)≤1048576):v7 x x=some true:=by
 unfold v7
 have aO:x.length≤1048576:=Nat.le_trans (mw _ _) h
 rw[r6,cond_false]
 exact J9 x (fun _ _=>rfl) t_ aO
theorem akl (x:ek):v8 x x=some true:=by
 unfold v8
 simp only[tZ,t_,wN,cond_false,Option.bind_some,Bool.not_true]
theorem akm (x:List ek) (h:(x.length+0)≤1048576):zk x x=some true:=by
 unfold zk
 have aO:x.length≤1048576:=by omega
 rw[r6,cond_false]
 exact wM (f:=v8) x (fun _ _=>rfl) (fun y hy=>akl y) aO
theorem akn (x:dC) (h:(r7 x)≤1048576):v_ x x=some true:=by
 unfold v_
 unfold r7 at h
 simp only[tZ,t_,wN,cond_false,Option.bind_some,Bool.not_true,Kg x.cW (by omega),akm x.cB (by omega)]
theorem ako (x:List dC) (h:(ha r7 x)≤1048576):zm x x=some true:=by
 unfold zm
 have aO:x.length≤1048576:=Nat.le_trans (mw _ _) h
 rw[r6,cond_false]
 exact wM (f:=v_) x (fun _ _=>rfl) (fun y hy=>akn y (Nat.le_trans (nL (f:=r7) hy) h)) aO
theorem akp (x:List Int) (h:(x.length+0)≤1048576):wa x x=some true:=by
 unfold wa
 have aO:x.length≤1048576:=by omega
 rw[r6,cond_false]
 exact J9 x (fun _ _=>rfl) tZ aO
theorem akq (x:List (List Int)) (h:(ha (fun x=>x.length+0) x)≤1048576):zp x x=some true:=by
 unfold zp
 have aO:x.length≤1048576:=Nat.le_trans (mw _ _) h
 rw[r6,cond_false]
 exact wM (f:=wa) x (fun _ _=>rfl) (fun y hy=>akp y (Nat.le_trans (nL (f:=(fun x=>x.length+0)) hy) h)) aO
theorem akr (x:bZ) (h:(r9 x)≤1048576):wb x x=some true:=by
 unfold wb
 unfold r9 at h
 simp only[tZ,t_,wN,cond_false,Option.bind_some,Bool.not_true]
theorem aks (x:List bZ) (h:(ha r9 x)≤1048576):zr x x=some true:=by
 unfold zr
 have aO:x.length≤1048576:=Nat.le_trans (mw _ _) h
 rw[r6,cond_false]
 exact wM (f:=wb) x (fun _ _=>rfl) (fun y hy=>akr y (Nat.le_trans (nL (f:=r9) hy) h)) aO
theorem Kh (x:dM) (h:(r_ x)≤1048576):tI x x=some true:=by
 unfold tI
 unfold r_ at h
 simp only[tZ,t_,wN,cond_false,Option.bind_some,Bool.not_true,akq x.gz (by omega),aks x.Formula (by omega)]
theorem akt (x:List dM) (h:(ha r_ x)≤1048576):zt x x=some true:=by
 unfold zt
 have aO:x.length≤1048576:=Nat.le_trans (mw _ _) h
 rw[r6,cond_false]
 exact wM (f:=tI) x (fun _ _=>rfl) (fun y hy=>Kh y (Nat.le_trans (nL (f:=r_) hy) h)) aO
theorem aku (x:gx) (h:(z8 x)≤1048576):zu x x=some true:=by
 unfold zu
 unfold z8 at h
 simp only[tZ,t_,wN,cond_false,Option.bind_some,Bool.not_true,Kg x.Names (by omega),ako x.dB (by omega),akt x.ji (by omega)]
end Go.gB
