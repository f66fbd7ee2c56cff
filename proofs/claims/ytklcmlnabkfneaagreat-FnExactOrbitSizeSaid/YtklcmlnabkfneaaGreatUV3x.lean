/- Part of a proof that a law returns true for every input. No condition. -/
import Derived.Test.YtklcmlnabkfneaaGreatP6
import Derived.Test.YtklcmlnabkfneaaGreatUV0x
import Derived.Test.YtklcmlnabkfneaaGreatUV2x
import Derived.Test.YtklcmlnabkfneaaGreatUV1x
namespace Go.ll
open List Option Go.IntKind Nat Or
open Go Go.cU
set_option linter.unusedSimpArgs false
theorem ae7 (x:aiJ) (n:Int) (ar:(x.length<=9223372036854775807/\∀y∈x,ui y)) (a7:0<=n) (aP:n<=1048576):xe x n=some (gP n (x.length+0)):=by
 unfold xe;refine lV ar.1 a7 aP λh=>?_;rw[gl _ (by omega)];exact qx (by omega)
theorem ae8 (x:aiG) (n:Int) (ar:(x.length<=9223372036854775807/\∀y∈x,(y.length<=9223372036854775807/\∀z∈y,ui z))) (a7:0<=n) (aP:n<=1048576):Ar x n=some (gP n (eE (λx=>x.length+0) x)):=by
 unfold Ar;refine lV ar.1 a7 aP λh=>?_;rw[gl _ (by omega)];exact vh (f:=xe) (λx=>x.length+0) x (λ_ _ _=>rfl) (λy a8 n a7 aP=>ae7 y n (ar.2 y a8) a7 aP) (by omega) _ (by omega) (by omega)
def oF (x:iN):Nat:=(x.Name.length+((eE (λx=>x.length+0) x.da)+0))
theorem ae9 (x:iN) (n:Int) (ar:w_ x) (a7:0<=n) (aP:n<=1048576):xf x n=some (gP n (oF x)):=by
 unfold xf;unfold oF;obtain⟨w0,fQ,fJ,kA⟩:=ar;refine lV fJ (by omega) (by omega) λc2=>?_;rw[gl (n-(x.Name.length:Int)) (by omega)];refine pD (ae8 _ _ kA (by omega) (by omega)) λzC=>?_;exact qx (by omega)
theorem ae_ (x:aiK) (n:Int) (ar:(x.length<=9223372036854775807/\∀y∈x,w_ y)) (a7:0<=n) (aP:n<=1048576):As x n=some (gP n (eE oF x)):=by
 unfold As;refine lV ar.1 a7 aP λh=>?_;rw[gl _ (by omega)];exact vh (f:=xf) oF x (λ_ _ _=>rfl) (λy a8 n a7 aP=>ae9 y n (ar.2 y a8) a7 aP) (by omega) _ (by omega) (by omega)
def oG (x:iO):Nat:=(x.Name.length+((eE oF x.Body)+0))
theorem afa (x:iO) (n:Int) (ar:xa x) (a7:0<=n) (aP:n<=1048576):xg x n=some (gP n (oG x)):=by
 unfold xg;unfold oG;obtain⟨w0,fQ,fJ⟩:=ar;refine lV w0 (by omega) (by omega) λmm=>?_;rw[gl (n-(x.Name.length:Int)) (by omega)];refine pD (ae_ _ _ fJ (by omega) (by omega)) λc2=>?_;exact qx (by omega)
theorem afb (x:aiL) (n:Int) (ar:(x.length<=9223372036854775807/\∀y∈x,xa y)) (a7:0<=n) (aP:n<=1048576):Au x n=some (gP n (eE oG x)):=by
 unfold Au;refine lV ar.1 a7 aP λh=>?_;rw[gl _ (by omega)];exact vh (f:=xg) oG x (λ_ _ _=>rfl) (λy a8 n a7 aP=>afa y n (ar.2 y a8) a7 aP) (by omega) _ (by omega) (by omega)
theorem O3 (x:aiz) (n:Int) (ar:(x.length<=9223372036854775807/\∀y∈x,(-9223372036854775808<=y/\y<=9223372036854775807))) (a7:0<=n) (aP:n<=1048576):xh x n=some (gP n (x.length+0)):=by
 unfold xh;refine lV ar.1 a7 aP λh=>?_;rw[gl _ (by omega)];exact qx (by omega)
def oH (x:iP):Nat:=((x.b4.length+0)+0)
theorem afc (x:iP) (n:Int) (ar:xb x) (a7:0<=n) (aP:n<=1048576):xi x n=some (gP n (oH x)):=by
 unfold xi;unfold oH;obtain⟨w0,fQ⟩:=ar;refine pD (O3 _ _ fQ (by omega) (by omega)) λc1=>?_;exact qx (by omega)
theorem afd (x:aiM) (n:Int) (ar:(x.length<=9223372036854775807/\∀y∈x,xb y)) (a7:0<=n) (aP:n<=1048576):Av x n=some (gP n (eE oH x)):=by
 unfold Av;refine lV ar.1 a7 aP λh=>?_;rw[gl _ (by omega)];exact vh (f:=xi) oH x (λ_ _ _=>rfl) (λy a8 n a7 aP=>afc y n (ar.2 y a8) a7 aP) (by omega) _ (by omega) (by omega)
def oI (x:ix):Nat:=(x.Left.length+(x.b8.length+(x.Result.length+0)))
theorem afe (x:ix) (n:Int) (ar:xc x) (a7:0<=n) (aP:n<=1048576):xj x n=some (gP n (oI x)):=by
 unfold xj;unfold oI;obtain⟨w0,fQ,fJ⟩:=ar;refine lV w0 (by omega) (by omega) λmm=>?_;rw[gl (n-(x.Left.length:Int)) (by omega)];refine lV fQ (by omega) (by omega) λc1=>?_;rw[gl ((n-(x.Left.length:Int))-(x.b8.length:Int)) (by omega)];refine lV fJ (by omega) (by omega) λc2=>?_;rw[gl (((n-(x.Left.length:Int))-(x.b8.length:Int))-(x.Result.length:Int)) (by omega)];exact qx (by omega)
theorem aff (x:aiN) (n:Int) (ar:(x.length<=9223372036854775807/\∀y∈x,xc y)) (a7:0<=n) (aP:n<=1048576):Aw x n=some (gP n (eE oI x)):=by
 unfold Aw;refine lV ar.1 a7 aP λh=>?_;rw[gl _ (by omega)];exact vh (f:=xj) oI x (λ_ _ _=>rfl) (λy a8 n a7 aP=>afe y n (ar.2 y a8) a7 aP) (by omega) _ (by omega) (by omega)
theorem O4 (x:aiw) (n:Int) (ar:(x.length<=9223372036854775807/\∀y∈x,y.length<=9223372036854775807)) (a7:0<=n) (aP:n<=1048576):xk x n=some (gP n (eE length x)):=by
 unfold xk;refine lV ar.1 a7 aP λh=>?_;rw[gl _ (by omega)];exact adN x (λ_ _ _=>rfl) ar.2 (by omega) _ (by omega) (by omega)
def rQ (x:ln):Nat:=((eE oG x.dQ)+((eE oH x.cv)+((eE oI x.hk)+((eE length x.gV)+((eE length x.gW)+0)))))
theorem afg (x:ln) (n:Int) (ar:xd x) (a7:0<=n) (aP:n<=1048576):xl x n=some (gP n (rQ x)):=by
 unfold xl;unfold rQ;obtain⟨w0,fQ,fJ,kA,yT⟩:=ar;refine pD (afb _ _ w0 (by omega) (by omega)) λmm=>?_;refine pD (afd _ _ fQ (by omega) (by omega)) λc1=>?_;refine pD (aff _ _ fJ (by omega) (by omega)) λc2=>?_;refine pD (O4 _ _ kA (by omega) (by omega)) λzC=>?_;refine pD (O4 _ _ yT (by omega) (by omega)) λvJ=>?_;exact qx (by omega)
def mO (x:iQ):Nat:=((x.b4.length+0)+0)
theorem afh (x:iQ) (n:Int) (ar:uj x) (a7:0<=n) (aP:n<=1048576):xm x n=some (gP n (mO x)):=by
 unfold xm;unfold mO;obtain⟨w0,fQ,fJ⟩:=ar;refine pD (O3 _ _ fJ (by omega) (by omega)) λc2=>?_;exact qx (by omega)
theorem afi (x:aiO) (n:Int) (ar:(x.length<=9223372036854775807/\∀y∈x,uj y)) (a7:0<=n) (aP:n<=1048576):Ax x n=some (gP n (eE mO x)):=by
 unfold Ax;refine lV ar.1 a7 aP λh=>?_;rw[gl _ (by omega)];exact vh (f:=xm) mO x (λ_ _ _=>rfl) (λy a8 n a7 aP=>afh y n (ar.2 y a8) a7 aP) (by omega) _ (by omega) (by omega)
def vm (x:hj):c8:=⟨x.Kind,x.Value⟩
theorem afj (x:hj):xn x=some (vm x):=by
 unfold xn;rfl
theorem afk (x:aiJ) (h:(x.length+0)<=1048576):xo x=some (x.map vm):=by
 unfold xo;have aO:x.length<=1048576:=by omega
 rw[pE _ aO (by decide)];simp only[bind_some];rw[qy (f:=xn) vm x _ (λ_ _ _=>rfl) (λy a8=>afj y) aO]
theorem afl (x:aiG) (h:(eE (λx=>x.length+0) x)<=1048576):Ay x=some (x.map (map vm)):=by
 unfold Ay;have aO:x.length<=1048576:=Nat.le_trans (ju _ _) h;rw[pE _ aO (by decide)];simp only[bind_some];rw[qy (f:=xo) (map vm) x _ (λ_ _ _=>rfl) (λy a8=>afk y (Nat.le_trans (j4 (f:=(λx=>x.length+0)) a8) h)) aO]
def vn (x:iN):ck:=⟨x.Kind,x.Number,x.Name,(x.da.map (map vm))⟩
def nE (x:ck):Nat:=(x.Name.length+((eE (λx=>x.length+0) x.da)+0))
theorem afm (x:iN):nE (vn x)=oF x:=by
 simp only[nE,oF,vn,s8,length_map]
theorem afn (x:iN) (h:(oF x)<=1048576):xp x=some (vn x):=by
 unfold xp;unfold oF at h;rw[afl _ (by omega)];rfl
theorem afo (x:aiK) (h:(eE oF x)<=1048576):Az x=some (x.map vn):=by
 unfold Az;have aO:x.length<=1048576:=Nat.le_trans (ju _ _) h;rw[pE _ aO (by decide)];simp only[bind_some];rw[qy (f:=xp) vn x _ (λ_ _ _=>rfl) (λy a8=>afn y (Nat.le_trans (j4 (f:=oF) a8) h)) aO]
def vo (x:iO):bI:=⟨x.Name,x.dr,(x.Body.map vn)⟩
def pL (x:bI):Nat:=(x.Name.length+((eE nE x.Body)+0))
theorem afp (x:iO):pL (vo x)=oG x:=by
 simp only[pL,oG,vo,s8,length_map,afm]
theorem afq (x:iO) (h:(oG x)<=1048576):xq x=some (vo x):=by
 unfold xq;unfold oG at h;rw[afo _ (by omega)];rfl
theorem afr (x:aiL) (h:(eE oG x)<=1048576):AA x=some (x.map vo):=by
 unfold AA;have aO:x.length<=1048576:=Nat.le_trans (ju _ _) h;rw[pE _ aO (by decide)];simp only[bind_some];rw[qy (f:=xq) vo x _ (λ_ _ _=>rfl) (λy a8=>afq y (Nat.le_trans (j4 (f:=oG) a8) h)) aO]
theorem O5 (x:aiz) (h:(x.length+0)<=1048576):xr x=some x:=by
 unfold xr;have aO:x.length<=1048576:=by omega
 rw[pE _ aO (by decide)];simp only[bind_some];rw[qy (f:=some) id x _ (λ_ _ _=>rfl) (λ_ _=>rfl) aO,List.map_id]
def vp (x:iP):fo:=⟨x.b7,x.b4⟩
def nF (x:fo):Nat:=((x.b4.length+0)+0)
theorem afs (x:iP):nF (vp x)=oH x:=by
 simp only[nF,oH,vp,s8,length_map]
theorem aft (x:iP) (h:(oH x)<=1048576):xt x=some (vp x):=by
 unfold xt;unfold oH at h;rw[O5 _ (by omega)];rfl
theorem afu (x:aiM) (h:(eE oH x)<=1048576):AB x=some (x.map vp):=by
 unfold AB;have aO:x.length<=1048576:=Nat.le_trans (ju _ _) h;rw[pE _ aO (by decide)];simp only[bind_some];rw[qy (f:=xt) vp x _ (λ_ _ _=>rfl) (λy a8=>aft y (Nat.le_trans (j4 (f:=oH) a8) h)) aO]
def vq (x:ix):dy:=⟨x.Left,x.b8,x.Result⟩
def nG (x:dy):Nat:=(x.Left.length+(x.b8.length+(x.Result.length+0)))
theorem afv (x:ix):nG (vq x)=oI x:=by
 simp only[nG,oI,vq,s8,length_map]
theorem afw (x:ix) (h:(oI x)<=1048576):xu x=some (vq x):=by
 unfold xu;unfold oI at h;rfl
theorem afx (x:aiN) (h:(eE oI x)<=1048576):AD x=some (x.map vq):=by
 unfold AD;have aO:x.length<=1048576:=Nat.le_trans (ju _ _) h;rw[pE _ aO (by decide)];simp only[bind_some];rw[qy (f:=xu) vq x _ (λ_ _ _=>rfl) (λy a8=>afw y (Nat.le_trans (j4 (f:=oI) a8) h)) aO]
theorem O6 (x:aiw) (h:(eE length x)<=1048576):xv x=some x:=by
 unfold xv;have aO:x.length<=1048576:=Nat.le_trans (ju _ _) h;rw[pE _ aO (by decide)];simp only[bind_some];rw[qy (f:=some) id x _ (λ_ _ _=>rfl) (λ_ _=>rfl) aO,List.map_id]
def pM (x:ln):eC:=⟨(x.dQ.map vo),(x.cv.map vp),(x.hk.map vq),x.gV,x.gW⟩
def rR (x:eC):Nat:=((eE pL x.dQ)+((eE nF x.cv)+((eE nG x.hk)+((eE length x.gV)+((eE length x.gW)+0)))))
theorem O7 (x:ln):rR (pM x)=rQ x:=by
 simp only[rR,rQ,pM,s8,length_map,afp,afs,afv]
theorem afy (x:ln) (h:(rQ x)<=1048576):sJ x=some (pM x):=by
 unfold sJ;unfold rQ at h;rw[afr _ (by omega),afu _ (by omega),afx _ (by omega),O6 _ (by omega),O6 _ (by omega)];rfl
def qG (x:iQ):aU:=⟨x.b7,x.Part,x.b4⟩
def mP (x:aU):Nat:=((x.b4.length+0)+0)
theorem afz (x:iQ):mP (qG x)=mO x:=by
 simp only[mP,mO,qG,s8,length_map]
theorem afA (x:iQ) (h:(mO x)<=1048576):xw x=some (qG x):=by
 unfold xw;unfold mO at h;rw[O5 _ (by omega)];rfl
theorem afB (x:aiO) (h:(eE mO x)<=1048576):uk x=some (x.map qG):=by
 unfold uk;have aO:x.length<=1048576:=Nat.le_trans (ju _ _) h;rw[pE _ aO (by decide)];simp only[bind_some];rw[qy (f:=xw) qG x _ (λ_ _ _=>rfl) (λy a8=>afA y (Nat.le_trans (j4 (f:=mO) a8) h)) aO]
theorem afC (x:c8):ye x x=some true:=by
 unfold ye;simp only[rK,rL,s_,cond_false,bind_some,Bool.not_true]
theorem afD (x:aiP) (h:(x.length+0)<=1048576):yf x x=some true:=by
 unfold yf;have aO:x.length<=1048576:=by omega
 rw[qz,cond_false];exact s9 (f:=ye) x (λ_ _=>rfl) (λy a8=>afC y) aO
theorem afE (x:aiH) (h:(eE (λx=>x.length+0) x)<=1048576):Bz x x=some true:=by
 unfold Bz;have aO:x.length<=1048576:=Nat.le_trans (ju _ _) h;rw[qz,cond_false];exact s9 (f:=yf) x (λ_ _=>rfl) (λy a8=>afD y (Nat.le_trans (j4 (f:=(λx=>x.length+0)) a8) h)) aO
theorem afF (x:ck) (h:(nE x)<=1048576):yg x x=some true:=by
 unfold yg;unfold nE at h;simp only[rK,rL,s_,cond_false,bind_some,Bool.not_true,afE x.da (by omega)]
theorem afG (x:aiQ) (h:(eE nE x)<=1048576):BA x x=some true:=by
 unfold BA;have aO:x.length<=1048576:=Nat.le_trans (ju _ _) h;rw[qz,cond_false];exact s9 (f:=yg) x (λ_ _=>rfl) (λy a8=>afF y (Nat.le_trans (j4 (f:=nE) a8) h)) aO
theorem afH (x:bI) (h:(pL x)<=1048576):yh x x=some true:=by
 unfold yh;unfold pL at h;simp only[rK,rL,s_,cond_false,bind_some,Bool.not_true,afG x.Body (by omega)]
theorem afI (x:aiR) (h:(eE pL x)<=1048576):BB x x=some true:=by
 unfold BB;have aO:x.length<=1048576:=Nat.le_trans (ju _ _) h;rw[qz,cond_false];exact s9 (f:=yh) x (λ_ _=>rfl) (λy a8=>afH y (Nat.le_trans (j4 (f:=pL) a8) h)) aO
theorem O8 (x:aiz) (h:(x.length+0)<=1048576):yi x x=some true:=by
 unfold yi;have aO:x.length<=1048576:=by omega
 rw[qz,cond_false];exact Ob x (λ_ _=>rfl) rK aO
theorem afJ (x:fo) (h:(nF x)<=1048576):yj x x=some true:=by
 unfold yj;unfold nF at h;simp only[rK,rL,s_,cond_false,bind_some,Bool.not_true,O8 x.b4 (by omega)]
theorem afK (x:aiS) (h:(eE nF x)<=1048576):BC x x=some true:=by
 unfold BC;have aO:x.length<=1048576:=Nat.le_trans (ju _ _) h;rw[qz,cond_false];exact s9 (f:=yj) x (λ_ _=>rfl) (λy a8=>afJ y (Nat.le_trans (j4 (f:=nF) a8) h)) aO
theorem afL (x:dy) (h:(nG x)<=1048576):yk x x=some true:=by
 unfold yk;unfold nG at h;simp only[rK,rL,s_,cond_false,bind_some,Bool.not_true]
theorem afM (x:aiT) (h:(eE nG x)<=1048576):BD x x=some true:=by
 unfold BD;have aO:x.length<=1048576:=Nat.le_trans (ju _ _) h;rw[qz,cond_false];exact s9 (f:=yk) x (λ_ _=>rfl) (λy a8=>afL y (Nat.le_trans (j4 (f:=nG) a8) h)) aO
theorem O9 (x:aiw) (h:(eE length x)<=1048576):yl x x=some true:=by
 unfold yl;have aO:x.length<=1048576:=Nat.le_trans (ju _ _) h;rw[qz,cond_false];exact Ob x (λ_ _=>rfl) rL aO
theorem afN (x:eC) (h:(rR x)<=1048576):ym x x=some true:=by
 unfold ym;unfold rR at h;simp only[rK,rL,s_,cond_false,bind_some,Bool.not_true,afI x.dQ (by omega),afK x.cv (by omega),afM x.hk (by omega),O9 x.gV (by omega),O9 x.gW (by omega)]
theorem afO (x:aU) (h:(mP x)<=1048576):yn x x=some true:=by
 unfold yn;unfold mP at h;simp only[rK,rL,s_,cond_false,bind_some,Bool.not_true,O8 x.b4 (by omega)]
theorem afP (x:aiU) (h:(eE mP x)<=1048576):BE x x=some true:=by
 unfold BE;have aO:x.length<=1048576:=Nat.le_trans (ju _ _) h;rw[qz,cond_false];exact s9 (f:=yn) x (λ_ _=>rfl) (λy a8=>afO y (Nat.le_trans (j4 (f:=mP) a8) h)) aO
theorem afQ {list:aiR} (h:eE pL list<=1048576):oE list:=by
 refine⟨Nat.le_trans (ju _ _) h,λd ag=>?_⟩;have ab:=Nat.le_trans (j4 (f:=pL) ag) h;unfold pL at ab;refine⟨by omega,Nat.le_trans (ju nE _) (by omega),λp au=>?_⟩;have a7:nE p<=eE nE d.Body:=j4 au;have ad:nE p<=1048576:=by omega
 clear a7;unfold nE at ad;have aA:=ju (λx:List c8=>x.length+0) p.da;refine⟨by omega,by omega,λe he=>?_⟩;have aZ:e.length+0<=_:=j4 (f:=λx:List c8=>x.length+0) he;omega
def jP (e:aiR) (i:Nat):aix:=(e.getD i ⟨[],0,[]⟩).Name
theorem qH {e:aiR} {i:Nat} (ak:i<e.length):e.getD i ⟨[],0,[]⟩=e[i]:=by simp[List.getD,ak]
def oJ (e:aiR) (i:Nat):Bool:=e6 (λj=> !(jP e j==jP e i)) i
noncomputable def nH (e:aiR) (i:Nat):Bool:=match sP e (e.getD i ⟨[],0,[]⟩)with
 |some r=>r.2==0
 |none=>false
noncomputable def k3 (e:aiR):Bool:=((decide (1<=e.length)&&decide (e.length<=4))&&e6 (λi=>(j5 (jP e i)&&qF (e.getD i ⟨[],0,[]⟩))&&oJ e i) e.length)&&e6 (nH e) e.length
theorem Ii {e:aiR} (h:oE e) (aZ:e.length<=4) (au:vl e=true) {i:Nat} (ak:i<e.length):
  ∃r,sP e e[i]=some r/\xZ e e[i]=some r/\decide (0<r.2)= !(nH e i)/\(r.2 !=0)= !(nH e i)/\(nH e i=true->qE e[i].Body=true/\r.2=0):=by
 obtain⟨r,cY,ba,cG,bV⟩:=ae5 e aZ e[i] (h.2 _ (getElem_mem ak)) (O2 au i ak);have R:nH e i=(r.2==0):=by unfold nH;rw[qH ak,cY]
 refine⟨r,cY,ba,?_,?_,λmR=>?_⟩
 .rw[R];by_cases a7:r.2=0
  .rw[a7];rfl
  .have aN:(r.2==0)=false:=by simpa using a7
   rw[aN];exact decide_eq_true (by omega)
 .rw[R];rfl
 .rw[R]at mR;have a7:r.2=0:=by simpa using mR
  exact⟨bV a7,a7⟩
theorem qI {p q:Nat->Bool} {n:Nat}:e6 (λi=>p i&&q i) n=(e6 p n&&e6 q n):=by
 rw[Bool.eq_iff_iff,Bool.and_eq_true,rM,rM,rM];constructor
 .intro h;exact⟨λi ak=>((Bool.and_eq_true _ _).mp (h i ak)).1,λi ak=>((Bool.and_eq_true _ _).mp (h i ak)).2⟩
 .rintro⟨ab,ad⟩ i ak;rw[ab i ak,ad i ak];rfl
theorem afR (e:aiR) (h:oE e):AM e=some (k3 e):=by
 unfold AM k3;by_cases aO:1<=e.length/\e.length<=4
 .have d1:(((e.length:Int)==0)||decide ((4:Int)<(e.length:Int)))=false:=by
   rw[Bool.or_eq_false_iff,beq_eq_false_iff_ne,decide_eq_false_iff_not];omega
  have d2:(decide (1<=e.length)&&decide (e.length<=4))=true:=by simp;omega
  rw[d1,d2,cond_false,Bool.true_and];rw[tj (l:=λm i=>qd e m i) (n:=e.length) (λi=>(j5 (jP e i)&&qF (e.getD i ⟨[],0,[]⟩))&&oJ e i) (lim λn=>sQ e n 0) (some false)]
  .cases bU:e6 (λi=>(j5 (jP e i)&&qF (e.getD i ⟨[],0,[]⟩))&&oJ e i) e.length
   .rfl
   .have au:vl e=true:=by
     rw[qI,qI,Bool.and_eq_true,Bool.and_eq_true]at bU;exact bU.1.2
    rw[cond_true,Bool.true_and];rw[tj (l:=λm i=>sQ e m i) (n:=e.length) (nH e) (some true) (some false)]
    .cases e6 (nH e) e.length<;>rfl
    .intro m;simp only[sQ,Fk];rw[fq (Nat.le_refl _)];rfl
    .intro i ak m;obtain⟨r,cY,_,cG,_⟩:=Ii h aO.2 au ak;simp only[sQ,Fk];rw[fe ak,eP _ i ak,e5 i _ ak (by omega)];simp only[cond_true,bind_some,cY,cG];cases nH e i<;>rfl
  .intro m;simp only[qd,Fl];rw[fq (Nat.le_refl _)];rfl
  .intro i ak m;simp only[qd,Fl];rw[fe ak,eP _ i ak];simp only[cond_true,bind_some,H8,kB];rw[tj (l:=λhB j=>ux (qd e m) e hB (i:Int) j) (n:=i) (λj=> !(jP e j==jP e i)) (qd e m ((i+1:Nat):Int)) (some false)]
   .have aN:jP e i=e[i].Name:=by unfold jP;rw[qH ak]
    rw[<-aN,qH ak];show cond (!j5 (jP e i)) _ (cond (!qF e[i]) _ (cond (oJ e i) _ _))=_;cases j5 (jP e i)<;>cases qF e[i]<;>cases oJ e i<;>rfl
   .intro hB;simp only[ux,Fi];rw[fq (Nat.le_refl _),e5 i _ ak (by omega)];rfl
   .intro j bd hB;have Cp:j<e.length:=by omega
    simp only[ux,Fi];rw[fe bd,eP _ j Cp,eP _ i ak,e5 j _ bd (by omega)];simp only[cond_true,bind_some,jP,qH ak,qH Cp];cases e[j].Name==e[i].Name<;>rfl
 .have d1:(((e.length:Int)==0)||decide ((4:Int)<(e.length:Int)))=true:=by
   by_cases a7:e.length=0
   .simp[a7]
   .have:decide ((4:Int)<(e.length:Int))=true:=decide_eq_true (by omega);rw[this,Bool.or_true]
  have d2:(decide (1<=e.length)&&decide (e.length<=4))=false:=by
   rw[Bool.and_eq_false_iff,decide_eq_false_iff_not,decide_eq_false_iff_not];omega
  rw[d1,d2];rfl
theorem afS (e:aiR) (i:Nat) (ak:i<e.length) (aZ:e.length<=4):((kJ e 0 (i:Int)).bind λbL=>(A6 bL e[i].Name).bind λcy=>some (decide (0<=cy)))=some (!(oJ e i)):=by
 rw[N7 e i (by omega)];simp only[bind_some];unfold A6 FK;have hlen:(e.take i).length=i:=by rw[length_take];omega
 rw[tb (n:=i) (λj=>jP e j==jP e i)]
 .simp only[bind_some,ta];rfl
 .intro m;simp only[xQ,FJ];rw[hlen,fq (Nat.le_refl _)];rfl
 .intro j bd m;have Cp:j<e.length:=by omega
  simp only[xQ,FJ];rw[hlen,fe bd,eP _ j (by omega),e5 j _ bd (by omega)];have:(e.take i)[j]'(by omega)=e[j]:=by simp
  simp only[cond_true,bind_some,FI,this,jP,qH ak,qH Cp]
theorem afT (e:aiR) (h:oE e):Bd e=some (k3 e):=by
 unfold Bd ja k3;have mr:decide ((1:Int)<=(e.length:Int))=decide (1<=e.length):=decide_eq_decide.2 (by omega);have lZ:decide ((e.length:Int)<=4)=decide (e.length<=4):=decide_eq_decide.2 (by omega);simp only[bind_some];rw[mr,lZ];cases aO:(decide (1<=e.length)&&decide (e.length<=4))
 .rfl
 .have O_:1<=e.length/\e.length<=4:=by simpa using aO
  rw[ae6 e h.1];simp only[Bool.not_true,cond_false,bind_some,Bool.true_and];have afU:e6 (λi=>(j5 (jP e i)&&qF (e.getD i ⟨[],0,[]⟩))&&oJ e i) e.length=((e6 (λi=>j5 (jP e i)) e.length&&vl e)&&e6 (oJ e) e.length):=by
   rw[qI,qI];rfl
  rw[afU];cases au:vl e
  .simp
  .simp only[Bool.not_true,cond_false,Bool.and_true];rw[tj (l:=λm i=>uL e m i) (n:=e.length) (λi=>(j5 (jP e i)&&oJ e i)&&nH e i) (some true) (some false)]
   .rw[qI,qI];cases((e6 (λi=>j5 (jP e i)) e.length&&e6 (λi=>oJ e i) e.length)&&e6 (λi=>nH e i) e.length)<;>rfl
   .intro m;simp only[uL,FW];rw[fq (Nat.le_refl _)];rfl
   .intro i ak m;obtain⟨r,_,ba,_,bV,_⟩:=Ii h O_.2 au ak;have aP:=afS e i ak O_.2;have qm:=(h.2 _ (getElem_mem ak)).1;simp only[uL,FW];rw[fe ak,eP _ i ak,e5 i _ ak (by omega)];simp only[cond_true,bind_some,OG _ (show e[i].Name.length<=140737488355328 by omega),jP,qH ak];cases j5 e[i].Name
    .rfl
    .simp only[Bool.not_true,cond_false,Bool.true_and];rw[N7 e i (by omega)]at aP⊢;simp only[bind_some]at aP⊢;obtain⟨v,aH,Co⟩:=aE aP;rw[aH];simp only[some.injEq]at Co;simp only[bind_some,Co,ba,bV];cases oJ e i<;>cases nH e i<;>rfl
theorem afV {e:aiR} (h:oE e) (aH:k3 e=true):1<=e.length/\e.length<=4/\∀i (ak:i<e.length),(0<=e[i].dr/\e[i].dr<=3)/\qE e[i].Body=true/\j5 e[i].Name=true/\
  ∃r,sP e e[i]=some r/\r.2=0:=by
 unfold k3 at aH;rw[Bool.and_eq_true,Bool.and_eq_true,Bool.and_eq_true,decide_eq_true_eq,decide_eq_true_eq,qI,qI,Bool.and_eq_true,Bool.and_eq_true]at aH;obtain⟨⟨⟨ab,ad⟩,⟨aA,aZ⟩,bA⟩,cH⟩:=aH;refine⟨ab,ad,λi ak=>?_⟩;obtain⟨r,cY,_,_,_,cO⟩:=Ii h ad aZ ak;obtain⟨s1,s2⟩:=cO (rM.1 cH i ak);have aP:=rM.1 aA i ak;rw[jP,qH ak]at aP;exact⟨O2 aZ i ak,s1,aP,r,cY,s2⟩
def Cq (a:aiz):Bool:=e6 (λi=>qB (a.getD i 0) 0 63) a.length
theorem Pa (a:aiz) (h:a.length<=1048576):xH a=some (Cq a):=by
 unfold xH;refine yX (l:=λm i=>uy a m i) _ (λm=>?_) (λi ak m=>?_)
 .simp only[uy,Fm];rw[fq (Nat.le_refl _)];rfl
 .simp only[uy,Fm,kB];rw[fe ak,k2 _ i 0 ak,e5 i _ ak (by omega)];simp only[cond_true,bind_some];show cond (!qB (a.getD i 0) 0 63) _ _=_;cases qB (a.getD i 0) 0 63<;>rfl
theorem Pb (a:aiz) (h:a.length<=1048576):x1 a=some (Cq a):=by
 unfold x1 F1 FZ;rw[tb (n:=a.length) (λi=> !qB (a.getD i 0) 0 63)]
 .simp only[bind_some,ta,Bool.not_not];rfl
 .intro m;simp only[x0,FY];rw[fq (Nat.le_refl _)];rfl
 .intro i ak m;simp only[x0,FY];rw[fe ak,k2 _ i 0 ak,e5 i _ ak (by omega)];simp only[cond_true,bind_some,FX,xT,ja];rfl
set_option linter.unusedSimpArgs false
def iF (s:aix):Bool:=j5 s&& !(s==([116,97,117]:aix))
theorem Pc (s:aix):sR s=some (iF s):=by unfold sR;rw[H8];rfl
theorem Cr (s:aix) (U:s.length<=1048576):qh s=some (iF s):=OY s U
theorem afW {β:Type} {l:Nat->Int->Option β} {n:Nat} (p:Nat->Bool) (oD bad:Option β) (a7:∀m,l (m+1) (n:Int)=oD)
  (U:∀i,i<n->∀m,l (m+1) (i:Int)=cond (p i) (l m ((i+1:Nat):Int)) bad) (i0:Nat) (ak:i0<=n):lim (λm=>l m (i0:Int))=cond ((range' i0 (n-i0)).all p) oD bad:=by
 refine eF (n+1) λm hm=>?_;refine up (λi=>cond ((range' i (n-i)).all p) oD bad) (λm=>?_) (λi ak m ih=>?_) i0 ak m (by omega)
 .rw[a7];simp
 .rw[U i ak,ih,show n-i=(n-(i+1))+1 by omega,range'_succ];cases au:p i<;>simp[au]
def mi (a:aiw) (i:Nat):Bool:=decide (i=0)||Op.bytesLess (a.getD (i-1) []) (a.getD i [])
def pN (a:aiw):Bool:=decide (a.length<=12)&&(e6 (λi=>iF (a.getD i [])) a.length&&e6 (mi a) a.length)
theorem Pd (a:aiw) (h:a.length<=1048576):xI a=some (pN a):=by
 unfold xI pN;by_cases aO:12<a.length
 .have d1:decide ((12:Int)<(a.length:Int))=true:=decide_eq_true (by omega);have d2:decide (a.length<=12)=false:=decide_eq_false (by omega);rw[d1,d2];rfl
 .have d1:decide ((12:Int)<(a.length:Int))=false:=decide_eq_false (by omega);have d2:decide (a.length<=12)=true:=decide_eq_true (by omega);have Ig:AP a=some (e6 (λi=>iF (a.getD i [])) a.length):=by
   unfold AP;refine yX (l:=λm i=>uA a m i) _ (λm=>?_) (λi ak m=>?_)
   .simp only[uA,Fs];rw[fq (Nat.le_refl _)];rfl
   .simp only[uA,Fs];rw[fe ak,k2 _ i [] ak,e5 i _ ak (by omega)];simp only[cond_true,bind_some,Pc];cases iF (a.getD i [])<;>rfl
  rw[d1,d2,Ig];simp only[cond_false,bind_some,Bool.true_and];cases e6 (λi=>iF (a.getD i [])) a.length
  .rfl
  .simp only[Bool.not_true,cond_false,Bool.true_and];by_cases a7:a.length=0
   .rw[eF (x:=some true) 1 (λm hm=>by
     obtain⟨k,rfl⟩:∃k,m=k+1:=⟨m-1,by omega⟩
     simp only[nv,AQ];rw[a7];rfl)]
    rw[a7];rfl
   .have key:=afW (l:=λm i=>nv a m i) (n:=a.length) (λi=>decide (i=0)||Op.bytesLess (a.getD (i-1) []) (a.getD i [])) (some true) (some false);have bO:nv a=nv a:=rfl;have:∀i,1<=i->i<=a.length->∀m,a.length-i<m->nv a m (i:Int)=cond ((range' i (a.length-i)).all (mi a)) (some true) (some false):=by
     intro i ab ad;refine down a.length (P:=λi=>1<=i->∀m,a.length-i<m->nv a m (i:Int)=cond ((range' i (a.length-i)).all (mi a)) (some true) (some false)) ?_ ?_ i ad ab
     .intro _ m hm;obtain⟨k,rfl⟩:∃k,m=k+1:=⟨m-1,by omega⟩
      simp only[nv,AQ];rw[fq (Nat.le_refl _)];simp
     .intro i ak ih ab m hm;obtain⟨k,rfl⟩:∃k,m=k+1:=⟨m-1,by omega⟩
      simp only[nv,AQ];rw[fe ak,yY i (by omega) (by omega),k2 _ (i-1) [] (by omega),k2 _ i [] ak,e5 i _ ak (by omega),ih (by omega) k (by omega),show a.length-i=(a.length-(i+1))+1 by omega,range'_succ];have aK:mi a i=Op.bytesLess (a.getD (i-1) []) (a.getD i []):=by
       unfold mi;have:decide (i=0)=false:=decide_eq_false (by omega);rw[this,Bool.false_or]
      simp only[cond_true,bind_some,all_cons,aK];cases Op.bytesLess (a.getD (i-1) []) (a.getD i [])<;>rfl
    have Ij:=eF (f:=λm=>nv a m 1) (a.length+1) (λm hm=>this 1 (by omega) (by omega) m (by omega));rw[Ij];have e:e6 (mi a) a.length=(range' 1 (a.length-1)).all (mi a):=by
     unfold e6;rw[range_eq_range',show a.length=(a.length-1)+1 by omega,range'_succ];simp[mi]
    rw[e];cases(range' 1 (a.length-1)).all (mi a)<;>rfl
theorem afX {p q:Nat->Bool} {n:Nat}:(e6 p n&&e6 q n)=e6 (λi=>p i&&q i) n:=qI.symm
theorem Pe (a:aiw) (h:a.length<=1048576) (U:∀s∈a,s.length<=1048576):x5 a=some (pN a):=by
 unfold x5 pN;rw[afX];rw[tj (l:=λm i=>uN a m i) (n:=a.length) (λi=>iF (a.getD i [])&&mi a i) (some (decide ((a.length:Int)<=12))) (some false)]
 .have e:decide ((a.length:Int)<=12)=decide (a.length<=12):=decide_eq_decide.2 (by omega);rw[e];cases e6 (λi=>iF (a.getD i [])&&mi a i) a.length<;>cases decide (a.length<=12)<;>rfl
 .intro m;simp only[uN,F9];rw[fq (Nat.le_refl _)];rfl
 .intro i ak m;simp only[uN,F9];have hm:(a.getD i []).length<=1048576:=by
   have:a.getD i []=a[i]:=by simp[List.getD,ak]
   rw[this];exact U _ (getElem_mem ak)
  rw[fe ak,k2 _ i [] ak,e5 i _ ak (by omega)];simp only[cond_true,bind_some,Cr _ hm];by_cases a7:i=0
  .subst a7;rw[tc];simp only[cond_false,mi,decide_true,Bool.true_or,Bool.and_true];cases iF (a.getD 0 [])<;>rfl
  .rw[HT a7,yY i (by omega) (by omega),k2 _ (i-1) [] (by omega)];have aK:mi a i=Op.bytesLess (a.getD (i-1) []) (a.getD i []):=by
    unfold mi;have:decide (i=0)=false:=decide_eq_false a7;rw[this,Bool.false_or]
   have aY:=OB (a.getD (i-1) []) (a.getD i []);simp only[cond_true,bind_some,aK,<-aY];cases iF (a.getD i [])<;>cases Op.bytesLess (a.getD (i-1) []) (a.getD i [])<;>rfl
def jQ (cs:aiS) (i:Nat):fo:=cs.getD i ⟨0,[]⟩
def hX (e:aiR) (c:fo):Bool:=
 cond (decide (0<=c.b7)&&decide (c.b7<=(e.length:Int)-1)) (((c.b4.length:Int)==(e.getD c.b7.toNat ⟨[],0,[]⟩).dr)&&Cq c.b4) false
def rS (s:eC):Bool:=(decide (1<=s.cv.length)&&decide (s.cv.length<=3))&&e6 (λi=>hX s.dQ (jQ s.cv i)) s.cv.length
theorem Pf {e:aiR} {n:Int} (h:(decide (0<=n)&&decide (n<=(e.length:Int)-1))=true):bm e n=some (e.getD n.toNat ⟨[],0,[]⟩):=by
 simp only[Bool.and_eq_true,decide_eq_true_eq]at h;obtain⟨i,rfl⟩:∃i:Nat,n=i:=⟨n.toNat,by omega⟩
 exact k2 e i _ (by omega)
theorem afY (s:eC) (ag:s.dQ.length<=1048576) (aj:s.cv.length<=1048576) (aH:∀c∈s.cv,c.b4.length<=1048576):AN s=some (rS s):=by
 unfold AN rS;by_cases aO:1<=s.cv.length/\s.cv.length<=3
 .have d1:(((s.cv.length:Int)==0)||decide ((3:Int)<(s.cv.length:Int)))=false:=by
   rw[Bool.or_eq_false_iff,beq_eq_false_iff_ne,decide_eq_false_iff_not];omega
  have d2:(decide (1<=s.cv.length)&&decide (s.cv.length<=3))=true:=by simp;omega
  rw[d1,d2,cond_false,Bool.true_and];refine yX (l:=λm i=>uz s m i) _ (λm=>?_) (λi ak m=>?_)
  .simp only[uz,Fo];rw[fq (Nat.le_refl _)];rfl
  .simp only[uz,Fo,kB];have hm:(jQ s.cv i).b4.length<=1048576:=by
    have:jQ s.cv i=s.cv[i]:=by simp[jQ,List.getD,ak]
    rw[this];exact aH _ (getElem_mem ak)
   rw[fe ak,k2 _ i ⟨0,[]⟩ ak,e5 i _ ak (by omega),gl ((s.dQ.length:Int)-1) (by omega)];show cond true (Option.bind (some (jQ s.cv i)) _) _=_;simp only[cond_true,bind_some];unfold hX;cases aw:(decide (0<=(jQ s.cv i).b7)&&decide ((jQ s.cv i).b7<=(s.dQ.length:Int)-1))
   .rfl
   .rw[Pf aw];simp only[Bool.not_true,cond_false,cond_true,bind_some,Pa _ hm];have cw:(((jQ s.cv i).b4.length:Int) !=(s.dQ.getD (jQ s.cv i).b7.toNat ⟨[],0,[]⟩).dr)= !(((jQ s.cv i).b4.length:Int)==(s.dQ.getD (jQ s.cv i).b7.toNat ⟨[],0,[]⟩).dr):=rfl;rw[cw];cases(((jQ s.cv i).b4.length:Int)==(s.dQ.getD (jQ s.cv i).b7.toNat ⟨[],0,[]⟩).dr)<;>cases Cq (jQ s.cv i).b4<;>rfl
 .have d1:(((s.cv.length:Int)==0)||decide ((3:Int)<(s.cv.length:Int)))=true:=by
   by_cases a7:s.cv.length=0
   .simp[a7]
   .have:decide ((3:Int)<(s.cv.length:Int))=true:=decide_eq_true (by omega);rw[this,Bool.or_true]
  have d2:(decide (1<=s.cv.length)&&decide (s.cv.length<=3))=false:=by
   rw[Bool.and_eq_false_iff,decide_eq_false_iff_not,decide_eq_false_iff_not];omega
  rw[d1,d2];rfl
theorem afZ (e:aiR) (he:e.length<=1048576) (c:fo) (aj:c.b4.length<=1048576):Be e c=some (hX e c):=by
 unfold Be hX;rw[Cm _ e.length he];simp only[bind_some];cases aw:(decide (0<=c.b7)&&decide (c.b7<=(e.length:Int)-1))
 .rfl
 .rw[Pf aw];simp only[cond_true,bind_some,Pb _ aj];cases((c.b4.length:Int)==(e.getD c.b7.toNat ⟨[],0,[]⟩).dr)<;>rfl
theorem af0 (s:eC) (ag:s.dQ.length<=1048576) (aj:s.cv.length<=1048576) (aH:∀c∈s.cv,c.b4.length<=1048576):
  Bf s.cv s=some (!(e6 (λi=>hX s.dQ (jQ s.cv i)) s.cv.length)):=by
 unfold Bf F4;rw[tb (n:=s.cv.length) (λi=> !(hX s.dQ (jQ s.cv i)))]
 .simp only[bind_some,ta,Bool.not_not]
 .intro m;simp only[x2,F3];rw[fq (Nat.le_refl _)];rfl
 .intro i ak m;simp only[x2,F3];have hm:(jQ s.cv i).b4.length<=1048576:=by
   have:jQ s.cv i=s.cv[i]:=by simp[jQ,List.getD,ak]
   rw[this];exact aH _ (getElem_mem ak)
  rw[fe ak,k2 _ i ⟨0,[]⟩ ak,e5 i _ ak (by omega)];show cond true (Option.bind (some (jQ s.cv i)) _) _=_;simp only[cond_true,bind_some,F2,afZ _ ag _ hm]
def dG (a:aiT) (i:Nat):dy:=a.getD i ⟨[],[],[]⟩
def tk (p m:dy):Bool:=Op.bytesLess p.Left m.Left||(p.Left==m.Left&&Op.bytesLess p.b8 m.b8)
def tl (a:aiT) (m:dy):Bool:=e6 (λj=> !((dG a j).Left==m.Result||(dG a j).b8==m.Result)) a.length
def y6 (a:aiT) (i:Nat):Bool:=
 ((((iF (dG a i).Left&&iF (dG a i).b8)&&iF (dG a i).Result)&&(Op.bytesLess (dG a i).Left (dG a i).b8||(dG a i).Left==(dG a i).b8))&&(decide (i=0)||tk (dG a (i-1)) (dG a i)))&&tl a (dG a i)
def tm (a:aiT):Bool:=decide (a.length<=6)&&e6 (y6 a) a.length
def Cs (a:aiT):Prop:=a.length<=1048576/\∀m∈a,m.Left.length<=1048576/\m.b8.length<=1048576/\m.Result.length<=1048576
theorem af1 (p m:dy):((!(Op.bytesLess p.Left m.Left||p.Left==m.Left))||((p.Left==m.Left)&&(!(Op.bytesLess p.b8 m.b8))))= !(tk p m):=by
 unfold tk;cases he:p.Left==m.Left
 .cases Op.bytesLess p.Left m.Left<;>rfl
 .have:p.Left=m.Left:=by simpa using he
  rw[this,aeu];cases Op.bytesLess p.b8 m.b8<;>rfl
def qJ (a b:aix):Int:=cond (Op.bytesLess a b) (-1) (cond (!(Op.bytesLess a b||a==b)) 1 0)
theorem af2 (a b:aix):Bg a b=some (qJ a b):=by
 unfold Bg cmp_isNaN_string qJ;simp only[bind_some,cond_false];cases Op.bytesLess a b<;>cases a==b<;>rfl
theorem af3 (p m:dy):∃v,Bj p m=some v/\decide (0<=v)= !(tk p m):=by
 have Ij:Bi [p.Left,p.b8] [m.Left,m.b8]=some (cond (qJ p.Left m.Left !=0) (qJ p.Left m.Left) (cond (qJ p.b8 m.b8 !=0) (qJ p.b8 m.b8) 0)):=by
  unfold Bi;refine eF 3 λn aP=>?_;obtain⟨n,rfl⟩:∃k,n=k+3:=⟨n-3,by omega⟩
  have fR:bm [p.Left,p.b8] 0=some p.Left:=rfl;have aN:bm [m.Left,m.b8] 0=some m.Left:=rfl;have aR:bm [p.Left,p.b8] 1=some p.b8:=rfl;have aS:bm [m.Left,m.b8] 1=some m.b8:=rfl;have fQ:i64.wrap (0+1)=1:=by decide
  have fJ:i64.wrap (1+1)=2:=by decide
  simp only[Bh,MC,length_cons,length_nil,fR,aN,aR,aS,fQ,fJ,bind_some,af2];cases qJ p.Left m.Left !=0
  .cases qJ p.b8 m.b8 !=0<;>rfl
  .rfl
 unfold Bj;rw[Ij];refine⟨_,rfl,?_⟩;unfold tk qJ;cases aO:Op.bytesLess p.Left m.Left
 .cases he:p.Left==m.Left
  .rfl
  .cases aK:Op.bytesLess p.b8 m.b8
   .cases p.b8==m.b8<;>rfl
   .rfl
 .rfl
theorem af4 (a:aiT) (h:a.length<=1048576) (m:dy):x4 a m=some (!(tl a m)):=by
 unfold x4 F7;rw[tb (n:=a.length) (λj=>((dG a j).Left==m.Result||(dG a j).b8==m.Result))]
 .simp only[bind_some,ta];rfl
 .intro k;simp only[x3,F6];rw[fq (Nat.le_refl _)];rfl
 .intro i ak k;simp only[x3,F6];rw[fe ak,k2 _ i ⟨[],[],[]⟩ ak,e5 i _ ak (by omega)];simp only[cond_true,bind_some,F5];rfl
theorem af5 {a:aiT} (h:Cs a) {i:Nat} (ak:i<a.length):(dG a i).Left.length<=1048576/\(dG a i).b8.length<=1048576/\(dG a i).Result.length<=1048576:=by
 have:dG a i=a[i]:=by simp[dG,List.getD,ak]
 rw[this];exact h.2 _ (getElem_mem ak)
theorem y7 {a:aiT} {i:Nat} (ak:i<a.length):bm a (i:Int)=some (dG a i):=k2 a i _ ak
theorem af6 (a:aiT) (h:Cs a):AO a=some (tm a):=by
 unfold AO tm;by_cases aO:6<a.length
 .have d1:decide ((6:Int)<(a.length:Int))=true:=decide_eq_true (by omega);have d2:decide (a.length<=6)=false:=decide_eq_false (by omega);rw[d1,d2];rfl
 .have d1:decide ((6:Int)<(a.length:Int))=false:=decide_eq_false (by omega);have d2:decide (a.length<=6)=true:=decide_eq_true (by omega);rw[d1,d2,cond_false,Bool.true_and];refine yX (l:=λm i=>og a m i) _ (λm=>?_) (λi ak m=>?_)
  .simp only[og,Fq];rw[fq (Nat.le_refl _)];rfl
  .have lk:(lim λn=>qe (og a m) a (dG a i) n (i:Int) 0)=cond (tl a (dG a i)) (og a m ((i+1:Nat):Int)) (some false):=by
    refine tj (l:=λhB j=>qe (og a m) a (dG a i) hB (i:Int) j) _ _ _ (λhB=>?_) (λj bd hB=>?_)
    .simp only[qe,Fp];rw[fq (Nat.le_refl _),e5 i _ ak (by omega)];rfl
    .simp only[qe,Fp];rw[fe bd,y7 bd,e5 j _ bd (by omega)];simp only[cond_true,bind_some];cases((dG a j).Left==(dG a i).Result||(dG a j).b8==(dG a i).Result)<;>rfl
   simp only[og,Fq];rw[fe ak,y7 ak];simp only[cond_true,bind_some,Pc,lk];unfold y6;by_cases a7:i=0
   .subst a7;rw[tc];simp only[cond_false,decide_true,Bool.true_or,Bool.and_true];cases iF (dG a 0).Left<;>cases iF (dG a 0).b8<;>cases iF (dG a 0).Result<;>cases(Op.bytesLess (dG a 0).Left (dG a 0).b8||(dG a 0).Left==(dG a 0).b8)<;>cases tl a (dG a 0)<;>rfl
   .rw[HT a7,yY i (by omega) (by omega),y7 (show i-1<a.length by omega)];have ag:decide (i=0)=false:=decide_eq_false a7;simp only[cond_true,bind_some,ag,Bool.false_or,af1];cases iF (dG a i).Left<;>cases iF (dG a i).b8<;>cases iF (dG a i).Result<;>cases(Op.bytesLess (dG a i).Left (dG a i).b8||(dG a i).Left==(dG a i).b8)<;>cases tk (dG a (i-1)) (dG a i)<;>cases tl a (dG a i)<;>rfl
theorem af7 (a:aiT) (h:Cs a):Bk a=some (tm a):=by
 unfold Bk tm;rw[tj (l:=λm i=>uM a m i) (n:=a.length) (y6 a) (some (decide ((a.length:Int)<=6))) (some false)]
 .have e:decide ((a.length:Int)<=6)=decide (a.length<=6):=decide_eq_decide.2 (by omega);rw[e];cases e6 (y6 a) a.length<;>cases decide (a.length<=6)<;>rfl
 .intro m;simp only[uM,F8];rw[fq (Nat.le_refl _)];rfl
 .intro i ak m;have aO:=h.1;obtain⟨s1,s2,q3⟩:=af5 h ak;simp only[uM,F8];rw[fe ak,y7 ak,e5 i _ ak (by omega)];simp only[cond_true,bind_some,Cr _ s1,Cr _ s2,Cr _ q3,af4 a aO];unfold y6;by_cases a7:i=0
  .subst a7;rw[tc];simp only[cond_false,decide_true,Bool.true_or,Bool.and_true];cases iF (dG a 0).Left<;>cases iF (dG a 0).b8<;>cases iF (dG a 0).Result<;>cases(Op.bytesLess (dG a 0).Left (dG a 0).b8||(dG a 0).Left==(dG a 0).b8)<;>cases tl a (dG a 0)<;>rfl
  .rw[HT a7,yY i (by omega) (by omega),y7 (show i-1<a.length by omega)];obtain⟨v,v1,v2⟩:=af3 (dG a (i-1)) (dG a i);have ag:decide (i=0)=false:=decide_eq_false a7;simp only[cond_true,bind_some,ag,Bool.false_or,v1,v2];cases iF (dG a i).Left<;>cases iF (dG a i).b8<;>cases iF (dG a i).Result<;>cases(Op.bytesLess (dG a i).Left (dG a i).b8||(dG a i).Left==(dG a i).b8)<;>cases tk (dG a (i-1)) (dG a i)<;>cases tl a (dG a i)<;>rfl
def tn (s:eC):Prop:=oE s.dQ/\(s.cv.length<=1048576/\∀c∈s.cv,c.b4.length<=1048576)/\Cs s.hk/\
 (s.gV.length<=1048576/\∀x∈s.gV,x.length<=1048576)/\(s.gW.length<=1048576/\∀x∈s.gW,x.length<=1048576)
noncomputable def oK (s:eC):Int:=cond (!k3 s.dQ) 1 (cond (!rS s) 2 (cond (!tm s.hk) 3 (cond (!pN s.gV) 4 (cond (!pN s.gW) 5 0))))
theorem af8 (s:eC) (h:tn s):AR s=some (oK s):=by
 obtain⟨ab,ad,aA,aZ,bA⟩:=h;unfold AR oK;rw[afR _ ab,afY s ab.1 ad.1 ad.2,af6 _ aA,Pd _ aZ.1,Pd _ bA.1];simp only[bind_some];cases k3 s.dQ<;>cases rS s<;>cases tm s.hk<;>cases pN s.gV<;>cases pN s.gW<;>rfl
theorem af9 (s:eC) (h:tn s):Bl s=some (oK s):=by
 obtain⟨ab,ad,aA,aZ,bA⟩:=h;unfold Bl ja oK rS;have mr:decide ((1:Int)<=(s.cv.length:Int))=decide (1<=s.cv.length):=decide_eq_decide.2 (by omega);have lZ:decide ((s.cv.length:Int)<=3)=decide (s.cv.length<=3):=decide_eq_decide.2 (by omega);rw[afT _ ab,af0 s ab.1 ad.1 ad.2,af7 _ aA,Pe _ aZ.1 aZ.2,Pe _ bA.1 bA.2];simp only[bind_some];rw[mr,lZ];cases k3 s.dQ<;>cases(decide (1<=s.cv.length)&&decide (s.cv.length<=3))<;>cases e6 (λi=>hX s.dQ (jQ s.cv i)) s.cv.length<;>
  cases tm s.hk<;>cases pN s.gV<;>cases pN s.gW<;>rfl
theorem af_ {s:eC} (h:rR s<=1048576):tn s:=by
 unfold rR at h;refine⟨afQ (by omega),⟨Nat.le_trans (ju nF _) (by omega),λc aj=>?_⟩,⟨Nat.le_trans (ju nG _) (by omega),λm hm=>?_⟩,⟨Nat.le_trans (ju length _) (by omega),λx ar=>?_⟩,⟨Nat.le_trans (ju length _) (by omega),λx ar=>?_⟩⟩
 .have ab:nF c<=eE nF s.cv:=j4 aj;have ad:nF c<=1048576:=by omega
  clear ab;unfold nF at ad;omega
 .have ab:nG m<=eE nG s.hk:=j4 hm;have ad:nG m<=1048576:=by omega
  clear ab;unfold nG at ad;omega
 .have ab:x.length<=eE length s.gV:=j4 ar;omega
 .have ab:x.length<=eE length s.gW:=j4 ar;omega
theorem aga (a:ln) (bU:xd a):
  ∃r,xl a 1048576=some r/\(decide (r<0)=false->sJ a=some (pM a)/\ym (pM a) (pM a)=some true/\
   tn (pM a)/\r=1048576-(rQ a:Nat)/\0<=r):=by
 refine⟨_,afg a 1048576 bU (by omega) (by omega),λh=>?_⟩;by_cases U:rQ a<=1048576
 .have pc:rR (pM a)<=1048576:=by rw[O7];exact U
  exact⟨afy a U,afN _ pc,af_ pc,yV (by omega),by rw[yV (by omega)];omega⟩
 .rw[yW (by omega)]at h;simp at h
end Go.ll
