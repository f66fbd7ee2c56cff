/- Part of a proof that a law returns true for every input. No condition. -/
import Derived.Test.YtmaenemdkobeeaaGreatP3
import Derived.Test.YtmaenemdkobeeaaGreatUV1x
namespace Go.mc
open List Option Go.IntKind Nat Or
open Go Go.ek
set_option linter.unusedSimpArgs false
theorem amy (x:arP) (n:Int) (ay:(x.length<=9223372036854775807/\∀y∈x,yU y)) (a5:0<=n) (aZ:n<=1048576):BV x n=some (iT n (x.length+0)):=by
 unfold BV;refine o1 ay.1 a5 aZ λh=>?_;rw[fl _ (by omega)];exact vF (by omega)
theorem amz (x:arN) (n:Int) (ay:(x.length<=9223372036854775807/\∀y∈x,(y.length<=9223372036854775807/\∀z∈y,yU z))) (a5:0<=n) (aZ:n<=1048576):FB x n=some (iT n (ea (λx=>x.length+0) x)):=by
 unfold FB;refine o1 ay.1 a5 aZ λh=>?_;rw[fl _ (by omega)];exact DU (f:=BV) (λx=>x.length+0) x (λ_ _ _=>rfl) (λy bz n a5 aZ=>amy y n (ay.2 y bz) a5 aZ) (by omega) _ (by omega) (by omega)
def rZ (x:kq):Nat:=(x.Name.length+((ea (λx=>x.length+0) x.a9)+0))
theorem amA (x:kq) (n:Int) (ay:BP x) (a5:0<=n) (aZ:n<=1048576):BW x n=some (iT n (rZ x)):=by
 unfold BW;unfold rZ;obtain⟨w0,ef,hb,ll⟩:=ay;refine o1 hb (by omega) (by omega) λcc=>?_;rw[fl (n-(x.Name.length:Int)) (by omega)];refine uh (amz _ _ ll (by omega) (by omega)) λnu=>?_;exact vF (by omega)
theorem amB (x:arQ) (n:Int) (ay:(x.length<=9223372036854775807/\∀y∈x,BP y)) (a5:0<=n) (aZ:n<=1048576):FC x n=some (iT n (ea rZ x)):=by
 unfold FC;refine o1 ay.1 a5 aZ λh=>?_;rw[fl _ (by omega)];exact DU (f:=BW) rZ x (λ_ _ _=>rfl) (λy bz n a5 aZ=>amA y n (ay.2 y bz) a5 aZ) (by omega) _ (by omega) (by omega)
def r0 (x:kr):Nat:=(x.Name.length+((ea rZ x.Body)+0))
theorem amC (x:kr) (n:Int) (ay:BQ x) (a5:0<=n) (aZ:n<=1048576):BX x n=some (iT n (r0 x)):=by
 unfold BX;unfold r0;obtain⟨w0,ef,hb⟩:=ay;refine o1 w0 (by omega) (by omega) λpc=>?_;rw[fl (n-(x.Name.length:Int)) (by omega)];refine uh (amB _ _ hb (by omega) (by omega)) λcc=>?_;exact vF (by omega)
theorem amD (x:arR) (n:Int) (ay:(x.length<=9223372036854775807/\∀y∈x,BQ y)) (a5:0<=n) (aZ:n<=1048576):FD x n=some (iT n (ea r0 x)):=by
 unfold FD;refine o1 ay.1 a5 aZ λh=>?_;rw[fl _ (by omega)];exact DU (f:=BX) r0 x (λ_ _ _=>rfl) (λy bz n a5 aZ=>amC y n (ay.2 y bz) a5 aZ) (by omega) _ (by omega) (by omega)
theorem amE (x:arG) (n:Int) (ay:(x.length<=9223372036854775807/\∀y∈x,(-9223372036854775808<=y/\y<=9223372036854775807))) (a5:0<=n) (aZ:n<=1048576):FE x n=some (iT n (x.length+0)):=by
 unfold FE;refine o1 ay.1 a5 aZ λh=>?_;rw[fl _ (by omega)];exact vF (by omega)
def r1 (x:ks):Nat:=((x.e7.length+0)+0)
theorem amF (x:ks) (n:Int) (ay:BR x) (a5:0<=n) (aZ:n<=1048576):BZ x n=some (iT n (r1 x)):=by
 unfold BZ;unfold r1;obtain⟨w0,ef⟩:=ay;refine uh (amE _ _ ef (by omega) (by omega)) λb2=>?_;exact vF (by omega)
theorem amG (x:arS) (n:Int) (ay:(x.length<=9223372036854775807/\∀y∈x,BR y)) (a5:0<=n) (aZ:n<=1048576):FF x n=some (iT n (ea r1 x)):=by
 unfold FF;refine o1 ay.1 a5 aZ λh=>?_;rw[fl _ (by omega)];exact DU (f:=BZ) r1 x (λ_ _ _=>rfl) (λy bz n a5 aZ=>amF y n (ay.2 y bz) a5 aZ) (by omega) _ (by omega) (by omega)
def r2 (x:j9):Nat:=(x.Left.length+(x.ct.length+(x.Result.length+0)))
theorem amH (x:j9) (n:Int) (ay:BS x) (a5:0<=n) (aZ:n<=1048576):B0 x n=some (iT n (r2 x)):=by
 unfold B0;unfold r2;obtain⟨w0,ef,hb⟩:=ay;refine o1 w0 (by omega) (by omega) λpc=>?_;rw[fl (n-(x.Left.length:Int)) (by omega)];refine o1 ef (by omega) (by omega) λb2=>?_;rw[fl ((n-(x.Left.length:Int))-(x.ct.length:Int)) (by omega)];refine o1 hb (by omega) (by omega) λcc=>?_;rw[fl (((n-(x.Left.length:Int))-(x.ct.length:Int))-(x.Result.length:Int)) (by omega)];exact vF (by omega)
theorem amI (x:arT) (n:Int) (ay:(x.length<=9223372036854775807/\∀y∈x,BS y)) (a5:0<=n) (aZ:n<=1048576):FG x n=some (iT n (ea r2 x)):=by
 unfold FG;refine o1 ay.1 a5 aZ λh=>?_;rw[fl _ (by omega)];exact DU (f:=B0) r2 x (λ_ _ _=>rfl) (λy bz n a5 aZ=>amH y n (ay.2 y bz) a5 aZ) (by omega) _ (by omega) (by omega)
theorem V1 (x:arD) (n:Int) (ay:(x.length<=9223372036854775807/\∀y∈x,y.length<=9223372036854775807)) (a5:0<=n) (aZ:n<=1048576):B1 x n=some (iT n (ea length x)):=by
 unfold B1;refine o1 ay.1 a5 aZ λh=>?_;rw[fl _ (by omega)];exact al2 x (λ_ _ _=>rfl) ay.2 (by omega) _ (by omega) (by omega)
def vO (x:nA):Nat:=((ea r0 x.aC)+((ea r1 x.b7)+((ea r2 x.hA)+((ea length x.hg)+((ea length x.hh)+0)))))
theorem amJ (x:nA) (n:Int) (ay:BT x) (a5:0<=n) (aZ:n<=1048576):B2 x n=some (iT n (vO x)):=by
 unfold B2;unfold vO;obtain⟨w0,ef,hb,ll,HU⟩:=ay;refine uh (amD _ _ w0 (by omega) (by omega)) λpc=>?_;refine uh (amG _ _ ef (by omega) (by omega)) λb2=>?_;refine uh (amI _ _ hb (by omega) (by omega)) λcc=>?_;refine uh (V1 _ _ ll (by omega) (by omega)) λnu=>?_;refine uh (V1 _ _ HU (by omega) (by omega)) λj3=>?_;exact vF (by omega)
def Ak (x:iQ):aF:=⟨x.Kind,x.Value⟩
theorem amK (x:iQ):B3 x=some (Ak x):=by
 unfold B3;rfl
theorem amL (x:arP) (h:(x.length+0)<=1048576):B4 x=some (x.map Ak):=by
 unfold B4;have hl:x.length<=1048576:=by omega
 rw[ui _ hl (by decide)];simp only[bind_some];rw[vG (f:=B3) Ak x _ (λ_ _ _=>rfl) (λy bz=>amK y) hl]
theorem amM (x:arN) (h:(ea (λx=>x.length+0) x)<=1048576):FH x=some (x.map (map Ak)):=by
 unfold FH;have hl:x.length<=1048576:=Nat.le_trans (jJ _ _) h;rw[ui _ hl (by decide)];simp only[bind_some];rw[vG (f:=B4) (map Ak) x _ (λ_ _ _=>rfl) (λy bz=>amL y (Nat.le_trans (mL (f:=(λx=>x.length+0)) bz) h)) hl]
def Al (x:kq):bk:=⟨x.Kind,x.Number,x.Name,(x.a9.map (map Ak))⟩
def lV (x:bk):Nat:=(x.Name.length+((ea (λx=>x.length+0) x.a9)+0))
theorem amN (x:kq):lV (Al x)=rZ x:=by
 simp only[lV,rZ,Al,DT,length_map]
theorem amO (x:kq) (h:(rZ x)<=1048576):B5 x=some (Al x):=by
 unfold B5;unfold rZ at h;rw[amM _ (by omega)];rfl
theorem amP (x:arQ) (h:(ea rZ x)<=1048576):FI x=some (x.map Al):=by
 unfold FI;have hl:x.length<=1048576:=Nat.le_trans (jJ _ _) h;rw[ui _ hl (by decide)];simp only[bind_some];rw[vG (f:=B5) Al x _ (λ_ _ _=>rfl) (λy bz=>amO y (Nat.le_trans (mL (f:=rZ) bz) h)) hl]
def Am (x:kr):bg:=⟨x.Name,x.bW,(x.Body.map Al)⟩
def mN (x:bg):Nat:=(x.Name.length+((ea lV x.Body)+0))
theorem amQ (x:kr):mN (Am x)=r0 x:=by
 simp only[mN,r0,Am,DT,length_map,amN]
theorem amR (x:kr) (h:(r0 x)<=1048576):B6 x=some (Am x):=by
 unfold B6;unfold r0 at h;rw[amP _ (by omega)];rfl
theorem amS (x:arR) (h:(ea r0 x)<=1048576):FJ x=some (x.map Am):=by
 unfold FJ;have hl:x.length<=1048576:=Nat.le_trans (jJ _ _) h;rw[ui _ hl (by decide)];simp only[bind_some];rw[vG (f:=B6) Am x _ (λ_ _ _=>rfl) (λy bz=>amR y (Nat.le_trans (mL (f:=r0) bz) h)) hl]
theorem amT (x:arG) (h:(x.length+0)<=1048576):FK x=some x:=by
 unfold FK;have hl:x.length<=1048576:=by omega
 rw[ui _ hl (by decide)];simp only[bind_some];rw[vG (f:=some) id x _ (λ_ _ _=>rfl) (λ_ _=>rfl) hl,List.map_id]
def An (x:ks):dn:=⟨x.gl,x.e7⟩
def lW (x:dn):Nat:=((x.e7.length+0)+0)
theorem amU (x:ks):lW (An x)=r1 x:=by
 simp only[lW,r1,An,DT,length_map]
theorem amV (x:ks) (h:(r1 x)<=1048576):B7 x=some (An x):=by
 unfold B7;unfold r1 at h;rw[amT _ (by omega)];rfl
theorem amW (x:arS) (h:(ea r1 x)<=1048576):FL x=some (x.map An):=by
 unfold FL;have hl:x.length<=1048576:=Nat.le_trans (jJ _ _) h;rw[ui _ hl (by decide)];simp only[bind_some];rw[vG (f:=B7) An x _ (λ_ _ _=>rfl) (λy bz=>amV y (Nat.le_trans (mL (f:=r1) bz) h)) hl]
def Ao (x:j9):cq:=⟨x.Left,x.ct,x.Result⟩
def lX (x:cq):Nat:=(x.Left.length+(x.ct.length+(x.Result.length+0)))
theorem amX (x:j9):lX (Ao x)=r2 x:=by
 simp only[lX,r2,Ao,DT,length_map]
theorem amY (x:j9) (h:(r2 x)<=1048576):B8 x=some (Ao x):=by
 unfold B8;unfold r2 at h;rfl
theorem amZ (x:arT) (h:(ea r2 x)<=1048576):FM x=some (x.map Ao):=by
 unfold FM;have hl:x.length<=1048576:=Nat.le_trans (jJ _ _) h;rw[ui _ hl (by decide)];simp only[bind_some];rw[vG (f:=B8) Ao x _ (λ_ _ _=>rfl) (λy bz=>amY y (Nat.le_trans (mL (f:=r2) bz) h)) hl]
theorem V2 (x:arD) (h:(ea length x)<=1048576):B9 x=some x:=by
 unfold B9;have hl:x.length<=1048576:=Nat.le_trans (jJ _ _) h;rw[ui _ hl (by decide)];simp only[bind_some];rw[vG (f:=some) id x _ (λ_ _ _=>rfl) (λ_ _=>rfl) hl,List.map_id]
def s_ (x:nA):cG:=⟨(x.aC.map Am),(x.b7.map An),(x.hA.map Ao),x.hg,x.hh⟩
def r3 (x:cG):Nat:=((ea mN x.aC)+((ea lW x.b7)+((ea lX x.hA)+((ea length x.hg)+((ea length x.hh)+0)))))
theorem V3 (x:nA):r3 (s_ x)=vO x:=by
 simp only[r3,vO,s_,DT,length_map,amQ,amU,amX]
theorem am0 (x:nA) (h:(vO x)<=1048576):vf x=some (s_ x):=by
 unfold vf;unfold vO at h;rw[amS _ (by omega),amW _ (by omega),amZ _ (by omega),V2 _ (by omega),V2 _ (by omega)];rfl
theorem O1 (x:arG) (h:(x.length+0)<=1048576):zG x x=some true:=by
 unfold zG;have hl:x.length<=1048576:=by omega
 rw[um,cond_false];exact Vy x (λ_ _=>rfl) uj hl
theorem am1 (x:aF):C3 x x=some true:=by
 unfold C3;simp only[uj,uk,vH,cond_false,bind_some,Bool.not_true]
theorem V4 (x:arU) (h:(x.length+0)<=1048576):zH x x=some true:=by
 unfold zH;have hl:x.length<=1048576:=by omega
 rw[um,cond_false];exact xQ (f:=C3) x (λ_ _=>rfl) (λy bz=>am1 y) hl
theorem O2 (x:arO) (h:(ea (λx=>x.length+0) x)<=1048576):zI x x=some true:=by
 unfold zI;have hl:x.length<=1048576:=Nat.le_trans (jJ _ _) h;rw[um,cond_false];exact xQ (f:=zH) x (λ_ _=>rfl) (λy bz=>V4 y (Nat.le_trans (mL (f:=(λx=>x.length+0)) bz) h)) hl
def nO (x:bH):Nat:=((x.cx.length+0)+((x.Guard.length+0)+(x.Name.length+((ea (λx=>x.length+0) x.a9)+((ea (λx=>x.length+0) x.Next)+0)))))
theorem am2 (x:bH) (h:(nO x)<=1048576):C4 x x=some true:=by
 unfold C4;unfold nO at h;simp only[uj,uk,vH,cond_false,bind_some,Bool.not_true,O1 x.cx (by omega),V4 x.Guard (by omega),O2 x.a9 (by omega),O2 x.Next (by omega)]
theorem am3 (x:arZ) (h:(ea nO x)<=1048576):G2 x x=some true:=by
 unfold G2;have hl:x.length<=1048576:=Nat.le_trans (jJ _ _) h;rw[um,cond_false];exact xQ (f:=C4) x (λ_ _=>rfl) (λy bz=>am2 y (Nat.le_trans (mL (f:=nO) bz) h)) hl
def ta (x:cr):Nat:=((x.Start.length+0)+((ea nO x.g3)+0))
theorem am4 (x:cr) (h:(ta x)<=1048576):zJ x x=some true:=by
 unfold zJ;unfold ta at h;simp only[uj,uk,vH,cond_false,bind_some,Bool.not_true,O1 x.Start (by omega),am3 x.g3 (by omega)]
theorem am5 (x:bk) (h:(lV x)<=1048576):C5 x x=some true:=by
 unfold C5;unfold lV at h;simp only[uj,uk,vH,cond_false,bind_some,Bool.not_true,O2 x.a9 (by omega)]
theorem am6 (x:arV) (h:(ea lV x)<=1048576):G3 x x=some true:=by
 unfold G3;have hl:x.length<=1048576:=Nat.le_trans (jJ _ _) h;rw[um,cond_false];exact xQ (f:=C5) x (λ_ _=>rfl) (λy bz=>am5 y (Nat.le_trans (mL (f:=lV) bz) h)) hl
theorem am7 (x:bg) (h:(mN x)<=1048576):C6 x x=some true:=by
 unfold C6;unfold mN at h;simp only[uj,uk,vH,cond_false,bind_some,Bool.not_true,am6 x.Body (by omega)]
theorem am8 (x:arW) (h:(ea mN x)<=1048576):G4 x x=some true:=by
 unfold G4;have hl:x.length<=1048576:=Nat.le_trans (jJ _ _) h;rw[um,cond_false];exact xQ (f:=C6) x (λ_ _=>rfl) (λy bz=>am7 y (Nat.le_trans (mL (f:=mN) bz) h)) hl
theorem am9 (x:dn) (h:(lW x)<=1048576):C7 x x=some true:=by
 unfold C7;unfold lW at h;simp only[uj,uk,vH,cond_false,bind_some,Bool.not_true,O1 x.e7 (by omega)]
theorem am_ (x:arX) (h:(ea lW x)<=1048576):G5 x x=some true:=by
 unfold G5;have hl:x.length<=1048576:=Nat.le_trans (jJ _ _) h;rw[um,cond_false];exact xQ (f:=C7) x (λ_ _=>rfl) (λy bz=>am9 y (Nat.le_trans (mL (f:=lW) bz) h)) hl
theorem ana (x:cq) (h:(lX x)<=1048576):C8 x x=some true:=by
 unfold C8;unfold lX at h;simp only[uj,uk,vH,cond_false,bind_some,Bool.not_true]
theorem anb (x:arY) (h:(ea lX x)<=1048576):G6 x x=some true:=by
 unfold G6;have hl:x.length<=1048576:=Nat.le_trans (jJ _ _) h;rw[um,cond_false];exact xQ (f:=C8) x (λ_ _=>rfl) (λy bz=>ana y (Nat.le_trans (mL (f:=lX) bz) h)) hl
theorem V5 (x:arD) (h:(ea length x)<=1048576):C9 x x=some true:=by
 unfold C9;have hl:x.length<=1048576:=Nat.le_trans (jJ _ _) h;rw[um,cond_false];exact Vy x (λ_ _=>rfl) uk hl
theorem anc (x:cG) (h:(r3 x)<=1048576):C_ x x=some true:=by
 unfold C_;unfold r3 at h;simp only[uj,uk,vH,cond_false,bind_some,Bool.not_true,am8 x.aC (by omega),am_ x.b7 (by omega),anb x.hA (by omega),V5 x.hg (by omega),V5 x.hh (by omega)]
theorem xZ (k:Int) (a5:0<=k) (ab:k<=1099511627776):∃t,rO k=some t:=by
 have key:∀(n:Nat) (k:Int),0<=k->k<=n->n<=1099511627776->∀t:arE,t.length+n<=1099511627776->∃r,∀m,n<m->xy m k t=some r:=by
  intro n;induction n with
  |zero=>
   intro k ae ag aK t bc;refine⟨[109]++t,λm hm=>?_⟩;obtain⟨m,rfl⟩:∃j,m=j+1:=⟨m-1,by omega⟩
   simp only[xy,G7];rw[show decide (0<k)=false by simp;omega,cond_false,show sa (1+t.length)=some () by unfold sa;rw[if_pos (by omega)]];rfl
  |succ n ih=>
   intro k ae ag aK t bc;by_cases ao:0<k
   .have ak:Int.tdiv k 10=k/10:=Int.tdiv_eq_ediv_of_nonneg ae;have hw:i64.wrap (Int.tdiv k 10)=k/10:=by rw[ak];exact fl _ (by omega)
    obtain⟨r,a4⟩:=ih (k/10) (by omega) (by omega) (by omega) ([(th (i64.wrap (48+(Int.tmod k 10))))]++t) (by simp only[length_append,length_cons,length_nil];omega);refine⟨r,λm hm=>?_⟩;obtain⟨m,rfl⟩:∃j,m=j+1:=⟨m-1,by omega⟩
    simp only[xy,G7];rw[show decide (0<k)=true by simp;omega,cond_true,show sa (1+t.length)=some () by unfold sa;rw[if_pos (by omega)]];simp only[bind_some,hw];exact a4 m (by omega)
   .refine⟨[109]++t,λm hm=>?_⟩;obtain⟨m,rfl⟩:∃j,m=j+1:=⟨m-1,by omega⟩
    simp only[xy,G7];rw[show decide (0<k)=false by simp;omega,cond_false,show sa (1+t.length)=some () by unfold sa;rw[if_pos (by omega)]];rfl
 unfold rO;by_cases ao:k<=0
 .exact⟨_,by rw[show decide (k<=0)=true by simpa using ao];rfl⟩
 .obtain⟨r,a4⟩:=key k.toNat k a5 (by omega) (by omega) [] (by simp only[length_nil];omega);exact⟨r,by rw[show decide (k<=0)=false by simp;omega,cond_false];exact fO (k.toNat+1) λm hm=>a4 m (by omega)⟩
theorem V6 (x:arU) (k:Int) (a5:0<=k) (ab:k+64*(x.length+0)<=1099511627776):∃(cD:arU) (c:Nat),c<=64*(x.length+0)/\Da x k=some (k+(c:Int),cD)/\Dd cD k=some (k+(c:Int)):=by
 unfold Da Dd;have e:fV (λ_=>64) x=64*x.length:=O0 64 x;obtain⟨cD,c,ae,ag,aK⟩:=H5 (l:=zK) (hl:=zW) (λ_=>64) (λm v k=>by simp only[zK,ML];rw[dX (Nat.le_refl _)];rfl) (λa m k=>by simp only[zW,MV];rw[dX (Nat.le_refl _)];rfl) (λx k a5 ab=>by
  have ef:i64.wrap (k+1)=k+1:=fl _ (by omega);have hb:i64.wrap ((k+1)+1)=(k+1)+1:=fl _ (by omega);refine⟨(aF.mk k (k+1)),1+1,by omega,λm d r ak=>⟨?_,?_⟩⟩
  .simp only[zK,ML];rw[p0];simp only[cond_true,pZ,uu,bind_some,ef,hb];rw[p1 ak];rw[show(((k+1)+1):Int)=k+((1+1:Nat):Int) by omega]
  .simp only[zW,MV];rw[p0];simp only[cond_true,cond_false,pZ,bind_some,bne_self_eq_false,beq_self_eq_true,Bool.not_true,ef,hb];rw[p1 ak];rw[show(((k+1)+1):Int)=k+((1+1:Nat):Int) by omega]) x k a5 (by omega) (by omega)
 exact⟨cD,c,by omega,ag,aK⟩
theorem O3 (x:arO) (k:Int) (a5:0<=k) (ab:k+64*(ea (λx=>x.length+0) x)<=1099511627776):∃(cD:arO) (c:Nat),c<=64*(ea (λx=>x.length+0) x)/\zM x k=some (k+(c:Int),cD)/\De cD k=some (k+(c:Int)):=by
 unfold zM De;have e:fV (λx=>64*((x.length+0)+1)) x=64*ea (λx=>x.length+0) x:=vN (λx=>x.length+0) x;have hl:x.length<=ea (λx=>x.length+0) x:=jJ _ _;obtain⟨cD,c,ae,ag,aK⟩:=H5 (l:=zL) (hl:=zX) (λx=>64*((x.length+0)+1)) (λm v k=>by simp only[zL,MM];rw[dX (Nat.le_refl _)];rfl) (λa m k=>by simp only[zX,MW];rw[dX (Nat.le_refl _)];rfl) (λx k a5 ab=>by
  obtain⟨fj,b2,j5,gk,dr⟩:=V6 x k (by omega) (by omega);have lG:=uv (k:=(k+(b2:Int))) (by omega);refine⟨fj,b2,by omega,λm d r ak=>⟨?_,?_⟩⟩
  .simp only[zL,MM];rw[p0];simp only[cond_true,pZ,uu,bind_some,gk];rw[p1 ak]
  .simp only[zX,MW];rw[p0];simp only[cond_true,cond_false,pZ,bind_some,bne_self_eq_false,beq_self_eq_true,Bool.not_true,dr,lG];rw[p1 ak]) x k a5 (by omega) (by omega)
 exact⟨cD,c,by omega,ag,aK⟩
theorem ane (x:arV) (k:Int) (a5:0<=k) (ab:k+64*(ea lV x)<=1099511627776):∃(cD:arV) (c:Nat),c<=64*(ea lV x)/\G8 x k=some (k+(c:Int),cD):=by
 unfold G8;have e:fV (λx=>64*((lV x)+1)) x=64*ea lV x:=vN lV x;have hl:x.length<=ea lV x:=jJ _ _;obtain⟨cD,c,ae,ag⟩:=D1 (l:=zN) (λx=>64*((lV x)+1)) (λm v k=>by simp only[zN,MN];rw[dX (Nat.le_refl _)];rfl) (λx k a5 ab=>by
  simp only[lV]at ab⊢;have ef:i64.wrap (k+1)=k+1:=fl _ (by omega);have hb:i64.wrap ((k+1)+1)=(k+1)+1:=fl _ (by omega);obtain⟨kB,t3⟩:=xZ ((k+1)+1) (by omega) (by omega);have ll:i64.wrap (((k+1)+1)+1)=((k+1)+1)+1:=fl _ (by omega);obtain⟨pY,j3,bN,kS⟩:=O3 x.a9 (((k+1)+1)+1) (by omega) (by omega);refine⟨(bk.mk k (k+1) kB pY),1+1+1+j3,by omega,λm d r ak=>?_⟩;simp only[zN,MN];rw[p0];simp only[cond_true,pZ,uu,bind_some,ef,hb,t3,ll,kS];rw[p1 ak];rw[show(((((k+1)+1)+1)+(j3:Int)):Int)=k+((1+1+1+j3:Nat):Int) by omega]) x k a5 (by omega) (by omega)
 exact⟨cD,c,by omega,ag⟩
theorem anf (x:arW) (k:Int) (a5:0<=k) (ab:k+64*(ea mN x)<=1099511627776):∃(cD:arW) (c:Nat),c<=64*(ea mN x)/\G9 x k=some (k+(c:Int),cD):=by
 unfold G9;have e:fV (λx=>64*((mN x)+1)) x=64*ea mN x:=vN mN x;have hl:x.length<=ea mN x:=jJ _ _;obtain⟨cD,c,ae,ag⟩:=D1 (l:=zO) (λx=>64*((mN x)+1)) (λm v k=>by simp only[zO,MO];rw[dX (Nat.le_refl _)];rfl) (λx k a5 ab=>by
  simp only[mN]at ab⊢;obtain⟨s1,t1⟩:=xZ k (by omega) (by omega);have ef:i64.wrap (k+1)=k+1:=fl _ (by omega);have hb:i64.wrap ((k+1)+1)=(k+1)+1:=fl _ (by omega);obtain⟨mC,nu,lB,iJ⟩:=ane x.Body ((k+1)+1) (by omega) (by omega);refine⟨(bg.mk s1 (k+1) mC),1+1+nu,by omega,λm d r ak=>?_⟩;simp only[zO,MO];rw[p0];simp only[cond_true,pZ,uu,bind_some,t1,ef,hb,iJ];rw[p1 ak];rw[show((((k+1)+1)+(nu:Int)):Int)=k+((1+1+nu:Nat):Int) by omega]) x k a5 (by omega) (by omega)
 exact⟨cD,c,by omega,ag⟩
theorem O4 (x:arG) (k:Int) (a5:0<=k) (ab:k+64*(x.length+0)<=1099511627776):∃(cD:arG) (c:Nat),c<=64*(x.length+0)/\zQ x k=some (k+(c:Int),cD)/\Dc cD k=some (k+(c:Int)):=by
 unfold zQ Dc;have e:fV (λ_=>64) x=64*x.length:=O0 64 x;obtain⟨cD,c,ae,ag,aK⟩:=H5 (l:=zP) (hl:=zV) (λ_=>64) (λm v k=>by simp only[zP,MP];rw[dX (Nat.le_refl _)];rfl) (λa m k=>by simp only[zV,MU];rw[dX (Nat.le_refl _)];rfl) (λx k a5 ab=>by
  have ef:i64.wrap (k+1)=k+1:=fl _ (by omega);refine⟨k,1,by omega,λm d r ak=>⟨?_,?_⟩⟩
  .simp only[zP,MP];rw[p0];simp only[cond_true,pZ,uu,bind_some,ef];rw[p1 ak];rw[show((k+1):Int)=k+((1:Nat):Int) by omega]
  .simp only[zV,MU];rw[p0];simp only[cond_true,cond_false,pZ,bind_some,bne_self_eq_false,beq_self_eq_true,Bool.not_true,ef];rw[p1 ak];rw[show((k+1):Int)=k+((1:Nat):Int) by omega]) x k a5 (by omega) (by omega)
 exact⟨cD,c,by omega,ag,aK⟩
theorem ang (x:arX) (k:Int) (a5:0<=k) (ab:k+64*(ea lW x)<=1099511627776):∃(cD:arX) (c:Nat),c<=64*(ea lW x)/\G_ x k=some (k+(c:Int),cD):=by
 unfold G_;have e:fV (λx=>64*((lW x)+1)) x=64*ea lW x:=vN lW x;have hl:x.length<=ea lW x:=jJ _ _;obtain⟨cD,c,ae,ag⟩:=D1 (l:=zR) (λx=>64*((lW x)+1)) (λm v k=>by simp only[zR,MQ];rw[dX (Nat.le_refl _)];rfl) (λx k a5 ab=>by
  simp only[lW]at ab⊢;have ef:i64.wrap (k+1)=k+1:=fl _ (by omega);obtain⟨g8,cc,ig,ht⟩:=O4 x.e7 (k+1) (by omega) (by omega);refine⟨(dn.mk k g8),1+cc,by omega,λm d r ak=>?_⟩;simp only[zR,MQ];rw[p0];simp only[cond_true,pZ,uu,bind_some,ef,ht];rw[p1 ak];rw[show(((k+1)+(cc:Int)):Int)=k+((1+cc:Nat):Int) by omega]) x k a5 (by omega) (by omega)
 exact⟨cD,c,by omega,ag⟩
theorem anh (x:arY) (k:Int) (a5:0<=k) (ab:k+64*(ea lX x)<=1099511627776):∃(cD:arY) (c:Nat),c<=64*(ea lX x)/\Ha x k=some (k+(c:Int),cD):=by
 unfold Ha;have e:fV (λx=>64*((lX x)+1)) x=64*ea lX x:=vN lX x;have hl:x.length<=ea lX x:=jJ _ _;obtain⟨cD,c,ae,ag⟩:=D1 (l:=zS) (λx=>64*((lX x)+1)) (λm v k=>by simp only[zS,MR];rw[dX (Nat.le_refl _)];rfl) (λx k a5 ab=>by
  simp only[lX]at ab⊢;obtain⟨s1,t1⟩:=xZ k (by omega) (by omega);have ef:i64.wrap (k+1)=k+1:=fl _ (by omega);obtain⟨s2,t2⟩:=xZ (k+1) (by omega) (by omega);have hb:i64.wrap ((k+1)+1)=(k+1)+1:=fl _ (by omega);obtain⟨kB,t3⟩:=xZ ((k+1)+1) (by omega) (by omega);have ll:i64.wrap (((k+1)+1)+1)=((k+1)+1)+1:=fl _ (by omega);refine⟨(cq.mk s1 s2 kB),1+1+1,by omega,λm d r ak=>?_⟩;simp only[zS,MR];rw[p0];simp only[cond_true,pZ,uu,bind_some,t1,ef,t2,hb,t3,ll];rw[p1 ak];rw[show((((k+1)+1)+1):Int)=k+((1+1+1:Nat):Int) by omega]) x k a5 (by omega) (by omega)
 exact⟨cD,c,by omega,ag⟩
theorem V7 (x:arD) (k:Int) (a5:0<=k) (ab:k+64*(ea length x)<=1099511627776):∃(cD:arD) (c:Nat),c<=64*(ea length x)/\Db x k=some (k+(c:Int),cD):=by
 unfold Db;have e:fV (λx=>64*(x.length+1)) x=64*ea length x:=vN length x;have hl:x.length<=ea length x:=jJ _ _;obtain⟨cD,c,ae,ag⟩:=D1 (l:=zT) (λx=>64*(x.length+1)) (λm v k=>by simp only[zT,MS];rw[dX (Nat.le_refl _)];rfl) (λx k a5 ab=>by
  obtain⟨s1,t1⟩:=xZ k (by omega) (by omega);have ef:i64.wrap (k+1)=k+1:=fl _ (by omega);refine⟨s1,1,by omega,λm d r ak=>?_⟩;simp only[zT,MS];rw[p0];simp only[cond_true,pZ,uu,bind_some,t1,ef];rw[p1 ak];rw[show((k+1):Int)=k+((1:Nat):Int) by omega]) x k a5 (by omega) (by omega)
 exact⟨cD,c,by omega,ag⟩
theorem ani (x:cG) (k:Int) (a5:0<=k) (ab:k+64*((r3 x)+1)<=1099511627776):∃(gw:arW) (fj:arX) (g8:arY) (mC:arD) (pY:arD) (c:Nat),c<=64*((r3 x)+1)/\Hb x.aC x.b7 x.hA x.hg x.hh k=some (k+(c:Int),gw,fj,g8,mC,pY):=by
 unfold Hb;simp only[r3]at ab⊢;obtain⟨fj,b2,j5,gk⟩:=anf x.aC k (by omega) (by omega);obtain⟨g8,cc,ig,ht⟩:=ang x.b7 (k+(b2:Int)) (by omega) (by omega);obtain⟨mC,nu,lB,iJ⟩:=anh x.hA ((k+(b2:Int))+(cc:Int)) (by omega) (by omega);obtain⟨pY,j3,bN,kS⟩:=V7 x.hg (((k+(b2:Int))+(cc:Int))+(nu:Int)) (by omega) (by omega);obtain⟨O5,nv,cS,nr⟩:=V7 x.hh ((((k+(b2:Int))+(cc:Int))+(nu:Int))+(j3:Int)) (by omega) (by omega);refine⟨fj,g8,mC,pY,O5,b2+cc+nu+j3+nv,by omega,?_⟩;simp only[bind_some,gk,ht,iJ,kS,nr];rw[show(k+((b2+cc+nu+j3+nv:Nat):Int))=(((((k+(b2:Int))+(cc:Int))+(nu:Int))+(j3:Int))+(nv:Int)) by omega]
theorem anj (x:arZ) (k:Int) (a5:0<=k) (ab:k+64*(ea nO x)<=1099511627776):∃(cD:arZ) (c:Nat),c<=64*(ea nO x)/\Hc x k=some (k+(c:Int),cD)/\He cD k=some (k+(c:Int)):=by
 unfold Hc He;have e:fV (λx=>64*((nO x)+1)) x=64*ea nO x:=vN nO x;have hl:x.length<=ea nO x:=jJ _ _;obtain⟨cD,c,ae,ag,aK⟩:=H5 (l:=zU) (hl:=zY) (λx=>64*((nO x)+1)) (λm v k=>by simp only[zU,MT];rw[dX (Nat.le_refl _)];rfl) (λa m k=>by simp only[zY,MX];rw[dX (Nat.le_refl _)];rfl) (λx k a5 ab=>by
  simp only[nO]at ab⊢;obtain⟨fj,b2,j5,gk,dr⟩:=O4 x.cx k (by omega) (by omega);have lG:=uv (k:=(k+(b2:Int))) (by omega);obtain⟨g8,cc,ig,ht,dh⟩:=V6 x.Guard (k+(b2:Int)) (by omega) (by omega);have bD:=uv (k:=((k+(b2:Int))+(cc:Int))) (by omega);obtain⟨kB,t3⟩:=xZ ((k+(b2:Int))+(cc:Int)) (by omega) (by omega);have ll:i64.wrap (((k+(b2:Int))+(cc:Int))+1)=((k+(b2:Int))+(cc:Int))+1:=fl _ (by omega);obtain⟨pY,j3,bN,kS,g7⟩:=O3 x.a9 (((k+(b2:Int))+(cc:Int))+1) (by omega) (by omega);have gg:=uv (k:=((((k+(b2:Int))+(cc:Int))+1)+(j3:Int))) (by omega);obtain⟨O5,nv,cS,nr,k9⟩:=O3 x.Next ((((k+(b2:Int))+(cc:Int))+1)+(j3:Int)) (by omega) (by omega);have dJ:=uv (k:=(((((k+(b2:Int))+(cc:Int))+1)+(j3:Int))+(nv:Int))) (by omega);refine⟨(bH.mk fj g8 kB pY O5),b2+cc+1+j3+nv,by omega,λm d r ak=>⟨?_,?_⟩⟩
  .simp only[zU,MT];rw[p0];simp only[cond_true,pZ,uu,bind_some,gk,ht,t3,ll,kS,nr];rw[p1 ak];rw[show((((((k+(b2:Int))+(cc:Int))+1)+(j3:Int))+(nv:Int)):Int)=k+((b2+cc+1+j3+nv:Nat):Int) by omega]
  .simp only[zY,MX];rw[p0];simp only[cond_true,cond_false,pZ,bind_some,bne_self_eq_false,beq_self_eq_true,Bool.not_true,dr,lG,dh,bD,g7,gg,k9,dJ,t3,ll];rw[p1 ak];rw[show((((((k+(b2:Int))+(cc:Int))+1)+(j3:Int))+(nv:Int)):Int)=k+((b2+cc+1+j3+nv:Nat):Int) by omega]) x k a5 (by omega) (by omega)
 exact⟨cD,c,by omega,ag,aK⟩
theorem ank (x:cr) (k:Int) (a5:0<=k) (ab:k+64*((ta x)+1)<=1099511627776):∃(gw:Int) (fj:arG) (g8:arZ) (c:Nat),c<=64*((ta x)+1)/\Hd x.bW x.Start x.g3 k=some (k+(c:Int),gw,fj,g8)/\Df (cr.mk gw fj g8) k=some (k+(c:Int)):=by
 unfold Hd Df;simp only[ta]at ab⊢;obtain⟨fj,b2,j5,gk,dr⟩:=O4 x.Start k (by omega) (by omega);have lG:=uv (k:=(k+(b2:Int))) (by omega);obtain⟨g8,cc,ig,ht,dh⟩:=anj x.g3 (k+(b2:Int)) (by omega) (by omega);have bD:=uv (k:=((k+(b2:Int))+(cc:Int))) (by omega);refine⟨x.bW,fj,g8,b2+cc,by omega,?_,?_⟩
 .simp only[bind_some,gk,ht];rw[show(k+((b2+cc:Nat):Int))=((k+(b2:Int))+(cc:Int)) by omega]
 .simp only[bind_some,cond_false,bne_self_eq_false,beq_self_eq_true,Bool.not_true,dr,lG,dh,bD];rw[show(k+((b2+cc:Nat):Int))=((k+(b2:Int))+(cc:Int)) by omega]
theorem anl {list:arW} (h:ea mN list<=1048576):lU list:=by
 refine⟨Nat.le_trans (jJ _ _) h,λd ak=>?_⟩;have ae:=Nat.le_trans (mL (f:=mN) ak) h;unfold mN at ae;refine⟨by omega,Nat.le_trans (jJ lV _) (by omega),λp aw=>?_⟩;have a5:lV p<=ea lV d.Body:=mL aw;have ag:lV p<=1048576:=by omega
 clear a5;unfold lV at ag;have aK:=jJ (λx:List aF=>x.length+0) p.a9;refine⟨by omega,by omega,λe he=>?_⟩;have a3:e.length+0<=_:=mL (f:=λx:List aF=>x.length+0) he;omega
def lu (e:arW) (i:Nat):arE:=(e.getD i ⟨[],0,[]⟩).Name
theorem uw {e:arW} {i:Nat} (al:i<e.length):e.getD i ⟨[],0,[]⟩=e[i]:=by simp[List.getD,al]
def r4 (e:arW) (i:Nat):Bool:=gN (λj=> !(lu e j==lu e i)) i
noncomputable def qS (e:arW) (i:Nat):Bool:=match tI e (e.getD i ⟨[],0,[]⟩)with
 |some r=>r.2==0
 |none=>false
noncomputable def jX (e:arW):Bool:=((decide (1<=e.length)&&decide (e.length<=4))&&gN (λi=>(kM (lu e i)&&ur (e.getD i ⟨[],0,[]⟩))&&r4 e i) e.length)&&gN (qS e) e.length
theorem O6 {e:arW} (h:lU e) (a3:e.length<=4) (aw:Aj e=true) {i:Nat} (al:i<e.length):
  ∃r,tI e e[i]=some r/\CQ e e[i]=some r/\decide (0<r.2)= !(qS e i)/\(r.2 !=0)= !(qS e i)/\(qS e i=true->uq e[i].Body=true/\r.2=0):=by
 obtain⟨r,dT,bb,dt,bX⟩:=amw e a3 e[i] (h.2 _ (getElem_mem al)) (VZ aw i al);have ab:qS e i=(r.2==0):=by unfold qS;rw[uw al,dT]
 refine⟨r,dT,bb,?_,?_,λk6=>?_⟩
 .rw[ab];by_cases a5:r.2=0
  .rw[a5];rfl
  .have aW:(r.2==0)=false:=by simpa using a5
   rw[aW];exact decide_eq_true (by omega)
 .rw[ab];rfl
 .rw[ab]at k6;have a5:r.2=0:=by simpa using k6
  exact⟨bX a5,a5⟩
theorem ux {p q:Nat->Bool} {n:Nat}:gN (λi=>p i&&q i) n=(gN p n&&gN q n):=by
 rw[Bool.eq_iff_iff,Bool.and_eq_true,s5,s5,s5];constructor
 .intro h;exact⟨λi al=>((Bool.and_eq_true _ _).mp (h i al)).1,λi al=>((Bool.and_eq_true _ _).mp (h i al)).2⟩
 .rintro⟨ae,ag⟩ i al;rw[ae i al,ag i al];rfl
theorem anm (e:arW) (h:lU e):FQ e=some (jX e):=by
 unfold FQ jX;by_cases hl:1<=e.length/\e.length<=4
 .have d1:(((e.length:Int)==0)||decide ((4:Int)<(e.length:Int)))=false:=by
   rw[Bool.or_eq_false_iff,beq_eq_false_iff_ne,decide_eq_false_iff_not];omega
  have d2:(decide (1<=e.length)&&decide (e.length<=4))=true:=by simp;omega
  rw[d1,d2,cond_false,Bool.true_and];rw[xY (l:=λm i=>tJ e m i) (n:=e.length) (λi=>(kM (lu e i)&&ur (e.getD i ⟨[],0,[]⟩))&&r4 e i) (bU λn=>w5 e n 0) (some false)]
  .cases b6:gN (λi=>(kM (lu e i)&&ur (e.getD i ⟨[],0,[]⟩))&&r4 e i) e.length
   .rfl
   .have aw:Aj e=true:=by
     rw[ux,ux,Bool.and_eq_true,Bool.and_eq_true]at b6;exact b6.1.2
    rw[cond_true,Bool.true_and];rw[xY (l:=λm i=>w5 e m i) (n:=e.length) (qS e) (some true) (some false)]
    .cases gN (qS e) e.length<;>rfl
    .intro m;simp only[w5,Lh];rw[dX (Nat.le_refl _)];rfl
    .intro i al m;obtain⟨r,dT,_,dt,_⟩:=O6 h hl.2 aw al;simp only[w5,Lh];rw[eI al,er _ i al,et i _ al (by omega)];simp only[cond_true,bind_some,dT,dt];cases qS e i<;>rfl
  .intro m;simp only[tJ,Li];rw[dX (Nat.le_refl _)];rfl
  .intro i al m;simp only[tJ,Li];rw[eI al,er _ i al];simp only[cond_true,bind_some,DV,kF];rw[xY (l:=λja j=>y0 (tJ e m) e ja (i:Int) j) (n:=i) (λj=> !(lu e j==lu e i)) (tJ e m ((i+1:Nat):Int)) (some false)]
   .have aW:lu e i=e[i].Name:=by unfold lu;rw[uw al]
    rw[<-aW,uw al];show cond (!kM (lu e i)) _ (cond (!ur e[i]) _ (cond (r4 e i) _ _))=_;cases kM (lu e i)<;>cases ur e[i]<;>cases r4 e i<;>rfl
   .intro ja;simp only[y0,Lg];rw[dX (Nat.le_refl _),et i _ al (by omega)];rfl
   .intro j bP ja;have H6:j<e.length:=by omega
    simp only[y0,Lg];rw[eI bP,er _ j H6,er _ i al,et j _ bP (by omega)];simp only[cond_true,bind_some,lu,uw al,uw H6];cases e[j].Name==e[i].Name<;>rfl
 .have d1:(((e.length:Int)==0)||decide ((4:Int)<(e.length:Int)))=true:=by
   by_cases a5:e.length=0
   .simp[a5]
   .have:decide ((4:Int)<(e.length:Int))=true:=decide_eq_true (by omega);rw[this,Bool.or_true]
  have d2:(decide (1<=e.length)&&decide (e.length<=4))=false:=by
   rw[Bool.and_eq_false_iff,decide_eq_false_iff_not,decide_eq_false_iff_not];omega
  rw[d1,d2];rfl
theorem ann (e:arW) (i:Nat) (al:i<e.length) (a3:e.length<=4):((jY e 0 (i:Int)).bind λaP=>(Gg aP e[i].Name).bind λaV=>some (decide (0<=aV)))=some (!(r4 e i)):=by
 rw[Vt e i (by omega)];simp only[bind_some];unfold Gg LQ;have hlen:(e.take i).length=i:=by rw[length_take];omega
 rw[Af (n:=i) (λj=>lu e j==lu e i)]
 .simp only[bind_some,Ae];rfl
 .intro m;simp only[CF,LP];rw[hlen,dX (Nat.le_refl _)];rfl
 .intro j bP m;have H6:j<e.length:=by omega
  simp only[CF,LP];rw[hlen,eI bP,er _ j (by omega),et j _ bP (by omega)];have:(e.take i)[j]'(by omega)=e[j]:=by simp
  simp only[cond_true,bind_some,LO,this,lu,uw al,uw H6]
theorem ano (e:arW) (h:lU e):Gm e=some (jX e):=by
 unfold Gm jD jX;have k_:decide ((1:Int)<=(e.length:Int))=decide (1<=e.length):=decide_eq_decide.2 (by omega);have jM:decide ((e.length:Int)<=4)=decide (e.length<=4):=decide_eq_decide.2 (by omega);simp only[bind_some];rw[k_,jM];cases hl:(decide (1<=e.length)&&decide (e.length<=4))
 .rfl
 .have V8:1<=e.length/\e.length<=4:=by simpa using hl
  rw[amx e h.1];simp only[Bool.not_true,cond_false,bind_some,Bool.true_and];have anp:gN (λi=>(kM (lu e i)&&ur (e.getD i ⟨[],0,[]⟩))&&r4 e i) e.length=((gN (λi=>kM (lu e i)) e.length&&Aj e)&&gN (r4 e) e.length):=by
   rw[ux,ux];rfl
  rw[anp];cases aw:Aj e
  .simp
  .simp only[Bool.not_true,cond_false,Bool.and_true];rw[xY (l:=λm i=>zo e m i) (n:=e.length) (λi=>(kM (lu e i)&&r4 e i)&&qS e i) (some true) (some false)]
   .rw[ux,ux];cases((gN (λi=>kM (lu e i)) e.length&&gN (λi=>r4 e i) e.length)&&gN (λi=>qS e i) e.length)<;>rfl
   .intro m;simp only[zo,L2];rw[dX (Nat.le_refl _)];rfl
   .intro i al m;obtain⟨r,_,bb,_,bX,_⟩:=O6 h V8.2 aw al;have aZ:=ann e i al V8.2;have ot:=(h.2 _ (getElem_mem al)).1;simp only[zo,L2];rw[eI al,er _ i al,et i _ al (by omega)];simp only[cond_true,bind_some,OT _ (show e[i].Name.length<=140737488355328 by omega),lu,uw al];cases kM e[i].Name
    .rfl
    .simp only[Bool.not_true,cond_false,Bool.true_and];rw[Vt e i (by omega)]at aZ⊢;simp only[bind_some]at aZ⊢;obtain⟨v,aE,Ai⟩:=ar aZ;rw[aE];simp only[some.injEq]at Ai;simp only[bind_some,Ai,bb,bX];cases r4 e i<;>cases qS e i<;>rfl
theorem lY {e:arW} (h:lU e) (aE:jX e=true):1<=e.length/\e.length<=4/\∀i (al:i<e.length),(0<=e[i].bW/\e[i].bW<=3)/\uq e[i].Body=true/\kM e[i].Name=true/\
  ∃r,tI e e[i]=some r/\r.2=0:=by
 unfold jX at aE;rw[Bool.and_eq_true,Bool.and_eq_true,Bool.and_eq_true,decide_eq_true_eq,decide_eq_true_eq,ux,ux,Bool.and_eq_true,Bool.and_eq_true]at aE;obtain⟨⟨⟨ae,ag⟩,⟨aK,a3⟩,bI⟩,dc⟩:=aE;refine⟨ae,ag,λi al=>?_⟩;obtain⟨r,dT,_,_,_,cm⟩:=O6 h ag a3 al;obtain⟨s1,s2⟩:=cm (s5.1 dc i al);have aZ:=s5.1 aK i al;rw[lu,uw al]at aZ;exact⟨VZ a3 i al,s1,aZ,r,dT,s2⟩
theorem V9 {e:arW} (h:lU e) (aE:jX e=true) {i j:Nat} (al:i<e.length) (bP:j<e[i].Body.length):
  vg e[i] (j:Int)=some (eY e[i] j).scope/\∃ps,vn e[i]=some ps/\a_ ps (j:Int)=some (eY e[i] j):=by
 obtain⟨_,_,ak⟩:=lY h aE;obtain⟨aw,ad,_⟩:=ak i al;obtain⟨s1,s2,kB⟩:=oq ad;have ab:=(h.2 _ (getElem_mem al)).2.1;obtain⟨dr,_,_,_,k9⟩:=s9 e[i] ad aw j bP;exact⟨dr,_,OV e[i] ab s1 aw.1 (by omega),by unfold a_;rw[if_pos (by omega)];exact k9⟩
def H7 (a:arG):Bool:=gN (λi=>iU (a.getD i 0) 0 63) a.length
theorem anq (a:arG) (h:a.length<=1048576):w6 a=some (H7 a):=by
 unfold w6;refine HZ (l:=λm i=>vi a m i) _ (λm=>?_) (λi al m=>?_)
 .simp only[vi,Cl];rw[dX (Nat.le_refl _)];rfl
 .simp only[vi,Cl,kF];rw[eI al,lT _ i 0 al,et i _ al (by omega)];simp only[cond_true,bind_some];show cond (!iU (a.getD i 0) 0 63) _ _=_;cases iU (a.getD i 0) 0 63<;>rfl
theorem anr (a:arG) (h:a.length<=1048576):zq a=some (H7 a):=by
 unfold zq Gr Gq;rw[Af (n:=a.length) (λi=> !iU (a.getD i 0) 0 63)]
 .simp only[bind_some,Ae,Bool.not_not];rfl
 .intro m;simp only[zp,Gp];rw[dX (Nat.le_refl _)];rfl
 .intro i al m;simp only[zp,Gp];rw[eI al,lT _ i 0 al,et i _ al (by omega)];simp only[cond_true,bind_some,Gn,CJ,jD];rfl
end Go.mc
