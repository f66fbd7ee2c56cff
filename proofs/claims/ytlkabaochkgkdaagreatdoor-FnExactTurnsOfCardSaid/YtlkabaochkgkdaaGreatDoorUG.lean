/- Part of a proof that a law returns true for every input. No condition. -/
import Derived.Test.YtlkabaochkgkdaaGreatDoorU0
namespace Go.eU
open Go Go.c_
def ig (n:Int) (s:Nat):Int:=if(s:Int)<=n then n-s else-1
theorem Bw {n:Int} {s:Nat} (h:(s:Int)<=n):ig n s=n-s:=if_pos h
theorem Bx {n:Int} {s:Nat} (h:n<s):ig n s= -1:=if_neg (by omega)
theorem aD9 {n:Int} (h:0<=n):ig n 0=n:=by rw[Bw (by simpa using h)];simp
theorem sb {f:Option Int} {k:Int->Option Int} {n:Int} {s t:Nat} (bw:f=some (ig n s)) (ay:(s:Int)<=n->k (n-s)=some (ig (n-s) t)):
  (f.bind λx=>cond (decide (x<0)) (some (-1)) (k x))=some (ig n (s+t)):=by
 rw[bw];simp only[Option.bind_some];by_cases h:(s:Int)<=n
 .rw[Bw h];have:decide (n-(s:Int)<0)=false:=by simp;omega
  rw[this,cond_false,ay h];congr 1;unfold ig;by_cases ah:(t:Int)<=n-s
  .rw[if_pos ah,if_pos (by omega)];omega
  .rw[if_neg ah,if_neg (by omega)]
 .rw[Bx (by omega)];have:decide ((-1:Int)<0)=true:=by decide
  rw[this,cond_true,Bx (by omega)]
theorem mT {K:Option Int} {n:Int} {s t:Nat} (ae:s<=9223372036854775807) (ba:0<=n) (a7:n<=1048576) (ay:(s:Int)<=n->K=some (ig (n-s) t)):
  cond (decide (IntKind.i64.wrap (n-(s:Int))<0)) (some (-1)) K=some (ig n (s+t)):=by
 rw[eC _ (by omega)];by_cases h:(s:Int)<=n
 .have:decide (n-(s:Int)<0)=false:=by simp;omega
  rw[this,cond_false,ay h];congr 1;unfold ig;by_cases ah:(t:Int)<=n-s
  .rw[if_pos ah,if_pos (by omega)];omega
  .rw[if_neg ah,if_neg (by omega)]
 .have:decide (n-(s:Int)<0)=true:=by simp;omega
  rw[this,cond_true,Bx (by omega)]
theorem sc {n:Int} (h:0<=n):some n=some (ig n 0):=by rw[aD9 h]
def hD {α:Type} (f:α->Nat):List α->Nat
 |[]=>0
 |x::r=>f x+hD f r
theorem Sd {α:Type} {f:α->Nat}:∀{l:List α} {x:α},x∈l->f x<=hD f l
 |y::r,x,h=>by
  simp only[hD];rcases List.mem_cons.1 h with rfl|h
  .omega
  .have:=Sd (f:=f) h;omega
theorem Se {α β:Type} {f:β->Nat} {g:α->β}:∀l:List α,hD f (l.map g)=hD (λx=>f (g x)) l
 |[]=>rfl
 |x::r=>by simp only[List.map_cons,hD,Se r]
def dO {α:Type} (f:α->Nat) (l:List α):Nat:=l.length+hD f l
theorem vO {α β:Type} (f:β->Nat) (g:α->β) (l:List α):dO f (l.map g)=dO (λx=>f (g x)) l:=by simp only[dO,List.length_map,Se]
theorem i6 {α:Type} (f:α->Nat) (l:List α):l.length<=dO f l:=Nat.le_add_right _ _
theorem lv {α:Type} {f:α->Nat} {l:List α} {x:α} (h:x∈l):f x<=dO f l:=Nat.le_trans (Sd h) (Nat.le_add_left _ _)
theorem Sf {α:Type} {l:Nat->Int->Int->Option Int} {B:α->Int->(Int->Option Int)->Option Int} (sz:α->Nat) (a:List α)
  (nC:∀m n i,l (m+1) n i=cond (decide (i<(a.length:Int))) ((bF a i).bind λx=>B x n λy=>l m y (IntKind.i64.wrap (i+1))) (some n))
  (bw:∀x∈a,∀(n:Int) (k:Int->Option Int) (t:Nat),0<=n->n<=1048576->((sz x:Int)<=n->k (n-sz x)=some (ig (n-sz x) t))->B x n k=some (ig n (sz x+t)))
  (cf:a.length<=1048576) (n:Int) (ba:0<=n) (a7:n<=1048576):cB (λm=>l m n 0)=some (ig n (hD sz a)):=by
 have key:∀i,i<=a.length->∀n:Int,0<=n->n<=1048576->∀m,a.length-i<m->l m n (i:Int)=some (ig n (hD sz (a.drop i))):=by
  refine down a.length ?_ ?_
  .intro n ba _ m hm;obtain⟨k,rfl⟩:∃k,m=k+1:=⟨m-1,by omega⟩
   rw[nC,fh (Nat.le_refl _),cond_false,List.drop_of_length_le (Nat.le_refl _)];exact sc ba
  .intro i an ih n ba a7 m hm;obtain⟨k,rfl⟩:∃k,m=k+1:=⟨m-1,by omega⟩
   rw[nC,fX an,cond_true,gN _ i an,fO i _ an (by omega),drop_cons a i an];simp only[Option.bind_some,hD];exact bw _ (List.getElem_mem an) n _ _ ba a7 λh=>ih _ (by omega) (by omega) k (by omega)
 refine ij (a.length+1) λm hm=>?_;have:=key 0 (by omega) n ba a7 m (by omega);simpa using this
theorem yl {α:Type} {l:Nat->Int->Int->Option Int} {f:α->Int->Option Int} (sz:α->Nat) (a:List α)
  (nC:∀m n i,l (m+1) n i=cond (decide (i<(a.length:Int))) ((bF a i).bind λx=>(f x n).bind λy=>cond (decide (y<0)) (some (-1)) (l m y (IntKind.i64.wrap (i+1)))) (some n))
  (bw:∀x∈a,∀n:Int,0<=n->n<=1048576->f x n=some (ig n (sz x))) (cf:a.length<=1048576) (n:Int) (ba:0<=n) (a7:n<=1048576):cB (λm=>l m n 0)=some (ig n (hD sz a)):=
 Sf (B:=λx n k=>(f x n).bind λy=>cond (decide (y<0)) (some (-1)) (k y)) sz a nC (λx aw n _ _ ba a7 ay=>sb (bw x aw n ba a7) ay) cf n ba a7
theorem aD_ {l:Nat->Int->Int->Option Int} (a:List (List UInt8))
  (nC:∀m n i,l (m+1) n i=cond (decide (i<(a.length:Int))) ((bF a i).bind λx=>cond (decide (IntKind.i64.wrap (n-(x.length:Int))<0)) (some (-1)) (l m (IntKind.i64.wrap (n-(x.length:Int))) (IntKind.i64.wrap (i+1)))) (some n))
  (bw:∀x∈a,x.length<=9223372036854775807) (cf:a.length<=1048576) (n:Int) (ba:0<=n) (a7:n<=1048576):cB (λm=>l m n 0)=some (ig n (hD List.length a)):=
 Sf (B:=λx n k=>cond (decide (IntKind.i64.wrap (n-(x.length:Int))<0)) (some (-1)) (k (IntKind.i64.wrap (n-(x.length:Int))))) List.length a (by intro m n i;rw[nC]) (by
  intro x aw n k t ba a7 ay;have hl:=bw x aw;refine mT hl ba a7 λh=>?_;have e:IntKind.i64.wrap (n-(x.length:Int))=n-(x.length:Int):=eC _ (by omega);rw[e];exact ay h) cf n ba a7
theorem sd {α β:Type} {l:Nat->List β->Int->Option (List β)} {f:α->Option β} (g:α->β) (a:List α) (z:β)
  (nC:∀m v i,l (m+1) v i=cond (decide (i<(a.length:Int))) ((bF a i).bind λx=>(f x).bind λy=>(bF v i).bind λ_=>l m (List.set v (Int.toNat i) y) (IntKind.i64.wrap (i+1))) (some v))
  (bw:∀x∈a,f x=some (g x)) (cf:a.length<=1048576):cB (λm=>l m (List.replicate (Int.toNat (a.length:Int)) z) 0)=some (a.map g):=by
 have key:∀i,i<=a.length->∀(v:List β) m,v.length=a.length->a.length-i<m->l m v (i:Int)=some (v.take i++(a.drop i).map g):=by
  refine down a.length ?_ ?_
  .intro v m aT hm;obtain⟨k,rfl⟩:∃k,m=k+1:=⟨m-1,by omega⟩
   rw[nC,fh (Nat.le_refl _)];simp[<-aT]
  .intro i an ih v m aT hm;obtain⟨k,rfl⟩:∃k,m=k+1:=⟨m-1,by omega⟩
   rw[nC,fX an,gN _ i an,fO i _ an (by omega)];simp only[cond_true,Option.bind_some,bw _ (List.getElem_mem an)];rw[gN v i (by omega)];simp only[Option.bind_some,Int.toNat_natCast];rw[ih _ k (by simp[aT]) (by omega),drop_cons a i an,List.map_cons,List.take_set,List.take_succ_eq_append_getElem (by omega),List.set_append_right _ _ (by simp;omega)];simp[show min i v.length=i by omega]
 refine ij (a.length+1) λm hm=>?_;have:=key 0 (by omega) (List.replicate (Int.toNat (a.length:Int)) z) m (by simp) (by omega);simpa using this
theorem pD (b:Nat) {n:Nat} (h:n<=1048576) (ad:b<=4096):k4 b (n:Int)=some ():=by
 have ag:b*n<=4096*1048576:=Nat.mul_le_mul ad h;have ah:((b:Int)*(n:Int))=((b*n:Nat):Int):=by simp
 unfold k4;rw[if_pos ⟨by omega,by rw[ah];omega,by omega⟩]
theorem vP {α:Type} {l:Nat->Int->Option Bool} {f:α->α->Option Bool} (a:List α)
  (nC:∀m i,l (m+1) i=cond (decide (i<(a.length:Int))) ((bF a i).bind λx=>(bF a i).bind λy=>(f x y).bind λz=>cond (!z) (some false) (l m (IntKind.i64.wrap (i+1)))) (some true))
  (bw:∀x∈a,f x x=some true) (cf:a.length<=1048576):cB (λm=>l m 0)=some true:=by
 rw[sa (n:=a.length) (λ_=>some true)]
 .intro m;rw[nC,fh (Nat.le_refl _)];rfl
 .intro i an m ih;rw[nC,fX an,gN _ i an,fO i _ an (by omega),ih];simp only[cond_true,Option.bind_some,bw _ (List.getElem_mem an),Bool.not_true,cond_false]
theorem Sg {α:Type} {d:α->α->Bool} {l:Nat->Int->Option Bool} (a:List α)
  (nC:∀m i,l (m+1) i=cond (decide (i<(a.length:Int))) ((bF a i).bind λx=>(bF a i).bind λy=>cond (d x y) (some false) (l m (IntKind.i64.wrap (i+1)))) (some true))
  (aj:∀x,d x x=false) (cf:a.length<=1048576):cB (λm=>l m 0)=some true:=by
 rw[sa (n:=a.length) (λ_=>some true)]
 .intro m;rw[nC,fh (Nat.le_refl _)];rfl
 .intro i an m ih;rw[nC,fX an,gN _ i an,fO i _ an (by omega),ih];simp only[cond_true,Option.bind_some,aj,cond_false]
theorem tw (x:Int):(x !=x)=false:=by simp
theorem tx (x:List UInt8):(!(x==x))=false:=by simp
theorem vQ (x:Bool):(!(x==x))=false:=by simp
theorem se (n:Nat):((n:Int) !=(n:Int))=false:=by simp
def gn (p:Nat->Bool) (n:Nat):Bool:=(List.range n).all p
theorem tz {p:Nat->Bool} {n:Nat}:gn p n=true↔∀i,i<n->p i=true:=by simp[gn]
theorem Gl {l:Nat->Int->Option Bool} {n:Nat} (p:Nat->Bool) (ba:∀m,l (m+1) (n:Int)=some true)
  (ae:∀i,i<n->∀m,l (m+1) (i:Int)=cond (p i) (l m ((i+1:Nat):Int)) (some false)):cB (λm=>l m 0)=some (gn p n):=by
 rw[sa (n:=n) (λi=>some ((List.range' i (n-i)).all p))]
 .simp[gn,List.range_eq_range']
 .intro m;rw[ba];simp
 .intro i an m ih;rw[ae i an,ih,show n-i=(n-(i+1))+1 by omega,List.range'_succ];cases au:p i<;>simp[au]
def ra (p:Nat->Bool):Nat->Nat->Int
 |_,0=> -1
 |i,k+1=>if p i=true then(i:Int)else ra p (i+1) k
theorem Sh {p:Nat->Bool}:∀(k i:Nat),(∀j,i<=j->j<i+k->p j=false)->ra p i k= -1
 |0,_,_=>rfl
 |k+1,i,h=>by
  simp only[ra,h i (Nat.le_refl _) (by omega)];exact Sh k (i+1) λj ag ah=>h j (by omega) (by omega)
theorem Si {p:Nat->Bool}:∀(k i j:Nat),i<=j->j<i+k->p j=true->0<=ra p i k
 |0,i,j,ag,ah,_=>by omega
 |k+1,i,j,ag,ah,aN=>by
  simp only[ra];split
  .omega
  .rename_i h;refine Si k (i+1) j ?_ (by omega) aN;rcases Nat.lt_or_ge i j with h|h
   .exact h
   .have:i=j:=by omega
    subst this;exact absurd aN (by assumption)
theorem tA (p:Nat->Bool) (n:Nat):decide (0<=ra p 0 n)= !(gn (λi=> !p i) n):=by
 by_cases h:∃j,j<n/\p j=true
 .obtain⟨j,ag,ah⟩:=h;have aN:=Si n 0 j (Nat.zero_le _) (by omega) ah;have bg:gn (λi=> !p i) n=false:=by
   rw[Bool.eq_false_iff];intro gF;have:=tz.1 gF j ag;simp[ah]at this
  rw[bg];simpa using aN
 .have aN:∀j,j<n->p j=false:=λj cH=>by
   cases au:p j
   .rfl
   .exact absurd ⟨j,cH,au⟩ h
  rw[Sh n 0 λj _ ah=>aN j (by omega)];have bg:gn (λi=> !p i) n=true:=tz.2 λi an=>by simp[aN i an]
  rw[bg];rfl
theorem tB {l:Nat->Int->Option Int} {n:Nat} (p:Nat->Bool) (ba:∀m,l (m+1) (n:Int)=some (-1))
  (ae:∀i,i<n->∀m,l (m+1) (i:Int)=cond (p i) (some (i:Int)) (l m ((i+1:Nat):Int))):cB (λm=>l m 0)=some (ra p 0 n):=by
 rw[sa (n:=n) (λi=>some (ra p i (n-i)))]
 .simp
 .intro m;rw[ba];simp[ra]
 .intro i an m ih;rw[ae i an,ih,show n-i=(n-(i+1))+1 by omega];cases au:p i<;>simp[au,ra]
theorem Bz (i:Nat) (h:0<i) (a7:i<=4611686018427387904):IntKind.i64.wrap ((i:Int)-1)=((i-1:Nat):Int):=by
 rw[eC _ (by omega)];omega
theorem vR:decide ((0:Int)<((0:Nat):Int))=false:=by decide
theorem KI {i:Nat} (h:i≠0):decide ((0:Int)<(i:Int))=true:=by simp;omega
theorem BA {α:Type} (a b c:List α) {i j:Int} (an:i=(a.length:Int)) (cH:j=((a.length+b.length:Nat):Int)):gB (a++(b++c)) i j=some b:=by
 unfold gB;have aX:i.toNat=a.length:=by omega
 have a6:j.toNat=a.length+b.length:=by omega
 rw[if_pos (by simp only[List.length_append];omega),aX,a6,<-List.append_assoc,List.take_left' (by simp),List.drop_left' rfl]
theorem Gm {b n:Nat} (h:n*b<=140737488355328) (ah:n<=9223372036854775807):room b n=some ():=by unfold room;rw[if_pos ⟨h,ah⟩]
end Go.eU
