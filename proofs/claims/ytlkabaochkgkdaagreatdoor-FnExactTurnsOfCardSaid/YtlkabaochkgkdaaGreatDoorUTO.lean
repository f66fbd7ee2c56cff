/- Part of a proof that a law returns true for every input. No condition. -/
import Derived.Test.YtlkabaochkgkdaaGreatDoorUHL
import Derived.Test.YtlkabaochkgkdaaGreatDoorUY5
namespace Go.eU
open Go Go.c_
def kH (f s:Int) (i:Nat) (w:List Int):List Int:=w.mapIdx λj x=>if i<=j/\(f=(j:Int)\/s=(j:Int))then IntKind.i64.wrap (x+1)else x
theorem GA (f s:Int) (i:Nat) (w:List Int):(kH f s i w).length=w.length:=by simp[kH]
theorem aGK (f s:Int) (w:List Int):kH f s w.length w=w:=by
 apply List.ext_getElem
 .simp[kH]
 .intro j ag ah;simp only[kH,List.getElem_mapIdx];rw[if_neg (by omega)]
theorem aGL {f s:Int} {i:Nat} {w:List Int} (h:i<w.length) (gF:f=(i:Int)\/s=(i:Int)):kH f s i w=kH f s (i+1) (w.set i (IntKind.i64.wrap (w[i]+1))):=by
 apply List.ext_getElem
 .simp[kH]
 .intro j ag ah;simp only[kH,List.getElem_mapIdx,List.getElem_set];by_cases e:i=j
  .subst e;rw[if_pos ⟨Nat.le_refl _,gF⟩,if_neg (by omega),if_pos rfl]
  .rw[if_neg e];by_cases q:f=(j:Int)\/s=(j:Int)
   .by_cases k:i<=j
    .rw[if_pos ⟨k,q⟩,if_pos ⟨by omega,q⟩]
    .rw[if_neg (λx=>k x.1),if_neg (λx=>by omega)]
   .rw[if_neg (λx=>q x.2),if_neg (λx=>q x.2)]
theorem aGM {f s:Int} {i:Nat} {w:List Int} (gF:¬(f=(i:Int)\/s=(i:Int))):kH f s i w=kH f s (i+1) w:=by
 apply List.ext_getElem
 .simp[kH]
 .intro j ag ah;simp only[kH,List.getElem_mapIdx];by_cases e:i=j
  .subst e;rw[if_neg (λx=>gF x.2),if_neg (λx=>gF x.2)]
  .by_cases k:i<=j
   .by_cases q:f=(j:Int)\/s=(j:Int)
    .rw[if_pos ⟨k,q⟩,if_pos ⟨by omega,q⟩]
    .rw[if_neg (λx=>q x.2),if_neg (λx=>q x.2)]
   .rw[if_neg (λx=>k x.1),if_neg (λx=>by omega)]
theorem aGN {f:Int} {w:List Int} {s:Int} (bw:0<=f) (hl:f.toNat<w.length) (ae:s=f\/s<0):kH f s 0 w=w.set f.toNat (IntKind.i64.wrap (w[f.toNat]+1)):=by
 apply List.ext_getElem
 .simp[kH]
 .intro j ag ah;simp only[kH,List.getElem_mapIdx,List.getElem_set];by_cases e:f.toNat=j
  .subst e;rw[if_pos ⟨Nat.zero_le _,.inl (by omega)⟩,if_pos rfl]
  .rw[if_neg e,if_neg (λx=>by omega)]
theorem aGO {f s:Int} {w:List Int} (bw:0<=f) (hl:f.toNat<w.length) (ae:0<=s) (ay:s.toNat<w.length) (dL:s≠f):
  kH f s 0 w=(w.set f.toNat (IntKind.i64.wrap (w[f.toNat]+1))).set s.toNat (IntKind.i64.wrap (w[s.toNat]+1)):=by
 apply List.ext_getElem
 .simp[kH]
 .intro j ag ah;simp only[kH,List.getElem_mapIdx,List.getElem_set];by_cases e:s.toNat=j
  .subst e;rw[if_pos ⟨Nat.zero_le _,.inr (by omega)⟩,if_pos rfl]
  .rw[if_neg e];by_cases k:f.toNat=j
   .subst k;rw[if_pos ⟨Nat.zero_le _,.inl (by omega)⟩,if_pos rfl]
   .rw[if_neg k,if_neg (λx=>by omega)]
def ss (n:Nat):List b_->List Int->List Int×Int
 |[],v=>(v,0)
 |e::r,v=>if(n:Int)<=e.c8\/(n:Int)<=e.Second then([],9)else ss n r (kH e.c8 e.Second 0 v)
theorem Tu (n:Nat):∀(l:List b_) (v:List Int),(ss n l v).1.length<=v.length
 |[],v=>Nat.le_refl _
 |e::r,v=>by
  simp only[ss];split
  .exact Nat.zero_le _
  .exact Nat.le_trans (Tu n r _) (by rw[GA];exact Nat.le_refl _)
theorem aGP {k:List Int->Int->Option (List Int×Int)} {s:eI} {a:List b_} {e:b_} {n:Nat} {v:Int} (a7:n<=1048576):
  ∀i,i<=n->∀(w:List Int) m,w.length=n->n-i<m->r1 k s a e m w v (n:Int) (i:Int)=k (kH e.c8 e.Second i w) (IntKind.i64.wrap (v+1)):=by
 refine down n ?_ ?_
 .intro w m hw hm;obtain⟨m,rfl⟩:∃j,m=j+1:=⟨m-1,by omega⟩
  simp only[r1,EY];rw[fh (Nat.le_refl _),<-hw,aGK];rfl
 .intro i an ih w m hw hm;obtain⟨m,rfl⟩:∃j,m=j+1:=⟨m-1,by omega⟩
  simp only[r1,EY,EW];rw[fX an,fO i _ an (by omega),gN _ i (by omega)];simp only[cond_true,Option.bind_some];by_cases gF:e.c8=(i:Int)\/e.Second=(i:Int)
  .rw[show((e.c8==(i:Int))||(e.Second==(i:Int)))=true from by simpa using gF];rw[cond_true,ih _ m (by simp[hw]) (by omega),aGL (by omega) gF];simp
  .rw[show((e.c8==(i:Int))||(e.Second==(i:Int)))=false from by simpa [not_or]using gF];rw[cond_false,ih _ m hw (by omega),aGM gF]
theorem aGQ {s:eI} {a:List b_} (a7:s.bK.length<=1048576) (cf:a.length<=60) (ay:∀e∈a,n_ e=true):
  ∀i,i<=a.length->∀(w:List Int) m,w.length=s.bK.length->a.length-i<m->nu s a m w (i:Int)=some (ss s.bK.length (a.drop i) w):=by
 refine down a.length ?_ ?_
 .intro w m hw hm;obtain⟨m,rfl⟩:∃j,m=j+1:=⟨m-1,by omega⟩
  simp only[nu,EZ];rw[fh (Nat.le_refl _),List.drop_of_length_le (Nat.le_refl _)];rfl
 .intro i an ih w m hw hm;obtain⟨m,rfl⟩:∃j,m=j+1:=⟨m-1,by omega⟩
  obtain⟨g1,g2,g3⟩:=S0 (ay _ (List.getElem_mem an));simp only[nu,EZ];rw[fX an,gN _ i an,drop_cons _ i an];simp only[cond_true,Option.bind_some,ss];rw[K3 _ _ a7,Option.bind_some,show decide (a[i].c8<=(s.bK.length:Int)-1)=decide (a[i].c8<(s.bK.length:Int))from by rw[decide_eq_decide];omega];by_cases cU:(s.bK.length:Int)<=a[i].c8\/(s.bK.length:Int)<=a[i].Second
  .rw[if_pos cU];have:(!(decide (0<=a[i].c8)&&decide (a[i].c8<(s.bK.length:Int)))||decide ((s.bK.length:Int)<=a[i].Second))=true:=by
    rcases cU with cU|cU
    .rw[show decide (a[i].c8<(s.bK.length:Int))=false from decide_eq_false (by omega)];simp
    .rw[show decide ((s.bK.length:Int)<=a[i].Second)=true from decide_eq_true cU];simp
   rw[this,cond_true]
  .have ag:a[i].c8<(s.bK.length:Int):=by omega
   have ah:¬(s.bK.length:Int)<=a[i].Second:=by omega
   rw[if_neg cU];have:(!(decide (0<=a[i].c8)&&decide (a[i].c8<(s.bK.length:Int)))||decide ((s.bK.length:Int)<=a[i].Second))=false:=by
    rw[decide_eq_true g2.1,decide_eq_true ag,decide_eq_false ah];rfl
   rw[this,cond_false];have vT:cB (λj=>r1 (nu s a m) s a a[i] j w (i:Int) (w.length:Int) 0)=nu s a m (kH a[i].c8 a[i].Second 0 w) (IntKind.i64.wrap ((i:Int)+1)):=by
    refine ij (s.bK.length+1) λj cH=>?_;rw[hw];exact aGP a7 0 (Nat.zero_le _) w j hw (by omega)
   rw[vT,fO i _ an (by omega)];exact ih _ m (by rw[GA];exact hw) (by omega)
theorem aGR {s:eI} {a:List b_} (a7:s.bK.length<=1048576) (cf:a.length<=60) (ay:∀e∈a,n_ e=true):
  ∀i,i<=a.length->∀(w:List Int) m,w.length=s.bK.length->a.length-i<m->rV s a m w (i:Int)=some (ss s.bK.length (a.drop i) w):=by
 refine down a.length ?_ ?_
 .intro w m hw hm;obtain⟨m,rfl⟩:∃j,m=j+1:=⟨m-1,by omega⟩
  simp only[rV,D5];rw[fh (Nat.le_refl _),List.drop_of_length_le (Nat.le_refl _)];rfl
 .intro i an ih w m hw hm;obtain⟨m,rfl⟩:∃j,m=j+1:=⟨m-1,by omega⟩
  obtain⟨g1,g2,g3⟩:=S0 (ay _ (List.getElem_mem an));simp only[rV,D5,D3,List.length_replicate,Int.toNat_natCast];rw[fX an,gN _ i an,drop_cons _ i an];simp only[cond_true,Option.bind_some,ss];generalize a[i]=e at g1 g2 g3;by_cases cU:(s.bK.length:Int)<=e.c8\/(s.bK.length:Int)<=e.Second
  .rw[if_pos cU];have:(decide ((s.bK.length:Int)<=e.c8)||decide ((s.bK.length:Int)<=e.Second))=true:=by simpa using cU
   rw[this,cond_true]
  .have ag:e.c8<(s.bK.length:Int):=by omega
   have ah:¬(s.bK.length:Int)<=e.Second:=by omega
   rw[if_neg cU];have:(decide ((s.bK.length:Int)<=e.c8)||decide ((s.bK.length:Int)<=e.Second))=false:=by
    rw[decide_eq_false (by omega),decide_eq_false ah];rfl
   rw[this,cond_false];have bw:e.c8.toNat<w.length:=by omega
   rw[BQ g2.1 bw,Option.bind_some,fO i _ an (by omega)];by_cases ae:0<=e.Second/\e.Second≠e.c8
   .have nG:e.Second.toNat<w.length:=by omega
    have dL:e.c8.toNat≠e.Second.toNat:=by omega
    rw[show(decide (0<=e.Second)&&(e.Second !=e.c8))=true from by simp[ae.1,ae.2],cond_true];rw[BQ ae.1 (by rw[List.length_set];exact nG),Option.bind_some];rw[List.getElem_set_ne dL,<-aGO g2.1 bw ae.1 nG ae.2];exact ih _ m (by rw[GA];exact hw) (by omega)
   .rw[show(decide (0<=e.Second)&&(e.Second !=e.c8))=false from by
     by_cases q:0<=e.Second
     .have:e.Second=e.c8:=by
       by_cases r:e.Second=e.c8
       .exact r
       .exact(ae ⟨q,r⟩).elim
      simp[this]
     .simp[q],cond_false]
    rw[<-aGN (s:=e.Second) g2.1 bw (by omega)];exact ih _ m (by rw[GA];exact hw) (by omega)
theorem aGS (s:eI) (h:we s) (a:List b_) (hl:a.length<=1048576) (hw:∀e∈a,e.Label.length<=1048576):
  ∃r:List Int×Int,D6 s a=some r/\AL s a=some r/\r.1.length<=1048576:=by
 obtain⟨hk,l2⟩:=aFG a hl hw;unfold D6 AL;rw[aGI _ h,aGJ _ h,hk,l2];simp only[Option.bind_some];cases bw:(wg s==0)
 .exact⟨_,rfl,rfl,by simp⟩
 .cases hg:BI a
  .exact⟨_,rfl,rfl,by simp⟩
  .have aq:s.bK.length<=1048576:=h.2.1.1;simp only[BI,Bool.and_eq_true,decide_eq_true_eq,List.all_eq_true]at hg;simp only[Bool.not_true,cond_false];rw[pD 8 aq (by omega)];simp only[Option.bind_some,Int.toNat_natCast];have aX:cB (λn=>rV s a n (List.replicate s.bK.length 0) 0)=some (ss s.bK.length a (List.replicate s.bK.length 0)):=by
    refine ij (a.length+1) λm hm=>?_;have:=aGR aq hg.1 hg.2 0 (Nat.zero_le _) (List.replicate s.bK.length 0) m (by simp) (by omega);simpa using this
   have a6:cB (λn=>nu s a n (List.replicate s.bK.length 0) 0)=some (ss s.bK.length a (List.replicate s.bK.length 0)):=by
    refine ij (a.length+1) λm hm=>?_;have:=aGQ aq hg.1 hg.2 0 (Nat.zero_le _) (List.replicate s.bK.length 0) m (by simp) (by omega);simpa using this
   rw[aX,a6];exact⟨_,rfl,rfl,Nat.le_trans (Tu _ _ _) (by simpa using aq)⟩
theorem aDW (a:lL) (b:List iG) (cf:zP a) (ad:b.length<=9223372036854775807/\∀y∈b,xy y):JF a b=some true:=by
 unfold JF;obtain⟨r,ag,ah⟩:=aGH a cf;rw[ag];simp only[Option.bind_some];cases aS:decide (r<0)
 .obtain⟨aN,bg,bR,cW,cE⟩:=ah aS;rw[aEo b r ad cE (by omega)];simp only[cond_false,Option.bind_some];by_cases ae:(dO oN b:Int)<=r
  .rw[Bw ae];have e6:decide (r-((dO oN b:Nat):Int)<0)=false:=decide_eq_false (by omega);have ks:dO oN b<=1048576:=by omega
   have p3:dO lA (b.map ri)<=1048576:=by
    rw[vO];simp only[aEG];exact ks
   have hl:(b.map ri).length<=1048576:=Nat.le_trans (i6 lA _) p3;have hw:∀e∈b.map ri,e.Label.length<=1048576:=λe he=>by
    have fJ:lA e<=dO lA (b.map ri):=lv he;have hT:lA e<=1048576:=by omega
    clear fJ;unfold lA at hT;omega
   have cg:qs (rh a)<=1048576:=by rw[So];omega
   rw[e6,aN,aEI b ks];simp only[cond_false,Option.bind_some];generalize rh a=e at bg bR cg⊢;generalize b.map ri=d at p3 hl hw⊢;obtain⟨q,hz,gw,iR⟩:=aGS e bR d hl hw;obtain⟨fD,e0,hd,kh,qm,c,cv,m1⟩:=aE3 e 1 (by omega) (by omega);obtain⟨z,c2,c3,m2⟩:=aE5 d (1+(c:Int)) (by omega) (by omega);obtain⟨k_,bE,d1,m3,m4⟩:=Sr q.1 1 (by omega) (by omega);simp only[hz,gw,Option.bind_some,Sp q.1 iR,aEW d p3,bg,m1,m2,m3,m4,Bool.not_true,bne_self_eq_false,Bool.or_self,cond_false,Sj (k:=1+(c:Int)+(c2:Int)) (by omega),Sj (k:=1+(bE:Int)) (by omega)]
  .rw[Bx (by omega)];rfl
 .rfl
end Go.eU
