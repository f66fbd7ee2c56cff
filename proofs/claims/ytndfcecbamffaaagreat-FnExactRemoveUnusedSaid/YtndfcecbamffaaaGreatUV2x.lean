/- Part of a proof that a law returns true for every input. No condition. -/
import Derived.Test.YtndfcecbamffaaaGreatUV1x
import Derived.Test.YtndfcecbamffaaaGreatUV0x
namespace Go.mn
open Option Nat Or
open Go Go.cW
theorem Nh {l:bj}:∀(n:Nat) (M:List Bool),(List.replicate n ()).foldl (λM _=>lz l M) M=nG l n M
 |0,M=>rfl
 |n+1,M=>by simp only[List.replicate_succ,List.foldl_cons,nG];exact Nh n _
theorem Ni:∀(qx:abT) (M:List Bool),qx.foldl (λM s=>ly M (s.Guard::s.bl)) M=ly M (qx.flatMap λs=>s.Guard::s.bl)
 |[],M=>rfl
 |s::qx,M=>by
  have:=Ni qx (ly M (s.Guard::s.bl));simp only[List.foldl_cons,List.flatMap_cons]at this⊢;rw[this];unfold ly;rw[<-List.foldl_append]
section
variable {l:bj} (hl:pM l) (br:qu l)
include hl br
theorem Zt (M:List Bool) (e8:M.length=l.a8.toNat) (K:List Bool->Int->Option (List Bool)) (A8:List Bool->Int->Int->Option (List Bool)) (r:Int) (i:Nat) (aw:i<l.aW.length):
  lim (λn=>q_ K A8 l n M r (i:Int) 0)=A8 (yl l.a8.toNat M l.aW[i]) r ((i+1:Nat):Int):=by
 have I:l.aW[i]∈l.aW:=List.getElem_mem aw;have al:=hl.p;have a7:=hl.n _ I;have bX:=br.2.2 _ I;have pK:=br.2.1;refine qt (L:=λn M au=>q_ K A8 l n M r (i:Int) au) (List.range l.a8.toNat) (rB l.aW[i]) (λM=>M.length=l.a8.toNat) (λM=>A8 M r ((i+1:Nat):Int)) ?_ ?_ M e8
 .intro m s j3;simp only[q_,DX,List.length_range];rw[show decide ((l.a8.toNat:Int)<l.a8)=false by simp only[decide_eq_false_iff_not];omega,eT i _ aw (by omega)];rfl
 .intro au bN m s j3;rw[List.length_range]at bN;rw[List.getElem_range];refine⟨(A4 hl I s au).1.symm.trans j3,?_⟩;simp only[q_,DX,zU];rw[show decide ((au:Int)<l.a8)=true by simp only[decide_eq_true_eq];omega,eD s au (by omega),eT au (au+1) (by omega) (by omega)];simp only[cond_true,bind_some,rB];have bm:s.getD au false=s[au]'(by omega):=by rw[List.getD_eq_getElem?_getD,List.getElem?_eq_getElem (by omega)];rfl
  rw[bm];cases J:s[au]'(by omega)
  .rfl
  .have Gp:au<l.aW[i].Next.length:=by omega
   rw[eD _ i aw];simp only[cond_true,bind_some];rw[eD _ au Gp];simp only[bind_some];have e:kR l.aW[i] au=l.aW[i].Next[au]:=by unfold kR;rw[List.getD_eq_getElem?_getD,List.getElem?_eq_getElem Gp];rfl
   rw[Gh _ s (bX.2.2.2.2.2 _ (List.getElem_mem Gp)) (by rw[<-e];exact a7.2 au),e];rfl
theorem Zu (M:List Bool) (e8:M.length=l.a8.toNat) (K:List Bool->Int->Option (List Bool)) (r:Int):
  lim (λn=>pq K l n M r 0)=K (lz l M) (IntKind.i64.wrap (r+1)):=by
 refine qt (L:=λn M au=>pq K l n M r au) l.aW (yl l.a8.toNat) (λM=>M.length=l.a8.toNat) (λM=>K M (IntKind.i64.wrap (r+1))) ?_ ?_ M e8
 .intro m s j3;simp only[pq,DY];rw[eb (Nat.le_refl _)];rfl
 .intro i aw m s j3;refine⟨(Gm hl (List.getElem_mem aw) s).1.symm.trans j3,?_⟩;simp only[pq,DY];rw[e3 aw,cond_true,Zt hl br s j3 _ _ r i aw]
theorem Zv (M:List Bool) (e8:M.length=l.a8.toNat):lim (λn=>ld l n M 0)=some (nG l (l.a8.toNat+1) M):=by
 have al:=hl.p;rw[<-Nh];refine qt (L:=λn M au=>ld l n M au) (List.replicate (l.a8.toNat+1) ()) (λM _=>lz l M) (λM=>M.length=l.a8.toNat) some ?_ ?_ M e8
 .intro m s j3;simp only[ld,DZ,List.length_replicate];rw[show decide (((l.a8.toNat+1:Nat):Int)<=l.a8)=false by simp only[decide_eq_false_iff_not];omega];rfl
 .intro i aw m s j3;rw[List.length_replicate]at aw;refine⟨(A5 hl s).1.symm.trans j3,?_⟩;simp only[ld,DZ];rw[show decide ((i:Int)<=l.a8)=true by simp only[decide_eq_true_eq];omega,cond_true,Zu hl br s j3,eT i (i+1) (by omega) (by omega)]
theorem Zw (M:List Bool) (K:List Bool->Int->Option (List Bool)) (i:Nat) (aw:i<l.aW.length):
  lim (λn=>sM K l n M (i:Int) 0)=K (ly M l.aW[i].bl) ((i+1:Nat):Int):=by
 have I:l.aW[i]∈l.aW:=List.getElem_mem aw;have bX:=br.2.2 _ I;have pK:=br.2.1;refine qt (L:=λn M au=>sM K l n M (i:Int) au) l.aW[i].bl (λM e=>l6 M (eE e)) (λ_=>True) (λM=>K M ((i+1:Nat):Int)) ?_ ?_ M trivial
 .intro m s j3;simp only[sM,DW];rw[eD _ i aw];simp only[bind_some];rw[eb (Nat.le_refl _),eT i _ aw (by omega)];rfl
 .intro au bN m s j3;refine⟨trivial,?_⟩;simp only[sM,DW];have aA:=bX.2.2.2.1;rw[eD _ i aw];simp only[bind_some];rw[e3 bN,eD _ au bN,eT au _ bN (by have:=aA.1;omega)];simp only[bind_some,cond_true];rw[Gh _ s (aA.2 _ (List.getElem_mem bN)) (hl.g _ I _ (List.mem_cons_of_mem _ (List.getElem_mem bN)))];rfl
theorem Zx:zW l=some (marks l):=by
 have al:=hl.p;unfold zW;rw[show lA 1 l.a8=some () by unfold lA;rw[if_pos ⟨by omega,by omega,by omega⟩]];simp only[bind_some];unfold marks inits;rw[<-Ni,<-Zv hl br _ (by
  have:∀(qx:abT) (M:List Bool),(qx.foldl (λM s=>ly M (s.Guard::s.bl)) M).length=M.length:=by
   intro qx;induction qx with
   |nil=>intro M;rfl
   |cons s qx ih=>intro M;rw[List.foldl_cons,ih,Gi]
  rw[this,List.length_replicate])]
 refine qt (L:=λn M au=>sN l n M au) l.aW (λM s=>ly M (s.Guard::s.bl)) (λ_=>True) (λM=>lim λn=>ld l n M 0) ?_ ?_ _ trivial
 .intro m s _;simp only[sN,D0];rw[eb (Nat.le_refl _)];rfl
 .intro i aw m s _;have I:l.aW[i]∈l.aW:=List.getElem_mem aw;refine⟨trivial,?_⟩;simp only[sN,D0];rw[e3 aw,eD _ i aw];simp only[bind_some,cond_true];rw[Gh _ s (br.2.2 _ I).2.1 (hl.g _ I _ (by simp))];simp only[bind_some];rw[Zw hl br _ _ i aw];rfl
end
def hi:Nat->List Bool->abH
 |_,[]=>[]
 |k,b::r=>cond b ((k:Int)::hi (k+1) r) (hi (k+1) r)
theorem Gq:∀(M:List Bool) (k:Nat),∀x∈hi k M,(k:Int)<=x
 |[],k,x,h=>by simp[hi]at h
 |b::r,k,x,h=>by
  cases b
  .have:=Gq r (k+1) x (by simpa [hi]using h);omega
  .simp only[hi,cond_true,List.mem_cons]at h;rcases h with h|h
   .omega
   .have:=Gq r (k+1) x h;omega
theorem Gr:∀(M:List Bool) (k:Nat),l5 pL (hi k M)
 |[],k=>List.Pairwise.nil
 |b::r,k=>by
  cases b
  .exact Gr r (k+1)
  .refine List.Pairwise.cons (λx ag=>?_) (Gr r (k+1));have:=Gq r (k+1) x ag;simp only[decide_eq_true_eq];omega
theorem Gs:∀(M:List Bool) (k:Nat) (x:Int),x∈hi k M↔∃i:Nat,At M i/\x=(k:Int)+i
 |[],k,x=>by simp[hi,At]
 |b::r,k,x=>by
  have ih:=Gs r (k+1) x;constructor
  .intro h;cases b
   .obtain⟨i,R,U⟩:=ih.1 h;exact⟨i+1,yn.2 R,by omega⟩
   .simp only[hi,cond_true,List.mem_cons]at h;rcases h with h|h
    .exact⟨0,A6.2 rfl,by simpa using h⟩
    .obtain⟨i,R,U⟩:=ih.1 h;exact⟨i+1,yn.2 R,by omega⟩
  .rintro⟨i,R,U⟩;cases i with
   |zero=>
    have:b=true:=A6.1 R;subst this;simp only[hi,cond_true,List.mem_cons];exact .inl (by simpa using U)
   |succ i=>
    have:=ih.2 ⟨i,yn.1 R,by omega⟩;cases b
    .exact this
    .exact List.mem_cons_of_mem _ this
theorem Gt:∀(M:List Bool) (k:Nat),(hi k M).length<=M.length
 |[],k=>Nat.le_refl _
 |b::r,k=>by
  have:=Gt r (k+1);cases b<;>simp only[hi,cond_true,cond_false,List.length_cons]<;>omega
theorem Nj (M:List Bool) (e8:M.length<=1048576):pv M true=some (hi 0 M):=by
 unfold pv;have key:∀i,i<=M.length->∀(v:abH) m,v.length<=i->M.length-i<m->pt M true m v (i:Int)=some (v++hi i (M.drop i)):=by
  refine down M.length ?_ ?_
  .intro v m ay hm;obtain⟨m,rfl⟩:∃au,m=au+1:=⟨m-1,by omega⟩
   simp only[pt,xu];rw[eb (Nat.le_refl _),List.drop_of_length_le (Nat.le_refl _)];simp[hi]
  .intro i aw ih v m ay hm;obtain⟨m,rfl⟩:∃au,m=au+1:=⟨m-1,by omega⟩
   simp only[pt,xu,xt];rw[e3 aw,eD _ i aw,drop_cons M i aw,eT i _ aw (by omega),ko (by omega) (by omega)];simp only[cond_true,bind_some,hi];rw[ih _ m (by simp only[List.length_append,List.length_cons,List.length_nil];omega) (by omega),ih _ m (by omega) (by omega)];cases M[i]<;>simp
 refine hS (M.length+1) λm hm=>?_;have:=key 0 (by omega) [] m (by simp) (by omega);simpa using this
def oJ (p:Int) (S vs:abH):abH:=vs.foldl (λS v=>if v<p/\v∉S then S++[v]else S) S
theorem yp (p:Int) (S:abH) (v:Int) (vs:abH):oJ p S (v::vs)=oJ p (if v<p/\v∉S then S++[v]else S) vs:=rfl
theorem Gu (p:Int):∀(vs S:abH) (x:Int),x∈oJ p S vs↔x∈S\/(x∈vs/\x<p)
 |[],S,x=>by simp[oJ]
 |v::vs,S,x=>by
  rw[yp,Gu p vs];split
  .rename_i h;simp only[List.mem_append,List.mem_cons,List.not_mem_nil,or_false];constructor
   .rintro((R|R)|⟨R,U⟩)
    .exact .inl R
    .subst R;exact .inr ⟨.inl rfl,h.1⟩
    .exact .inr ⟨.inr R,U⟩
   .rintro(R|⟨R|R,U⟩)
    .exact .inl (.inl R)
    .exact .inl (.inr R)
    .exact .inr ⟨R,U⟩
  .rename_i h;simp only[List.mem_cons];constructor
   .rintro(R|⟨R,U⟩)
    .exact .inl R
    .exact .inr ⟨.inr R,U⟩
   .rintro(R|⟨R|R,U⟩)
    .exact .inl R
    .subst R;refine .inl (Classical.byContradiction λa7=>h ⟨U,a7⟩)
    .exact .inr ⟨R,U⟩
theorem Nk (p:Int):∀(vs S:abH),S<+:oJ p S vs
 |[],S=>List.prefix_refl S
 |v::vs,S=>by
  rw[yp];refine List.IsPrefix.trans ?_ (Nk p vs _);split
  .exact List.prefix_append ..
  .exact List.prefix_refl S
theorem Nl (p:Int):∀(vs S:abH),S.Nodup->(oJ p S vs).Nodup
 |[],S,h=>h
 |v::vs,S,h=>by
  rw[yp];refine Nl p vs _ ?_;split
  .rename_i ay;rw[List.nodup_append];refine⟨h,by simp,λa b8 b J=>?_⟩;have:b=v:=by simpa using J
   subst this;exact λe=>ay.2 (e▸b8)
  .exact h
theorem Nm:∀(n:Nat) (S:abH),S.Nodup->(∀x∈S,0<=x/\x<(n:Int))->S.length<=n
 |0,S,_,h=>by
  cases S with
  |nil=>exact Nat.le_refl _
  |cons x r=>have:=h x (by simp);omega
 |n+1,S,ae,h=>by
  have R:(S.erase (n:Int)).length<=n:=Nm n _ (ae.erase _) λx ag=>by
   have Nn:=(ae.mem_erase_iff).1 ag;have:=h x Nn.2;have:=Nn.1;omega
  by_cases hm:(n:Int)∈S
  .rw[List.length_erase_of_mem hm]at R;omega
  .rw[List.erase_of_not_mem hm]at R;omega
theorem Zy (S:abH) (v:Int) (h:S.length<=1048576):Ao S v=some (decide (v∈S)):=by
 unfold Ao u3;rw[Ga S (λx=>v==x) (λm=>by
  simp only[sX,xy];rw[eb (Nat.le_refl _)];rfl) (λi aw m=>by
  simp only[sX,xy];rw[e3 aw,eD _ i aw,eT i _ aw (by omega)];simp only[cond_true,bind_some])]
 simp only[bind_some];rw[yf];congr 1;rw[Bool.eq_iff_iff];simp only[List.any_eq_true,beq_iff_eq,decide_eq_true_eq];constructor
 .rintro⟨x,ag,rfl⟩;exact ag
 .intro ag;exact⟨v,ag,rfl⟩
structure ht (l:bj) (S:abH):Prop where
 Gv:S.Nodup
 rg:∀x∈S,(0<=x/\x<l.a8)/\jI l x
theorem ht.len {l:bj} (hl:pM l) {S:abH} (h:ht l S):S.length<=l.a8.toNat:=by
 have al:=hl.p;exact Nm _ S h.Gv λx ag=>by have:=(h.rg x ag).1;omega
theorem ht.add {l:bj} {S:abH} (h:ht l S) (vs:abH) (ay:∀v∈vs,0<=v/\(v<l.a8->jI l v)):ht l (oJ l.a8 S vs):=
 ⟨Nl _ vs S h.Gv,λx ag=>by
  rcases(Gu _ vs S x).1 ag with R|⟨R,U⟩
  .exact h.rg x R
  .exact⟨⟨(ay x R).1,U⟩,(ay x R).2 U⟩⟩
section
variable {l:bj} (hl:pM l)
include hl
theorem Np (e:abS) (he:e.length<=1048576) (S:abH) (bg:ht l S) (ay:∀v∈eE e,0<=v/\(v<l.a8->jI l v)):
  ∃b,u6 e l S=some (b,oJ l.a8 S (kQ pL [] (eE e)))/\ht l (oJ l.a8 S (kQ pL [] (eE e))):=by
 have al:=hl.p;unfold u6;rw[Zn e he];simp only[bind_some];have Gw:∀v∈kQ pL [] (eE e),0<=v/\(v<l.a8->jI l v):=λv h=>by
  rcases(yj v (eE e) []).1 h with R|R
  .cases R
  .exact ay v R
 have qL:(kQ pL [] (eE e)).length<=1048576:=by
  have aU:=M4 (lt:=pL) (eE e) [];have bt:=Zm e;simp only[List.length_nil]at aU;omega
 generalize kQ pL [] (eE e)=vs at Gw qL;have vE:=bg.add vs Gw;refine⟨(vs.foldl (λ(q:List Int×Bool) v=>if v<l.a8/\v∉q.1 then(q.1++[v],true)else q) (S,false)).2,?_,vE⟩;have aK:∀(vs:abH) (q:abH×Bool),(vs.foldl (λ(q:List Int×Bool) v=>if v<l.a8/\v∉q.1 then(q.1++[v],true)else q) q).1=oJ l.a8 q.1 vs:=by
  intro vs;induction vs with
  |nil=>intro q;rfl
  |cons v vs ih=>
   intro q;rw[List.foldl_cons,ih,yp];split<;>rfl
 have aV:=qt (L:=λn (q:abH×Bool) au=>sY l vs n q.1 q.2 au) vs (λ(q:List Int×Bool) v=>if v<l.a8/\v∉q.1 then(q.1++[v],true)else q) (λq=>ht l q.1) (λq=>some (q.2,q.1)) (λm q _=>by
   simp only[sY,Ep];rw[eb (Nat.le_refl _)];rfl) (λi aw m q cp=>by
   have hlen:=cp.len hl;have hw:=cp.add [vs[i]] (λv ay=>by
    have:v=vs[i]:=by simpa using ay
    subst this;exact Gw _ (List.getElem_mem aw))
   refine⟨?_,?_⟩
   .rw[yp]at hw;split
    .rename_i R;rw[if_pos R]at hw;exact hw
    .exact cp
   .simp only[sY,Ep,xz];rw[e3 aw,eD _ i aw,eT i _ aw (by omega)];simp only[cond_true,bind_some];rw[Zy _ _ (by omega),ko (by omega) (by omega)];simp only[bind_some];by_cases R:vs[i]<l.a8
    .by_cases U:vs[i]∈q.1
     .simp[R,U]
     .simp[R,U]
    .simp[R]) (S,false) bg
 rw[aV];simp only[aK]
end
theorem A9 {α:Type} {f:abH->α->abH} {x:α} {Q:abH->Prop} (a6:∀S y,S<+:f S y) (zF:∀S T,S<+:T->Q S->Q T) (ag:∀S,Q (f S x)):∀(xs:List α) (S:abH),x∈xs->Q (xs.foldl f S)
 |y::xs,S,h=>by
  have pre:∀(xs:List α) (S:abH),S<+:xs.foldl f S:=by
   intro xs;induction xs with
   |nil=>intro S;exact List.prefix_refl S
   |cons z zs ih=>intro S;exact(a6 S z).trans (ih _)
  rw[List.foldl_cons];rcases List.mem_cons.1 h with rfl|h
  .exact zF _ _ (pre xs _) (ag S)
  .exact A9 a6 zF ag xs _ h
theorem Gx {α:Type} {f:abH->α->abH} (a6:∀S y,S<+:f S y):∀(xs:List α) (S:abH),S<+:xs.foldl f S
 |[],S=>List.prefix_refl S
 |z::zs,S=>(a6 S z).trans (Gx a6 zs _)
theorem A_ {α β:Type} {f:β->α->β} {P:β->Prop}:∀(xs:List α) (M:β),(∀x∈xs,∀M,P M->P (f M x))->P M->P (xs.foldl f M)
 |[],M,_,h=>h
 |x::xs,M,a6,h=>A_ xs _ (λy bh=>a6 y (by simp[bh])) (a6 x (by simp) M h)
def me (p:Int) (S:abH) (e:abS):abH:=oJ p S (kQ pL [] (eE e))
theorem yq (p:Int) (S:abH) (e:abS):S<+:me p S e:=Nk p _ S
theorem Nq (p:Int) (S:abH) (e:abS) (v:Int) (ay:v∈eE e) (h:v<p):v∈me p S e:=
 (Gu p _ S v).2 (.inr ⟨(yj v (eE e) []).2 (.inr ay),h⟩)
def vK (p:Int) (S:abH) (s:bc):abH:=(s.Guard::s.bl).foldl (me p) S
def tA (p:Int) (k:Nat) (S:abH) (s:bc):abH:=me p S (kR s k)
theorem Zz (S:abH) (h:S.length<=1048576):rb S=some (S.mergeSort λx y=>decide (x<=y)):=by
 unfold rb;rw[if_pos (by omega)]
section
variable {l:bj} (hl:pM l) (br:qu l)
include hl br
omit br in
theorem ZA {s:bc} (I:s∈l.aW) {x:Int} (ag:(0<=x/\x<l.a8)/\jI l x):∀v∈eE (kR s x.toNat),0<=v/\(v<l.a8->jI l v):=λv ay=>
 ⟨(hl.n s I).2 _ v ay,λcB=>(vI l).2 s I x.toNat (by omega) (by rw[show((x.toNat:Nat):Int)=x by omega];exact ag.2) v ay cB⟩
theorem ZB (S:abH) (bg:ht l S) (K:abH->Int->Option abH) (i:Nat) (aw:i<l.aW.length):
  lim (λn=>sZ K l n S (i:Int) (l.aW[i].Guard::l.aW[i].bl) ((l.aW[i].Guard::l.aW[i].bl).length:Int) 0)=K (vK l.a8 S l.aW[i]) ((i+1:Nat):Int):=by
 have I:l.aW[i]∈l.aW:=List.getElem_mem aw;have bX:=br.2.2 _ I;have pK:=br.2.1;refine qt (L:=λn S au=>sZ K l n S (i:Int) (l.aW[i].Guard::l.aW[i].bl) ((l.aW[i].Guard::l.aW[i].bl).length:Int) au) (l.aW[i].Guard::l.aW[i].bl) (me l.a8) (ht l) (λS=>K S ((i+1:Nat):Int)) ?_ ?_ S bg
 .intro m T fg;simp only[sZ,Er];rw[eb (Nat.le_refl _),eT i _ aw (by omega)];rfl
 .intro au bN m T fg;have he:(l.aW[i].Guard::l.aW[i].bl)[au]∈l.aW[i].Guard::l.aW[i].bl:=List.getElem_mem bN;have ZC:(l.aW[i].Guard::l.aW[i].bl)[au].length<=1048576:=by
   rcases List.mem_cons.1 he with h|h
   .rw[h];exact bX.2.1
   .exact bX.2.2.2.1.2 _ h
  obtain⟨b,R,U⟩:=Np hl _ ZC T fg λv ay=>⟨hl.g _ I _ he v ay,(vI l).1 _ I _ he v ay⟩
  refine⟨U,?_⟩;have abD:=bX.2.2.2.1.1;simp only[sZ,Er];rw[e3 bN,eD _ au bN,eT au _ bN (by rw[List.length_cons];omega)];simp only[cond_true,bind_some];rw[R];rfl
omit br in
theorem Nr (S:abH) (bg:ht l S) {s:bc} (I:s∈l.aW):ht l (vK l.a8 S s):=by
 refine A_ (P:=ht l) _ S (λe he T fg=>?_) bg;refine fg.add _ λv ay=>?_;have jO:v∈eE e:=by
  rcases(yj v (eE e) []).1 ay with R|R
  .cases R
  .exact R
 exact⟨hl.g s I e he v jO,(vI l).1 s I e he v jO⟩
theorem Ns (S:abH) (bg:ht l S) (k:Nat) (ak:k<S.length) (K:abH->Int->Option abH):
  lim (λn=>s0 K l n S (k:Int) 0)=K (l.aW.foldl (tA l.a8 S[k].toNat) S) ((k+1:Nat):Int)/\ht l (l.aW.foldl (tA l.a8 S[k].toNat) S):=by
 have al:=hl.p;have pK:=br.2.1;have ag:=bg.rg _ (List.getElem_mem ak);have hlen:=bg.len hl;have step:∀s∈l.aW,∀T,ht l T->∃b,u6 (kR s S[k].toNat) l T=some (b,tA l.a8 S[k].toNat T s)/\ht l (tA l.a8 S[k].toNat T s):=by
  intro s I T fg;have a7:(kR s S[k].toNat).length<=1048576:=by
   unfold kR;rw[List.getD_eq_getElem?_getD];cases bm:s.Next[S[k].toNat]? with
   |none=>simp
   |some e=>exact(br.2.2 s I).2.2.2.2.2 e (List.mem_of_getElem? bm)
  exact Np hl _ a7 T fg (ZA hl I ag)
 refine⟨?_,A_ (P:=ht l) _ S (λs I T fg=>(step s I T fg).choose_spec.2) bg⟩;refine qt (L:=λn T au=>s0 K l n T (k:Int) au) l.aW (tA l.a8 S[k].toNat) (λT=>ht l T/\S<+:T) (λT=>K T ((k+1:Nat):Int)) ?_ ?_ S ⟨bg,List.prefix_refl S⟩
 .intro m T fg;simp only[s0,Es];rw[eb (Nat.le_refl _),eT k _ ak (by omega)];rfl
 .intro i aw m T fg;have I:l.aW[i]∈l.aW:=List.getElem_mem aw;obtain⟨b,R,U⟩:=step _ I T fg.1;refine⟨⟨U,fg.2.trans (yq _ _ _)⟩,?_⟩;have ZD:k<T.length:=by have:=fg.2.length_le;omega
  have Gy:T[k]=S[k]:=(fg.2.getElem ak).symm;have a7:=(hl.n _ I).1;have Nt:S[k].toNat<l.aW[i].Next.length:=by omega
  simp only[s0,Es];rw[e3 aw,eD _ i aw,eD _ k ZD,eT i _ aw (by omega),Gy];simp only[cond_true,bind_some];have e:bS l.aW[i].Next S[k]=some (kR l.aW[i] S[k].toNat):=by
   have:=eD l.aW[i].Next S[k].toNat Nt;rw[show((S[k].toNat:Nat):Int)=S[k] by omega]at this;rw[this];unfold kR;rw[List.getD_eq_getElem?_getD,List.getElem?_eq_getElem Nt];rfl
  rw[e];simp only[bind_some];rw[R];rfl
theorem ZE:∀(d k:Nat) (S:abH),ht l S->k<=S.length->l.a8.toNat<=d+k->
  ∃T,(∀m,d<m->pA l m S (k:Int)=some (T.mergeSort λx y=>decide (x<=y)))/\S<+:T/\ht l T/\∀au (bN:au<T.length),k<=au->∀s∈l.aW,∀v∈eE (kR s T[au].toNat),v<l.a8->v∈T:=by
 have al:=hl.p;intro d;have Nu:∀(k d:Nat) (S:abH),ht l S->k=S.length->∃T,(∀m,d<m->pA l m S (k:Int)=some (T.mergeSort λx y=>decide (x<=y)))/\S<+:T/\ht l T/\∀au (bN:au<T.length),k<=au->∀s∈l.aW,∀v∈eE (kR s T[au].toNat),v<l.a8->v∈T:=by
  intro k d S bg ak;have hlen:=bg.len hl;refine⟨S,λm hm=>?_,List.prefix_refl S,bg,λau bN ZF=>by omega⟩;obtain⟨m,rfl⟩:∃au,m=au+1:=⟨m-1,by omega⟩
  simp only[pA,Et];rw[eb (by omega),Zz S (by omega)];rfl
 induction d with
 |zero=>
  intro k S bg ak ae;have hlen:=bg.len hl;exact Nu k 0 S bg (by omega)
 |succ d ih=>
  intro k S bg ak ae;have hlen:=bg.len hl;by_cases ZG:k=S.length
  .exact Nu k _ S bg ZG
  .have hd:k<S.length:=by omega
   have Gz:S<+:l.aW.foldl (tA l.a8 S[k].toNat) S:=Gx (λT s=>yq _ _ _) _ S;have vE:=(Ns hl br S bg k hd λ_ _=>none).2;obtain⟨T,R,U,aA,aU⟩:=ih (k+1) _ vE (by have:=Gz.length_le;omega) (by omega);refine⟨T,λm hm=>?_,Gz.trans U,aA,λau bN ZF s I v ay cB=>?_⟩
   .obtain⟨m,rfl⟩:∃au,m=au+1:=⟨m-1,by omega⟩
    simp only[pA,Et];rw[e3 hd,cond_true,(Ns hl br S bg k hd _).1,R m (by omega)]
   .by_cases vX:au=k
    .subst vX;have Gy:T[au]=S[au]:=((Gz.trans U).getElem hd).symm;rw[Gy]at ay;refine U.subset (A9 (f:=tA l.a8 S[au].toNat) (x:=s) (Q:=λN=>v∈N) (λT s=>yq _ _ _) (λA B h e5=>h.subset e5) (λN=>Nq _ _ _ v ay cB) l.aW S I)
    .exact aU au bN (by omega) s I v ay cB
theorem ZH:∃T,xA l=some (T.mergeSort λx y=>decide (x<=y))/\ht l T/\A1 l (·∈T):=by
 have al:=hl.p;have pK:=br.2.1;have ZI:ht l (l.aW.foldl (vK l.a8) []):=A_ (P:=ht l) _ [] (λs I T fg=>Nr hl T fg I) ⟨List.Pairwise.nil,λx ag=>by cases ag⟩;obtain⟨T,R,U,aA,aU⟩:=ZE hl br l.a8.toNat 0 _ ZI (by omega) (by omega);refine⟨T,?_,aA,?_,?_⟩
 .have e:lim (λm=>pA l m (l.aW.foldl (vK l.a8) []) 0)=some (T.mergeSort λx y=>decide (x<=y)):=hS (l.a8.toNat+1) λm hm=>R m (by omega);rw[<-e];unfold xA;refine qt (L:=λn S au=>s3 l n S au) l.aW (vK l.a8) (ht l) (λS=>lim λn=>pA l n S 0) ?_ ?_ [] ⟨List.Pairwise.nil,λx ag=>by cases ag⟩
  .intro m S bg;simp only[s3,Eu];rw[eb (Nat.le_refl _)];rfl
  .intro i aw m S bg;have I:l.aW[i]∈l.aW:=List.getElem_mem aw;have bX:=br.2.2 _ I;refine⟨Nr hl S bg I,?_⟩;simp only[s3,Eu];rw[e3 aw,eD _ i aw];simp only[cond_true,bind_some];rw[MZ _ (by simp) (by
    have:=bX.2.2.2.1.1;simp only[qv,gh,List.length_cons,List.length_nil];omega)]
   simp only[bind_some,List.flatten_cons,List.flatten_nil,List.append_nil,List.cons_append,List.nil_append];exact ZB hl br S bg _ i aw
 .intro s I e he v ay cB;refine U.subset (A9 (f:=vK l.a8) (x:=s) (Q:=λN=>v∈N) (λT s=>Gx (yq _) _ _) (λA B h e5=>h.subset e5) (λN=>?_) l.aW [] I);exact A9 (f:=me l.a8) (x:=e) (Q:=λN=>v∈N) (λT s=>yq _ _ _) (λA B h e5=>h.subset e5) (λN=>Nq _ _ _ v ay cB) _ N he
 .intro s I i aw e8 v ay cB;obtain⟨au,bN,CC⟩:=List.mem_iff_getElem.1 e8;refine aU au bN (by omega) s I v ?_ cB;rw[CC];exact ay
theorem ZJ:pv (marks l) true=xA l:=by
 have al:=hl.p;obtain⟨T,R,U,aA⟩:=ZH hl br;obtain⟨ee,fb⟩:=A7 hl;rw[R,Nj _ (by omega)];congr 1;have Nv:=List.mergeSort_perm T (λx y:Int=>decide (x<=y));refine Ge M7 (Gr _ 0) ?_ λx=>?_
 .have I:(T.mergeSort λx y=>decide (x<=y)).Pairwise (λa b:Int=>decide (a<=b)=true):=List.pairwise_mergeSort (λa b c R U=>by simp at R U⊢;omega) (λa b=>by simp;omega) T;have a7:(T.mergeSort λx y=>decide (x<=y)).Nodup:=Nv.nodup_iff.2 U.Gv;refine(I.and a7).imp λ{a b} h=>?_;have:=h.1;have:=h.2;simp at*;omega
 .rw[Nv.mem_iff,Gs];constructor
  .rintro⟨i,aw,rfl⟩;have Nw:i<l.a8.toNat:=by
    have:=(List.getElem?_eq_some_iff.1 aw).1;omega
   have:=((fb i Nw).1 aw) (·∈T) aA;simpa using this
  .intro ag;have bt:=U.rg x ag;refine⟨x.toNat,(fb x.toNat (by omega)).2 ?_,by omega⟩;rw[show((x.toNat:Nat):Int)=x by omega];exact bt.2
end
theorem Nx (es:abP) (h:gB (λx:List aG=>x.length+0) es<=1048576):Gd es:=
 ⟨Nat.le_trans (rn _ _) h,λt aL=>by
  have:=vF (f:=λx:List aG=>x.length+0) aL;simp only[Nat.add_zero]at this h;omega⟩
theorem ZK (l:bj) (h:lu l<=1048576):qu l:=by
 unfold lu at h;have I:gB iM l.aW<=1048576:=by omega
 refine⟨by omega,Nat.le_trans (rn _ _) I,λx ag=>?_⟩;have hm:=vF (f:=iM) ag;have ZL:iM x<=1048576:=by omega
 unfold iM at ZL;exact⟨by omega,by omega,by omega,Nx _ (by omega),Nx _ (by omega)⟩
theorem rC {α γ β:Type} {L:Nat->List γ->Int->Option β} (a:List α) (g:α->γ) (b:Nat) (E:List γ->Option β)
  (bq:∀m v,v.length<=b+a.length->L (m+1) v (a.length:Int)=E v)
  (I:∀i (h:i<a.length) m v,v.length<=b+i->L (m+1) v (i:Int)=L m (v++[g a[i]]) ((i+1:Nat):Int)) (s:List γ) (J:s.length<=b):
  lim (λm=>L m s 0)=E (s++a.map g):=by
 have key:∀i,i<=a.length->∀v m,v.length<=b+i->a.length-i<m->L m v (i:Int)=E (v++(a.drop i).map g):=by
  refine down a.length ?_ ?_
  .intro v m ay hm;obtain⟨m,rfl⟩:∃au,m=au+1:=⟨m-1,by omega⟩
   rw[bq m v ay,List.drop_of_length_le (Nat.le_refl _)];simp
  .intro i aw ih v m ay hm;obtain⟨m,rfl⟩:∃au,m=au+1:=⟨m-1,by omega⟩
   rw[I i aw m v ay,ih _ m (by simp only[List.length_append,List.length_cons,List.length_nil];omega) (by omega),drop_cons a i aw];simp only[List.map_cons,List.append_assoc,List.cons_append,List.nil_append]
 refine hS (a.length+1) λm hm=>?_;have:=key 0 (by omega) s m (by omega) (by omega);simpa using this
def setRow {α:Type} (a:List α) (g:α->α) (i:Nat):List α:=(a.take i).map g++a.drop i
theorem GA {α:Type} (a:List α) (g:α->α) (i:Nat):(setRow a g i).length=a.length:=by
 simp only[setRow,List.length_append,List.length_map,List.length_take,List.length_drop];omega
theorem ZM {α:Type} (a:List α) (g:α->α) (i:Nat) (h:i<a.length):bS (setRow a g i) (i:Int)=some a[i]:=by
 rw[eD _ i (by rw[GA];exact h)];congr 1;simp only[setRow];rw[List.getElem_append_right (by simp;omega)];simp[Nat.min_eq_left (Nat.le_of_lt h)]
theorem ZN {α:Type} (a:List α) (g:α->α) (i:Nat) (h:i<a.length):(setRow a g i).set i (g a[i])=setRow a g (i+1):=by
 have e:((a.take i).map g).length=i:=by simp;omega
 simp only[setRow];rw[List.set_append_right i _ (by rw[e];omega),e,Nat.sub_self,drop_cons a i h,List.set_cons_zero,List.take_succ_eq_append_getElem h,List.map_append];simp
theorem ZO {α:Type} (a:List α) (g:α->α):setRow a g 0=a:=by simp[setRow]
theorem ZP {α:Type} (a:List α) (g:α->α):setRow a g a.length=a.map g:=by simp[setRow]
theorem Ba {α β:Type} {L:Nat->List α->Int->Option β} (a:List α) (g:α->α) (E:List α->Option β)
  (bq:∀m v,v.length=a.length->L (m+1) v (a.length:Int)=E v)
  (I:∀i (h:i<a.length) m v,v.length=a.length->bS v (i:Int)=some a[i]->L (m+1) v (i:Int)=L m (v.set i (g a[i])) ((i+1:Nat):Int)):
  lim (λm=>L m a 0)=E (a.map g):=by
 have key:∀i,i<=a.length->∀m,a.length-i<m->L m (setRow a g i) (i:Int)=E (a.map g):=by
  refine down a.length ?_ ?_
  .intro m hm;obtain⟨m,rfl⟩:∃au,m=au+1:=⟨m-1,by omega⟩
   rw[bq m _ (GA ..),ZP]
  .intro i aw ih m hm;obtain⟨m,rfl⟩:∃au,m=au+1:=⟨m-1,by omega⟩
   rw[I i aw m _ (GA ..) (ZM a g i aw),ZN a g i aw,ih m (by omega)]
 refine hS (a.length+1) λm hm=>?_;have:=key 0 (by omega) m (by omega);simpa [ZO]using this
def yr (S:Int->Bool) (st:abH) (t:aG):aG:=cond ((t.Kind==1)&&S t.Value) ⟨0,st.getD t.Value.toNat 0⟩ t
def kp (S:Int->Bool) (st:abH) (e:abS):abS:=e.map (yr S st)
def ys (M:List Bool) (t:aG):aG:=cond (t.Kind==1) ⟨t.Kind,IntKind.i64.wrap (t.Value-(((M.take t.Value.toNat).filter id).length:Nat))⟩ t
def l7 (M:List Bool) (e:abS):abS:=e.map (ys M)
theorem Ny (e:abS) (h:e.length<=1048576):xv e=some e:=by
 unfold xv;rw[ko (by omega) (by omega)];rfl
theorem ZQ (e:abH) (h:e.length<=1048576):zX e=some e:=by
 unfold zX;rw[ko (by omega) (by omega)];rfl
theorem Bb {α:Type} (v:List α) (i:Nat) (x:α) (h:bS v (i:Int)=some x):v.set i x=v:=by
 have:=cD h;rw[Int.toNat_natCast]at this;obtain⟨R,U⟩:=List.getElem?_eq_some_iff.1 this;rw[<-U];exact List.set_getElem_self R
theorem yt {α:Type} {v:List α} {t:Int} (d:α) (R:0<=t) (U:t<(v.length:Nat)):bS v t=some (v.getD t.toNat d):=by
 obtain⟨i,aw⟩:∃i:Nat,t=(i:Int):=⟨t.toNat,by omega⟩
 rw[aw];exact YB v i d (by omega)
theorem ZR {S:Int->Bool} (e:abS) (M:List Bool) (st:abH) (hl:st.length=M.length) (he:e.length<=1048576) (e8:M.length<=1000) (ay:∀t∈e,t.Kind=1->0<=t.Value) (bg:∀v,0<=v->S v=M.getD v.toNat false):
  sP e M st=some (kp S st e):=by
 unfold sP;rw[Ny e he,bind_some];refine Ba (L:=sO M st) e (yr S st) some (λm w hw=>?_) (λi aw m w hw bm=>?_)
 .simp only[sO,D1];rw[eb (by omega)];rfl
 .simp only[sO,D1,uK];rw[e3 (by omega),bm,eT i e.length aw (by omega)];simp only[cond_true,bind_some,yr,Int.toNat_natCast];by_cases ak:e[i].Kind=1
  .have bq:=ay _ (List.getElem_mem aw) ak;have tB:(e[i].Kind==1)=true:=by simp[ak]
   rw[tB,cond_true,Bool.true_and,bg _ bq];by_cases cB:e[i].Value<(M.length:Int)
   .rw[decide_eq_true cB,cond_true,yt false bq cB,bind_some];cases M.getD e[i].Value.toNat false
    .rw[cond_false,cond_false,Bb w i _ bm]
    .rw[cond_true,cond_true,yt 0 bq (by omega),bind_some]
   .rw[decide_eq_false cB,cond_false];have:M.getD e[i].Value.toNat false=false:=by
     rw[List.getD_eq_getElem?_getD,List.getElem?_eq_none (by omega)];rfl
    rw[this,cond_false,Bb w i _ bm]
  .have tB:(e[i].Kind==1)=false:=by simpa using ak
   rw[tB,cond_false,Bool.false_and,cond_false,Bb w i _ bm]
theorem ZS (e:abS) (M:List Bool) (he:e.length<=1048576) (e8:M.length<=1000) (ay:∀t∈e,t.Kind=1->0<=t.Value):sR e M=some (l7 M e):=by
 unfold sR;rw[Ny e he,bind_some];refine Ba (L:=nn M) e (ys M) some (λm w hw=>?_) (λi aw m w hw bm=>?_)
 .simp only[nn,D3];rw[eb (by omega)];rfl
 .simp only[nn,D3];rw[e3 (by omega),bm];simp only[cond_true,bind_some,ys,Int.toNat_natCast];by_cases ak:e[i].Kind=1
  .have bq:=ay _ (List.getElem_mem aw) ak;have tB:(e[i].Kind !=1)=false:=by simp[ak]
   have GB:(e[i].Kind==1)=true:=by simp[ak]
   rw[tB,GB,cond_false,cond_true];have key:∀au,au<=min M.length e[i].Value.toNat->∀ed,min M.length e[i].Value.toNat-au<ed->
     sQ (nn M m) M ed w (i:Int) (((M.take au).filter id).length:Nat) (au:Int)=nn M m (w.set i ⟨e[i].Kind,IntKind.i64.wrap (e[i].Value-(((M.take e[i].Value.toNat).filter id).length:Nat))⟩) ((i+1:Nat):Int):=by
    refine down (min M.length e[i].Value.toNat) ?_ ?_
    .intro ed hm;obtain⟨ed,rfl⟩:∃au,ed=au+1:=⟨ed-1,by omega⟩
     simp only[sQ,D2,uN];rw[bm,eT i e.length aw (by omega)];simp only[bind_some,Int.toNat_natCast];by_cases cB:M.length<=e[i].Value.toNat
     .rw[Nat.min_eq_left cB,eb (Nat.le_refl _),cond_false,List.take_of_length_le (Nat.le_refl _),List.take_of_length_le cB]
     .rw[Nat.min_eq_right (by omega),e3 (by omega),cond_true];have d:decide (((e[i].Value.toNat:Nat):Int)<e[i].Value)=false:=by simp only[decide_eq_false_iff_not];omega
      rw[d,cond_false]
    .intro au bN ih ed hm;obtain⟨ed,rfl⟩:∃au,ed=au+1:=⟨ed-1,by omega⟩
     have Bc:au<M.length:=by omega
     simp only[sQ,D2,zY];rw[e3 Bc,bm,eD _ au Bc,eT au M.length Bc (by omega)];have d:decide ((au:Int)<e[i].Value)=true:=by simp only[decide_eq_true_eq];omega
     simp only[cond_true,bind_some,d];have aj:(M.take (au+1)).filter id=(M.take au).filter id++(if M[au]=true then [M[au]]else []):=by
      rw[List.take_add_one,List.filter_append,List.getElem?_eq_getElem Bc];cases M[au]<;>rfl
     have ih:=ih ed (by omega);rw[aj]at ih;have hlen:((M.take au).filter id).length<=1000:=Nat.le_trans (List.length_filter_le ..) (by rw[List.length_take];omega);have ik:IntKind.i64.wrap ((((M.take au).filter id).length:Nat)+1)=((((M.take au).filter id).length+1:Nat):Int):=by rw[hs _ (by omega)];omega
     cases J:M[au]
     .rw[J]at ih;simpa using ih
     .rw[J]at ih;rw[cond_true,ik];simpa using ih
   refine hS (min M.length e[i].Value.toNat+1) λed hm=>?_;have:=key 0 (by omega) ed (by omega);simpa using this
  .have tB:(e[i].Kind !=1)=true:=by simpa using ak
   have GB:(e[i].Kind==1)=false:=by simpa using ak
   simp only[uN];rw[tB,GB,cond_true,cond_false,Bb w i _ bm,eT i e.length aw (by omega)]
def qy (e:abS):Prop:=e.length<=1048576/\∀t∈e,t.Kind=1->0<=t.Value
def Nz (x:bc):Prop:=x.bs.length<=1048576/\qy x.Guard/\(x.bl.length<=1048576/\∀e∈x.bl,qy e)/\x.Next.length<=1048576/\∀e∈x.Next,qy e
theorem NA {S:Int->Bool} {st:abH} {e:abS} (h:qy e):qy (kp S st e):=by
 refine⟨by rw[kp,List.length_map];exact h.1,λt aL ak=>?_⟩;obtain⟨u,hu,rfl⟩:=List.mem_map.1 aL;unfold yr at ak⊢;cases aj:(u.Kind==1)&&S u.Value
 .rw[aj,cond_false]at ak;rw[cond_false];exact h.2 u hu ak
 .rw[aj,cond_true]at ak;exact absurd (show(0:Int)=1 from ak) (by decide)
theorem GC {S:Int->Bool} (e:abS) (M:List Bool) (st:abH) (hl:st.length=M.length) (he:qy e) (e8:M.length<=1000) (bg:∀v,0<=v->S v=M.getD v.toNat false) {β:Type} (K:abS->Option β):
  ((sP e M st).bind λx=>(sR x M).bind K)=K (l7 M (kp S st e)):=by
 rw[ZR e M st hl he.1 e8 he.2 bg,bind_some,ZS _ M (NA he).1 e8 (NA he).2,bind_some]
def ff:Nat->List Bool->abH
 |_,[]=>[]
 |k,b::M=>if b=true then ff (k+1) M else(k:Int)::ff (k+1) M
theorem GD:∀(M:List Bool) (k:Nat),(ff k M).length+(M.filter id).length=M.length
 |[],k=>rfl
 |b::M,k=>by
  have:=GD M (k+1);cases b<;>simp[ff]<;>omega
theorem GF:∀(M:List Bool) (k:Nat),∀x∈ff k M,(k:Int)<=x/\x<((k+M.length:Nat):Int)
 |[],k,x,h=>by cases h
 |b::M,k,x,h=>by
  have ih:=GF M (k+1);cases b
  .rw[ff,if_neg (by simp)]at h;rcases List.mem_cons.1 h with rfl|h
   .simp;omega
   .have:=ih x h;simp at this⊢;omega
  .rw[ff,if_pos rfl]at h;have:=ih x h;simp at this⊢;omega
theorem GG:∀(M:List Bool) (k:Nat),(ff k M).Nodup
 |[],k=>List.nodup_nil
 |b::M,k=>by
  cases b
  .rw[ff,if_neg (by simp)];refine List.nodup_cons.2 ⟨λh=>?_,GG M (k+1)⟩;have:=(GF M (k+1) _ h).1;omega
  .rw[ff,if_pos rfl];exact GG M (k+1)
theorem NB (M:List Bool) (e8:M.length<=1000):pv M false=some (ff 0 M):=by
 unfold pv;have key:∀i,i<=M.length->∀(v:abH) m,v.length<=i->M.length-i<m->pt M false m v (i:Int)=some (v++ff i (M.drop i)):=by
  refine down M.length ?_ ?_
  .intro v m _ hm;obtain⟨m,rfl⟩:∃au,m=au+1:=⟨m-1,by omega⟩
   simp only[pt,xu];rw[eb (Nat.le_refl _),List.drop_of_length_le (Nat.le_refl _)];simp[ff]
  .intro i aw ih v m ay hm;obtain⟨m,rfl⟩:∃au,m=au+1:=⟨m-1,by omega⟩
   rw[drop_cons M i aw];simp only[pt,xu,xt];rw[e3 aw,eD _ i aw,eT i _ aw (by omega)];simp only[cond_true,bind_some];cases J:M[i]
   .rw[ko (by omega) (by omega)];simp only[beq_self_eq_true,cond_true,bind_some];rw[ih _ m (by simp;omega) (by omega),ff,if_neg (by simp)];simp
   .rw[show(true==false)=false from rfl,cond_false,ih _ m (by omega) (by omega),ff,if_pos rfl]
 refine hS (M.length+1) λm hm=>?_;have:=key 0 (by omega) [] m (by simp) (by omega);simpa using this
def yu (S:Int->Bool) (M:List Bool) (st:abH) (x:bc):bc:=
 ⟨x.bs,l7 M (kp S st x.Guard),x.Name,x.bl.map λe=>l7 M (kp S st e),(ff 0 M).map λi=>l7 M (kp S st (x.Next.getD i.toNat []))⟩
theorem ZT {es:abP} (h:∀e∈es,qy e) (i:Nat):qy (es.getD i []):=by
 rw[List.getD_eq_getElem?_getD];cases he:es[i]? with
 |none=>exact⟨by simp,λt aL=>by cases aL⟩
 |some e=>exact h e (List.mem_of_getElem? he)
theorem ZU {S:Int->Bool} (l:bj) (M:List Bool) (e8:M.length<=1000) (hl:l.Start.length=M.length) (I:l.aW.length<=1048576) (ag:∀x∈l.aW,Nz x/\x.Next.length=M.length) (bg:∀v,0<=v->S v=M.getD v.toNat false):
  uX l M=some ⟨(ff 0 M).length,(ff 0 M).map λi=>l.Start.getD i.toNat 0,l.aW.map (yu S M l.Start)⟩:=by
 have hK:(ff 0 M).length<=1000:=by have:=GD M 0;omega
 have tC:∀x∈ff 0 M,0<=x/\x<(M.length:Int):=λx ag=>by have:=GF M 0 x ag;simpa using this
 unfold uX;rw[NB M e8,bind_some];refine(rC (L:=uW l M (ff 0 M)) (ff 0 M) (λi=>l.Start.getD i.toNat 0) 0 (λv=>some ⟨(ff 0 M).length,v,l.aW.map (yu S M l.Start)⟩) (λm v ay=>?_) (λi aw m v ay=>?_) [] (by simp)).trans (by simp)
 .simp only[uW,D7];rw[eb (Nat.le_refl _),cond_false];refine(rC (L:=λn w i=>nv l M (ff 0 M) n v w i) l.aW (yu S M l.Start) 0 (λw=>some ⟨(ff 0 M).length,v,w⟩) (λm w hw=>?_) (λi aw m w hw=>?_) [] (by simp)).trans (by simp)
  .simp only[nv,D6];rw[eb (Nat.le_refl _),cond_false]
  .obtain⟨⟨af,aH,aM,aT,bf⟩,bY⟩:=ag _ (List.getElem_mem aw);simp only[nv,D6];rw[e3 aw,cond_true,eD _ i aw,bind_some,ZQ _ af,bind_some,GC (S:=S) _ M l.Start hl aH e8 bg];refine(rC (L:=λn u au=>uV (nv l M (ff 0 M) m) l M (ff 0 M) l.aW[i] l.aW[i].bs (l7 M (kp S l.Start l.aW[i].Guard)) n v w (i:Int) u au) l.aW[i].bl (λe=>l7 M (kp S l.Start e)) 0 (λu=>nv l M (ff 0 M) m v (w++[bc.mk l.aW[i].bs (l7 M (kp S l.Start l.aW[i].Guard)) l.aW[i].Name u ((ff 0 M).map λl9=>l7 M (kp S l.Start (l.aW[i].Next.getD l9.toNat [])))]) ((i+1:Nat):Int)) (λed u hu=>?_) (λau bN ed u hu=>?_) [] (by simp)).trans (by simp only[List.nil_append];rfl)
   .simp only[uV,D5];rw[eb (Nat.le_refl _),cond_false];refine(rC (L:=λn t au=>uU (nv l M (ff 0 M) m) l M (ff 0 M) l.aW[i] l.aW[i].bs (l7 M (kp S l.Start l.aW[i].Guard)) n v w (i:Int) u t au) (ff 0 M) (λl9=>l7 M (kp S l.Start (l.aW[i].Next.getD l9.toNat []))) 0 (λt=>nv l M (ff 0 M) m v (w++[bc.mk l.aW[i].bs (l7 M (kp S l.Start l.aW[i].Guard)) l.aW[i].Name u t]) ((i+1:Nat):Int)) (λZV t aL=>?_) (λau bN ZV t aL=>?_) [] (by simp)).trans (by simp only[List.nil_append])
    .simp only[uU,D4];rw[eb (Nat.le_refl _),cond_false,ko (by omega) (by omega),bind_some,eT i _ aw (by omega)]
    .have ZW:=tC _ (List.getElem_mem bN);simp only[uU,D4];rw[e3 bN,cond_true,eD _ au bN,bind_some,yt [] ZW.1 (by omega),bind_some,GC (S:=S) _ M l.Start hl (ZT bf _) e8 bg,ko (by omega) (by omega),bind_some,eT au _ bN (by omega)]
   .simp only[uV,D5];rw[e3 bN,cond_true,eD _ au bN,bind_some,GC (S:=S) _ M l.Start hl (aM.2 _ (List.getElem_mem bN)) e8 bg,ko (by have:=aM.1;omega) (by have:=aM.1;omega),bind_some,eT au _ bN (by have:=aM.1;omega)]
 .have ZX:=tC _ (List.getElem_mem aw);simp only[uW,D7];rw[e3 aw,cond_true,eD _ i aw,bind_some,yt 0 ZX.1 (by omega),bind_some,ko (by omega) (by omega),bind_some,eT i _ aw (by omega)]
end Go.mn
