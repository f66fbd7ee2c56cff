/- Part of a proof that a law returns true for every input. No condition. -/
import Derived.Test.YtndfcecbamffaaaGreatDoorUV2x
import Derived.Test.YtndfcecbamffaaaGreatDoorUV0x
namespace Go.mY
open Go.IntKind Nat Or
open Go Go.cG
theorem Bm (l:acm) (hl:l.length<=1048576) (a:acd) (h:∀e∈l,hP e a.length 60=true):
  s9 l a=some (l.map (ix a))/\xJ l a=some (l.map (ix a)):=by
 constructor
 .unfold s9;refine Nz (L:=u3 l a) l (ix a) (λm v=>?_) λi ax m v aE=>?_
  .simp only[u3,D4];rw[gq (Nat.le_refl _)];rfl
  .simp only[u3,D4];rw[hG ax,fX _ i ax,hx i _ ax (by omega)];simp only[cond_true,Option.bind_some,(yt (by omega) (h _ (List.getElem_mem ax))).1];rw[pT (by omega) (by omega)];rfl
 .unfold xJ;refine Nz (L:=vg l a) l (ix a) (λm v=>?_) λi ax m v aE=>?_
  .simp only[vg,Ex];rw[gq (Nat.le_refl _)];rfl
  .simp only[vg,Ex];rw[hG ax,fX _ i ax,hx i _ ax (by omega)];simp only[cond_true,Option.bind_some,(yt (by omega) (h _ (List.getElem_mem ax))).2.1];rw[pT (by omega) (by omega)];rfl
theorem yv {l:acm} {a:acd} (bx:∀x∈a,gi x) (h:∀e∈l,hP e a.length 60=true):∀x∈l.map (ix a),gi x:=by
 intro x ae;obtain⟨e,he,rfl⟩:=List.mem_map.1 ae;exact(yt (by omega) (h e he)).2.2 bx
noncomputable def mE (x:bN) (a:acd):br:=⟨pW x.Name (x.bP.map (ix a)),x.Next.map (ix a)⟩
def n3 (x y:br):Bool:=(x.Label==y.Label)&&(x.Next==y.Next)
def iJ (o:acr) (s:br):acr:=if(o.any λx=>n3 x s)=true then o else o++[s]
theorem Gv {x y:br}:n3 x y=true↔x=y:=by
 cases x;cases y;simp[n3]
structure iR (P:Nat) (s:br):Prop where
 Bn:s.Label.length<=400/\(32:UInt8)∉s.Label
 len:s.Next.length=P
 pX:∀x∈s.Next,gi x
def oV (s:br):aca:=(s.Label++[32])++hQ (s.Next.map k1) [44]
theorem aao {P:Nat} {x y:br} (ae:iR P x) (a6:iR P y) (h:oV x=oV y):x=y:=by
 unfold oV at h;simp only[List.append_assoc,List.singleton_append]at h;obtain⟨aH,h⟩:=Gu ae.Bn.2 a6.Bn.2 h;have aN:x.Next=y.Next:=by
  by_cases bg:x.Next=[]
  .have:y.Next.length=0:=by rw[a6.len,<-ae.len,bg];rfl
   rw[bg,List.length_eq_zero_iff.1 this]
  .have R:y.Next≠[]:=λe=>bg (List.length_eq_zero_iff.1 (by rw[ae.len,<-a6.len,e];rfl));exact val_inj ae.pX a6.pX (NG (NH ae.pX) (NH a6.pX) (by simpa using bg) (by simpa using R) h)
 exact Gv.1 (by simp only[n3,aH,aN,beq_self_eq_true,Bool.and_self])
def jL (p:acr×gk) (s:br):acr×gk:=
 if jq (oV s) p.2=true then p else(p.1++[s],jr (oV s) true p.2)
theorem NJ (p:acr×gk) (s:br):(jL p s).1.length<=p.1.length+1:=by
 unfold jL;split
 .omega
 .simp
theorem NK:∀(l:acr) (p:acr×gk),(l.foldl jL p).1.length<=p.1.length+l.length
 |[],p=>Nat.le_refl _
 |s::r,p=>by
  have R:=NK r (jL p s);have U:=NJ p s;rw[List.foldl_cons,List.length_cons];omega
theorem NL (o:acr) (s:br):(iJ o s).length<=o.length+1:=by
 unfold iJ;split
 .omega
 .simp
theorem Gw:∀(l o:acr),(l.foldl iJ o).length<=o.length+l.length
 |[],o=>Nat.le_refl _
 |s::r,o=>by
  have R:=Gw r (iJ o s);have U:=NL o s;rw[List.foldl_cons,List.length_cons];omega
theorem NM {P:Nat} {o:acr} {s:br} (bo:∀x∈o,iR P x) (J:iR P s):∀x∈iJ o s,iR P x:=by
 unfold iJ;split
 .exact bo
 .intro x ae;rcases List.mem_append.1 ae with ae|ae
  .exact bo x ae
  .rw[List.mem_singleton]at ae;rwa [ae]
theorem Gx {P:Nat}:∀(l o:acr),(∀x∈o,iR P x)->(∀x∈l,iR P x)->∀x∈l.foldl iJ o,iR P x
 |[],o,a_,_=>a_
 |s::r,o,a_,hl=>by
  rw[List.foldl_cons];exact Gx r _ (NM a_ (hl s (by simp))) λx ae=>hl x (List.mem_cons_of_mem _ ae)
theorem Gy {P:Nat}:∀(l o:acr) (m:gk),(∀x∈l,iR P x)->(∀x∈o,iR P x)->(∀s,iR P s->jq (oV s) m=o.any λx=>n3 x s)->(l.foldl jL (o,m)).1=l.foldl iJ o
 |[],o,m,_,_,_=>rfl
 |s::r,o,m,hl,a_,hm=>by
  have J:=hl s (by simp);have aD:∀x∈r,iR P x:=λx ae=>hl x (List.mem_cons_of_mem _ ae);rw[List.foldl_cons,List.foldl_cons];by_cases h:(o.any λx=>n3 x s)=true
  .rw[show jL (o,m) s=(o,m) by unfold jL;rw[if_pos ((hm s J).trans h)],show iJ o s=o by unfold iJ;rw[if_pos h]];exact Gy r o m aD a_ hm
  .rw[show jL (o,m) s=(o++[s],jr (oV s) true m) by unfold jL;rw[if_neg (by simp only[hm s J];exact h)],show iJ o s=o++[s] by unfold iJ;rw[if_neg h]];refine Gy r _ _ aD (λx ae=>?_) λt aK=>?_
   .rcases List.mem_append.1 ae with ae|ae
    .exact a_ x ae
    .rw[List.mem_singleton]at ae;rwa [ae]
   .rw[NF,List.any_append,List.any_cons,List.any_nil,Bool.or_false];by_cases ak:oV s=oV t
    .have:=aao J aK ak;rw[if_pos ak,Gv.2 this,Bool.or_true]
    .rw[if_neg ak,hm t aK];have:n3 s t=false:=by
      cases aap:n3 s t
      .rfl
      .exact(ak (by rw[Gv.1 aap])).elim
     rw[this,Bool.or_false]
structure NN (x:bN) (P:Nat) (a:acd):Prop where
 len:a.length=P+x.aY.length
 pX:∀y∈a,gi y
structure oW (x:bN) (P:Nat):Prop where
 mF:x.aY.length<=8/\(∀n∈x.aY,1<=n/\n<=7)/\fc x.aY<=4096
 guard:hP x.Guard ((P:Int)+x.aY.length) 60=true
 name:l7 x.Name=true
 args:x.bP.length<=2/\∀e∈x.bP,hP e ((P:Int)+x.aY.length) 60=true
 aaq:x.Name=oS->x.bP.length=0
 next:x.Next.length=P/\∀e∈x.Next,hP e ((P:Int)+x.aY.length) 60=true
theorem aar {x:bN} {p:Int} (h:pV x p=true) (bg:0<=p):oW x p.toNat:=by
 simp only[pV,Bool.and_eq_true,beq_iff_eq]at h;obtain⟨R,U,aw,aQ,bk,bS⟩:=h;have e:((p.toNat:Nat):Int)=p:=by omega
 have aO:l7 x.Name=true/\x.bP.length<=2/\(x.Name=oS->x.bP.length=0):=by
  split at aQ
  .rename_i aK;simp only[decide_eq_true_eq]at aQ;exact⟨by rw[aK];decide,by omega,λ_=>aQ⟩
  .rename_i aK;simp only[qM,Bool.and_eq_true,decide_eq_true_eq]at aQ;exact⟨aQ.1.1,aQ.2,λe=>(aK e).elim⟩
 simp only[nt,List.all_eq_true]at bk bS;refine⟨aan R,by rw[e];exact U,aO.1,⟨aO.2.1,by rw[e];exact bk⟩,aO.2.2,by omega,by rw[e];exact bS⟩
section
variable {x:bN} {P:Nat} {a:acd} (ae:oW x P) (bx:NN x P a) (bp:P<=21)
include bx
theorem oX {e:acp} (h:hP e ((P:Int)+x.aY.length) 60=true):hP e a.length 60=true:=by
 rw[bx.len,Int.natCast_add];exact h
include ae
theorem Gz:iR P (mE x a):=by
 have v1:=yv bx.pX λe he=>oX bx (ae.args.2 e he);have v2:=yv bx.pX λe he=>oX bx (ae.next.2 e he);have U:=ae.args.1;exact⟨aah ae.name (by rw[List.length_map];omega) v1,by simp only[mE,List.length_map];exact ae.next.1,v2⟩
include bp
theorem aas (S:acd) (g:acp) (o:acr) (m:gk) (a_:o.length<=1000000):
  Aw a S g x.Name x.bP x.Next m o=some ((jL (o,m) (mE x a)).2,(jL (o,m) (mE x a)).1):=by
 have v1:=yv bx.pX λe he=>oX bx (ae.args.2 e he);have v2:=yv bx.pX λe he=>oX bx (ae.next.2 e he);have U:=ae.args.1;have aw:=ae.next.1;have bo:=Gz ae bx;obtain⟨b,I⟩:=aad x.Name (x.bP.map (ix a)) ae.name (by rw[List.length_map];exact U) (λe=>by rw[List.length_map];exact ae.aaq e) v1;have cp:=yq 44 2 ((x.Next.map (ix a)).map k1) λy a6=>by
  obtain⟨z,_,rfl⟩:=List.mem_map.1 a6;exact yr z
 simp only[List.length_map]at cp;have aat:=bo.Bn.1;simp only[mE]at aat;unfold Aw;rw[(Bm _ (by omega) a λe he=>oX bx (ae.args.2 e he)).2,(Bm _ (by omega) a λe he=>oX bx (ae.next.2 e he)).2];simp only[Option.bind_some,I];rw[rY (by omega),Nd _ (by rw[List.length_map];omega) v2];simp only[Option.bind_some];rw[rY (by simp only[List.length_append,List.length_cons,List.length_nil];omega)];simp only[Option.bind_some];have aau:oV (mE x a)=(pW x.Name (x.bP.map (ix a))++[32])++hQ ((x.Next.map (ix a)).map k1) [44]:=rfl;rw[<-aau];unfold jL;cases cb:jq (oV (mE x a)) m
 .simp only[Bool.not_false,cond_true,cb];rw[pT (by omega) (by omega)];rfl
 .simp only[Bool.not_true,cond_false,cb];rfl
theorem aav:(s9 x.bP a=some (x.bP.map (ix a)))/\xD x.Name (x.bP.map (ix a))=some (mE x a).Label/\s9 x.Next a=some (mE x a).Next:=by
 have v1:=yv bx.pX λe he=>oX bx (ae.args.2 e he);have U:=ae.args.1;have aw:=ae.next.1;have Gt:x.Name.length<=10:=by have:=ae.name;simp only[l7,Bool.and_eq_true,decide_eq_true_eq]at this;exact this.1
 exact⟨(Bm _ (by omega) a λe he=>oX bx (ae.args.2 e he)).1,aab _ _ Gt (by rw[List.length_map];omega) v1,(Bm _ (by omega) a λe he=>oX bx (ae.next.2 e he)).1⟩
end
noncomputable def ky (x:bN) (st:acd) (vs:List acd):acr:=(vs.filter λv=>ix (st++v.reverse) x.Guard !=0).map λv=>mE x (st++v.reverse)
theorem NO (x:bN) (st v:acd) (vs:List acd):ky x st (v::vs)=cond (ix (st++v.reverse) x.Guard !=0) (mE x (st++v.reverse)::ky x st vs) (ky x st vs):=by
 unfold ky;cases h:ix (st++v.reverse) x.Guard !=0
 .rw[List.filter_cons_of_neg (by simpa using h),cond_false]
 .rw[List.filter_cons_of_pos (by simpa using h),List.map_cons,cond_true]
theorem aaw (x:bN) (st:acd) (vs:List acd):(ky x st vs).length<=vs.length:=by
 unfold ky;rw[List.length_map];exact List.length_filter_le _ _
theorem NP:∀{r bs:acd},jo r bs->(∀b∈bs,b<=7)->∀y∈r,gi y
 |[],_,_,_,y,a6=>by cases a6
 |v::vs,[],h,_,_,_=>h.elim
 |v::vs,b::bs,h,I,y,a6=>by
  obtain⟨⟨R,U⟩,aw⟩:=h;have bL:=I b (by simp);rcases List.mem_cons.1 a6 with rfl|a6
  .exact⟨R,by omega⟩
  .exact NP aw (λc aj=>I c (by simp[aj])) y a6
theorem Bo (bs:acd) (n:Nat) (r:acd):k2 bs (n+1) r=r::(match iI r bs with
  |some w=>k2 bs n w
  |none=>[]):=rfl
theorem GA:∀(bs:acd),1<=fc bs
 |[]=>Nat.le_refl _
 |b::bs=>by have:=GA bs;simp only[fc];exact Nat.le_trans this (Nat.le_mul_of_pos_left _ (by omega))
abbrev aax:=acd×Int×Int×(List bY)×acd×acp×aca×acm×acm×gk×acr
theorem NQ {r bs:acd} (h:jo r bs) (I:∀b∈bs,b<=7) (hl:bs.length<=1000)
  (cX:acd->acp->aca->acm->acm->gk->acr->acd->Option aax)
  (st:acd) (t:aM) (as:List bY) (bK:acd) (bJ:acp) (kI:aca) (hz ka:acm) (e_:gk) (ph:acr):
  cL (λm=>tj cX bs.reverse st t as m bK bJ kI hz ka e_ ph r.reverse (i64.wrap ((r.reverse.length:Int)-1)))=(match iI r bs with
   |some w=>cX bK bJ kI hz ka e_ ph w.reverse
   |none=>some (st,t.Kind,t.Value,as,bK,bJ,kI,hz,ka,e_,ph)):=by
 have aD:=vL h;have key:∀k,k<=bs.length->∀m,k<m->tj cX bs.reverse st t as m bK bJ kI hz ka e_ ph (lv r bs.length k) ((k:Int)-1)=(match iI (r.drop (bs.length-k)) (bs.drop (bs.length-k))with
   |some w=>cX bK bJ kI hz ka e_ ph (w.reverse++List.replicate (bs.length-k) 0)
   |none=>some (st,t.Kind,t.Value,as,bK,bJ,kI,hz,ka,e_,ph)):=by
  intro k;induction k with
  |zero=>
   intro _ m hm;obtain⟨m,rfl⟩:∃aB,m=aB+1:=⟨m-1,by omega⟩
   simp only[tj,EA];rw[show decide ((0:Int)<=((0:Nat):Int)-1)=false by decide,cond_false,show decide (((0:Nat):Int)-1<0)=true by decide,cond_true,Nat.sub_zero,List.drop_of_length_le (by omega)];simp[iI]
  |succ k ih=>
   intro ak m hm;obtain⟨m,rfl⟩:∃aB,m=aB+1:=⟨m-1,by omega⟩
   have mg:k<bs.length:=by omega
   have e:((k+1:Nat):Int)-1=(k:Int):=by omega
   simp only[tj,EA];rw[e,show decide ((0:Int)<=(k:Int))=true by simp,cond_true,Nv aD mg,Nx rfl mg];simp only[Option.bind_some,Int.toNat_natCast];rw[yu aD mg,yu rfl mg];have rW:=Gr (bs.length-(k+1)) h (by omega) (by omega);have bL:=I _ (List.getElem_mem (show bs.length-(k+1)<bs.length by omega));simp only[iI];by_cases cW:r[bs.length-(k+1)]'(by omega)<bs[bs.length-(k+1)]'(by omega)
   .have c9:(r[bs.length-(k+1)]'(by omega)==bs[bs.length-(k+1)]'(by omega))=false:=by rw[beq_eq_false_iff_ne];omega
    rw[c9,cond_false,show decide ((k:Int)<0)=false by simp,cond_false,if_pos cW,fB _ (by omega),Gq aD mg];simp
   .have heq:(r[bs.length-(k+1)]'(by omega)==bs[bs.length-(k+1)]'(by omega))=true:=by rw[beq_iff_eq];omega
    rw[heq,cond_true,if_neg cW,Nw aD mg,Bl k (by omega),ih (by omega) m (by omega)];cases iI (r.drop (bs.length-k)) (bs.drop (bs.length-k))with
    |none=>rfl
    |some w=>
     simp only[Option.map_some,List.reverse_cons,List.append_assoc];rw[show bs.length-k=(bs.length-(k+1))+1 by omega,List.replicate_succ];rfl
 refine fZ (bs.length+1) λm hm=>?_;have:=key bs.length (Nat.le_refl _) m (by omega);rw[Nat.sub_self]at this;simp only[List.drop_zero,List.replicate_zero,List.append_nil]at this;rw[List.length_reverse,aD,Bl _ (by omega)];have bD:lv r bs.length bs.length=r.reverse:=by simp[lv]
 rw[bD]at this;exact this
section
variable {x:bN} {P:Nat} {st:acd} (ae:oW x P) (J:st.length=P) (aE:∀y∈st,gi y) (bp:P<=21)
include ae J aE
theorem GB {r:acd} (h:jo r x.aY.reverse):NN x P (st++r.reverse):=by
 have hl:=vL h;rw[List.length_reverse]at hl;refine⟨by rw[List.length_append,List.length_reverse,J,hl],λy a6=>?_⟩;rcases List.mem_append.1 a6 with a6|a6
 .exact aE y a6
 .exact NP h (λb I=>(ae.mF.2.1 b (by simpa using I)).2) y (by simpa using a6)
theorem NR {n:Nat} {r:acd} (h:jo r x.aY.reverse):∀s∈ky x st (k2 x.aY.reverse n r),iR P s:=by
 intro s hm;unfold ky at hm;obtain⟨v,rl,rfl⟩:=List.mem_map.1 hm;exact Gz ae (GB ae J aE (Nu _ _ _ h v (List.mem_filter.1 rl).1))
include bp
theorem NS {y:bY} (hw:nu y) (a6:gI y=x.Guard) {r:acd} (h:jo r x.aY.reverse) (o:acr) (m:gk) (a_:o.length<=1000000) (vs:List acd):
  ∃p:acr×gk,p.1.length<=o.length+1/\(ky x st (r::vs)).foldl jL (o,m)=(ky x st vs).foldl jL p/\
  Ax r.reverse st y.term.Kind y.term.Value y.args x.aY x.Guard x.Name x.bP x.Next m o=some (true,x.aY,x.Guard,x.Name,x.bP,x.Next,p.2,p.1):=by
 have vM:=GB ae J aE h;have da:=ae.mF.1;have hl:=vL h;rw[List.length_reverse]at hl;have bo:=oX vM ae.guard;have nO:xI (bY.mk (aM.mk y.term.Kind y.term.Value) y.args) (st++r.reverse)=some (ix (st++r.reverse) x.Guard):=by
  have U:=(yt (by omega) bo).2.1;rw[<-a6]at U⊢;unfold vf at U;have aw:∀o:acg,(o.bind λx=>some x)=o:=λo=>by cases o<;>rfl
  rw[Gl y hw,Option.bind_some,aw]at U;exact U
 rw[NO];unfold Ax;rw[aam _ _ (by omega) (by rw[List.length_reverse];omega)];simp only[Option.bind_some,nO];cases ix (st++r.reverse) x.Guard !=0
 .exact⟨(o,m),le_succ _,rfl,rfl⟩
 .refine⟨jL (o,m) (mE x (st++r.reverse)),NJ _ _,rfl,?_⟩;rw[cond_true,aas ae vM bp x.aY x.Guard o m a_];rfl
theorem aay {y:bY} (hw:nu y) (a6:gI y=x.Guard) (o:acr) (m:gk) (a_:o.length+fc x.aY<=1000000):
  ∃p,p=(ky x st (k2 x.aY.reverse (fc x.aY) (List.replicate x.aY.length 0))).foldl jL (o,m)/\
  Ay x.aY st y.term y.args x.aY x.Guard x.Name x.bP x.Next m o=some (st,y.term.Kind,y.term.Value,y.args,x.aY,x.Guard,x.Name,x.bP,x.Next,p.2,p.1):=by
 refine⟨_,rfl,?_⟩;have da:=ae.mF.1;unfold Ay;rw[tG 8 (n:=x.aY.length) (by omega) (by decide),Option.bind_some,Int.toNat_natCast];have yw:∀b∈x.aY.reverse,b<=7:=λb hS=>(ae.mF.2.1 b (by simpa using hS)).2;have gb:∀b∈x.aY.reverse,0<=b:=λb hS=>by have:=(ae.mF.2.1 b (by simpa using hS)).1;omega
 obtain⟨R,U⟩:=Bk x.aY.reverse gb;rw[List.length_reverse]at R U;have key:∀n r (o:acr) (m:gk),jo r x.aY.reverse->n+1+j4 r x.aY.reverse=fc x.aY->o.length+(n+1)<=1000000->∀f,n<f->
   qz x.aY st y.term y.args f x.aY x.Guard x.Name x.bP x.Next m o r.reverse=some (st,y.term.Kind,y.term.Value,y.args,x.aY,x.Guard,x.Name,x.bP,x.Next,((ky x st (k2 x.aY.reverse (n+1) r)).foldl jL (o,m)).2,((ky x st (k2 x.aY.reverse (n+1) r)).foldl jL (o,m)).1):=by
  intro n;induction n with
  |zero=>
   intro r o m aD aO a_ f bf;obtain⟨f,rfl⟩:∃aB,f=aB+1:=⟨f-1,by omega⟩
   have ax:=tM aD;rw[rX]at ax;rw[Bo];cases nv:iI r x.aY.reverse with
   |none=>
    obtain⟨p,_,ai,cb⟩:=NS ae J aE bp hw a6 aD o m (by omega) [];simp only[qz,EB];rw[cb];simp only[Option.bind_some,cond_true];have vI:=NQ aD yw (by simp;omega) (qz x.aY st y.term y.args f) st y.term y.args x.aY x.Guard x.Name x.bP x.Next p.2 p.1;rw[List.reverse_reverse]at vI;rw[vI,nv,ai];rfl
   |some w=>
    rw[nv]at ax;simp only at ax;have:=Nr ax.1;rw[rX]at this;omega
  |succ n ih=>
   intro r o m aD aO a_ f bf;obtain⟨f,rfl⟩:∃aB,f=aB+1:=⟨f-1,by omega⟩
   have ax:=tM aD;rw[rX]at ax;rw[Bo];cases nv:iI r x.aY.reverse with
   |none=>
    rw[nv]at ax;simp only at ax;omega
   |some w=>
    rw[nv]at ax;simp only at ax;obtain⟨p,dQ,ai,cb⟩:=NS ae J aE bp hw a6 aD o m (by omega) (k2 x.aY.reverse (n+1) w);simp only[qz,EB];rw[cb];simp only[Option.bind_some,cond_true];have vI:=NQ aD yw (by simp;omega) (qz x.aY st y.term y.args f) st y.term y.args x.aY x.Guard x.Name x.bP x.Next p.2 p.1;rw[List.reverse_reverse]at vI;rw[vI,nv,ai];exact ih w p.1 p.2 ax.1 (by omega) (by omega) f (by omega)
 have aK:=GA x.aY;refine fZ (fc x.aY+1) λf bf=>?_;have:=key (fc x.aY-1) (List.replicate x.aY.length 0) o m R (by rw[U];omega) (by omega) f (by omega);rw[List.reverse_replicate,show fc x.aY-1+1=fc x.aY by omega]at this;exact this
end
section
variable {x:bN} {P:Nat} {st:acd} (ae:oW x P) (J:st.length=P) (aE:∀y∈st,gi y) (bp:P<=21)
theorem aaz (cZ:acr->Int->Option acr) (jY:acr->Int->acd->Option acr) (l:ez) (st:acd) (x:bN)
  (o:acr) (aB:Int) (v:acd) (s:br) (a_:o.length<=1000000) (bo:∀y∈o,iR P y) (bp:P<=21):
  cL (λn=>ta cZ jY l st x n o aB v s.Label s.Next false 0)=qv cZ jY l st x (iJ o s) aB v:=by
 have key:∀i,i<=o.length->∀(b:Bool) m,o.length-i<m->ta cZ jY l st x m o aB v s.Label s.Next b (i:Int)=qv cZ jY l st x (cond (b||(o.drop i).any λy=>n3 y s) o (o++[s])) aB v:=by
  refine down o.length ?_ ?_
  .intro b m hm;obtain⟨m,rfl⟩:∃aB,m=aB+1:=⟨m-1,by omega⟩
   simp only[ta,D_];rw[gq (Nat.le_refl _),List.drop_of_length_le (Nat.le_refl _),pT (by omega) (by omega)];cases b<;>rfl
  .intro i ax ih b m hm;obtain⟨m,rfl⟩:∃aB,m=aB+1:=⟨m-1,by omega⟩
   simp only[ta,D_];have aO:=(bo _ (List.getElem_mem ax)).len;rw[hG ax,fX _ i ax,hx i _ ax (by omega),drop_cons o i ax,List.any_cons];simp only[cond_true,Option.bind_some];cases b
   .rw[cond_false,aai _ _ (by omega),Option.bind_some,ih _ m (by omega),ih _ m (by omega),Bool.false_or,Bool.false_or];have e:n3 o[i] s=((o[i].Label==s.Label)&&(o[i].Next==s.Next)):=rfl;rw[e];cases o[i].Label==s.Label
    .rfl
    .rfl
   .rw[cond_true,ih _ m (by omega),Bool.true_or,Bool.true_or]
 refine fZ (o.length+1) λm hm=>?_;have:=key 0 (by omega) false m (by omega);rw[List.drop_zero,Bool.false_or]at this;have ec:iJ o s=cond (o.any λy=>n3 y s) o (o++[s]):=by
  unfold iJ;cases o.any λy=>n3 y s<;>rfl
 rw[ec];exact this
include ae J aE bp
theorem NT (cZ:acr->Int->Option acr) (jY:acr->Int->acd->Option acr) (l:ez) (aB:Int)
  {r:acd} (h:jo r x.aY.reverse) (o:acr) (a_:o.length<=1000000) (bo:∀y∈o,iR P y) (vs:List acd):
  ∃iW,iW.length<=o.length+1/\(∀y∈iW,iR P y)/\(ky x st (r::vs)).foldl iJ o=(ky x st vs).foldl iJ iW/\
  Eb cZ jY l st x o aB r.reverse=qv cZ jY l st x iW aB r.reverse:=by
 have vM:=GB ae J aE h;have da:=ae.mF.1;have hl:=vL h;rw[List.length_reverse]at hl;have aaA:=oX vM ae.guard;rw[NO];unfold Eb;rw[aaf _ (by omega),Option.bind_some,pT (by rw[List.length_reverse];omega) (by rw[List.length_reverse];omega),Option.bind_some,(yt (by omega) aaA).1,Option.bind_some];cases ix (st++r.reverse) x.Guard !=0
 .exact⟨o,le_succ _,bo,rfl,rfl⟩
 .refine⟨iJ o (mE x (st++r.reverse)),NL _ _,NM bo (Gz ae vM),rfl,?_⟩;obtain⟨aH,aN,aP⟩:=aav ae vM bp;rw[cond_true,aH,Option.bind_some,aN,Option.bind_some,aP,Option.bind_some];exact aaz cZ jY l st x o aB r.reverse (mE x (st++r.reverse)) a_ bo bp
theorem aaB (cZ:acr->Int->Option acr) (l:ez) (i:Nat) (ax:i<=1000000) (o:acr) (a_:o.length+fc x.aY<=1000000) (bo:∀y∈o,iR P y):
  cL (λm=>oG cZ l st x m o (i:Int) (List.replicate x.aY.length 0))=cZ ((ky x st (k2 x.aY.reverse (fc x.aY) (List.replicate x.aY.length 0))).foldl iJ o) ((i+1:Nat):Int):=by
 have da:=ae.mF.1;have yw:∀b∈x.aY.reverse,b<=7:=λb hS=>(ae.mF.2.1 b (by simpa using hS)).2;have gb:∀b∈x.aY.reverse,0<=b:=λb hS=>by have:=(ae.mF.2.1 b (by simpa using hS)).1;omega
 obtain⟨R,U⟩:=Bk x.aY.reverse gb;rw[List.length_reverse]at R U;have hw:i64.wrap ((i:Int)+1)=((i+1:Nat):Int):=by rw[fB _ (by omega)];omega
 have key:∀n r (o:acr),jo r x.aY.reverse->n+1+j4 r x.aY.reverse=fc x.aY->o.length+(n+1)<=1000000->(∀y∈o,iR P y)->∀m,n<m->
   oG cZ l st x m o (i:Int) r.reverse=cZ ((ky x st (k2 x.aY.reverse (n+1) r)).foldl iJ o) ((i+1:Nat):Int):=by
  intro n;induction n with
  |zero=>
   intro r o aD aO a_ bo m hm;obtain⟨m,rfl⟩:∃aB,m=aB+1:=⟨m-1,by omega⟩
   have ax:=tM aD;rw[rX]at ax;rw[Bo];have yx:=Ny aD yw (by simp;omega);rw[List.reverse_reverse]at yx;cases nv:iI r x.aY.reverse with
   |none=>
    obtain⟨iW,_,_,ai,cb⟩:=NT ae J aE bp cZ (oG cZ l st x m) l (i:Int) aD o (by omega) bo [];simp only[oG];rw[cb];unfold qv;rw[yx,nv,ai];simp only[Option.bind_some,Bool.not_false,cond_true,hw];rfl
   |some w=>
    rw[nv]at ax;simp only at ax;have:=Nr ax.1;rw[rX]at this;omega
  |succ n ih=>
   intro r o aD aO a_ bo m hm;obtain⟨m,rfl⟩:∃aB,m=aB+1:=⟨m-1,by omega⟩
   have ax:=tM aD;rw[rX]at ax;rw[Bo];have yx:=Ny aD yw (by simp;omega);rw[List.reverse_reverse]at yx;cases nv:iI r x.aY.reverse with
   |none=>
    rw[nv]at ax;simp only at ax;omega
   |some w=>
    rw[nv]at ax;simp only at ax;obtain⟨iW,pa,nM,ai,cb⟩:=NT ae J aE bp cZ (oG cZ l st x m) l (i:Int) aD o (by omega) bo (k2 x.aY.reverse (n+1) w);simp only[oG];rw[cb];unfold qv;rw[yx,nv,ai];simp only[Option.bind_some,Bool.not_true,cond_false];exact ih w iW ax.1 (by omega) (by omega) nM m (by omega)
 have aK:=GA x.aY;refine fZ (fc x.aY+1) λm hm=>?_;have:=key (fc x.aY-1) (List.replicate x.aY.length 0) o R (by rw[U];omega) (by omega) bo m (by omega);rw[List.reverse_replicate,show fc x.aY-1+1=fc x.aY by omega]at this;exact this
end
noncomputable def oY (st:acd) (x:bN):acr:=ky x st (k2 x.aY.reverse (fc x.aY) (List.replicate x.aY.length 0))
section
variable {st:acd} {P:Nat} (J:st.length=P) (aE:∀y∈st,gi y) (bp:P<=21)
theorem GC {x:bN} (ae:oW x P):jo (List.replicate x.aY.length 0) x.aY.reverse/\j4 (List.replicate x.aY.length 0) x.aY.reverse=0:=by
 have:=Bk x.aY.reverse λb hS=>by have:=(ae.mF.2.1 b (by simpa using hS)).1;omega
 rwa [List.length_reverse]at this
theorem GD {x:bN} (ae:oW x P):(oY st x).length<=fc x.aY:=by
 obtain⟨R,U⟩:=GC ae;have:=aaw x st (k2 x.aY.reverse (fc x.aY) (List.replicate x.aY.length 0));rw[Nt _ _ _ R (by rw[U,rX,Nat.add_zero])]at this;exact this
include J aE in
theorem aaC:∀(l:acq),(∀x∈l,oW x P)->∀s∈l.flatMap (oY st),iR P s:=by
 intro l hl s hm;obtain⟨x,ae,hm⟩:=List.mem_flatMap.1 hm;exact NR (hl x ae) J aE (GC (hl x ae)).1 s hm
theorem NU:∀(l:acq),(∀x∈l,oW x P)->(l.flatMap (oY st)).length<=l.length*4096
 |[],_=>by simp
 |x::r,h=>by
  have R:=GD (st:=st) (h x (by simp));have U:=(h x (by simp)).mF.2.2;have aw:=NU r λy a6=>h y (by simp[a6]);rw[List.flatMap_cons,List.length_append,List.length_cons];omega
include J aE bp
theorem aaD (l:ez) (hl:l.cC.length<=60) (a_:∀x∈l.cC,oW x P):xO l st=some ((l.cC.flatMap (oY st)).foldl jL ([],[])).1:=by
 unfold xO;have key:∀i,i<=l.cC.length->∀(o:acr) (m:gk) f,o.length<=i*4096->l.cC.length-i<f->
   vj l st f o m (i:Int)=some (((l.cC.drop i).flatMap (oY st)).foldl jL (o,m)).1:=by
  refine down l.cC.length ?_ ?_
  .intro o m f pa bf;obtain⟨f,rfl⟩:∃aB,f=aB+1:=⟨f-1,by omega⟩
   simp only[vj,ED];rw[gq (Nat.le_refl _),List.drop_of_length_le (Nat.le_refl _)];rfl
  .intro i ax ih o m f pa bf;obtain⟨f,rfl⟩:∃aB,f=aB+1:=⟨f-1,by omega⟩
   have ae:=a_ _ (List.getElem_mem ax);have aQ:=ae.mF.2.2;obtain⟨y,hw,a6⟩:=Nj ae.guard;obtain⟨p,ai,cb⟩:=aay ae J aE bp hw a6 o m (by omega);have dQ:p.1.length<=o.length+4096:=by
    have R:=NK (oY st l.cC[i]) (o,m);have U:=GD (st:=st) ae;rw[ai];exact Nat.le_trans R (by show o.length+_<=_;omega)
   simp only[vj,ED];rw[hG ax,fX _ i ax,hx i _ ax (by omega),drop_cons _ i ax,List.flatMap_cons,List.foldl_append];simp only[cond_true,Option.bind_some];unfold EC;rw[show vd l.cC[i].Guard=some (y.term,y.args) by rw[<-a6];exact Gl y hw];simp only[Option.bind_some,cb];rw[ih p.1 p.2 f (by rw[Nat.add_mul];omega) (by omega),ai];rfl
 refine fZ (l.cC.length+1) λf bf=>?_;have:=key 0 (by omega) [] [] f (by simp) (by omega);rw[List.drop_zero]at this;exact this
theorem aaE (l:ez) (hl:l.cC.length<=60) (a_:∀x∈l.cC,oW x P):xE l st=some ((l.cC.flatMap (oY st)).foldl iJ []):=by
 unfold xE;have key:∀i,i<=l.cC.length->∀(o:acr) f,o.length<=i*4096->(∀y∈o,iR P y)->l.cC.length-i<f->
   oH l st f o (i:Int)=some (((l.cC.drop i).flatMap (oY st)).foldl iJ o):=by
  refine down l.cC.length ?_ ?_
  .intro o f pa nM bf;obtain⟨f,rfl⟩:∃aB,f=aB+1:=⟨f-1,by omega⟩
   simp only[oH,Ec];rw[gq (Nat.le_refl _),List.drop_of_length_le (Nat.le_refl _)];rfl
  .intro i ax ih o f pa nM bf;obtain⟨f,rfl⟩:∃aB,f=aB+1:=⟨f-1,by omega⟩
   have ae:=a_ _ (List.getElem_mem ax);have aQ:=ae.mF.2.2;have da:=ae.mF.1;have dQ:((oY st l.cC[i]).foldl iJ o).length<=o.length+4096:=by
    have R:=Gw (oY st l.cC[i]) o;have U:=GD (st:=st) ae;omega
   simp only[oH,Ec];rw[hG ax,fX _ i ax,drop_cons _ i ax,List.flatMap_cons,List.foldl_append];simp only[cond_true,Option.bind_some];rw[tG 8 (n:=l.cC[i].aY.length) (by omega) (by decide),Option.bind_some,Int.toNat_natCast,aaB ae J aE bp _ l i (by omega) o (by omega) nM];exact ih _ f (by rw[Nat.add_mul];exact Nat.le_trans dQ (by omega)) (Gx _ _ nM λs hm=>NR ae J aE (GC ae).1 s hm) (by omega)
 refine fZ (l.cC.length+1) λf bf=>?_;have:=key 0 (by omega) [] f (by simp) (by simp) (by omega);rw[List.drop_zero]at this;exact this
theorem aaF (l:ez) (hl:l.cC.length<=60) (a_:∀x∈l.cC,oW x P):∃o,xO l st=some o/\xE l st=some o/\o.length<=245760/\∀y∈o,iR P y:=by
 have bo:=aaC J aE l.cC a_;have R:=Gw (l.cC.flatMap (oY st)) [];have U:=NU (st:=st) l.cC a_;refine⟨_,?_,aaE J aE bp l hl a_,by simp only[List.length_nil]at R;omega,Gx _ _ (by simp) bo⟩;rw[aaD J aE bp l hl a_,Gy (P:=P) _ _ _ bo (by simp) λs _=>rfl]
end
theorem aaG (l:ez) (st:acd) (a_:Bi l) (J:st.length<=1048576):
  ∃r:acr×Int,xP l st=some r/\z8 l st=some r/\r.1.length<=245760/\∀y∈r.1,l6 y<=421:=by
 unfold xP z8;rw[ZG l a_,ZA l a_,Option.bind_some,Option.bind_some];cases aE:vH l
 .exact⟨([],1),rfl,rfl,by simp,by simp⟩
 .simp only[Bool.not_true,cond_false];rw[Na l st J,M_ st l.dS J,Option.bind_some,Option.bind_some];cases ad:qN st l.dS
  .exact⟨([],2),rfl,rfl,by simp,by simp⟩
  .simp only[Bool.not_true,cond_false];simp only[vH,qN,gy,Bool.and_eq_true,beq_iff_eq,decide_eq_true_eq,List.all_eq_true]at aE ad;obtain⟨ai,_,aO,aaH⟩:=aE;obtain⟨o,R,U,aw,aQ⟩:=aaF (P:=l.dS.toNat) (st:=st) (by omega) (λy a6=>ad.2 y a6) (by omega) l aO λx ae=>aar (aaH x ae) ai.1;refine⟨(o,0),by rw[R];rfl,by rw[U];rfl,aw,λy a6=>?_⟩;have g:=aQ y a6;have g1:=g.Bn.1;have g2:=g.len;unfold l6;omega
theorem aaI (x:acr) (hl:x.length<=1048576) (h:∀y∈x,l6 y<=1048576):vk x x=some true:=by
 unfold vk;rw[yk,cond_false];exact A5 (f:=xQ) x (λ_ _=>rfl) (λy a6=>Ze y (h y a6)) hl
theorem NV:∀(x:acr),(∀y∈x,l6 y<=421)->fY l6 x<=x.length*422
 |[],_=>by simp[fY,fo]
 |y::r,h=>by
  have R:=NV r λz bD=>h z (by simp[bD]);have U:=h y (by simp);unfold fY at R⊢;simp only[fo,List.length_cons,Nat.add_mul]at R⊢;omega
theorem YQ (a:lS) (s:acd) (bx:zJ a) (_hs:s.length<=9223372036854775807/\∀y∈s,(-9223372036854775808<=y/\y<=9223372036854775807)):ER a s=some true:=by
 unfold ER;by_cases bg:s.length<=1048576
 .have d0:decide ((1048576:Int)<(s.length:Int))=false:=by simp only[decide_eq_false_iff_not];omega
  rw[d0,cond_false,Y8 a 1048576 bx (by omega) (by omega)];simp only[Option.bind_some];by_cases h:rS a<=1048576
  .rw[F7 (by omega)];have:decide ((1048576:Int)-((rS a:Nat):Int)<0)=false:=by simp only[decide_eq_false_iff_not];omega
   rw[this,cond_false,Zd a h];simp only[Option.bind_some];have hl:pU (ym a)<=1048576:=by rw[Zc];exact h
   generalize ym a=e at hl;have a_:=ZH e hl;obtain⟨r,cQ,bl,cA,cc⟩:=aaG e s a_ bg;have dn:=NV r.1 cc;obtain⟨hB,fy,hn,c,bK,m1⟩:=Zl e 1 (by omega) (by omega);obtain⟨o3,d,d1,m2,_⟩:=Bb s (1+(c:Int)) (by omega) (by omega);obtain⟨au,f,f1,m3,m4⟩:=Zm r.1 1 (by omega) (by omega);simp only[F_ s (by omega),cQ,bl,Option.bind_some,aaI r.1 (by omega) (λy a6=>by have:=cc y a6;omega),Ba s (by omega),Zi e hl,m1,m2,m3,m4,Bool.not_true,bne_self_eq_false,Bool.or_self,cond_false,A9 (k:=1+(c:Int)) (by omega),A9 (k:=1+(f:Int)) (by omega),A9 (k:=1+(c:Int)+(d:Int)) (by omega)]
  .rw[A3 (by omega)];rfl
 .rw[show decide ((1048576:Int)<(s.length:Int))=true from decide_eq_true (by omega)];rfl
end Go.mY
