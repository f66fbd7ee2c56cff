/- Part of a proof that a law returns true for every input. No condition. -/
import Derived.Test.YtmaenemdkobeeaaGreatUV4x
import Derived.Test.YtmaenemdkobeeaaGreatUV2x
namespace Go.mc
open Option Go.IntKind Nat Or
open Go Go.ek
theorem aoo (n:Int) (a5:0<=n) (h:n<=1099511627776):GI n=some []:=by
 unfold GI Mi GH;have fS:i64.wrap 0=0:=fl 0 (by omega);have aW:i64.wrap (n-0)=n:=by rw[fl (n-0) (by omega)];omega
 have d:decide (n<0)=false:=by simp only[decide_eq_false_iff_not];omega
 rw[d,fS,aW,show l0 16 n=some () by unfold l0;rw[if_pos ⟨by omega,by omega,by omega⟩]];cases decide (0<n)<;>rfl
theorem aop (ls:arO) (h:ls.length<=1048576) (ad:ky ls<=1099511627776):GJ ls=some ls.flatten:=by
 have pL:bU (λn=>xn ls n [] 0)=some ls.flatten:=by
  have key:∀i,i<=ls.length->∀(v:arU) m,v.length+ky (ls.drop i)<=1099511627776->ls.length-i<m->xn ls m v (i:Int)=some (v++(ls.drop i).flatten):=by
   refine down ls.length ?_ ?_
   .intro v m _ hm;obtain⟨m,rfl⟩:∃j,m=j+1:=⟨m-1,by omega⟩
    simp only[xn,Mk];rw[dX (Nat.le_refl _),List.drop_of_length_le (Nat.le_refl _)];simp
   .intro i al ih v m aE hm;obtain⟨m,rfl⟩:∃j,m=j+1:=⟨m-1,by omega⟩
    rw[drop_cons ls i al]at aE⊢;simp only[ky,fV]at aE;simp only[xn,Mk];rw[eI al,er _ i al,et i _ al (by omega)];simp only[cond_true,bind_some];rw[h_ (by omega) (by omega)];simp only[bind_some];rw[ih _ m (by simp only[List.length_append,ky];omega) (by omega)];simp only[List.flatten_cons,List.append_assoc]
  refine fO (ls.length+1) λm hm=>?_;have:=key 0 (by omega) [] m (by simpa using ad) (by omega);simpa using this
 unfold GJ;have key:∀i,i<=ls.length->∀(v:Int) m,0<=v->v+ky (ls.drop i)<=1099511627776->ls.length-i<m->xo ls m v (i:Int)=some ls.flatten:=by
  refine down ls.length ?_ ?_
  .intro v m a5 aE hm;obtain⟨m,rfl⟩:∃j,m=j+1:=⟨m-1,by omega⟩
   simp only[xo,Ml];rw[dX (Nat.le_refl _),aoo v a5 (by omega)];simp only[cond_false,bind_some];exact pL
  .intro i al ih v m a5 aE hm;obtain⟨m,rfl⟩:∃j,m=j+1:=⟨m-1,by omega⟩
   rw[drop_cons ls i al]at aE;simp only[ky,fV]at aE;simp only[xo,Ml,Mj];rw[eI al,er _ i al,et i _ al (by omega)];simp only[cond_true,bind_some];have e:i64.wrap (v+(ls[i].length:Int))=v+(ls[i].length:Int):=fl (v+(ls[i].length:Int)) ⟨by omega,by omega⟩;have d:decide (v+(ls[i].length:Int)<0)=false:=by simp only[decide_eq_false_iff_not];omega
   rw[e,d,cond_false];exact ih _ m (by omega) (by simp only[ky];omega) (by omega)
 refine fO (ls.length+1) λm hm=>?_;exact key 0 (by omega) 0 m (by omega) (by rw[List.drop_zero];omega) (by omega)
theorem aoq (ls:List arO) (h:ls.length<=1048576) (ad:ky ls<=1099511627776):GP ls=some ls.flatten:=by
 have pL:bU (λn=>xt ls n (List.map (λx=>(false,x)) ls) [] 0)=some ls.flatten:=by
  have key:∀i,i<=ls.length->∀(v:arO) m,v.length+ky (ls.drop i)<=1099511627776->ls.length-i<m->xt ls m (te ls (i:Int)) v (i:Int)=some (v++(ls.drop i).flatten):=by
   refine down ls.length ?_ ?_
   .intro v m _ hm;obtain⟨m,rfl⟩:∃j,m=j+1:=⟨m-1,by omega⟩
    simp only[xt,Mr];rw[dX (Nat.le_refl _),List.drop_of_length_le (Nat.le_refl _)];simp
   .intro i al ih v m aE hm;obtain⟨m,rfl⟩:∃j,m=j+1:=⟨m-1,by omega⟩
    rw[drop_cons ls i al]at aE⊢;simp only[ky,fV]at aE;simp only[xt,Mr];rw[eI al,aod _ i al,et i _ al (by omega)];simp only[cond_true,bind_some,Bool.not_false,show Iq true=some ()from rfl,aoe ls i al];rw[h_ (by omega) (by omega)];simp only[bind_some];rw[ih _ m (by simp only[List.length_append,ky];omega) (by omega)];simp only[List.flatten_cons,List.append_assoc]
  refine fO (ls.length+1) λm hm=>?_;have:=key 0 (by omega) [] m (by simpa using ad) (by omega);rw[aoc];simpa using this
 unfold GP;have key:∀i,i<=ls.length->∀(v:Int) m,0<=v->v+ky (ls.drop i)<=1099511627776->ls.length-i<m->xu ls m v (i:Int)=some ls.flatten:=by
  refine down ls.length ?_ ?_
  .intro v m a5 aE hm;obtain⟨m,rfl⟩:∃j,m=j+1:=⟨m-1,by omega⟩
   simp only[xu,Ms];rw[dX (Nat.le_refl _),Wj v a5 (by omega)];simp only[cond_false,bind_some];exact pL
  .intro i al ih v m a5 aE hm;obtain⟨m,rfl⟩:∃j,m=j+1:=⟨m-1,by omega⟩
   rw[drop_cons ls i al]at aE;simp only[ky,fV]at aE;simp only[xu,Ms,Mq];rw[eI al,er _ i al,et i _ al (by omega)];simp only[cond_true,bind_some];have e:i64.wrap (v+(ls[i].length:Int))=v+(ls[i].length:Int):=fl (v+(ls[i].length:Int)) ⟨by omega,by omega⟩;have d:decide (v+(ls[i].length:Int)<0)=false:=by simp only[decide_eq_false_iff_not];omega
   rw[e,d,cond_false];exact ih _ m (by omega) (by simp only[ky];omega) (by omega)
 refine fO (ls.length+1) λm hm=>?_;exact key 0 (by omega) 0 m (by omega) (by rw[List.drop_zero];omega) (by omega)
theorem Wu (e:arG) (h:e.length<=1048576):CW e=some e:=by
 unfold CW;rw[h_ (by omega) (by omega)];cases e with
 |nil=>simp[both]
 |cons x r=>rfl
theorem aor (e:arU) (h:e.length<=1048576):GG e=some e:=by
 unfold GG;rw[h_ (by omega) (by omega)];cases e with
 |nil=>simp[both]
 |cons x r=>rfl
theorem aos (e:arO) (h:e.length<=1048576):GR e=some e:=by
 unfold GR;rw[h_ (by omega) (by omega)];cases e with
 |nil=>simp[both]
 |cons x r=>rfl
theorem Wv:∀(n:Nat) (gs:arO),gs.length<n->gs.length<=1000->(∀g∈gs,g.length<=1048576)->xp n gs=some (ov gs)
 |0,gs,h,_,_=>by omega
 |n+1,[],h,hl,bC=>rfl
 |n+1,[g],h,hl,bC=>by
  simp only[xp,GK,List.length_cons,List.length_nil];have fS:((((0+1:Nat)):Int)==0)=false:=rfl;have aW:((((0+1:Nat)):Int)==1)=true:=rfl;rw[fS,aW,HW];simp only[cond_false,cond_true,bind_some];rw[aor g (bC g (by simp))];rfl
 |n+1,g::x::r,h,hl,bC=>by
  have ih:=Wv n (x::r) (by simp only[List.length_cons]at h⊢;omega) (by simp only[List.length_cons]at hl⊢;omega) λy bz=>bC y (by simp[bz]);have ax:=Ph (x::r) 1048576 λy bz=>bC y (by simp[bz]);simp only[xp,GK];have fS:(((g::x::r).length:Int)==0)=false:=by simp only[List.length_cons,beq_eq_false_iff_ne];omega
  have aW:(((g::x::r).length:Int)==1)=false:=by simp only[List.length_cons,beq_eq_false_iff_ne];omega
  rw[fS,aW,HW,al3];simp only[cond_false,bind_some];rw[ih];simp only[bind_some];have ae:=bC g (by simp);have hm:(x::r).length*(1048576+1)<=1000*(1048576+1):=mul_le_mul_right _ (by simp only[List.length_cons]at hl⊢;omega);rw[aop [[⟨2,7⟩],g,ov (x::r)] (by simp) (by simp only[ky,fV,List.length_cons,List.length_nil]at hm ax⊢;omega),Pg g (x::r) (by simp)];simp
theorem aot (gs:arO) (hl:gs.length<=1000) (h:∀g∈gs,g.length<=1048576):GM gs=some (ov gs):=by
 unfold GM;exact fO (gs.length+1) λm hm=>Wv m gs (by omega) hl h
def o6 {α:Type} (c:α) (P:Int) (v:List α):List α:=v++List.replicate (P.toNat-v.length) c
theorem Ik {α β:Type} {L:Nat->List α->Option β} (c:α) (P:Int) (aX:P<=1000000) (E:List α->Option β)
  (h:∀m v,v.length<=3000000->L (m+1) v=cond (decide ((v.length:Int)<P)) (L m (v++[c])) (E v)) (v:List α) (aE:v.length<=2000000):bU (λm=>L m v)=E (o6 c P v):=by
 have key:∀(k:Nat) (v:List α) (m:Nat),P.toNat-v.length=k->v.length<=2000000+0->k<m->L m v=E (o6 c P v):=by
  intro k;induction k with
  |zero=>
   intro v m ao aE hm;obtain⟨m,rfl⟩:∃j,m=j+1:=⟨m-1,by omega⟩
   rw[h m v (by omega),show decide ((v.length:Int)<P)=false by simp only[decide_eq_false_iff_not];omega,cond_false];simp[o6,ao]
  |succ k ih=>
   intro v m ao aE hm;obtain⟨m,rfl⟩:∃j,m=j+1:=⟨m-1,by omega⟩
   rw[h m v (by omega),show decide ((v.length:Int)<P)=true by simp only[decide_eq_true_eq];omega,cond_true,
    ih (v++[c]) m (by simp only[List.length_append,List.length_cons,List.length_nil];omega) (by simp only[List.length_append,List.length_cons,List.length_nil];omega) (by omega)]
   congr 1;simp only[o6,List.length_append,List.length_cons,List.length_nil,List.append_assoc];rw[show P.toNat-v.length=(P.toNat-(v.length+(0+1)))+1 by omega,List.replicate_succ];rfl
 exact fO (P.toNat-v.length+1) λm hm=>key _ v m rfl (by omega) (by omega)
def vV (p:Nat->Bool) (c:Int):Nat->Nat->Int
 |_,0=>c
 |i,k+1=>if p i=true then(i:Int)else vV p c (i+1) k
theorem Ww (p:Nat->Bool) (c uU:Int):∀(k i:Nat),(∃j,i<=j/\j<i+k/\p j=true)->vV p c i k=vV p uU i k
 |0,i,⟨j,ae,ag,_⟩=>by omega
 |k+1,i,⟨j,ae,ag,aK⟩=>by
  simp only[vV];split
  .rfl
  .rename_i aw;refine Ww p c uU k (i+1) ⟨j,?_,by omega,aK⟩;rcases Nat.eq_or_lt_of_le ae with h|h
   .subst h;exact(aw aK).elim
   .exact h
theorem Wx {l:Nat->Int->arJ} {n:Nat} (p:Nat->Bool) (c:Int) (a5:∀m,l (m+1) (n:Int)=some c)
  (ad:∀i,i<n->∀m,l (m+1) (i:Int)=cond (p i) (some (i:Int)) (l m ((i+1:Nat):Int))):bU (λm=>l m 0)=some (vV p c 0 n):=by
 have key:∀i,i<=n->∀m,n-i<m->l m (i:Int)=some (vV p c i (n-i)):=by
  refine down n ?_ ?_
  .intro m hm;obtain⟨m,rfl⟩:∃j,m=j+1:=⟨m-1,by omega⟩
   rw[a5,Nat.sub_self];rfl
  .intro i al ih m hm;obtain⟨m,rfl⟩:∃j,m=j+1:=⟨m-1,by omega⟩
   rw[ad i al m,ih m (by omega),show n-i=(n-(i+1))+1 by omega];simp only[vV];cases p i<;>rfl
 refine fO (n+1) λm hm=>?_;have:=key 0 (by omega) m (by omega);simpa using this
def At (ps:List arG) (d a:Int) (i:Nat):Bool:=(ps.getD i []).getD 0 0==d&&(ps.getD i []).getD 1 0==a
def uB (ps:List arG) (d a:Int):Int:=vV (At ps d a) 0 0 ps.length
theorem Wy {x:arG} (h:x.length=2):a_ x 0=some (x.getD 0 0)/\a_ x 1=some (x.getD 1 0):=
 ⟨lT x 0 0 (by omega),lT x 1 0 (by omega)⟩
theorem Pj (ps:List arG) (ag:∀x∈ps,x.length=2) (hl:ps.length<=1048576) (d a:Int):y5 ps d a=some (uB ps d a):=by
 unfold y5;refine Wx (At ps d a) 0 (λm=>?_) (λi al m=>?_)
 .simp only[Cs,Lt];rw[dX (Nat.le_refl _)];rfl
 .simp only[Cs,Lt];have e:ps.getD i []=ps[i]:=by rw[List.getD_eq_getElem?_getD,List.getElem?_eq_getElem al];rfl
  obtain⟨fM,a2⟩:=Wy (ag _ (List.getElem_mem al));rw[eI al,er _ i al,et i _ al (by omega)];simp only[cond_true,bind_some,fM,a2,At,e];cases ps[i].getD 0 0==d<;>cases ps[i].getD 1 0==a<;>rfl
theorem Pk (x:hS) (ag:∀y∈x.places,y.length=2) (hl:x.places.length<=1048576) (d a:Int) (x3:[d,a]∈x.places):zx x d a=some (uB x.places d a):=by
 unfold zx Md;have:=Wx (l:=zw x.places d a) (At x.places d a) (-1) (n:=x.places.length) (λm=>?_) (λi al m=>?_)
 .rw[this];simp only[bind_some,uB];congr 1;refine Ww _ _ _ _ _ ?_;obtain⟨j,bP,he⟩:=List.mem_iff_getElem.1 x3;refine⟨j,by omega,by omega,?_⟩;simp only[At,List.getD_eq_getElem?_getD,List.getElem?_eq_getElem bP,he,getD_some];simp
 .simp only[zw,Mc];rw[dX (Nat.le_refl _)];rfl
 .simp only[zw,Mc,Mb];have e:x.places.getD i []=x.places[i]:=by rw[List.getD_eq_getElem?_getD,List.getElem?_eq_getElem al];rfl
  obtain⟨fM,a2⟩:=Wy (ag _ (List.getElem_mem al));rw[eI al,er _ i al,et i _ al (by omega)];simp only[cond_true,bind_some,fM,a2,At,e];cases x.places[i].getD 0 0==d<;>cases x.places[i].getD 1 0==a<;>rfl
theorem ext_mem (i:Nat) (b:arV):∀(k j q:Nat),j<=q->q<j+k->D4 b q=true->[(i:Int),(q:Int)]∈mO i b j k
 |0,j,q,ae,ag,_=>by omega
 |k+1,j,q,ae,ag,aK=>by
  simp only[mO];rcases Nat.eq_or_lt_of_le ae with h|h
  .subst h;rw[if_pos aK];simp
  .have:=ext_mem i b k (j+1) q h (by omega) aK;split
   .exact List.mem_cons_of_mem _ this
   .exact this
theorem ext_get (i:Nat) (b:arV):∀(k j:Nat),∀x∈mO i b j k,∃q:Nat,x=[(i:Int),(q:Int)]/\j<=q/\q<j+k
 |0,j,x,h=>by cases h
 |k+1,j,x,h=>by
  simp only[mO]at h;split at h
  .rcases List.mem_cons.1 h with rfl|h
   .exact⟨j,rfl,by omega,by omega⟩
   .obtain⟨q,ae,ag,aK⟩:=ext_get i b k _ x h;exact⟨q,ae,by omega,by omega⟩
  .obtain⟨q,ae,ag,aK⟩:=ext_get i b k _ x h;exact⟨q,ae,by omega,by omega⟩
theorem Pl:∀(l:arW) (i k:Nat) (ao:k<l.length) (x:arG),x∈r5 (i+k) l[k].Body->x∈b8 l i
 |d::r,i,0,ao,x,h=>by simp only[b8,List.mem_append];exact .inl (by simpa using h)
 |d::r,i,k+1,ao,x,h=>by
  simp only[b8,List.mem_append];refine .inr (Pl r (i+1) k (by simpa using ao) x ?_);simpa [show i+1+k=i+(k+1) by omega]using h
theorem Wz:∀(l:arW) (i:Nat),(∀d∈l,1<=d.Body.length)->∀x∈b8 l i,∃(k q:Nat) (ao:k<l.length),x=[((i+k:Nat):Int),(q:Int)]/\q<l[k].Body.length
 |d::r,i,ab,x,h=>by
  simp only[b8,List.mem_append,r5,List.mem_cons]at h;have ak:=ab d (by simp);rcases h with(rfl|h)|h
  .exact⟨0,0,by simp,by simp,by simp;omega⟩
  .obtain⟨q,ae,ag,aK⟩:=ext_get i d.Body _ _ x h;exact⟨0,q,by simp,by simpa using ae,by simp;omega⟩
  .obtain⟨k,q,ao,ae,ag⟩:=Wz r (i+1) (λy bz=>ab y (by simp[bz])) x h;exact⟨k+1,q,by simpa using ao,by rw[ae];congr 2;omega,by simpa using ag⟩
theorem Pm {l:arV} {k i dr dh e:Nat} (ad:dP l 1=some k) (al:i<dr) (cl:dr<=dh) (he:dP (l.drop dr) 1=some e) (ag:dh<dr+e):jw (l.drop i) (dh-i)=jw (l.drop i) (dr-i):=by
 have hle:=kN he;rw[List.length_drop]at hle;have Ku:=kN ad;by_cases aou:i<k
 .obtain⟨f,bo,aro,arp⟩:=xW ad aou;simp only[jw,bo];by_cases h:dr-i<f
  .obtain⟨m,ae,aK⟩:=DW bo (dr-i) h;rw[List.drop_drop,show i+(dr-i)=dr by omega]at aK;obtain⟨m,rfl⟩:∃j,m=1+j:=⟨m-1,by omega⟩
   obtain⟨b3,cv,a2,bq,ck⟩:=rW aK;rw[he]at a2;have a2:=some.inj a2;have a:decide (dh-i<f)=true:=by simp only[decide_eq_true_eq];omega
   have b:decide (dr-i<f)=true:=by simp only[decide_eq_true_eq];omega
   rw[a,b]
  .have a:decide (dh-i<f)=false:=by simp only[decide_eq_false_iff_not];omega
   have b:decide (dr-i<f)=false:=by simp only[decide_eq_false_iff_not];omega
   rw[a,b]
 ·
  have ak:∀q,jw (l.drop i) q=jw (l.drop i) q:=λ_=>rfl;unfold jw;cases bo:dP (l.drop i) 1 with
  |none=>rfl
  |some f=>
   simp only;by_cases h:dr-i<f
   .obtain⟨m,ae,aK⟩:=DW bo (dr-i) h;rw[List.drop_drop,show i+(dr-i)=dr by omega]at aK;obtain⟨m,rfl⟩:∃j,m=1+j:=⟨m-1,by omega⟩
    obtain⟨b3,cv,a2,bq,ck⟩:=rW aK;rw[he]at a2;have a2:=some.inj a2;have a:decide (dh-i<f)=true:=by simp only[decide_eq_true_eq];omega
    have b:decide (dr-i<f)=true:=by simp only[decide_eq_true_eq];omega
    rw[a,b]
   .have a:decide (dh-i<f)=false:=by simp only[decide_eq_false_iff_not];omega
    have b:decide (dr-i<f)=false:=by simp only[decide_eq_false_iff_not];omega
    rw[a,b]
theorem Pn:∀(l:arV) (dr dh:Nat),dr<=dh->(∀i,i<dr->jw (l.drop i) (dh-i)=jw (l.drop i) (dr-i))->iy l dh=iy l dr+iy (l.drop dr) (dh-dr)
 |l,0,dh,_,_=>by rw[DX];simp
 |[],dr+1,dh,_,_=>by simp[iy]
 |p::r,dr+1,dh,h,b_=>by
  obtain⟨dh,rfl⟩:∃j,dh=j+1:=⟨dh-1,by omega⟩
  have ih:=Pn r dr dh (by omega) λi al=>by
   have:=b_ (i+1) (by omega);simpa [show dh+1-(i+1)=dh-i by omega,show dr+1-(i+1)=dr-i by omega]using this
  have a5:=b_ 0 (by omega);simp only[List.drop_zero,Nat.sub_zero]at a5;simp only[iy,ih,a5,List.drop_succ_cons,show dh+1-(dr+1)=dh-dr by omega];omega
section
variable {e:arW} (h:lU e) (aE:jX e=true)
include h aE
theorem Il {k j:Nat} (ao:k<e.length) (bP:j<e[k].Body.length):(eY e[k] j).scope=e[k].bW+(iy e[k].Body j:Nat):=by
 obtain⟨_,_,ak⟩:=lY h aE;obtain⟨aw,ad,_⟩:=ak k ao;obtain⟨s1,s2,kB⟩:=oq ad;obtain⟨dr,_⟩:=s9 e[k] ad aw j bP;rw[VR e[k] (h.2 _ (List.getElem_mem ao)).2.1 s1 (by omega) j bP]at dr;exact(some.inj dr).symm
theorem aov {k f a:Nat} {n:Nat} (ao:k<e.length) (bo:dP (e[k].Body.drop f) 1=some n) (ae:f<=a) (ag:a<f+n) (b6:∃b6:a<e[k].Body.length,e[k].Body[a].Kind=1):
  a+1<f+n/\(eY e[k] (a+1)).scope=(eY e[k] f).scope+(iy (e[k].Body.drop f) (a-f):Nat):=by
 obtain⟨b6,j8⟩:=b6;obtain⟨_,_,ak⟩:=lY h aE;obtain⟨aw,ad,_⟩:=ak k ao;obtain⟨s1,s2,kB⟩:=oq ad;have hle:=kN bo;rw[List.length_drop]at hle;obtain⟨m,a2,bq⟩:=DW bo (a-f) (by omega);rw[List.drop_drop,show f+(a-f)=a by omega]at bq;have hs:dZ e[k].Body[a]=1:=by unfold dZ;rw[if_pos (.inl j8)]
 obtain⟨m,rfl⟩:∃j,m=1+j:=⟨m-1,by omega⟩
 obtain⟨b3,cv,ck,eE,fP⟩:=rW bq;have WA:=ck;rw[drop_cons _ a b6]at WA;obtain⟨aow,g0,rfl⟩:=nN.1 WA;rw[hs]at g0;have WB:=kN g0;have x3:a+1<f+n:=by omega
 refine⟨x3,?_⟩;rw[Il h aE ao (by omega),Il h aE ao (by omega),Pn e[k].Body f (a+1) (by omega) (λi al=>Pm s1 al (by omega) bo (by omega))];have aox:iy (e[k].Body.drop f) (a+1-f)=iy (e[k].Body.drop f) (a-f):=by
  rw[Pn (e[k].Body.drop f) (a-f) (a+1-f) (by omega) (λi al=>?_)]
  .rw[List.drop_drop,show f+(a-f)=a by omega,drop_cons _ a b6,show a+1-f-(a-f)=0+1 by omega];simp only[iy,DX];rw[if_neg (λh=>by omega)];omega
  .refine Pm bo al (by omega) (e:=aow+1) ?_ (by omega);rw[List.drop_drop,show f+(a-f)=a by omega];exact ck
 rw[aox];omega
end
theorem aoy {p:bk} (h:Cf p=some true):p.Kind=0\/p.Kind=1\/p.Kind=2\/p.Kind=3\/p.Kind=4\/p.Kind=5:=by
 unfold Cf Cd at h;by_cases a5:p.Kind=0
 .exact .inl a5
 by_cases ae:p.Kind=1
 .exact .inr (.inl ae)
 by_cases ag:p.Kind=2
 .exact .inr (.inr (.inl ag))
 by_cases aK:p.Kind=3
 .exact .inr (.inr (.inr (.inl aK)))
 by_cases a3:p.Kind=4
 .exact .inr (.inr (.inr (.inr (.inl a3))))
 have e:∀c:Int,p.Kind≠c->(p.Kind==c)=false:=λc ax=>by simpa using ax
 rw[e 0 a5,e 1 ae,e 2 ag,e 3 aK,e 4 a3]at h;simp only[cond_false]at h;rcases dH h with⟨k,_⟩|⟨_,h⟩
 .exact .inr (.inr (.inr (.inr (.inr (eq_of_beq k)))))
 .cases h
theorem Au {e:arW} (h:lU e) (aE:jX e=true) {k:Nat} (ao:k<e.length):Ig e[k].Body:=by
 intro p aw;obtain⟨j,bP,rfl⟩:=List.mem_iff_getElem.1 aw;obtain⟨ae,a3,ak⟩:=lY h aE;obtain⟨aw,ad,aZ,r,dT,bb⟩:=ak k ao;obtain⟨s1,s2,kB⟩:=oq ad;have ot:=h.2 _ (List.getElem_mem ao);have a4:∀j,j<e[k].Body.length->∃v,pw e e[k] (j:Int)=some v/\0<=v:=λj bP=>by
  obtain⟨dr,dh,hM,g7,k9⟩:=s9 e[k] ad aw j bP;obtain⟨v,v1,_,sB⟩:=OY e a3 e[k] j bP kB (ot.2.2 _ (List.getElem_mem bP)) (eY e[k] j) dr ⟨dh,hM⟩ g7;exact⟨v,v1,sB⟩
 have ab:=Wk (by omega) a4 dT bb j bP;unfold pw at ab;rw[er _ j bP]at ab;simp only[bind_some]at ab;obtain⟨ai,a8,ab⟩:=ar ab;rcases dH ab with⟨_,ab⟩|⟨g,_⟩
 .exact tf ab (by decide)
 .have g:ai=true:=by simpa using g
  subst g;exact aoy a8
def qT (n:Nat):arO:=(List.range n).map λ(i:Nat)=>[aF.mk 1 (i:Int)]
theorem x7 (n:Nat):(qT n).length=n:=by simp[qT]
theorem WC (n:Nat):∀x∈qT n,x.length=1:=by
 intro x ay;simp only[qT,List.mem_map]at ay;obtain⟨i,_,rfl⟩:=ay;rfl
def gC (d:bg) (a:Nat):bk:=d.Body.getD a ⟨0,0,[],[]⟩
theorem x8 {d:bg} {a:Nat} (h:a<d.Body.length):a_ d.Body (a:Int)=some (gC d a):=lT _ a _ h
theorem qU {d:bg} {a:Nat} (h:a<d.Body.length):gC d a=d.Body[a]:=by unfold gC;rw[List.getD_eq_getElem?_getD,List.getElem?_eq_getElem h];rfl
def tg (n:Nat):arU:=[⟨2,3⟩,⟨1,0⟩,⟨0,n⟩]
def x9 (ps:List arG) (P:Int) (d:bg) (k f a:Nat):arO:=
 o6 [⟨0,0⟩] P (cond ((gC d (a+1)).Kind==5) ([⟨0,uB ps (gC d (a+1)).Number 0⟩]::(gC d (a+1)).a9.map (ke (eY d f).scope P))
  ([⟨0,uB ps k ((a+1:Nat):Int)⟩]::(qT (eY d (a+1)).scope.toNat).map (ke (eY d f).scope P)))
def uC (ps:List arG) (P:Int) (d:bg) (n k f a:Nat) (w:fE):bH:=
 ⟨w.hB,ov (tg n::w.guards.map (ke (eY d f).scope P)),(gC d a).Name,(gC d a).a9.map (ke (eY d f).scope P),x9 ps P d k f a⟩
theorem WD {P:Int} (aX:P<=1000) (aP:Int) (aV:bk) (o7:arG) (o8:arU) (o9 v:arO) (hO:v.length<=2000000):
  xb P aP aV o7 o8 o9 v=some ⟨o7,o8,aV.Name,o9,o6 [⟨0,0⟩] P v⟩:=by
 unfold xb;refine Ik (L:=λm v=>Cz P aV m o7 o8 o9 v) [⟨0,0⟩] P (by omega) (λv=>some ⟨o7,o8,aV.Name,o9,v⟩) (λm v aE=>?_) v hO;simp only[Cz,TE,tM];rw[h_ (by omega) (by omega)];rfl
theorem aoz {P:Int} (aX:P<=1000) (aP:Int) (aV i3:bk) (ay:qR i3) (o7:arG) (o8:arU) (o9 v:arO) (aE:v.length<=1):
  bU (λn=>xd P aP aV i3 n o7 o8 o9 v 0)=some ⟨o7,o8,aV.Name,o9,o6 [⟨0,0⟩] P (v++i3.a9.map (ke aP P))⟩:=by
 have:=Ar (L:=λm v i=>xd P aP aV i3 m o7 o8 o9 v i) i3.a9 (ke aP P) 1 (λv=>xb P aP aV o7 o8 o9 v) (λm v aE=>?_) (λi al m v aE=>?_) v aE
 .rw[this,WD aX _ _ _ _ _ _ (by have:=ay.2.1;simp only[List.length_append,List.length_map];omega)]
 .simp only[xd,LA];rw[dX (Nat.le_refl _)];rfl
 .simp only[xd,LA];have ae:=ay.2.1;rw[eI al,er _ i al,et i _ al (by omega),h_ (by omega) (by omega)];simp only[cond_true,bind_some];rw[Ii _ _ _ (ay.2.2 _ (List.getElem_mem al))];rfl
theorem WE {n i:Nat} (h:i<(qT n).length):(qT n)[i]=[aF.mk 1 (i:Int)]:=by simp[qT]
theorem aoA {P:Int} (aX:P<=1000) (aP:Int) (aV:bk) (c:Nat) (ax:c<=1000) (o7:arG) (o8:arU) (o9 v:arO) (aE:v.length<=1):
  bU (λn=>xe P aP aV n o7 o8 o9 v (c:Int) 0)=some ⟨o7,o8,aV.Name,o9,o6 [⟨0,0⟩] P (v++(qT c).map (ke aP P))⟩:=by
 have:=Ar (L:=λm v i=>xe P aP aV m o7 o8 o9 v (c:Int) i) (qT c) (ke aP P) 1 (λv=>xb P aP aV o7 o8 o9 v) (λm v aE=>?_) (λi al m v aE=>?_) v aE
 .rw[this,WD aX _ _ _ _ _ _ (by simp only[List.length_append,List.length_map,x7];omega)]
 .rw[x7]at aE⊢;simp only[xe,LB];rw[dX (Nat.le_refl _)];rfl
 .have wy:i<c:=by rwa [x7]at al
  simp only[xe,LB,Cw];rw[eI wy,et i _ wy (by omega),h_ (by omega) (by omega),WE al];simp only[cond_true,bind_some];rw[Ii _ _ _ (by simp)];rfl
section
variable {s:cG} (h:lU s.aC) (aE:jX s.aC=true) {P:Int} (aX:0<=P/\P<=1000) {n k f N a:Nat} (ew:(b8 s.aC 0).length<=64)
 (ao:k<s.aC.length) (bo:dP (s.aC[k].Body.drop f) 1=some N) {w:fE} (o_:f<=a) (nh:a<f+N) (j8:(gC s.aC[k] a).Kind=1) (hw:hf (s.aC[k].Body.drop f) (a-f) (some ⟨[],[]⟩)=some w)
include h aE ao bo nh
theorem Ec:f+N<=s.aC[k].Body.length/\s.aC[k].Body.length<=20/\a<s.aC[k].Body.length:=by
 have:=kN bo;have ag:=(D5 h aE ao).2;rw[List.length_drop]at this;omega
include o_ j8 hw
theorem Im:As w/\nP w<=20/\a+1<f+N/\0<=(eY s.aC[k] f).scope/\(eY s.aC[k] f).scope<=29/\(eY s.aC[k] (a+1)).scope=(eY s.aC[k] f).scope+(w.hB.length:Nat):=by
 obtain⟨fA,l2,mz⟩:=Ec h aE ao bo nh;obtain⟨ef,hb,ll⟩:=D_ _ _ _ _ (λp aw=>(h.2 _ (List.getElem_mem ao)).2.2 p (List.mem_of_mem_drop aw)) (by intro g bC;cases bC) hw;obtain⟨j5,ig⟩:=aov h aE ao bo o_ nh ⟨mz,by rw[<-qU mz];exact j8⟩;obtain⟨_,_,ak⟩:=lY h aE;obtain⟨aw,ad,_⟩:=ak k ao;obtain⟨_,dh,hM,_⟩:=s9 s.aC[k] ad aw f (by omega);refine⟨ef,?_,j5,dh,hM,?_⟩
 .have:nP ⟨[],[]⟩=0:=rfl;omega
 .rw[ig,ll];simp
include aX ew
theorem aoB (n:Nat) (gA:arU):
  bU (λm=>xf (b8 s.aC 0) (a:Int) P (k:Int) s.aC[k] (eY s.aC[k] f).scope (gC s.aC[k] a) m w.hB gA [] 0)=
   some ⟨w.hB,gA,(gC s.aC[k] a).Name,(gC s.aC[k] a).a9.map (ke (eY s.aC[k] f).scope P),x9 (b8 s.aC 0) P s.aC[k] k f a⟩:=by
 obtain⟨fA,l2,mz⟩:=Ec h aE ao bo nh;obtain⟨f1,f2,f3,f4,f5,f6⟩:=Im h aE ao bo o_ nh j8 hw;have ot:∀j,j<s.aC[k].Body.length->qR (gC s.aC[k] j):=λj bP=>by
  rw[qU bP];exact(h.2 _ (List.getElem_mem ao)).2.2 _ (List.getElem_mem bP)
 have h4:=ot a mz;have p2:=ot (a+1) (by omega);have:=Ar (L:=λm v i=>xf (b8 s.aC 0) (a:Int) P (k:Int) s.aC[k] (eY s.aC[k] f).scope (gC s.aC[k] a) m w.hB gA v i) (gC s.aC[k] a).a9 (ke (eY s.aC[k] f).scope P) 0
  (λv=>some ⟨w.hB,gA,(gC s.aC[k] a).Name,v,x9 (b8 s.aC 0) P s.aC[k] k f a⟩) (λm v aE=>?_) (λi al m v aE=>?_) [] (by simp)
 .rw[this];rfl
 .simp only[xf,LC];have sH:i64.wrap ((a:Int)+1)=((a+1:Nat):Int):=et a 100 (by omega) (by omega);rw[x8 mz,sH];simp only[bind_some];rw[dX (Nat.le_refl _),x8 (show a+1<s.aC[k].Body.length by omega)];simp only[cond_false,bind_some];unfold x9;cases ax:(gC s.aC[k] (a+1)).Kind==5
  .simp only[cond_false];rw[Pj _ (Ap _ _) (by omega)];simp only[bind_some,tM];have aW:i64.wrap ((eY s.aC[k] f).scope+(w.hB.length:Int))=(((eY s.aC[k] (a+1)).scope.toNat:Nat):Int):=by
    have:w.hB.length<=20:=Nat.le_trans (le_add_right _ _) f2;rw[fl _ (by omega)];omega
   rw[aW,aoA (by omega) _ _ _ (by have:w.hB.length<=20:=Nat.le_trans (le_add_right _ _) f2;omega) _ _ _ _ (by simp)];rfl
  .simp only[cond_true];rw[Pj _ (Ap _ _) (by omega)];simp only[bind_some,tM];rw[aoz (by omega) _ _ _ p2 _ _ _ _ (by simp)];rfl
 .simp only[xf,LC];have ae:=h4.2.1;rw[x8 mz];simp only[bind_some];rw[eI al,er _ i al,et i _ al (by omega),h_ (by omega) (by omega)];simp only[cond_true,bind_some];rw[Ii _ _ _ (h4.2.2 _ (List.getElem_mem al))];rfl
end
theorem aoC {p:bk} {r:arV} {q:Nat} {w aQ:fE} (b_:jw (p::r) (q+1)=true) (h:hf (p::r) (q+1) (some w)=some aQ):∃ef,jx p (some w)=some ef/\hf r q (some ef)=some aQ:=by
 simp only[hf]at h;rw[if_pos b_]at h;cases aZ:jx p (some w)with
 |none=>rw[aZ,D8]at h;cases h
 |some ef=>rw[aZ]at h;exact⟨ef,rfl,h⟩
theorem aoD {p:bk} {r:arV} {q:Nat} {w aQ:fE} (b_:jw (p::r) (q+1)=false) (h:hf (p::r) (q+1) (some w)=some aQ):hf r q (some w)=some aQ:=by
 simp only[hf]at h;rw[if_neg (by rw[b_];decide)]at h;exact h
section
variable {s:cG} (h:lU s.aC) (aE:jX s.aC=true) {P:Int} (aX:0<=P/\P<=1000) {n k f N a:Nat} (ew:(b8 s.aC 0).length<=64)
 (ao:k<s.aC.length) (bo:dP (s.aC[k].Body.drop f) 1=some N) {w:fE} (o_:f<=a) (nh:a<f+N) (j8:(gC s.aC[k] a).Kind=1) (hw:hf (s.aC[k].Body.drop f) (a-f) (some ⟨[],[]⟩)=some w)
include h aE aX ew ao bo o_ nh j8 hw
theorem aoE:bU (λm=>tS (b8 s.aC 0) (a:Int) P (k:Int) s.aC[k] (eY s.aC[k] f).scope (gC s.aC[k] a) m [] [tg n] (f:Int))=some (uC (b8 s.aC 0) P s.aC[k] n k f a w):=by
 obtain⟨fA,l2,mz⟩:=Ec h aE ao bo nh;obtain⟨f1,f2,f3,f4,f5,f6⟩:=Im h aE ao bo o_ nh j8 hw;have aoF:=Au h aE ao;have ab:=(h.2 _ (List.getElem_mem ao)).2.1;obtain⟨_,_,ak⟩:=lY h aE;obtain⟨_,kR,_⟩:=ak k ao;obtain⟨s1,_,_⟩:=oq kR;have key:∀i,i<=a->∀(ef:fE) m,f<=i->nP ef<=i->As ef->hf (s.aC[k].Body.drop i) (a-i) (some ef)=some w->a-i<m->
   tS (b8 s.aC 0) (a:Int) P (k:Int) s.aC[k] (eY s.aC[k] f).scope (gC s.aC[k] a) m ef.hB (tg n::ef.guards.map (ke (eY s.aC[k] f).scope P)) (i:Int)=some (uC (b8 s.aC 0) P s.aC[k] n k f a w):=by
  refine down a ?_ ?_
  .intro ef m _ ca b_ wY hm;obtain⟨m,rfl⟩:∃j,m=j+1:=⟨m-1,by omega⟩
   rw[Nat.sub_self,r8]at wY;cases wY;simp only[tS,LF];have WG:w.guards.length<=20:=Nat.le_trans (le_add_left _ _) f2;rw[dX (Nat.le_refl _),cond_false,aon _ (by simp only[List.length_cons,List.length_map];omega) (λg bC=>by
    rcases List.mem_cons.1 bC with rfl|bC
    .simp[tg]
    .obtain⟨x,ay,rfl⟩:=List.mem_map.1 bC;rw[Ih];exact b_ x ay)]
   simp only[bind_some];rw[aoB h aE aX ew ao bo o_ nh j8 hw n];rfl
  .intro i al ih ef m Bc ca b_ wY hm;obtain⟨m,rfl⟩:∃j,m=j+1:=⟨m-1,by omega⟩
   have lr:i<s.aC[k].Body.length:=by omega
   obtain⟨e,oJ,Br,tA⟩:=xW s1 lr;simp only[tS,LF,Cy,F8];rw[eI al,cond_true,Ea _ ab aoF i e oJ,er _ i lr,et i _ lr (by omega)];simp only[bind_some];rw[drop_cons _ i lr,show a-i=(a-(i+1))+1 by omega]at wY;have vW:jw (s.aC[k].Body[i]::s.aC[k].Body.drop (i+1)) (a-(i+1)+1)=decide (a<i+e):=by
    rw[<-drop_cons _ i lr];simp only[jw,oJ];by_cases cl:a<i+e
    .rw[decide_eq_true cl];simp only[decide_eq_true_eq];omega
    .rw[decide_eq_false cl];simp only[decide_eq_false_iff_not];omega
   by_cases cl:a<i+e
   .have d1:decide (((i+e:Nat):Int)<=(a:Int))=false:=by simp only[decide_eq_false_iff_not];omega
    rw[d1,cond_false];rw[decide_eq_true cl]at vW;obtain⟨hb,aZ,aoG⟩:=aoC vW wY;have ot:=(h.2 _ (List.getElem_mem ao)).2.2 _ (List.getElem_mem lr);have arq:=Wr aZ;have wN:=Ws ot b_ aZ;have pd:=ih hb m (by omega) (by omega) wN aoG (by omega);have wV:ef.hB.length<=20:=by have:ef.hB.length<=nP ef:=le_add_right _ _;omega
    have WG:ef.guards.length<=20:=by have:ef.guards.length<=nP ef:=le_add_left _ _;omega
    simp only[jx]at aZ;split at aZ
    .cases aZ
    .rename_i lk;split at aZ
     .rename_i qZ;cases aZ;have bT:(s.aC[k].Body[i].Kind==4)=false:=by simp[qZ]
      have aY:(s.aC[k].Body[i].Kind==3)=true:=by simp[qZ]
      rw[bT,aY];simp only[cond_false,cond_true];have b6:=(D7 h aE ao lr).Wl qZ;have Po:a_ s.aC[k].Body[i].a9 0=some (s.aC[k].Body[i].a9.getD 0 []):=lT _ 0 _ (by omega);rw[Po];simp only[bind_some];have aoH:(s.aC[k].Body[i].a9.getD 0 []).length<=1048576:=wN _ (by simp);rw[Ii _ _ _ aoH];simp only[bind_some];rw[h_ (by simp only[List.length_cons,List.length_map];omega) (by simp only[List.length_cons,List.length_map];omega)];simp only[bind_some];simpa using pd
     .rename_i qZ;have aY:(s.aC[k].Body[i].Kind==3)=false:=by simpa using qZ
      split at aZ
      .rename_i vK;cases aZ;have bT:(s.aC[k].Body[i].Kind==4)=true:=by simp[vK]
       rw[bT,aY];simp only[cond_false,cond_true];rw[h_ (by omega) (by omega)];simp only[bind_some];exact pd
      .rename_i vK;cases aZ;have bT:(s.aC[k].Body[i].Kind==4)=false:=by simpa using vK
       rw[bT,aY];simp only[cond_false];exact pd
   .have d1:decide (((i+e:Nat):Int)<=(a:Int))=true:=by simp only[decide_eq_true_eq];omega
    rw[d1,cond_true];rw[decide_eq_false cl]at vW;exact ih ef m (by omega) (by omega) b_ (aoD vW wY) (by omega)
 refine fO (a+1) λm hm=>?_;have:=key f o_ ⟨[],[]⟩ m (by omega) (by simp[nP]) (by intro g bC;cases bC) hw (by omega);simpa using this
theorem aoI (aZ:n<(b8 s.aC 0).length) (vX:(b8 s.aC 0)[n]=[(k:Int),(f:Int)]):F_ s (b8 s.aC 0) (n:Int) (a:Int) P=some (uC (b8 s.aC 0) P s.aC[k] n k f a w):=by
 obtain⟨fA,l2,mz⟩:=Ec h aE ao bo nh;unfold F_;have ab:=(h.2 _ (List.getElem_mem ao)).2.1;obtain⟨_,_,ak⟩:=lY h aE;obtain⟨aw,kR,_⟩:=ak k ao;obtain⟨s1,_,_⟩:=oq kR;have fM:a_ [(k:Int),(f:Int)] 0=some (k:Int):=rfl;have a2:a_ [(k:Int),(f:Int)] 1=some (f:Int):=rfl;rw[er _ n aZ,vX];simp only[bind_some,fM,a2];rw[er _ k ao];simp only[bind_some];rw[Wt _ ab (Au h aE ao) s1 (by omega) f (by omega),x8 mz,<-Il h aE ao (by omega)];simp only[bind_some,Cw,tM];have dT:room 16 (1+[aF.mk 1 0].length)=some ():=h_ (by decide) (by decide);have bb:room 16 (([aF.mk 2 3]++[aF.mk 1 0]).length+[aF.mk 0 (n:Int)].length)=some ():=h_ (by simp) (by simp);rw[dT,bb];simp only[bind_some];exact aoE h aE aX ew ao bo o_ nh j8 hw
end
theorem aoJ {d:bg} (ab:d.Body.length<=1048576) (ao:Ig d.Body) (ad:dP d.Body 1=some d.Body.length) {f N a:Nat} (bo:dP (d.Body.drop f) 1=some N) (o_:f<=a) (nh:a<f+N):
  F4 d.Body (f:Int) (a:Int)=some ((gC d a).Kind==1&&(hf (d.Body.drop f) (a-f) (some ⟨[],[]⟩)).isSome):=by
 have hle:=kN bo;rw[List.length_drop]at hle;unfold F4;rw[x8 (show a<d.Body.length by omega)];simp only[bind_some];cases j8:(gC d a).Kind==1
 .have:((gC d a).Kind !=1)=true:=by simp only[bne,j8,Bool.not_false]
  rw[this,cond_true,Bool.false_and]
 .have:((gC d a).Kind !=1)=false:=by simp only[bne,j8,Bool.not_true]
  rw[this,cond_false,Ea _ ab ao f N bo,Bool.true_and];have d1:decide (((f+N:Nat):Int)<=(a:Int))=false:=by simp only[decide_eq_false_iff_not];omega
  simp only[bind_some,d1,cond_false];have key:∀i,i<=a->∀(ef:fE) m,f<=i->a-i<m->y7 d.Body (a:Int) m (i:Int)=some (hf (d.Body.drop i) (a-i) (some ef)).isSome:=by
   refine down a ?_ ?_
   .intro ef m _ hm;obtain⟨m,rfl⟩:∃j,m=j+1:=⟨m-1,by omega⟩
    simp only[y7,Lx];rw[dX (Nat.le_refl _),Nat.sub_self,r8];rfl
   .intro i al ih ef m Bc hm;obtain⟨m,rfl⟩:∃j,m=j+1:=⟨m-1,by omega⟩
    have lr:i<d.Body.length:=by omega
    obtain⟨e,oJ,Br,tA⟩:=xW ad lr;simp only[y7,Lx];rw[eI al,cond_true,Ea _ ab ao i e oJ,er _ i lr,et i _ lr (by omega)];simp only[bind_some];have vW:jw (d.Body[i]::d.Body.drop (i+1)) (a-(i+1)+1)=decide (a<i+e):=by
     rw[<-drop_cons _ i lr];simp only[jw,oJ];by_cases cl:a<i+e
     .rw[decide_eq_true cl];simp only[decide_eq_true_eq];omega
     .rw[decide_eq_false cl];simp only[decide_eq_false_iff_not];omega
    rw[drop_cons _ i lr,show a-i=(a-(i+1))+1 by omega];simp only[hf,vW];by_cases cl:a<i+e
    .have d2:decide ((a:Int)<((i+e:Nat):Int))=true:=by simp only[decide_eq_true_eq];omega
     rw[d2,if_pos (decide_eq_true cl)];cases lk:d.Body[i].Kind==1
     .rw[cond_false];have lk:d.Body[i].Kind≠1:=by simpa using lk
      simp only[jx];rw[if_neg lk];split
      .exact ih _ m (by omega) (by omega)
      .split
       .exact ih _ m (by omega) (by omega)
       .exact ih _ m (by omega) (by omega)
     .have lk:d.Body[i].Kind=1:=by simpa using lk
      simp only[jx];rw[if_pos lk,D8];rfl
    .have d2:decide ((a:Int)<((i+e:Nat):Int))=false:=by simp only[decide_eq_false_iff_not];omega
     rw[d2,if_neg (by rw[decide_eq_false cl];decide)];simp only[cond_false];cases d.Body[i].Kind==1<;>exact ih ef m (by omega) (by omega)
  refine fO (a+1) λm hm=>?_;exact key f o_ _ m (by omega) (by omega)
theorem WH {s:cG} {k:Nat} (ao:k<s.aC.length):[(k:Int),0]∈b8 s.aC 0:=by
 refine Pl _ 0 k ao _ ?_;simp[r5]
theorem aoK {s:cG} {k a:Nat} (ao:k<s.aC.length) (b6:a+1<s.aC[k].Body.length) (j8:(gC s.aC[k] a).Kind=1) (aoL:(gC s.aC[k] (a+1)).Kind≠5):[(k:Int),((a+1:Nat):Int)]∈b8 s.aC 0:=by
 refine Pl _ 0 k ao _ ?_;simp only[r5,Nat.zero_add,List.mem_cons];refine .inr (ext_mem _ _ _ _ _ (by omega) (by omega) ?_);have aw:s.aC[k].Body[a]? =some (gC s.aC[k] a):=by rw[qU (by omega),List.getElem?_eq_getElem]
 simp only[D4,vL,aw,Bool.and_eq_true];exact⟨by simp[j8],by simpa [gC]using aoL⟩
section
variable {s:cG} (h:lU s.aC) (aE:jX s.aC=true) {P:Int} (aX:0<=P/\P<=1000) {n k f N a:Nat} (ew:(b8 s.aC 0).length<=64)
 (ao:k<s.aC.length)
include h aE ao
theorem WI (x:hS) (ay:x.s.aC=s.aC) (bo:f<s.aC[k].Body.length):CV x [(k:Int),(f:Int)]=some (eY s.aC[k] f).scope:=by
 obtain⟨_,ps,a2,bq⟩:=V9 h aE ao bo;unfold CV;have fM:a_ [(k:Int),(f:Int)] 0=some (k:Int):=rfl;have PG:a_ [(k:Int),(f:Int)] 1=some (f:Int):=rfl;rw[fM,PG,ay];simp only[bind_some];rw[er _ k ao];simp only[bind_some];rw[a2];simp only[bind_some];rw[bq];rfl
end
theorem WJ {D C M A H pl} {P:Int} {st:arG} {lZ:arZ} (aX:P<=1000) (c:Int) (v:arO) (aE:v.length<=1048576):
  zz D C M A H pl P st lZ c v=some (o6 [⟨0,0⟩] P ([⟨0,c⟩]::v)):=by
 unfold zz CX;simp only[bind_some];rw[aoq [[[⟨0,c⟩]],v] (by simp) (by simp only[ky,fV,List.length_cons,List.length_nil];omega)];simp only[bind_some,List.flatten_cons,List.flatten_nil,List.append_nil,List.cons_append,List.nil_append];refine Ik (L:=λm v=>CZ D C M A H pl P st lZ m v) [⟨0,0⟩] P (by omega) some (λm v aE=>?_) _ (by simp only[List.length_cons];omega);simp only[CZ,TH,CX];rw[h_ (by omega) (by omega)];rfl
section
variable {s:cG} (h:lU s.aC) (aE:jX s.aC=true) {P:Int} (aX:0<=P/\P<=1000) {n k f N a:Nat} (ew:(b8 s.aC 0).length<=64)
 (ao:k<s.aC.length) (bo:dP (s.aC[k].Body.drop f) 1=some N) {w:fE} (o_:f<=a) (nh:a<f+N) (j8:(gC s.aC[k] a).Kind=1) (hw:hf (s.aC[k].Body.drop f) (a-f) (some ⟨[],[]⟩)=some w)
 (aZ:n<(b8 s.aC 0).length) (vX:(b8 s.aC 0)[n]=[(k:Int),(f:Int)])
include h aE aX ew ao bo o_ nh j8 hw aZ vX
theorem aoM {C M A H} {st:arG} {lZ:arZ} (ot:lZ.length<=100000):
  GQ s.aC C M A H (b8 s.aC 0) P st lZ (n:Int) (a:Int) w=some (s.aC,C,M,A,H,b8 s.aC 0,P,st,lZ++[uC (b8 s.aC 0) P s.aC[k] n k f a w]):=by
 obtain⟨fA,l2,mz⟩:=Ec h aE ao bo nh;obtain⟨f1,f2,f3,f4,f5,f6⟩:=Im h aE ao bo o_ nh j8 hw;have wV:w.hB.length<=20:=Nat.le_trans (le_add_right _ _) f2;have WG:w.guards.length<=20:=Nat.le_trans (le_add_left _ _) f2;have WK:∀j,j<s.aC[k].Body.length->qR (gC s.aC[k] j):=λj bP=>by
  rw[qU bP];exact(h.2 _ (List.getElem_mem ao)).2.2 _ (List.getElem_mem bP)
 have h4:=WK a mz;have p2:=WK (a+1) (by omega);have fM:a_ [(k:Int),(f:Int)] 0=some (k:Int):=rfl;have sH:i64.wrap ((a:Int)+1)=((a+1:Nat):Int):=et a 100 (by omega) (by omega);have two:=Ap s.aC 0;unfold GQ;rw[er _ n aZ,vX];simp only[bind_some,fM];rw[WI h aE ao _ rfl (by omega),er _ k ao];simp only[bind_some];rw[x8 mz,sH,x8 (show a+1<s.aC[k].Body.length by omega),Wu _ (by omega)];simp only[bind_some];rw[Ij _ _ _ ⟨h4.2.1,h4.2.2⟩,Ij _ _ _ ⟨by omega,f1⟩];simp only[bind_some];rw[h_ (by simp only[List.length_map];omega) (by simp only[List.length_map];omega)];simp only[bind_some];rw[show([[aF.mk 2 3,aF.mk 1 0,aF.mk 0 (n:Int)]]++w.guards.map (ke (eY s.aC[k] f).scope P))=tg n::w.guards.map (ke (eY s.aC[k] f).scope P)from rfl,
  aot _ (by simp only[List.length_cons,List.length_map];omega) (λg bC=>by
    rcases List.mem_cons.1 bC with rfl|bC
    .simp[tg]
    .obtain⟨x,ay,rfl⟩:=List.mem_map.1 bC;rw[Ih];exact f1 x ay)]
 simp only[bind_some,xv];have WL:room 112 (lZ.length+1)=some ():=h_ (by omega) (by omega);unfold uC x9;cases ax:(gC s.aC[k] (a+1)).Kind==5
 .simp only[cond_false];obtain⟨_,ps,gr,hD⟩:=V9 h aE ao (show a+1<s.aC[k].Body.length by omega);rw[gr];simp only[bind_some];rw[hD];simp only[bind_some];have mq:(eY s.aC[k] (a+1)).scope=((eY s.aC[k] (a+1)).scope.toNat:Nat):=by omega
  have x3:=aoK ao (a:=a) (by omega) j8 (by simpa using ax);have:=Ar (L:=λm v i=>zB (a:Int) s.aC C M A H (b8 s.aC 0) P st lZ (k:Int) (eY s.aC[k] f).scope (gC s.aC[k] a) w.hB ((gC s.aC[k] a).a9.map (ke (eY s.aC[k] f).scope P)) (ov (tg n::w.guards.map (ke (eY s.aC[k] f).scope P))) (eY s.aC[k] (a+1)) m v i)
   (qT (eY s.aC[k] (a+1)).scope.toNat) id 0
   (λv=>(vp (hS.mk (cG.mk s.aC C M A H) (b8 s.aC 0) (cr.mk P st lZ)) v (eY s.aC[k] f).scope).bind λi3=>(zz s.aC C M A H (b8 s.aC 0) P st lZ (uB (b8 s.aC 0) k ((a+1:Nat):Int)) i3).bind λme=>xv s.aC C M A H (b8 s.aC 0) P st lZ (gC s.aC[k] a) w.hB ((gC s.aC[k] a).a9.map (ke (eY s.aC[k] f).scope P)) (ov (tg n::w.guards.map (ke (eY s.aC[k] f).scope P))) me)
   (λm v aE=>?_) (λi al m v aE=>?_) [] (by simp)
  .rw[this];simp only[List.nil_append,List.map_id];have Ai:(qT (eY s.aC[k] (a+1)).scope.toNat).length<=100:=by rw[x7];omega
   rw[Ij _ _ _ ⟨by omega,λx ay=>by rw[WC _ x ay];omega⟩];simp only[bind_some];rw[WJ (by omega) _ _ (by simp only[List.length_map];omega)];simp only[bind_some,xv,WL]
  .rw[x7];simp only[zB,Mu];rw[<-mq,show decide ((eY s.aC[k] (a+1)).scope<(eY s.aC[k] (a+1)).scope)=false by simp,sH,Pk _ two (by show(b8 s.aC 0).length<=_;omega) _ _ x3];rfl
  .have wy:i<(eY s.aC[k] (a+1)).scope.toNat:=by rwa [x7]at al
   simp only[zB,Mu,Mt];rw[show decide ((i:Int)<(eY s.aC[k] (a+1)).scope)=true by simp only[decide_eq_true_eq];omega,et i _ wy (by omega),h_ (by omega) (by omega),WE al];rfl
 .simp only[cond_true];have aoN:(gC s.aC[k] (a+1)).Kind=5:=by simpa using ax
  obtain⟨bp,b2,_⟩:=(D7 h aE ao (show a+1<s.aC[k].Body.length by omega)).call (by rw[<-qU (by omega)];exact aoN);rw[<-qU (by omega)]at b2;have SE:∃cv:Nat,(gC s.aC[k] (a+1)).Number=(cv:Int)/\cv<s.aC.length:=by
   unfold a_ at b2;split at b2
   .rename_i a5;obtain⟨q,_⟩:=List.getElem?_eq_some_iff.1 b2;exact⟨_,(Int.toNat_of_nonneg a5).symm,q⟩
   .cases b2
  obtain⟨cv,a8,oB⟩:=SE;rw[Pk _ two (by show(b8 s.aC 0).length<=_;omega) _ _ (by rw[a8];exact WH oB)];simp only[bind_some];rw[Ij _ _ _ ⟨p2.2.1,p2.2.2⟩];simp only[bind_some];rw[WJ (by omega) _ _ (by have:=p2.2.1;simp only[List.length_map];omega)];simp only[bind_some,xv,WL]
end
end Go.mc
