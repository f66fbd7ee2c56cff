/- Part of a proof that a law returns true for every input. No condition. -/
import Derived.Test.YtmaenemdkobeeaaGreatUV3x
import Derived.Test.YtmaenemdkobeeaaGreatUV2x
import Derived.Test.YtmaenemdkobeeaaGreatUV0x
namespace Go.mc
open Option Go.IntKind Nat Or
open Go Go.ek
def ky {α:Type} (ls:List (List α)):Nat:=fV List.length ls
theorem Wj (n:Int) (a5:0<=n) (h:n<=1099511627776):CY n=some ():=by
 unfold CY Mm GN;have fS:i64.wrap 0=0:=fl 0 (by omega);have aW:i64.wrap (n-0)=n:=by rw[fl (n-0) (by omega)];omega
 have d:decide (n<0)=false:=by simp only[decide_eq_false_iff_not];omega
 rw[d,fS,aW,show l0 24 n=some () by unfold l0;rw[if_pos ⟨by omega,by omega,by omega⟩]];cases decide (0<n)<;>rfl
theorem an2 (ls:List arO) (h:ls.length<=1048576) (ad:ky ls<=1099511627776):GO ls=some ls.flatten:=by
 have pL:bU (λn=>xq ls n [] 0)=some ls.flatten:=by
  have key:∀i,i<=ls.length->∀(v:arO) m,v.length+ky (ls.drop i)<=1099511627776->ls.length-i<m->xq ls m v (i:Int)=some (v++(ls.drop i).flatten):=by
   refine down ls.length ?_ ?_
   .intro v m _ hm;obtain⟨m,rfl⟩:∃j,m=j+1:=⟨m-1,by omega⟩
    simp only[xq,Mo];rw[dX (Nat.le_refl _),List.drop_of_length_le (Nat.le_refl _)];simp
   .intro i al ih v m aE hm;obtain⟨m,rfl⟩:∃j,m=j+1:=⟨m-1,by omega⟩
    rw[drop_cons ls i al]at aE⊢;simp only[ky,fV]at aE;simp only[xq,Mo];rw[eI al,er _ i al,et i _ al (by omega)];simp only[cond_true,bind_some];rw[h_ (by omega) (by omega)];simp only[bind_some];rw[ih _ m (by simp only[List.length_append,ky];omega) (by omega)];simp only[List.flatten_cons,List.append_assoc]
  refine fO (ls.length+1) λm hm=>?_;have:=key 0 (by omega) [] m (by simpa using ad) (by omega);simpa using this
 unfold GO;have key:∀i,i<=ls.length->∀(v:Int) m,0<=v->v+ky (ls.drop i)<=1099511627776->ls.length-i<m->xr ls m v (i:Int)=some ls.flatten:=by
  refine down ls.length ?_ ?_
  .intro v m a5 aE hm;obtain⟨m,rfl⟩:∃j,m=j+1:=⟨m-1,by omega⟩
   simp only[xr,Mp];rw[dX (Nat.le_refl _),Wj v a5 (by omega)];simp only[cond_false,bind_some];exact pL
  .intro i al ih v m a5 aE hm;obtain⟨m,rfl⟩:∃j,m=j+1:=⟨m-1,by omega⟩
   rw[drop_cons ls i al]at aE;simp only[ky,fV]at aE;simp only[xr,Mp,Mn];rw[eI al,er _ i al,et i _ al (by omega)];simp only[cond_true,bind_some];have e:i64.wrap (v+(ls[i].length:Int))=v+(ls[i].length:Int):=fl (v+(ls[i].length:Int)) ⟨by omega,by omega⟩;have d:decide (v+(ls[i].length:Int)<0)=false:=by simp only[decide_eq_false_iff_not];omega
   rw[e,d,cond_false];exact ih _ m (by omega) (by simp only[ky];omega) (by omega)
 refine fO (ls.length+1) λm hm=>?_;exact key 0 (by omega) 0 m (by omega) (by rw[List.drop_zero];omega) (by omega)
theorem an3 (x:bH) (ay:Aq x):zE x=some (x.Guard::(x.a9++x.Next)):=by
 unfold zE;have a3:=ay.2.2.2.1.1;have bI:=ay.2.2.2.2.1;rw[an2 _ (by simp) (by simp only[ky,fV,List.length_cons,List.length_nil];omega)];simp
theorem an4 (x:bH) (p:Int) (aw:0<=p/\p<=21) (gy:x.cx.length<=8) (es:arO) (h:es.length<=1099511627776) (he:∀e∈es,e.length<=1048576):
  xx es p x=some (!o4 es (p+x.cx.length)):=by
 unfold xx Mx;rw[Pa (f:=λe=>GW e p x) es (λe=> !k2 e (p+x.cx.length) 60) (λm i=>by simp only[GX,TI]) (λe hm=>by
  unfold GW;have hw:i64.wrap (p+(x.cx.length:Int))=p+(x.cx.length:Int):=fl (p+(x.cx.length:Int)) ⟨by omega,by omega⟩;rw[hw,VF e _ 60 (by omega) (by omega) (he e hm)];rfl) h]
 simp only[bind_some,H_,Pb];rfl
theorem an5 (x:bH) (p:Int) (aw:0<=p/\p<=21) (ay:Aq x):GY x p=some (td x p):=by
 have uM:=ay;obtain⟨ae,ag,aK,a3,bI⟩:=ay;unfold GY td;rw[anW x ae];simp only[bind_some];cases ad:r7 x.cx
 .rfl
 .have gy:x.cx.length<=8:=by simp only[r7,Bool.and_eq_true,decide_eq_true_eq]at ad;exact ad.1
  have JR:xx (x.Guard::(x.a9++x.Next)) p x=some (!(k2 x.Guard (p+x.cx.length) 60&&(o4 x.a9 (p+x.cx.length)&&o4 x.Next (p+x.cx.length)))):=by
   have ark:=a3.1;have arl:=bI.1;rw[an4 x p aw gy _ (by simp only[List.length_cons,List.length_append];omega) (λe he=>by
    rcases List.mem_cons.1 he with rfl|he
    .exact ag
    .rcases List.mem_append.1 he with he|he
     .exact a3.2 e he
     .exact bI.2 e he)]
   simp only[o4,List.all_cons,List.all_append]
  rw[an3 x uM,anY _ (by omega)];simp only[bind_some,JR,Bool.not_true,Bool.false_or,Bool.true_and,Bool.not_not];cases aZ:(x.Next.length:Int)==p
  .have:((x.Next.length:Int) !=p)=true:=by simp only[bne,aZ];rfl
   rw[this];cases k2 x.Guard (p+(x.cx.length:Int)) 60<;>rfl
  .have:((x.Next.length:Int) !=p)=false:=by simp only[bne,aZ];rfl
   rw[this];simp only[cond_false,Bool.true_and];by_cases bc:x.Name=vR
   .rw[Wh bc,if_pos bc];simp only[cond_true,Bool.not_true,cond_false];by_cases b6:x.a9.length=0
    .have d1:decide ((0:Int)<(x.a9.length:Int))=false:=by simp only[decide_eq_false_iff_not];omega
     have d3:decide (x.a9.length=0)=true:=by simpa using b6
     rw[d1,d3];simp
    .have d1:decide ((0:Int)<(x.a9.length:Int))=true:=by simp only[decide_eq_true_eq];omega
     have d3:decide (x.a9.length=0)=false:=by simpa using b6
     rw[d1,d3];cases k2 x.Guard (p+(x.cx.length:Int)) 60<;>rfl
   .rw[Wi bc,if_neg bc];simp only[Bool.not_false,cond_true,cond_false];by_cases b6:x.a9.length<=2
    .have d2:decide ((2:Int)<(x.a9.length:Int))=false:=by simp only[decide_eq_false_iff_not];omega
     have d3:decide (x.a9.length<=2)=true:=by simpa using b6
     rw[d2,d3];cases decide ((0:Int)<(x.a9.length:Int))<;>cases x6 x.Name<;>cases k2 x.Guard (p+(x.cx.length:Int)) 60<;>simp
    .have d1:decide ((0:Int)<(x.a9.length:Int))=true:=by simp only[decide_eq_true_eq];omega
     have d2:decide ((2:Int)<(x.a9.length:Int))=true:=by simp only[decide_eq_true_eq];omega
     have d3:decide (x.a9.length<=2)=false:=by simpa using b6
     rw[d1,d2,d3];cases x6 x.Name<;>cases k2 x.Guard (p+(x.cx.length:Int)) 60<;>rfl
theorem an6 (l:cr) (s:arG) (h:s.length<=1048576):GU l s=some (vS s l.bW):=by
 unfold GU zq Gr Gq;rw[Pa (f:=Gn) s (λn=> !iU n 0 63) (λm i=>by simp only[zp,Gp]) (λn _=>rfl) (by omega)];simp only[bind_some,H_,Pb,Bool.not_not];unfold vS;cases(s.length:Int)==l.bW<;>rfl
theorem an7 (l:cr) (h:Ib l):C0 l=some (ou l):=by
 unfold C0 ou jD;simp only[bind_some,D6];rw[an6 _ _ h.1];simp only[bind_some];cases aw:iU l.bW 0 21
 .rfl
 .cases vS l.Start l.bW
  .rfl
  .simp only[Bool.not_true,cond_false,Bool.false_or,Bool.true_and];have eR:0<=l.bW/\l.bW<=21:=by simpa [iU]using aw
   by_cases o5:l.g3.length<=60
   .have d1:decide ((60:Int)<(l.g3.length:Int))=false:=by simp only[decide_eq_false_iff_not];omega
    have d2:decide (l.g3.length<=60)=true:=by simpa using o5
    rw[d1,d2,cond_false,Bool.true_and];unfold Mz My;rw[Pa (f:=λx=>GZ x l) l.g3 (λx=> !td x l.bW) (λm i=>by simp only[G0,TJ]) (λx ay=>by
     unfold GZ;rw[an5 x _ eR (h.2.2 x ay)];rfl) (by omega)]
    simp only[bind_some,H_,Pb,Bool.not_not]
   .have d1:decide ((60:Int)<(l.g3.length:Int))=true:=by simp only[decide_eq_true_eq];omega
    have d2:decide (l.g3.length<=60)=false:=by simpa using o5
    rw[d1,d2];rfl
theorem Ar {α γ β:Type} {L:Nat->List γ->Int->Option β} (a:List α) (g:α->γ) (b:Nat) (E:List γ->Option β)
  (a5:∀m v,v.length<=b+a.length->L (m+1) v (a.length:Int)=E v)
  (ad:∀i (h:i<a.length) m v,v.length<=b+i->L (m+1) v (i:Int)=L m (v++[g a[i]]) ((i+1:Nat):Int)) (s:List γ) (ab:s.length<=b):
  bU (λm=>L m s 0)=E (s++a.map g):=by
 have key:∀i,i<=a.length->∀v m,v.length<=b+i->a.length-i<m->L m v (i:Int)=E (v++(a.drop i).map g):=by
  refine down a.length ?_ ?_
  .intro v m aE hm;obtain⟨m,rfl⟩:∃j,m=j+1:=⟨m-1,by omega⟩
   rw[a5 m v aE,List.drop_of_length_le (Nat.le_refl _)];simp
  .intro i al ih v m aE hm;obtain⟨m,rfl⟩:∃j,m=j+1:=⟨m-1,by omega⟩
   rw[ad i al m v aE,ih _ m (by simp only[List.length_append,List.length_cons,List.length_nil];omega) (by omega),drop_cons a i al];simp only[List.map_cons,List.append_assoc,List.cons_append,List.nil_append]
 refine fO (a.length+1) λm hm=>?_;have:=key 0 (by omega) s m (by omega) (by omega);simpa using this
def setRow {α:Type} (a:List α) (g:α->α) (i:Nat):List α:=(a.take i).map g++a.drop i
theorem Pd {α:Type} (a:List α) (g:α->α) (i:Nat):(setRow a g i).length=a.length:=by
 simp only[setRow,List.length_append,List.length_map,List.length_take,List.length_drop];omega
theorem an8 {α:Type} (a:List α) (g:α->α) (i:Nat) (h:i<a.length):a_ (setRow a g i) (i:Int)=some a[i]:=by
 rw[er _ i (by rw[Pd];exact h)];congr 1;simp only[setRow];rw[List.getElem_append_right (by simp;omega)];simp[Nat.min_eq_left (Nat.le_of_lt h)]
theorem an9 {α:Type} (a:List α) (g:α->α) (i:Nat) (h:i<a.length):(setRow a g i).set i (g a[i])=setRow a g (i+1):=by
 have e:((a.take i).map g).length=i:=by simp;omega
 simp only[setRow];rw[List.set_append_right i _ (by rw[e];omega),e,Nat.sub_self,drop_cons a i h,List.set_cons_zero,List.take_succ_eq_append_getElem h,List.map_append];simp
theorem an_ {α:Type} (a:List α) (g:α->α):setRow a g 0=a:=by simp[setRow]
theorem aoa {α:Type} (a:List α) (g:α->α):setRow a g a.length=a.map g:=by simp[setRow]
theorem aob {α β:Type} {L:Nat->List α->Int->Option β} (a:List α) (g:α->α) (E:List α->Option β)
  (a5:∀m v,v.length=a.length->L (m+1) v (a.length:Int)=E v)
  (ad:∀i (h:i<a.length) m v,v.length=a.length->a_ v (i:Int)=some a[i]->L (m+1) v (i:Int)=L m (v.set i (g a[i])) ((i+1:Nat):Int)):
  bU (λm=>L m a 0)=E (a.map g):=by
 have key:∀i,i<=a.length->∀m,a.length-i<m->L m (setRow a g i) (i:Int)=E (a.map g):=by
  refine down a.length ?_ ?_
  .intro m hm;obtain⟨m,rfl⟩:∃j,m=j+1:=⟨m-1,by omega⟩
   rw[a5 m _ (Pd ..),aoa]
  .intro i al ih m hm;obtain⟨m,rfl⟩:∃j,m=j+1:=⟨m-1,by omega⟩
   rw[ad i al m _ (Pd ..) (an8 a g i al),an9 a g i al,ih m (by omega)]
 refine fO (a.length+1) λm hm=>?_;have:=key 0 (by omega) m (by omega);simpa [an_]using this
def te {α:Type} (xs:List α) (i:Int):List (Bool×α):=(xs.take i.toNat).map (λx=>(true,x))++(xs.drop i.toNat).map (λx=>(false,x))
theorem aoc {α:Type} (xs:List α):xs.map (λx=>(false,x))=te xs 0:=by simp[te]
theorem aod {α:Type} (xs:List α) (i:Nat) (h:i<xs.length):a_ (te xs (i:Int)) (i:Int)=some (false,xs[i]):=by
 have hl:(te xs (i:Int)).length=xs.length:=by simp[te];omega
 rw[er _ i (by rw[hl];exact h)];congr 1;simp only[te,Int.toNat_natCast];rw[List.getElem_append_right (by simp;omega)];simp[Nat.min_eq_left (Nat.le_of_lt h)]
theorem aoe {α:Type} (xs:List α) (i:Nat) (h:i<xs.length):List.set (te xs (i:Int)) (Int.toNat (i:Int)) (true,xs[i])=te xs ((i+1:Nat):Int):=by
 have e:((xs.take i).map λx=>(true,x)).length=i:=by simp;omega
 simp only[te,Int.toNat_natCast];rw[List.set_append_right i _ (by rw[e];omega),e,Nat.sub_self,drop_cons xs i h,List.map_cons,List.set_cons_zero,List.take_succ_eq_append_getElem h,List.map_append];simp
theorem tf {n:Int} {P:Prop} (h:some n=some (0:Int)) (aZ:n≠0):P:=absurd (some.inj h) aZ
theorem aof {d:bg} {aM:Int} {p:bk} {v:Bool} (h:rE d aM p v=some 0):
  ∃aB,vg d aM=some aB/\((p.Kind==4)&&decide (6<=aB))=false/\bU (λn=>vh p n aB 0)=some 0:=by
 unfold rE at h;rcases dH h with⟨_,h⟩|⟨_,h⟩
 .exact tf h (by decide)
 obtain⟨aB,aY,h⟩:=ar h;rcases dH h with⟨_,h⟩|⟨a3,h⟩
 .exact tf h (by decide)
 exact⟨aB,aY,a3,h⟩
theorem Ic {d:bg} {aM:Int} {p:bk} (h:tG d aM p=some 0):∃v,rE d aM p v=some 0:=by
 unfold tG at h;rcases dH h with⟨_,h⟩|⟨_,h⟩
 .rcases dH h with⟨_,h⟩|⟨_,h⟩
  .exact⟨_,h⟩
  .obtain⟨aV,_,h⟩:=ar h;exact⟨_,h⟩
 .exact⟨_,h⟩
theorem Ie {e:arW} {d:bg} {aM:Int} {p:bk} {v:Bool} (h:sP e d aM p v=some 0):
  v=false/\(p.Kind=1->p.a9.length<=2/\((p.Name==([116,97,117]:arE))=true->p.a9.length=0))/\(p.Kind=3->p.a9.length=1)/\
   (p.Kind=5->∃bp,a_ e p.Number=some bp/\(p.a9.length:Int)=bp.bW)/\∃v,rE d aM p v=some 0:=by
 unfold sP at h;rcases dH h with⟨_,h⟩|⟨aE,h⟩
 .exact tf h (by decide)
 refine⟨aE,?_⟩;rcases dH h with⟨k,h⟩|⟨k,h⟩
 .have k:=eq_of_beq k;rcases dH h with⟨_,h⟩|⟨g,h⟩
  .exact tf h (by decide)
  rw[Bool.or_eq_false_iff,Bool.and_eq_false_iff,decide_eq_false_iff_not,decide_eq_false_iff_not]at g;refine⟨λ_=>⟨by omega,λbc=>?_⟩,λaK=>by omega,λbI=>by omega,Ic h⟩;rcases g.2 with g|g
  .omega
  .rw[bc]at g;cases g
 have b3:p.Kind≠1:=by simpa using k
 rcases dH h with⟨k,h⟩|⟨k,h⟩
 .have k:=eq_of_beq k;rcases dH h with⟨_,h⟩|⟨g,h⟩
  .exact tf h (by decide)
  have g:(p.a9.length:Int)=1:=by simpa using g
  exact⟨λae=>(b3 ae).elim,λ_=>by omega,λbI=>by omega,Ic h⟩
 have fz:p.Kind≠3:=by simpa using k
 rcases dH h with⟨k,h⟩|⟨k,h⟩
 .obtain⟨bp,b0,h⟩:=ar h;rcases dH h with⟨_,h⟩|⟨g,h⟩
  .exact tf h (by decide)
  have g:(p.a9.length:Int)=bp.bW:=by simpa using g
  exact⟨λae=>(b3 ae).elim,λaK=>(fz aK).elim,λ_=>⟨bp,b0,g⟩,Ic h⟩
 .have fR:p.Kind≠5:=by simpa using k
  exact⟨λae=>(b3 ae).elim,λaK=>(fz aK).elim,λbI=>(fR bI).elim,Ic h⟩
theorem aog {e:arW} {d:bg} {aM:Int} (h:pw e d aM=some 0):
  ∃p,a_ d.Body aM=some p/\(p.Kind=1->w3 p.Name=some true/\p.a9.length<=2/\((p.Name==([116,97,117]:arE))=true->p.a9.length=0))/\(p.Kind=3->p.a9.length=1)/\
   (p.Kind=4->1<=p.Number/\p.Number<=7)/\(p.Kind=5->∃bp,a_ e p.Number=some bp/\(p.a9.length:Int)=bp.bW)/\∃v,rE d aM p v=some 0:=by
 unfold pw at h;obtain⟨p,aW,h⟩:=ar h;obtain⟨ai,_,h⟩:=ar h;rcases dH h with⟨_,h⟩|⟨_,h⟩
 .exact tf h (by decide)
 have key:∀v,yZ e d aM p v=some 0->v=false/\(p.Kind=4->1<=p.Number/\p.Number<=7)/\sP e d aM p false=some 0:=by
  intro v h;unfold yZ at h;rcases dH h with⟨_,h⟩|⟨aE,h⟩
  .exact tf h (by decide)
  refine⟨aE,?_⟩;rcases dH h with⟨k,h⟩|⟨k,h⟩
  .have k:=eq_of_beq k;obtain⟨cp,gZ,h⟩:=ar h;rcases dH h with⟨_,h⟩|⟨g,jy⟩
   .exact absurd (Ie h).1 (by simp)
   have g:cp=true:=by simpa using g
   rw[g]at gZ;unfold kF at gZ;have gZ:=some.inj gZ;rw[Bool.and_eq_true,decide_eq_true_eq,decide_eq_true_eq]at gZ;refine⟨λ_=>gZ,?_⟩;rcases dH jy with⟨fR,_⟩|⟨_,jy⟩
   .have:=eq_of_beq fR;omega
   .exact jy
  .have ez:p.Kind≠4:=by simpa using k
   refine⟨λa3=>(ez a3).elim,?_⟩;rcases dH h with⟨k,h⟩|⟨k,h⟩
   .obtain⟨cE,_,h⟩:=ar h;have g:=(Ie h).1
    rwa [g]at h
   .exact h
 rcases dH h with⟨k,h⟩|⟨k,h⟩
 .obtain⟨de,mX,h⟩:=ar h;obtain⟨ae,ag,aK⟩:=key _ h;obtain⟨_,a2,bq,ck,eE⟩:=Ie aK;have ae:de=true:=by simpa using ae
  subst ae;exact⟨p,aW,λao=>⟨mX,a2 ao⟩,bq,ag,ck,eE⟩
 .obtain⟨ae,ag,aK⟩:=key _ h;obtain⟨_,a2,bq,ck,eE⟩:=Ie aK;have b3:p.Kind≠1:=by simpa using k
  exact⟨p,aW,λao=>(b3 ao).elim,bq,ag,ck,eE⟩
theorem Wk {e:arW} {d:bg} {r:Int×Int} (hl:d.Body.length<=1000) (a4:∀j,j<d.Body.length->∃v,pw e d (j:Int)=some v/\0<=v) (h:tI e d=some r) (a5:r.2=0):
  ∀j,j<d.Body.length->pw e d (j:Int)=some 0:=by
 unfold tI at h;obtain⟨U,_,h⟩:=ar h;rcases dH h with⟨_,h⟩|⟨_,h⟩
 .have:=some.inj h;subst this;exact absurd a5 (by decide)
 obtain⟨n,h⟩:=mo h;have key:∀i,i<=d.Body.length->∀m,tH e d m (i:Int)=some r->∀j,i<=j->j<d.Body.length->pw e d (j:Int)=some 0:=by
  refine down d.Body.length ?_ ?_
  .intro m _ j ae ag;omega
  .intro i al ih m hm j ae ag;cases m with
   |zero=>cases hm
   |succ m=>
    simp only[tH,Ck]at hm;obtain⟨v,aE,l6⟩:=a4 i al;rw[eI al,cond_true,aE]at hm;simp only[bind_some]at hm;rcases dH hm with⟨g,hm⟩|⟨g,hm⟩
    .have:=some.inj hm;subst this;simp only[decide_eq_true_eq]at g;simp only at a5;omega
    .have g:v=0:=by simp at g;omega
     subst g;by_cases bP:j=i
     .subst bP;exact aE
     .rw[et i _ al (by omega)]at hm;exact ih m hm j (by omega) ag
 exact λj bP=>key 0 (by omega) n h j (by omega) bP
structure aoh (e:arW) (d:bg) (j:Nat) (p:bk) (cR:Int):Prop where
 small:qR p
 arn:0<=cR/\cR<=29
 args:∀a∈p.a9,k2 a cR 15=true
 act:p.Kind=1->kM p.Name=true/\p.a9.length<=2/\((p.Name==([116,97,117]:arE))=true->p.a9.length=0)
 Wl:p.Kind=3->p.a9.length=1
 sum:p.Kind=4->1<=p.Number/\p.Number<=7/\cR<=5
 call:p.Kind=5->∃bp,a_ e p.Number=some bp/\(p.a9.length:Int)=bp.bW
theorem D7 {e:arW} (h:lU e) (aE:jX e=true) {i:Nat} (al:i<e.length) {j:Nat} (bP:j<e[i].Body.length):aoh e e[i] j e[i].Body[j] (eY e[i] j).scope:=by
 obtain⟨ae,a3,ak⟩:=lY h aE;obtain⟨aw,ad,aZ,r,dT,bb⟩:=ak i al;obtain⟨s1,s2,kB⟩:=oq ad;have ot:=h.2 _ (List.getElem_mem al);have a4:∀j,j<e[i].Body.length->∃v,pw e e[i] (j:Int)=some v/\0<=v:=λj bP=>by
  obtain⟨dr,dh,hM,g7,k9⟩:=s9 e[i] ad aw j bP;obtain⟨v,v1,_,sB⟩:=OY e a3 e[i] j bP kB (ot.2.2 _ (List.getElem_mem bP)) (eY e[i] j) dr ⟨dh,hM⟩ g7;exact⟨v,v1,sB⟩
 obtain⟨p,aW,f1,f2,f3,f4,v,f5⟩:=aog (Wk (by omega) a4 dT bb j bP);rw[er _ j bP]at aW;have aW:=some.inj aW;subst aW;obtain⟨aB,a2,bq,ck⟩:=aof f5;obtain⟨dr,dh,hM,g7,k9⟩:=s9 e[i] ad aw j bP;rw[dr]at a2;have a2:=some.inj a2;subst a2;have BH:=ot.2.2 _ (List.getElem_mem bP);rw[VV _ BH _ ⟨dh,hM⟩]at ck;refine⟨BH,⟨dh,hM⟩,?_,λk=>?_,f2,λk=>⟨(f3 k).1,(f3 k).2,?_⟩,f4⟩
 .cases b6:s7 e[i].Body[j] (eY e[i] j).scope
  .rw[b6]at ck;exact tf ck (by decide)
  .intro a hm;obtain⟨k,ao,rfl⟩:=List.mem_iff_getElem.1 hm;have:=s5.1 b6 k ao
   rwa [List.getD_eq_getElem?_getD,List.getElem?_eq_getElem ao]at this
 .obtain⟨R,aM,bG⟩:=f1 k;rw[DV]at R;exact⟨some.inj R,aM,bG⟩
 .rw[k]at bq;simp only[beq_self_eq_true,Bool.true_and,decide_eq_false_iff_not]at bq;omega
def jx (p:bk):Option fE->Option fE
 |none=>none
 |some w=>if p.Kind=1 then none else if p.Kind=3 then some ⟨w.hB,w.guards++[p.a9.getD 0 []]⟩else if p.Kind=4 then some ⟨w.hB++[p.Number],w.guards⟩else some w
def uA (p:bk) (a:Nat):Option fE->List (Nat×fE)
 |none=>[]
 |some w=>if p.Kind=1 then [(a,w)]else []
def mP:arV->Nat->List (Option fE)->List (Nat×fE)
 |[],_,_=>[]
 |_::_,_,[]=>[]
 |p::r,a,w::st=>uA p a w++mP r (a+1) (List.replicate (dZ p) (jx p w)++st)
theorem aoi (l:arV) (a:Nat):mP l a []=[]:=by cases l<;>rfl
theorem Wm:∀{l:arV} {s1 s2:List (Option fE)} {k:Nat} (a:Nat),dP l s1.length=some k->mP l a (s1++s2)=mP l a s1++mP (l.drop k) (a+k) s2
 |[],[],s2,k,a,h=>by simp only[List.length_nil,dP,some.injEq]at h;subst h;simp[mP]
 |[],s::st,s2,k,a,h=>by simp[dP]at h
 |p::r,[],s2,k,a,h=>by simp only[List.length_nil,dP,some.injEq]at h;subst h;simp[mP]
 |p::r,s::st,s2,k,a,h=>by
  obtain⟨cZ,bM,rfl⟩:=nN.1 h;simp only[mP,List.cons_append,List.drop_succ_cons];rw[<-List.append_assoc (List.replicate _ _),Wm (k:=cZ) (a+1) (by rw[List.length_append,List.length_replicate,Nat.add_comm];exact bM),List.append_assoc,show a+1+cZ=a+(cZ+1) by omega]
theorem Wn (p:bk):jx p none=none:=rfl
theorem Wo:∀(l:arV) (a m:Nat),mP l a (List.replicate m none)=[]
 |[],a,m=>rfl
 |p::r,a,0=>rfl
 |p::r,a,m+1=>by
  rw[List.replicate_succ];simp only[mP,Wn,uA,List.nil_append];rw[List.replicate_append_replicate,Wo r (a+1) _]
theorem Pe {α β:Type} {f g:α->Option β}:∀{l:List α},(∀x∈l,f x=g x)->l.filterMap f=l.filterMap g
 |[],_=>rfl
 |x::r,h=>by
  rw[List.filterMap_cons,List.filterMap_cons,h x (by simp),Pe (l:=r) λy bz=>h y (by simp[bz])]
def hf:arV->Nat->Option fE->Option fE
 |_,0,w=>w
 |[],_+1,w=>w
 |p::r,q+1,w=>hf r q (if jw (p::r) (q+1)=true then jx p w else w)
theorem r8 (l:arV) (w:Option fE):hf l 0 w=w:=by cases l<;>rfl
theorem D8:∀(l:arV) (q:Nat),hf l q none=none
 |[],0=>rfl
 |[],q+1=>rfl
 |p::r,0=>rfl
 |p::r,q+1=>by simp only[hf,Wn,ite_self];exact D8 r q
def vT:arV->List (Option fE)->Nat->Option fE
 |_,[],_=>none
 |l,s::st,q=>match dP l 1 with
  |none=>none
  |some k=>if q<k then s else vT (l.drop k) st (q-k)
theorem Wp:∀(f:Nat) (r:arV) (b:Option fE) (st:List (Option fE)) (k q:Nat),dP r f=some k->vT r (List.replicate f b++st) q=if q<k then b else vT (r.drop k) st (q-k)
 |0,r,b,st,k,q,h=>by rw[xV]at h;cases h;simp
 |f+1,r,b,st,k,q,h=>by
  rw[Nat.add_comm f 1]at h;obtain⟨b3,cv,ae,ag,rfl⟩:=rW h;rw[List.replicate_succ,List.cons_append];simp only[vT,ae];by_cases cl:q<b3
  .rw[if_pos cl,if_pos (by omega)]
  .rw[if_neg cl,Wp f _ b st cv (q-b3) ag];by_cases DZ:q-b3<cv
   .rw[if_pos DZ,if_pos (by omega)]
   .rw[if_neg DZ,if_neg (by omega),List.drop_drop,Nat.sub_sub]
def D9 (a:Nat) (p:Option bk) (w:Option fE):Option (Nat×fE):=match p with
 |some p=>if p.Kind=1 then w.map λw=>(a,w)else none
 |none=>none
def hq (l:arV) (a:Nat) (st:List (Option fE)) (q:Nat):Option (Nat×fE):=D9 (a+q) l[q]? (hf l q (vT l st q))
theorem Pf:∀(l:arV) (a:Nat) (st:List (Option fE)) (k:Nat),dP l st.length=some k->mP l a st=(List.range k).filterMap (hq l a st)
 |[],a,[],k,h=>by simp only[List.length_nil,dP,some.injEq]at h;subst h;rfl
 |[],a,s::st,k,h=>by simp[dP]at h
 |p::r,a,[],k,h=>by simp only[List.length_nil,dP,some.injEq]at h;subst h;rfl
 |p::r,a,s::st,k,h=>by
  have a5:=h;obtain⟨cZ,bM,rfl⟩:=nN.1 h;rw[List.length_cons,Nat.add_comm st.length 1]at a5;obtain⟨e,cv,he,oB,ao⟩:=rW a5;obtain⟨fQ,kW,rfl⟩:=nN.1 he;simp only[Nat.zero_add]at kW;have hl:dP r (List.replicate (dZ p) (jx p s)++st).length=some cZ:=by
   rw[List.length_append,List.length_replicate,Nat.add_comm];exact bM
  have ih:=Pf r (a+1) _ cZ hl;have fS:hq (p::r) a (s::st) 0=(uA p a s).head? :=by
   unfold hq;simp only[vT,he,r8];rw[if_pos (by omega)];simp only[List.getElem?_cons_zero,D9,Nat.add_zero];cases s with
   |none=>simp only[uA,map_none,ite_self];rfl
   |some w=>simp only[uA,map_some];split<;>rfl
  have aW:∀q,q<cZ->hq (p::r) a (s::st) (q+1)=hq r (a+1) (List.replicate (dZ p) (jx p s)++st) q:=by
   intro q cl;unfold hq;rw[Wp _ _ _ _ fQ q kW];simp only[vT,he,hf,List.getElem?_cons_succ,jw,decide_eq_true_eq];rw[show a+(q+1)=a+1+q by omega];by_cases ml:q<fQ
   .rw[if_pos (by omega),if_pos (by omega),if_pos ml]
   .rw[if_neg (by omega),if_neg (by omega),if_neg ml,List.drop_succ_cons,show q+1-(fQ+1)=q-fQ by omega]
  have a8:(List.range cZ).filterMap (hq r (a+1) (List.replicate (dZ p) (jx p s)++st))=((List.range cZ).map succ).filterMap (hq (p::r) a (s::st)):=by
   rw[List.filterMap_map];apply Pe;intro q cl;exact(aW q (List.mem_range.1 cl)).symm
  rw[List.range_succ_eq_map,List.filterMap_cons,fS,<-a8,<-ih];simp only[mP];cases s with
  |none=>rfl
  |some w=>simp only[uA];split<;>rfl
def vU (l:arV) (a:Nat) (q:Nat):Option (Nat×fE):=D9 (a+q) l[q]? (hf l q (some ⟨[],[]⟩))
theorem Wq {l:arV} {a k:Nat} (h:dP l 1=some k):mP l a [some ⟨[],[]⟩]=(List.range k).filterMap (vU l a):=by
 rw[Pf l a [some ⟨[],[]⟩] k h];apply Pe;intro q cl;have:=List.mem_range.1 cl;unfold hq vU;simp only[vT,h];rw[if_pos this]
def nP (w:fE):Nat:=w.hB.length+w.guards.length
theorem Wr {p:bk} {w aQ:fE} (h:jx p (some w)=some aQ):nP aQ<=nP w+1:=by
 simp only[jx]at h;split at h
 .cases h
 .split at h
  .cases h;simp only[nP,List.length_append,List.length_cons,List.length_nil];omega
  .split at h
   .cases h;simp only[nP,List.length_append,List.length_cons,List.length_nil];omega
   .cases h;omega
def As (w:fE):Prop:=∀g∈w.guards,g.length<=1048576
theorem Ws {p:bk} {w aQ:fE} (aw:qR p) (hw:As w) (h:jx p (some w)=some aQ):As aQ:=by
 simp only[jx]at h;split at h
 .cases h
 .split at h
  .cases h;intro g bC;rcases List.mem_append.1 bC with bC|bC
   .exact hw g bC
   .simp only[List.mem_cons,List.not_mem_nil,or_false]at bC;subst bC;rw[List.getD_eq_getElem?_getD];cases he:p.a9[0]? with
    |none=>simp
    |some x=>exact aw.2.2 x (List.mem_of_getElem? he)
  .split at h
   .cases h;exact hw
   .cases h;exact hw
theorem D_:∀(l:arV) (q:Nat) (w aQ:fE),(∀p∈l,qR p)->As w->hf l q (some w)=some aQ->As aQ/\nP aQ<=nP w+q/\aQ.hB.length=w.hB.length+iy l q
 |l,0,w,aQ,_,hw,h=>by rw[r8]at h;cases h;exact⟨hw,by omega,by rw[DX];rfl⟩
 |[],q+1,w,aQ,_,hw,h=>by simp only[hf]at h;cases h;exact⟨hw,by omega,by simp[iy]⟩
 |p::r,q+1,w,aQ,aw,hw,h=>by
  simp only[hf]at h;by_cases b_:jw (p::r) (q+1)=true
  .rw[if_pos b_]at h;cases aZ:jx p (some w)with
   |none=>rw[aZ,D8]at h;cases h
   |some ef=>
    rw[aZ]at h;obtain⟨ae,ag,aK⟩:=D_ r q ef aQ (λx ay=>aw x (by simp[ay])) (Ws (aw p (by simp)) hw aZ) h;have a3:=Wr aZ;refine⟨ae,by omega,?_⟩;rw[aK];simp only[iy,b_,and_true];simp only[jx]at aZ;split at aZ
    .cases aZ
    .split at aZ
     .cases aZ;rw[if_neg (by omega)];simp
     .split at aZ
      .rename_i ao;cases aZ;rw[if_pos ao];simp only[List.length_append,List.length_cons,List.length_nil];omega
      .rename_i ao;cases aZ;rw[if_neg ao];omega
  .rw[if_neg b_]at h;obtain⟨ae,ag,aK⟩:=D_ r q w aQ (λx ay=>aw x (by simp[ay])) hw h;refine⟨ae,by omega,?_⟩;rw[aK];simp only[iy];rw[if_neg (λh=>b_ h.2)];omega
theorem aoj (p:bk) (ao:p.Kind=0\/p.Kind=1\/p.Kind=2\/p.Kind=3\/p.Kind=4\/p.Kind=5):FZ p.Kind=some (dZ p:Int):=by
 unfold FZ dZ;rcases ao with h|h|h|h|h|h<;>rw[h]<;>rfl
def Ig (b:arV):Prop:=∀p∈b,p.Kind=0\/p.Kind=1\/p.Kind=2\/p.Kind=3\/p.Kind=4\/p.Kind=5
theorem Ea (b:arV) (ab:b.length<=1048576) (ao:Ig b) (jZ n:Nat) (h:dP (b.drop jZ) 1=some n):vk b (jZ:Int)=some ((jZ+n:Nat):Int):=by
 unfold vk;have a5:jZ<b.length:=by
  have:=kN h;rw[List.length_drop]at this;omega
 have key:∀i,i<=b.length->∀(k n:Nat) m,k<=1+2*i->b.length-i<m->dP (b.drop i) k=some n->y4 b m (i:Int) (k:Int)=some ((i+n:Nat):Int):=by
  refine down b.length ?_ ?_
  .intro k n m _ hm he;obtain⟨m,rfl⟩:∃j,m=j+1:=⟨m-1,by omega⟩
   simp only[y4,Lq];rw[List.drop_of_length_le (Nat.le_refl _)]at he;cases k with
   |zero=>rw[uo];simp only[dP,some.injEq]at he;subst he;simp
   |succ k=>simp[dP]at he
  .intro i al ih k n m lk hm he;obtain⟨m,rfl⟩:∃j,m=j+1:=⟨m-1,by omega⟩
   simp only[y4,Lq];cases k with
   |zero=>rw[xV]at he;cases he;rw[uo];simp
   |succ k=>
    rw[xP (succ_pos k),er _ i al,et i _ al (by omega)];simp only[cond_true,bind_some];rw[aoj _ (ao _ (List.getElem_mem al))];simp only[bind_some];have b6:=xU b[i];rw[H0 (by omega) (by omega) b6];rw[drop_cons _ i al]at he;obtain⟨A9,kW,rfl⟩:=nN.1 he;rw[show k+1+dZ b[i]-1=k+dZ b[i] by omega,ih _ A9 m (by omega) (by omega) kW];congr 2;omega
 refine fO (b.length+1) λm hm=>?_;have:=key jZ (by omega) 1 n m (by omega) (by omega) h;simpa using this
theorem Wt (d:bg) (ak:d.Body.length<=1048576) (ao:Ig d.Body) (ad:dP d.Body 1=some d.Body.length) (a5: -1000000<=d.bW/\d.bW<=1000000) (q:Nat) (cl:q<d.Body.length):
  Cr d (q:Int)=some (d.bW+(iy d.Body q:Nat)):=by
 unfold Cr;have key:∀i,i<=q->∀(c:Int) m,-1000000<=c->c<=1000000+i->q-i<m->w7 d (q:Int) m c (i:Int)=some (c+(iy (d.Body.drop i) (q-i):Nat)):=by
  refine down q ?_ ?_
  .intro c m _ _ hm;obtain⟨m,rfl⟩:∃j,m=j+1:=⟨m-1,by omega⟩
   simp only[w7,Lr];rw[dX (Nat.le_refl _),Nat.sub_self,DX];simp
  .intro i al ih c m k_ jM hm;obtain⟨m,rfl⟩:∃j,m=j+1:=⟨m-1,by omega⟩
   simp only[w7,Lr];have lr:i<d.Body.length:=by omega
   rw[eI al,er _ i lr];simp only[cond_true,bind_some,Cq];obtain⟨e,oJ,Br,tA⟩:=xW ad lr;rw[Ea _ ak ao i e oJ,et i q al (by omega)];simp only[bind_some];have OW:iy (d.Body.drop i) (q-i)=(if d.Body[i].Kind=4/\q<i+e then 1 else 0)+iy (d.Body.drop (i+1)) (q-(i+1)):=by
    have DY:=oJ;rw[drop_cons _ i lr]at DY⊢;rw[show q-i=(q-(i+1))+1 by omega];simp only[iy,jw,DY];congr 1;by_cases ao:d.Body[i].Kind=4
    .by_cases ml:q<i+e
     .rw[if_pos ⟨ao,by simp;omega⟩,if_pos ⟨ao,ml⟩]
     .rw[if_neg (λh=>by simp at h;omega),if_neg (λh=>ml h.2)]
    .rw[if_neg (λh=>ao h.1),if_neg (λh=>ao h.1)]
   rw[OW];by_cases ao:d.Body[i].Kind=4
   .have mm:(d.Body[i].Kind==4)=true:=by simpa using ao
    rw[mm,cond_true];by_cases ml:q<i+e
    .rw[eI ml,cond_true,fl (c+1) (by omega),ih (c+1) m (by omega) (by omega) (by omega),if_pos ⟨ao,ml⟩];congr 1;omega
    .rw[dX (by omega),cond_false,ih c m k_ (by omega) (by omega),if_neg (λh=>ml h.2)];congr 1;omega
   .have mm:(d.Body[i].Kind==4)=false:=by simpa using ao
    rw[mm,cond_false,ih c m k_ (by omega) (by omega),if_neg (λh=>ao h.1)];congr 1;omega
 refine fO (q+1) λm hm=>?_;have:=key 0 (by omega) d.bW m (by omega) (by omega) (by omega);simpa using this
def Eb (cR P:Int) (t:aF):aF:=cond (t.Kind==1) (cond (decide (t.Value<cR)) ⟨1,i64.wrap (t.Value+1)⟩ ⟨1,i64.wrap ((i64.wrap (P+t.Value))-cR)⟩) t
def ke (cR P:Int) (e:arU):arU:=e.map (Eb cR P)
theorem Ih (cR P:Int) (e:arU):(ke cR P e).length=e.length:=by simp[ke]
theorem aok (e:arU) (h:e.length<=1048576):F7 e=some e:=by
 unfold F7;rw[h_ (by omega) (by omega)];rfl
theorem aol {α:Type} (v:List α) (i:Nat) (x:α) (h:a_ v (i:Int)=some x):v.set i x=v:=by
 have:=cu h;rw[Int.toNat_natCast]at this;obtain⟨ae,ag⟩:=List.getElem?_eq_some_iff.1 this;rw[<-ag];exact List.set_getElem_self ae
theorem Ii (e:arU) (cR P:Int) (h:e.length<=1048576):xa e cR P=some (ke cR P e):=by
 unfold xa;rw[aok e h,bind_some];refine aob (L:=w_ cR P) e (Eb cR P) some (λm v aE=>?_) (λi al m v aE bC=>?_)
 .simp only[w_,Lz];rw[dX (by omega)];rfl
 .simp only[w_,Lz,Cx];rw[eI (by omega),bC,et i e.length al (by omega)];simp only[cond_true,bind_some,Eb,Int.toNat_natCast];cases ao:e[i].Kind==1
  .have ee:(e[i].Kind !=1)=true:=by simp only[bne,ao,Bool.not_false]
   rw[ee,cond_true,cond_false,aol v i _ bC]
  .have ee:(e[i].Kind !=1)=false:=by simp only[bne,ao,Bool.not_true]
   have lk:e[i].Kind=1:=by simpa using ao
   rw[ee,cond_false,cond_true,lk];cases decide (e[i].Value<cR)<;>rfl
theorem aom (x:hS) (e:arU) (cR:Int) (h:e.length<=1048576):GF x e cR=some (ke cR x.out.bW e):=by
 unfold GF Mg;have:=Ar (L:=vo e cR x) e (Eb cR x.out.bW) 0 some (λm v aE=>?_) (λi al m v aE=>?_) [] (by simp)
 .rw[this];rfl
 .simp only[vo,Mf];rw[dX (Nat.le_refl _)];rfl
 .simp only[vo,Mf,xm,Me];rw[eI al,er _ i al,et i _ al (by omega)];simp only[cond_true,bind_some,Eb];have dT:∀x:aF,room 16 (v.length+[x].length)=some ():=λx=>h_ (by simp only[List.length_cons,List.length_nil];omega) (by simp only[List.length_cons,List.length_nil];omega);cases ao:e[i].Kind==1
  .simp only[cond_false,dT,bind_some]
  .cases Ai:decide (e[i].Value<cR)
   .simp only[cond_true,cond_false,bind_some,List.isEmpty_cons,dT]
   .simp only[cond_true,cond_false,bind_some,List.isEmpty_cons,dT,Int.add_comm]
theorem Ij (x:hS) (es:arO) (cR:Int) (h:Pc es):vp x es cR=some (es.map (ke cR x.out.bW)):=by
 unfold vp;obtain⟨hl,he⟩:=h;have:=Ar (L:=zy x es cR) es (ke cR x.out.bW) 0 some (λm v aE=>?_) (λi al m v aE=>?_) [] (by simp)
 .rw[this];rfl
 .simp only[zy,Mh];rw[dX (Nat.le_refl _)];rfl
 .simp only[zy,Mh];rw[eI al,er _ i al,et i _ al (by omega),h_ (by omega) (by omega)];simp only[cond_true,bind_some];rw[aom x _ cR (he _ (List.getElem_mem al))];rfl
def ov:arO->arU
 |[]=>[⟨0,1⟩]
 |[g]=>g
 |g::r=>⟨2,7⟩::(g++ov r)
theorem Pg (g:arU) (r:arO) (h:r≠[]):ov (g::r)=⟨2,7⟩::(g++ov r):=by
 cases r with
 |nil=>exact(h rfl).elim
 |cons x r=>rfl
theorem Ph:∀(gs:arO) (c:Nat),(∀g∈gs,g.length<=c)->(ov gs).length<=1+gs.length*(c+1)
 |[],c,_=>by simp[ov]
 |[g],c,h=>by have:=h g (by simp);simp only[ov,List.length_cons,List.length_nil];omega
 |g::x::r,c,h=>by
  have ae:=h g (by simp);have ag:=Ph (x::r) c λy bz=>h y (by simp[bz]);rw[Pg g (x::r) (by simp)];simp only[List.length_cons,List.length_append,Nat.add_mul]at ag⊢;omega
theorem aon (gs:arO) (hl:gs.length<=1000) (h:∀g∈gs,g.length<=1048576):F6 gs=some (ov gs):=by
 unfold F6;cases gs with
 |nil=>rfl
 |cons fM aj=>
 have a5:(((fM::aj).length:Int)==0)=false:=by simp;omega
 rw[a5,cond_false];generalize EN:fM::aj=gs at*;have key:∀i,i<=gs.length->∀(v:arU) m,v.length<=i*1048577->gs.length-i<m->i<gs.length->w9 gs m v (i:Int)=some (v++ov (gs.drop i)):=by
  refine down gs.length ?_ ?_
  .intro v m _ _ al;omega
  .intro i al ih v m aE hm _;obtain⟨m,rfl⟩:∃j,m=j+1:=⟨m-1,by omega⟩
   have bC:=h _ (List.getElem_mem al);simp only[w9,Ly,F5];rw[eI al,et i _ al (by omega),er _ i al];simp only[cond_true,bind_some];have hmul:i*1048577<=1000*1048577:=mul_le_mul_right _ (by omega);have dT:room 16 (v.length+1)=some ():=h_ (by omega) (by omega);have bb:room 16 (v.length+gs[i].length)=some ():=h_ (by omega) (by omega);have dt:room 16 ((v++[aF.mk 2 7]).length+gs[i].length)=some ():=h_ (by simp only[List.length_append,List.length_cons,List.length_nil];omega) (by simp only[List.length_append,List.length_cons,List.length_nil];omega);simp only[dT,bb,dt,bind_some];by_cases aZ:i+1<gs.length
   .rw[eI aZ,cond_true,ih _ m (by simp only[List.length_append,List.length_cons,List.length_nil,Nat.add_mul];omega) (by omega) aZ,drop_cons gs i al,Pg _ _ (by simp only[ne_eq,List.drop_eq_nil_iff];omega)];simp
   .rw[dX (by omega),cond_false,drop_cons gs i al,List.drop_of_length_le (by omega)];obtain⟨m,rfl⟩:∃j,m=j+1:=⟨m-1,by omega⟩
    simp only[w9,Ly];rw[dX (by omega)];simp[ov]
 refine fO (gs.length+2) λm hm=>?_;have:=key 0 (by omega) [] m (by simp) (by omega) (by rw[<-EN];simp);simpa using this
end Go.mc
