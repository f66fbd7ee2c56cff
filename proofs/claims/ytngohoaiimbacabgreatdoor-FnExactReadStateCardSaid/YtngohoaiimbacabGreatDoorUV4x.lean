/- Part of a proof that a law returns true for every input. No condition. -/
import Derived.Test.YtngohoaiimbacabGreatDoorUV3x
import Derived.Test.YtngohoaiimbacabGreatDoorUV0x
namespace Go.lV
open Option Go.IntKind Nat Or
open Go Go.c_
theorem PQ (e:ahL) (h:l4 e) (aI:jk e=true) (p:bY) (an:p.b5.length<=1048576) (aY:lF e p=true):
  ∃i:Nat,p.dd=(i:Int)/\i<e.length/\∃j:Nat,p.Part=(j:Int)/\j<=63/\p.b5.length<=29/\∀x∈p.b5,0<=x/\x<=63:=by
 have U:=(zm e h aI p an).1;rw[aY]at U;unfold rM j1 at U;rw[eb ((e.length:Int)-1) (by have:=h.1;omega)]at U;simp only[bind_some]at U;cases aq:(decide (0<=p.dd)&&decide (p.dd<=(e.length:Int)-1))
 .rw[aq]at U;cases U
 rw[aq]at U;simp only[Bool.and_eq_true,decide_eq_true_eq]at aq;obtain⟨i,CP⟩:∃i:Nat,p.dd=i:=⟨p.dd.toNat,by omega⟩
 have ak:i<e.length:=by omega
 have R:=(h.2 _ (List.getElem_mem ak)).2.1;rw[CP,fe e i ak]at U;simp only[Bool.not_true,cond_false,bind_some]at U;rw[eb ((e[i].Body.length:Int)-1) (by omega)]at U;cases b_:(decide (0<=p.Part)&&decide (p.Part<=(e[i].Body.length:Int)-1))
 .rw[b_]at U;cases U
 rw[b_]at U;simp only[Bool.and_eq_true,decide_eq_true_eq]at b_;obtain⟨j,CQ⟩:∃j:Nat,p.Part=j:=⟨p.Part.toNat,by omega⟩
 have bQ:j<e[i].Body.length:=by omega
 obtain⟨fA,_⟩:=PG h aI ak bQ;obtain⟨_,_,ae⟩:=IL h aI;obtain⟨afk,ky,_⟩:=ae i ak;obtain⟨_,_,fu⟩:=CN ky;obtain⟨_,po,s1,_⟩:=IJ e[i] ky afk j bQ;rw[CQ,fe e[i].Body j bQ]at U;simp only[Bool.not_true,cond_false,bind_some,fA,IM _ an]at U;cases PR:e[i].Body[j].Kind==5
 .rw[PR]at U;simp only[cond_false]at U;cases hl:((p.b5.length:Int)==(nm e[i] j).scope)
  .rw[hl]at U;cases U
  .rw[hl]at U;simp only[beq_iff_eq]at hl;have PS:v_ p.b5=true:=some.inj U;refine⟨i,CP,ak,j,CQ,by omega,by omega,λx ar=>?_⟩;simp only[v_,nk]at PS;obtain⟨k,aq,rfl⟩:=List.mem_iff_getElem.1 ar;have:=PS k aq;simp only[pZ,Bool.and_eq_true,decide_eq_true_eq,List.getD_eq_getElem?_getD,List.getElem?_eq_getElem aq,getD_some]at this;exact this
 .rw[PR]at U;cases U
def uc (e:ahL) (n:Int):bl:=e.getD n.toNat ⟨[],0,[]⟩
def lG (e:ahL) (p:bY):aht:=((uc e p.dd).Name++58::(l5 p.Part.toNat++58::nn p.b5))
theorem PT (s:dH) (h:l4 s.br) (ae:jk s.br=true) (q:ahO) (aI:∀p∈q,p.b5.length<=1048576) (aY:∀p∈q,lF s.br p=true):
  ∀p∈q,∃d:bl,bh s.br p.dd=some d/\uc s.br p.dd=d/\iP d.Name=true/\d.Name.length<=10/\∃j:Nat,p.Part=(j:Int)/\j<=63/\p.b5.length<=29/\∀x∈p.b5,0<=x/\x<=63:=by
 intro p an;obtain⟨i,ak,hl,j,bQ,ab,ad,aC⟩:=PQ s.br h ae p (aI p an) (aY p an);have aU:=((IL h ae).2.2 i hl).2.2.1;refine⟨s.br[i],by rw[ak,fe _ i hl],by rw[uc,ak,Int.toNat_natCast,List.getD_eq_getElem?_getD,List.getElem?_eq_getElem hl];rfl,aU,?_,j,bQ,ab,ad,aC⟩;simp only[iP,Bool.and_eq_true,decide_eq_true_eq]at aU;exact aU.1
theorem afl (s:dH) (h:l4 s.br) (ae:jk s.br=true) (q:ahO) (b_:q.length<=1048576) (aI:∀p∈q,p.b5.length<=1048576) (aY:∀p∈q,lF s.br p=true):
  BM s q=some (h8 (q.map (lG s.br)) [32]):=by
 have ok:∀n,n<=1099511627776->lH n=some ():=λn aU=>by unfold lH;rw[if_pos (by omega)]
 have facts:=PT s h ae q aI aY;have hw:∀p∈q,(lG s.br p).length<=120:=by
  intro p an;obtain⟨d,_,f2,_,f3,j,f4,f5,f6,f7⟩:=facts p an;have ab:=PH p.b5;have ad:=IA p.Part.toNat;simp only[lG,List.length_append,List.length_cons,f2];omega
 unfold BM;have bQ:strings_Join (q.map (lG s.br)) [32]=some (h8 (q.map (lG s.br)) [32]):=by
  unfold strings_Join;have:=CH 32 120 (q.map (lG s.br)) λx ar=>by
   obtain⟨y,hy,rfl⟩:=List.mem_map.1 ar;exact hw y hy
  rw[List.length_map]at this;rw[if_pos ⟨by rw[List.length_map];omega,by omega⟩]
 have key:∀i,i<=q.length->∀(v:nq) m,v.length=i->q.length-i<m->vt s q m v (i:Int)=(strings_Join (v++(q.drop i).map (lG s.br)) [32]).bind λa6=>some a6:=by
  refine down q.length ?_ ?_
  .intro v m mX hm;obtain⟨m,rfl⟩:∃j,m=j+1:=⟨m-1,by omega⟩
   simp only[vt,GH];rw[ez (Nat.le_refl _),List.drop_of_length_le (Nat.le_refl _),List.map_nil,List.append_nil];rfl
  .intro i ak ih v m mX hm;obtain⟨m,rfl⟩:∃j,m=j+1:=⟨m-1,by omega⟩
   obtain⟨d,f1,f2,_,f3,j,f4,f5,f6,f7⟩:=facts _ (List.getElem_mem ak);have ab:=PH q[i].b5;have ad:=IA j;have aP:lG s.br q[i]=(d.Name++58::(l5 j++58::nn q[i].b5)):=by
    simp only[lG,f2,f4,Int.toNat_natCast]
   simp only[vt,GH,GG];rw[e4 ak,fe _ i ak,e1 i _ ak (by omega)];simp only[cond_true,bind_some,f1];rw[ok _ (by omega),f4,O4 j (by omega),aeZ _ (by omega) f7];simp only[bind_some];rw[ok _ (by omega),ok _ (by simp only[List.length_append,List.length_cons,List.length_nil];omega)];simp only[bind_some];rw[ok _ (by simp only[List.length_append,List.length_cons,List.length_nil];omega),tR (by omega) (by omega)];simp only[bind_some];have aT:(d.Name++[58])++((l5 j++[58])++nn q[i].b5)=lG s.br q[i]:=by rw[aP];simp only[List.append_assoc,List.singleton_append]
   rw[aT,ih (v++[_]) m (by simp[mX]) (by omega),drop_cons q i ak,List.map_cons,List.append_assoc];rfl
 refine hi (q.length+1) λm hm=>?_;have:=key 0 (by omega) [] m rfl (by omega);rw[List.drop_zero,List.nil_append,bQ]at this;exact this
theorem afm (b:UInt8) (l:nq) (n:Nat) (h:∀w∈l,w.length<=n) (hl:l≠[]):∀w∈glue [b] l,w.length<=n+1:=by
 cases l with
 |nil=>exact(hl rfl).elim
 |cons x r=>
  intro w hw;rcases List.mem_cons.1 hw with rfl|hw
  .have:=h x (by simp);simp only[List.length_append,List.length_cons,List.length_nil];omega
  .have:=h w (by simp[hw]);omega
theorem wa (c:UInt8):∀s,∀w∈ek c s,w.length<=s.length
 |[],w,h=>by simp only[ek,List.mem_singleton]at h;subst h;simp
 |x::r,w,h=>by
  simp only[ek]at h;rw[List.length_cons];split at h
  .rcases List.mem_cons.1 h with rfl|h
   .simp
   .have:=wa c r w h;omega
  .exact afm x _ _ (wa c r) (pX c r) w h
def np (ws:nq):Bool:=ws.all λw=>(fi w).2
def jA (ws:nq):ahv:=ws.map λw=>(fi w).1
def n7 (x:Int):Bool:=decide (-1000000000000<=x)&&decide (x<=1000000000000)
def ix (l:aht):Option ahv:=
 if l=[45]then some []else
 if(ek 44 l).length<=64/\np (ek 44 l)=true/\(jA (ek 44 l)).all n7=true then some (jA (ek 44 l))else none
theorem afn (ws:nq) (h:ws.length<=1048577):BD ws=some (if np ws=true then(jA ws,true)else([],false)):=by
 have key:∀i,i<=ws.length->∀m,ws.length-i<m->∀v:ahv,v.length=i->
   vp ws m v (i:Int)=some (if np (ws.drop i)=true then(v++jA (ws.drop i),true)else([],false)):=by
  refine down ws.length ?_ ?_
  .intro m hm v aI;obtain⟨m,rfl⟩:∃j,m=j+1:=⟨m-1,by omega⟩
   simp only[vp,Gz];rw[ez (Nat.le_refl _),List.drop_length];simp[np,jA]
  .intro i ak ih m hm v aI;obtain⟨m,rfl⟩:∃j,m=j+1:=⟨m-1,by omega⟩
   simp only[vp,Gz,vo];rw[e4 ak,cond_true,fe ws i ak,bind_some,bind_some,drop_cons ws i ak];simp only[np,jA,List.all_cons,List.map_cons];cases ae:(fi ws[i]).2
   .simp
   .simp only[Bool.not_true,cond_false,Bool.true_and];rw[tR (by omega) (by omega),bind_some,e1 i _ ak (by omega),ih m (by omega) _ (by simp[aI])];simp[np,jA]
 unfold BD;refine hi (ws.length+1) λm hm=>?_;have:=key 0 (by omega) m (by omega) [] rfl;simpa using this
theorem afo (a:ahv) (h:a.length<=1048577):tt a=some (decide (a.length<=64)&&a.all n7):=by
 unfold tt BG BF;by_cases hl:a.length<=64
 .have e:decide ((a.length:Int)<=64)=true:=by simp;omega
  rw[e,cond_true,decide_eq_true hl];have:=pW (n:=a.length) (l:=qC a) (λi=> !(n7 (a.getD i 0))) (λm=>?_) (λi ak m=>?_)
  .rw[this];simp only[bind_some,qQ,Bool.not_not];have:eY (λi=>n7 (a.getD i 0)) a.length=a.all n7:=by
    rw[Bool.eq_iff_iff,nk,List.all_eq_true];constructor
    .intro gy x ar;obtain⟨k,aq,rfl⟩:=List.mem_iff_getElem.1 ar;have:=gy k aq;simpa [List.getD,aq]using this
    .intro gy k aq;have:=gy _ (List.getElem_mem aq);simpa [List.getD,aq]using this
   rw[this,Bool.true_and]
  .simp only[qC,yt];rw[ez (Nat.le_refl _)];rfl
  .simp only[qC,yt,BE,iw];rw[e4 ak,fe _ i ak,e1 i _ ak (by omega)];have:a.getD i 0=a[i]:=by simp[List.getD,ak]
   simp only[cond_true,bind_some,this,n7]
 .have e:decide ((a.length:Int)<=64)=false:=by simp;omega
  rw[e,cond_false,decide_eq_false hl];rfl
theorem afp (l:aht) (h:l.length<=1048576):BH l=some (match ix l with|some v=>(v,true)|none=>([],false)):=by
 unfold BH ix;by_cases ab:l=[45]
 .subst ab;rfl
 .have e:(l==[45])=false:=by simpa using ab
  have ai:=zb 44 l;have r9:l.count 44<=l.length:=List.count_le_length;rw[e,cond_false,if_neg ab,OQ 44 l h,bind_some,afn _ (by omega),bind_some];cases aU:np (ek 44 l)
  .simp
  .simp only[if_true,Bool.not_true,cond_false,true_and];rw[afo _ (by simp only[jA,List.length_map];omega),bind_some];have hl:(jA (ek 44 l)).length=(ek 44 l).length:=by simp[jA]
   rw[hl];by_cases ad:(ek 44 l).length<=64
   .rw[decide_eq_true ad,Bool.true_and];cases aC:(jA (ek 44 l)).all n7
    .simp
    .simp[ad]
   .rw[decide_eq_false ad,Bool.false_and];simp[ad]
theorem afq (l:aht) (h:l.length<=1048576):Bb l=some (match ix l with|some v=>(v,true)|none=>([],false)):=by
 unfold Bb ix;by_cases ab:l=[45]
 .subst ab;rfl
 .have e:(l==[45])=false:=by simpa using ab
  have ai:=zb 44 l;have r9:l.count 44<=l.length:=List.count_le_length;rw[e,cond_false,if_neg ab,Is 44 l h,bind_some];by_cases ad:(ek 44 l).length<=64
  .rw[show decide ((64:Int)<((ek 44 l).length:Int))=false from by simp;omega,cond_false];have PU:∀w∈ek 44 l,w.length<=1048576:=λw hw=>Nat.le_trans (wa 44 l w hw) h;generalize ek 44 l=ws at ad PU;have key:∀i,i<=ws.length->∀m,ws.length-i<m->∀v:ahv,v.length=i->
     tj ws m v (i:Int)=some (if np (ws.drop i)=true/\(jA (ws.drop i)).all n7=true then(v++jA (ws.drop i),true)else([],false)):=by
    refine down ws.length ?_ ?_
    .intro m hm v aI;obtain⟨m,rfl⟩:∃j,m=j+1:=⟨m-1,by omega⟩
     simp only[tj,FV];rw[ez (Nat.le_refl _),List.drop_length];simp[np,jA]
    .intro i ak ih m hm v aI;obtain⟨m,rfl⟩:∃j,m=j+1:=⟨m-1,by omega⟩
     simp only[tj,FV];rw[e4 ak,cond_true,fe ws i ak,bind_some,OV _ (PU _ (List.getElem_mem ak)),bind_some,drop_cons ws i ak];simp only[np,jA,List.all_cons,List.map_cons];cases ae:(fi ws[i]).2
     .simp
     .simp only[Bool.not_true,cond_false,Bool.true_and,j1,bind_some];cases aq:(decide (-1000000000000<=(fi ws[i]).1)&&decide ((fi ws[i]).1<=1000000000000))
      .simp[n7,aq]
      .simp only[Bool.not_true,cond_false];rw[tR (by omega) (by omega),bind_some,e1 i _ ak (by omega),ih m (by omega) _ (by simp[aI])];simp[np,jA,n7,aq]
   have aq:ca (λn=>tj ws n [] 0)=some (if np (ws.drop 0)=true/\(jA (ws.drop 0)).all n7=true then([]++jA (ws.drop 0),true)else([],false)):=
    hi (ws.length+1) λm hm=>key 0 (by omega) m (by omega) [] rfl
   rw[aq];simp only[List.drop_zero,List.nil_append];by_cases aC:np ws=true/\(jA ws).all n7=true
   .rw[if_pos aC,if_pos ⟨ad,aC⟩]
   .rw[if_neg aC,if_neg λh=>aC h.2]
  .rw[show decide ((64:Int)<((ek 44 l).length:Int))=true from by simp;omega,cond_true,if_neg λh=>ad h.1]
theorem PV (p:Nat->Bool):∀k i,ik p i (k+1)=if ik p i k= -1 then(if p (i+k)=true then((i+k:Nat):Int)else-1)else ik p i k
 |0,i=>by simp[ik]
 |k+1,i=>by
  rw[ik];by_cases h:p i=true
  .rw[if_pos h,ik,if_pos h,if_neg (by omega)]
  .rw[if_neg h,PV p k (i+1),show ik p i (k+1)=ik p (i+1) k by rw[ik,if_neg h],show i+1+k=i+(k+1) by omega]
theorem PW (p:Nat->Bool):∀k i,ik p i k≠-1->∃j:Nat,ik p i k=(j:Int)/\i<=j/\j<i+k/\p j=true
 |0,i,h=>(h rfl).elim
 |k+1,i,h=>by
  rw[ik]at h⊢;by_cases an:p i=true
  .rw[if_pos an];exact⟨i,rfl,Nat.le_refl _,by omega,an⟩
  .rw[if_neg an]at h⊢;obtain⟨j,ab,ad,aC,aW⟩:=PW p k (i+1) h;exact⟨j,ab,by omega,by omega,aW⟩
theorem afr {e:ahL} (aI:jk e=true) {i j:Nat} (ak:i<e.length) (bQ:j<i):gH e j≠gH e i:=by
 unfold jk at aI;rw[Bool.and_eq_true,Bool.and_eq_true,Bool.and_eq_true,p3,Bool.and_eq_true]at aI;have h:=nk.1 aI.1.2.2 i ak;unfold n2 at h;have:=nk.1 h j bQ;simpa using this
def k_ (e:ahL) (n:aht):Int:=ik (λi=>gH e i==n) 0 e.length
theorem afs (e:ahL) (n:aht) (h:e.length<=1048576):tk e n=some (k_ e n):=by
 unfold tk Bj;rw[pW (n:=e.length) (l:=rQ e n) (λi=>gH e i==n) (λm=>?_) (λi ak m=>?_)]
 .rfl
 .simp only[rQ,x_];rw[ez (Nat.le_refl _)];rfl
 .simp only[rQ,x_,Bi];rw[e4 ak,fe _ i ak,e1 i _ ak (by omega),gH,n1 ak];rfl
noncomputable def iR (e:ahL) (w:aht):Option bY:=
 match ek 58 w with
 |[n,p,l]=>if(fi p).2=true then(ix l).map λv=>⟨k_ e n,(fi p).1,v⟩else none
 |_=>none
noncomputable def mn (e:ahL) (w:aht):Bool:=match iR e w with
 |some p=>lF e p
 |none=>false
theorem IQ {e:ahL} {w:aht} (h:(ek 58 w).length≠3):iR e w=none:=by
 unfold iR;split
 .rename_i ad;rw[ad]at h;exact(h rfl).elim
 .rfl
theorem three {α:Type} {l:List α} (h:l.length=3):∃a b c,l=[a,b,c]:=by
 match l,h with
 |[a,b,c],_=>exact⟨a,b,c,rfl⟩
theorem IU {l:aht} {v:ahv} (h:ix l=some v):v.length<=64:=by
 unfold ix at h;split at h
 .cases h;simp
 .split at h
  .rename_i ai;cases h;simp only[jA,List.length_map];exact ai.1
  .cases h
theorem aft (s:dH) (h:l4 s.br) (ae:jk s.br=true) (w:aht) (hw:w.length<=1048576):
  ∃p,Be s w=some (p,mn s.br w)/\(mn s.br w=true->iR s.br w=some p):=by
 unfold Be;rw[Is 58 w hw,bind_some];by_cases aC:(ek 58 w).length=3
 .have hm:=wa 58 w;obtain⟨n,pp,gI,e⟩:=three aC;rw[e]at hm;have fy:pp.length<=1048576:=Nat.le_trans (hm pp (by simp)) hw;have vR:gI.length<=1048576:=Nat.le_trans (hm gI (by simp)) hw;have aH:iR s.br w=if(fi pp).2=true then(ix gI).map λv=>⟨k_ s.br n,(fi pp).1,v⟩else none:=by
   unfold iR;rw[e]
  have zJ:=h.1;rw[e,show(([n,pp,gI].length:Int) !=3)=false from rfl,cond_false];have key:∀i,i<=s.br.length->∀m,s.br.length-i<m->
    rN s [n,pp,gI] m (ik (λi=>gH s.br i==n) 0 i) (i:Int)=
    (rM s.br (bY.mk (k_ s.br n) (fi pp).1 ((ix gI).getD []))).bind λb=>cond (fi pp).2 (cond (ix gI).isSome (some ((bY.mk (k_ s.br n) (fi pp).1 ((ix gI).getD [])),b)) (some ((bY.mk (k_ s.br n) (fi pp).1 ((ix gI).getD [])),false))) (some ((bY.mk (k_ s.br n) (fi pp).1 ((ix gI).getD [])),false)):=by
   refine down s.br.length ?_ ?_
   .intro m hm;obtain⟨m,rfl⟩:∃j,m=j+1:=⟨m-1,by omega⟩
    simp only[rN,FX];rw[ez (Nat.le_refl _),cond_false,show bh [n,pp,gI] 1=some pp from rfl,show bh [n,pp,gI] 2=some gI from rfl,bind_some,OV _ fy,bind_some,bind_some,afq _ vR,bind_some];have pv:(⟨k_ s.br n,(fi pp).1,(ix gI).getD []⟩:bY).b5.length<=1048576:=by
     show((ix gI).getD []).length<=1048576;cases b_:ix gI with
     |none=>simp
     |some v=>have:=IU b_;simp only[getD_some];omega
    rw[(zm s.br h ae _ pv).1,bind_some];cases b_:ix gI with
    |none=>cases(fi pp).2<;>rfl
    |some v=>
     rw[b_]at pv;cases R:(fi pp).2
     .rfl
     .simp only[cond_true,getD_some,isSome_some];rw[show ik (λi=>gH s.br i==n) 0 s.br.length=k_ s.br n from rfl,(zm s.br h ae ⟨k_ s.br n,(fi pp).1,v⟩ pv).1];rfl
   .intro i ak ih m hm;obtain⟨m,rfl⟩:∃j,m=j+1:=⟨m-1,by omega⟩
    have ih:=ih m (by omega);rw[PV]at ih;simp only[rN,FX,Bc];rw[e4 ak,cond_true,fe _ i ak,e1 i _ ak (by omega),show bh [n,pp,gI] 0=some n from rfl,bind_some,bind_some];have aU:gH s.br i=s.br[i].Name:=by rw[gH,n1 ak]
    rw[<-aU];rw[Nat.zero_add]at ih;cases ai:gH s.br i==n
    .rw[ai]at ih;rw[cond_false,<-ih];congr 1;split
     .rename_i bu;rw[bu];rfl
     .rfl
    .rw[ai]at ih;have jC:ik (λi=>gH s.br i==n) 0 i= -1:=Il i 0 λj _ bQ=>by
      have cy:=afr ae ak (show j<i by omega);have cl:gH s.br i=n:=by simpa using ai
      simp only[beq_eq_false_iff_ne,ne_eq];intro fM;exact cy (fM.trans cl.symm)
     rw[jC,if_pos rfl,if_pos rfl]at ih;rw[cond_true];exact ih
  have aq:=hi (f:=λm=>rN s [n,pp,gI] m (-1) 0) (s.br.length+1) λm hm=>key 0 (by omega) m (by omega);rw[aq];have pv:(⟨k_ s.br n,(fi pp).1,(ix gI).getD []⟩:bY).b5.length<=1048576:=by
   show((ix gI).getD []).length<=1048576;cases b_:ix gI with
   |none=>simp
   |some v=>have:=IU b_;simp only[getD_some];omega
  rw[(zm s.br h ae _ pv).1,bind_some];refine⟨⟨k_ s.br n,(fi pp).1,(ix gI).getD []⟩,?_⟩;unfold mn;rw[aH];cases R:(fi pp).2
  .exact⟨rfl,λh=>by cases h⟩
  .cases b_:ix gI with
   |none=>exact⟨rfl,λh=>by cases h⟩
   |some v=>exact⟨rfl,λ_=>rfl⟩
 .have e:(((ek 58 w).length:Int) !=3)=true:=by simp;omega
  rw[e,cond_true];unfold mn;rw[IQ aC];exact⟨_,rfl,λh=>by cases h⟩
def il {α β:Type} (g:α->Option β):List α->Option (List β)
 |[]=>some []
 |x::l=>(g x).bind λy=>(il g l).map (y::·)
theorem IV {α β:Type} (g:α->Option β):∀(l:List α) (bm:List β),il g l=some bm->bm.length=l.length
 |[],bm,h=>by cases h;rfl
 |x::l,bm,h=>by
  simp only[il,bind_eq_some_iff,map_eq_some_iff]at h;obtain⟨y,_,dn,bR,rfl⟩:=h;simp[IV g l dn bR]
theorem CT {α β:Type} (g:α->Option β):∀(l:List α) (bm:List β),il g l=some bm->(∀x∈l,∃y∈bm,g x=some y)/\∀y∈bm,∃x∈l,g x=some y
 |[],bm,h=>by cases h;simp
 |x::l,bm,h=>by
  simp only[il,bind_eq_some_iff,map_eq_some_iff]at h;obtain⟨y,hy,dn,bR,rfl⟩:=h;obtain⟨ab,ad⟩:=CT g l dn bR;constructor
  .intro cf o9;rcases List.mem_cons.1 o9 with rfl|o9
   .exact⟨y,by simp,hy⟩
   .obtain⟨jD,aC,aW⟩:=ab cf o9;exact⟨jD,by simp[aC],aW⟩
  .intro jD n_;rcases List.mem_cons.1 n_ with rfl|n_
   .exact⟨x,by simp,hy⟩
   .obtain⟨cf,aC,aW⟩:=ad jD n_;exact⟨cf,by simp[aC],aW⟩
theorem PX {α β:Type} (g:α->Option β) (f:β->α) (bd:∀x y,g x=some y->f y=x):∀(l:List α) (bm:List β),il g l=some bm->bm.map f=l
 |[],bm,h=>by cases h;rfl
 |x::l,bm,h=>by
  simp only[il,bind_eq_some_iff,map_eq_some_iff]at h;obtain⟨y,hy,dn,bR,rfl⟩:=h;rw[List.map_cons,bd x y hy,PX g f bd l dn bR]
theorem IW {α β:Type} (g uV:α->Option β):∀(l:List α) (bm:List β),(∀y∈bm,∀x∈l,g x=some y->uV x=some y)->il g l=some bm->il uV l=some bm
 |[],bm,_,h=>by cases h;rfl
 |x::l,bm,hg,h=>by
  simp only[il,bind_eq_some_iff,map_eq_some_iff]at h;obtain⟨y,hy,dn,bR,rfl⟩:=h;rw[il,hg y (by simp) x (by simp) hy,bind_some,IW g uV l dn (λjD ab cf ad=>hg jD (by simp[ab]) cf (by simp[ad])) bR];rfl
noncomputable def wb (s:dH) (t:aht) (v:ahO):Option (ahO×Bool):=
 (yx s v).bind λx=>cond ((!(x==t))||(t==[])) (some ([],false)) (some (v,true))
theorem afu (s:dH) (h:s.br.length<=1048576) (t:aht) (W:nq) (hl:W.length<=1048577) (pU:∀w∈W,w.length<=1048576):
  ca (λn=>tv s t W n [] 0)=match il (iR s.br) W with|some bm=>wb s t bm|none=>some ([],false):=by
 have key:∀i,i<=W.length->∀m,W.length-i<m->∀v:ahO,v.length=i->
   tv s t W m v (i:Int)=match il (iR s.br) (W.drop i)with|some bm=>wb s t (v++bm)|none=>some ([],false):=by
  refine down W.length ?_ ?_
  .intro m hm v aI;obtain⟨m,rfl⟩:∃j,m=j+1:=⟨m-1,by omega⟩
   simp only[tv,GI];rw[ez (Nat.le_refl _),List.drop_length];simp only[cond_false,il,List.append_nil];rfl
  .intro i ak ih m hm v aI;obtain⟨m,rfl⟩:∃j,m=j+1:=⟨m-1,by omega⟩
   have CU:=pU _ (List.getElem_mem ak);simp only[tv,GI];rw[e4 ak,cond_true,fe W i ak,bind_some,OQ 58 _ CU,bind_some,drop_cons W i ak,il];by_cases aC:(ek 58 W[i]).length=3
   .have hm:=wa 58 W[i];obtain⟨n,pp,gI,e⟩:=three aC;rw[e]at hm;have vR:gI.length<=1048576:=Nat.le_trans (hm gI (by simp)) CU;have aH:iR s.br W[i]=if(fi pp).2=true then(ix gI).map λv=>⟨k_ s.br n,(fi pp).1,v⟩else none:=by
     unfold iR;rw[e]
    rw[e,show(([n,pp,gI].length:Int) !=3)=false from rfl,cond_false,show bh [n,pp,gI] 1=some pp from rfl,show bh [n,pp,gI] 2=some gI from rfl,show bh [n,pp,gI] 0=some n from rfl,aH];simp only[bind_some,vo,afp _ vR,afs _ _ h];cases R:(fi pp).2
    .simp
    .cases b_:ix gI with
     |none=>simp
     |some vs=>
      simp only[Bool.not_true,Bool.or_self,cond_false,if_true,map_some,bind_some];rw[tR (by omega) (by omega),bind_some,e1 i _ ak (by omega),ih m (by omega) _ (by simp[aI])];cases il (iR s.br) (W.drop (i+1))<;>simp
   .have e:(((ek 58 W[i]).length:Int) !=3)=true:=by simp;omega
    rw[e,cond_true,IQ aC];rfl
 exact hi (W.length+1) λm hm=>key 0 (by omega) m (by omega) [] rfl
theorem PY (s:dH) (h:l4 s.br) (ae:jk s.br=true) (W:nq) (hl:W.length<=1048577) (pU:∀w∈W,w.length<=1048576):
  ca (λn=>rO s W n [] 0)=match il (λw=>if mn s.br w=true then iR s.br w else none) W with|some bm=>some (bm,true)|none=>some ([],false):=by
 have key:∀i,i<=W.length->∀m,W.length-i<m->∀v:ahO,v.length=i->
   rO s W m v (i:Int)=match il (λw=>if mn s.br w=true then iR s.br w else none) (W.drop i)with|some bm=>some (v++bm,true)|none=>some ([],false):=by
  refine down W.length ?_ ?_
  .intro m hm v aI;obtain⟨m,rfl⟩:∃j,m=j+1:=⟨m-1,by omega⟩
   simp only[rO,FY];rw[ez (Nat.le_refl _),List.drop_length];simp only[cond_false,il,List.append_nil]
  .intro i ak ih m hm v aI;obtain⟨m,rfl⟩:∃j,m=j+1:=⟨m-1,by omega⟩
   have CU:=pU _ (List.getElem_mem ak);simp only[rO,FY];obtain⟨p,fl,gJ⟩:=aft s h ae W[i] CU;rw[e4 ak,cond_true,fe W i ak,bind_some,fl,bind_some,drop_cons W i ak,il];cases R:mn s.br W[i]
   .simp
   .simp only[Bool.not_true,cond_false,if_true];rw[gJ R,bind_some,tR (by omega) (by omega),bind_some,e1 i _ ak (by omega),ih m (by omega) _ (by simp[aI])];cases il (λw=>if mn s.br w=true then iR s.br w else none) (W.drop (i+1))<;>simp
 exact hi (W.length+1) λm hm=>key 0 (by omega) m (by omega) [] rfl
def o0 (w:aht):Bool:= !(w==[])
theorem IX:∀(t c:aht),k3 c t=(glue c (ek 32 t)).filter o0
 |[],c=>by
  simp only[k3,ek,glue,List.append_nil];by_cases h:c=[]
  .subst h;rfl
  .rw[if_neg h];simp[h,o0]
 |b::t,c=>by
  simp only[k3,ek];by_cases R:b=32
  .rw[if_pos R,if_pos R];simp only[glue,List.append_nil];have aV:=IX t [];rw[CF (pX 32 t)]at aV;by_cases h:c=[]
   .subst h;rw[if_pos rfl,aV];rfl
   .rw[if_neg h,aV,List.filter_cons];simp[h,o0]
  .rw[if_neg R,if_neg R,IX t (c++[b]),OK]
theorem afv (t:aht) (h:t.length<=1048576):BB t=some ((ek 32 t).filter o0):=by
 unfold BB strings_FieldsFunc;rw[if_pos (by omega),bind_some,IX,CF (pX 32 t)]
theorem PZ (c:UInt8):∀l:nq,l≠[]->(∀w∈l,c∉w)->ek c (h8 l [c])=l
 |[],h,_=>(h rfl).elim
 |[x],_,ai=>by rw[join_one];exact Iq c x (ai x (by simp))
 |x::y::r,_,ai=>by
  rw[join_cons,List.singleton_append,Ir c x _ (ai x (by simp)),PZ c (y::r) (by simp) λw hw=>ai w (by simp[hw])]
theorem afw {n:aht} (h:iP n=true):∀c∈n,48<=c.toNat:=by
 unfold iP at h;rw[Bool.and_eq_true]at h;have ad:=h.2;cases n with
 |nil=>intro c ai;cases ai
 |cons a r=>
  simp only[Bool.and_eq_true,List.all_eq_true,Bool.or_eq_true]at ad;have sm:∀c:UInt8,small c=true->48<=c.toNat:=λc ai=>by
   simp only[small,Bool.and_eq_true,decide_eq_true_eq]at ai;omega
  have dg:∀c:UInt8,digit c=true->48<=c.toNat:=λc ai=>by
   simp only[digit,Bool.and_eq_true,decide_eq_true_eq]at ai;omega
  intro c ai;rcases List.mem_cons.1 ai with rfl|ai
  .exact sm _ ad.1
  .rcases ad.2 c ai with aC|aC
   .exact sm _ aC
   .exact dg _ aC
theorem afx:∀n:Fin 100,∀c∈l5 n.val,48<=c.toNat:=by decide
theorem P0 {n:Nat} (h:n<100):∀c∈l5 n,48<=c.toNat:=afx ⟨n,h⟩
theorem P1 {c x:UInt8}:∀l:nq,x∈h8 l [c]->x=c\/∃w∈l,x∈w
 |[],h=>by simp[h8,List.intercalate,List.intersperse]at h
 |[y],h=>by rw[join_one]at h;exact .inr ⟨y,by simp,h⟩
 |y::z::r,h=>by
  rw[join_cons,List.singleton_append,List.mem_append,List.mem_cons]at h;rcases h with h|h|h
  .exact .inr ⟨y,by simp,h⟩
  .exact .inl h
  .rcases P1 (z::r) h with h|⟨w,hw,ar⟩
   .exact .inl h
   .exact .inr ⟨w,by simp[hw],ar⟩
theorem afy {v:ahv} (h:∀x∈v,0<=x/\x<=63):∀c∈nn v,44<=c.toNat:=by
 intro c ai;unfold nn at ai;split at ai
 .simp only[List.mem_singleton]at ai;subst ai;decide
 .rcases P1 _ ai with ab|⟨w,hw,ar⟩
  .subst ab;decide
  .obtain⟨y,hy,rfl⟩:=List.mem_map.1 hw;have:=h y hy;have:=P0 (n:=y.toNat) (by omega) c ar;omega
theorem afz {e:ahL} {p:bY} (bd:∃d:bl,bh e p.dd=some d/\uc e p.dd=d/\iP d.Name=true/\d.Name.length<=10/\∃j:Nat,p.Part=(j:Int)/\j<=63/\p.b5.length<=29/\∀x∈p.b5,0<=x/\x<=63):
  32∉lG e p:=by
 obtain⟨d,_,f2,f3,_,j,f4,f5,_,f7⟩:=bd;intro hm;unfold lG at hm;rw[f2,f4,Int.toNat_natCast]at hm;simp only[List.mem_append,List.mem_cons]at hm;have t:(32:UInt8).toNat=32:=rfl;rcases hm with h|h|h|h|h
 .have:=afw f3 _ h;rw[t]at this;omega
 .cases h
 .have:=P0 (n:=j) (by omega) _ h;rw[t]at this;omega
 .cases h
 .have:=afy f7 _ h;rw[t]at this;omega
theorem afA {l:aht} {v:ahv} (h:ix l=some v) (aI:∀x∈v,0<=x/\x<=63):nn v=l:=by
 unfold ix at h;split at h
 .rename_i ab;cases h;rw[ab];rfl
 .split at h
  .rename_i ai;cases h;obtain⟨_,ad,_⟩:=ai;have cO:jA (ek 44 l)≠[]:=λe=>pX 44 l (List.map_eq_nil_iff.1 e);unfold nn;rw[if_neg cO];have:(jA (ek 44 l)).map pY=ek 44 l:=by
    unfold jA at aI⊢;rw[List.map_map];refine(List.map_congr_left λw hw=>?_).trans (List.map_id _);have aC:=List.all_eq_true.1 ad w hw;have aW:=aI _ (List.mem_map.2 ⟨w,hw,rfl⟩);exact(OW (w:=w) (v:=(fi w).1) (by rw[<-aC]) aW.1 aW.2).symm
   rw[this,CG]
  .cases h
theorem afB {s:dH} (h:l4 s.br) (ae:jk s.br=true) {w:aht} {p:bY} (aH:iR s.br w=some p) (an:lF s.br p=true) (aI:p.b5.length<=1048576):lG s.br p=w:=by
 obtain⟨i,ak,hl,j,bQ,ab,ad,aC⟩:=PQ s.br h ae p aI an;have zn:=CG 58 w;unfold iR at aH;split at aH
 .rename_i n pp gI e;split at aH
  .rename_i R;obtain⟨v,b_,hm⟩:=map_eq_some_iff.1 aH;subst hm;rw[e,join_cons,join_cons,join_one]at zn;have aP:uc s.br (k_ s.br n)=s.br[i]:=by
    have ak:k_ s.br n=(i:Int):=ak;rw[uc,ak,Int.toNat_natCast,List.getD_eq_getElem?_getD,List.getElem?_eq_getElem hl];rfl
   have aT:s.br[i].Name=n:=by
    have ak:k_ s.br n=(i:Int):=ak;unfold k_ at ak;obtain⟨k,bN,_,cc,eB⟩:=PW _ _ _ (show ik (λi=>gH s.br i==n) 0 s.br.length≠-1 by rw[ak];omega);rw[ak]at bN;obtain rfl:i=k:=by omega
    have:gH s.br i=n:=by simpa using eB
    rw[gH,n1 hl]at this;exact this
   have bQ:(fi pp).1=(j:Int):=bQ;have aR:pp=l5 j:=by
    have:=OW (w:=pp) (v:=(fi pp).1) (by rw[<-R]) (by omega) (by omega);rw[bQ,Int.toNat_natCast]at this;exact this
   have b4:nn v=gI:=afA b_ aC;rw[<-zn];show(uc s.br (k_ s.br n)).Name++58::(l5 (fi pp).1.toNat++58::nn v)=_;rw[aP,aT,bQ,Int.toNat_natCast,b4,<-aR];simp only[List.singleton_append]
  .cases aH
 .cases aH
theorem P2 {e:ahL} {w:aht} {p:bY} (h:iR e w=some p):p.b5.length<=64:=by
 unfold iR at h;split at h
 .split at h
  .obtain⟨v,b_,hm⟩:=map_eq_some_iff.1 h;subst hm;exact IU b_
  .cases h
 .cases h
theorem P3 {s:dH} (h:(n4 s==0)=true):qY s=true:=by
 unfold n4 at h;cases ab:jk s.br<;>cases ad:qY s<;>simp[ab,ad]at h⊢
theorem P4:∀bm:ahO,(∀p∈bm,p.b5.length<=64)->c8 lE bm<=bm.length*65
 |[],_=>by simp[c8,gf]
 |p::bm,h=>by
  have ab:=P4 bm λq b_=>h q (by simp[b_]);have ad:=h p (by simp);simp only[c8,gf,List.length_cons,lE]at ab⊢;omega
theorem P5 {s:dH} {q:ahO}:eY (λi=>lF s.br (n5 q i)) q.length=true↔∀p∈q,lF s.br p=true:=by
 rw[nk];constructor
 .intro bM p an;obtain⟨k,aq,rfl⟩:=List.mem_iff_getElem.1 an;have:=bM k aq
  rwa [show n5 q k=q[k] by simp[n5,List.getD,aq]]at this
 .intro bM k aq;rw[show n5 q k=q[k] by simp[n5,List.getD,aq]];exact bM _ (List.getElem_mem aq)
theorem P6 (s:dH) (h:sd s) (bd:(n4 s==0)=true) (q:ahO) (b_:q.length<=1048577) (aI:∀p∈q,p.b5.length<=64):
  ∃x,yx s q=some x/\((x=[]/\¬(q.length=s.cw.length/\∀p∈q,lF s.br p=true))\/(x=h8 (q.map (lG s.br)) [32]/\q.length=s.cw.length/\∀p∈q,lF s.br p=true)):=by
 have ae:=PO bd;have ai:=P3 bd;unfold qY at ai;simp only[Bool.and_eq_true,decide_eq_true_eq]at ai;unfold yx GD;rw[PN _ h,bind_some,bd,cond_true];by_cases hl:q.length=s.cw.length
 .have e:((q.length:Int)==(s.cw.length:Int))=true:=by simp;omega
  have qW:∀p∈q,p.b5.length<=1048576:=λp an=>by have:=aI p an;omega
  rw[e,cond_true,afj s h.1 ae q (by omega) qW,bind_some,Bool.not_not,bind_some];cases bM:eY (λi=>lF s.br (n5 q i)) q.length
  .refine⟨[],rfl,.inl ⟨rfl,λgy=>?_⟩⟩;rw[P5.2 gy.2]at bM;cases bM
  .have aY:=P5.1 bM;refine⟨_,?_,.inr ⟨rfl,hl,aY⟩⟩;rw[Bool.not_true,cond_false,afl s h.1 ae q (by omega) qW aY];rfl
 .have e:((q.length:Int)==(s.cw.length:Int))=false:=by simp;omega
  rw[e,cond_false];exact⟨[],rfl,.inl ⟨rfl,λgy=>hl gy.1⟩⟩
theorem afC (s:dH) (h:sd s) (t:aht) (aY:t.length<=1048576):∃r,Bf s t=some r/\yy s t=some r/\c8 lE r.1<=1048576:=by
 have z:c8 lE ([]:ahO)<=1048576:=by simp[c8,gf]
 unfold Bf yy;rw[afh _ h,PN _ h];simp only[bind_some];cases bd:(n4 s==0)
 .exact⟨([],false),rfl,rfl,z⟩
 have ae:=PO bd;have ai:=P3 bd;unfold qY at ai;simp only[Bool.and_eq_true,decide_eq_true_eq]at ai;have hlen:=zb 32 t;have Pn:t.count 32<=t.length:=List.count_le_length;have CV:=wa 32 t;have zn:=CG 32 t;have cO:=pX 32 t;simp only[Bool.not_true,cond_false];rw[Is 32 t aY,afv t aY];simp only[bind_some];generalize bg:ek 32 t=P at hlen CV zn cO;have afD:s.br.length<=1048576:=h.1.1;rw[afu s afD t _ (by have:=List.length_filter_le o0 P;omega) (λw hw=>by have:=CV w (List.mem_filter.1 hw).1;omega)];have P7:∀W bm,il (iR s.br) W=some bm->∀p∈bm,p.b5.length<=64:=λW bm hm p an=>by
  obtain⟨x,_,ar⟩:=(CT _ _ _ hm).2 p an;exact P2 ar
 have P8:∀W bm,il (iR s.br) W=some bm->∀w∈W,w≠[]:=λW bm hm w hw e=>by
  obtain⟨y,_,hy⟩:=(CT _ _ _ hm).1 w hw;subst e;rw[IQ (by simp[ek])]at hy;cases hy
 by_cases H:P.length=s.cw.length/\∃bm,il (λw=>if mn s.br w=true then iR s.br w else none) P=some bm
 .obtain⟨H1,bm,zo⟩:=H;have e:((P.length:Int) !=(s.cw.length:Int))=false:=by simp;omega
  rw[e,cond_false,PY s h.1 ae P (by omega) (λw hw=>by have:=CV w hw;omega),zo];have CW:il (iR s.br) P=some bm:=IW _ _ _ _ (λy _ x _ ar=>by
   split at ar
   .exact ar
   .cases ar) zo
  have pU:P.filter o0=P:=List.filter_eq_self.2 λw hw=>by
   have:=P8 P bm CW w hw;simpa [o0]using this
  have qj:=P7 P bm CW;have pv:∀p∈bm,lF s.br p=true:=λp an=>by
   obtain⟨x,_,ar⟩:=(CT _ _ _ zo).2 p an;split at ar
   .rename_i aq;unfold mn at aq;rw[ar]at aq;exact aq
   .cases ar
  have afE:=IV _ _ _ zo;have jO:bm.map (lG s.br)=P:=by
   refine PX (λw=>if mn s.br w=true then iR s.br w else none) _ (λx y ar=>?_) P bm zo;split at ar
   .rename_i aq;unfold mn at aq;rw[ar]at aq;exact afB h.1 ae ar aq (by have:=P2 ar;omega)
   .cases ar
  obtain⟨x,aa,ag⟩:=P6 s h bd bm (by omega) qj;have ar:x=t:=by
   rcases ag with⟨_,jC⟩|⟨ar,_⟩
   .exact(jC ⟨by omega,pv⟩).elim
   .rw[ar,jO,zn]
  have afF:t≠[]:=λe=>by
   subst e;have:P=[[]]:=by rw[<-bg];rfl
   exact P8 P bm CW [] (by rw[this];simp) rfl
  rw[pU,CW];refine⟨(bm,true),rfl,?_,?_⟩
  .show wb s t bm=_;unfold wb;rw[aa,bind_some,ar];have:(t==[])=false:=by simpa using afF
   simp[this]
  .have:=P4 bm qj;show c8 lE bm<=_;omega
 .have IH:(cond ((P.length:Int) !=(s.cw.length:Int)) (some (([]:ahO),false)) (ca λn=>rO s P n [] 0))=some ([],false):=by
   by_cases H1:P.length=s.cw.length
   .have e:((P.length:Int) !=(s.cw.length:Int))=false:=by simp;omega
    rw[e,cond_false,PY s h.1 ae P (by omega) (λw hw=>by have:=CV w hw;omega)];cases hm:il (λw=>if mn s.br w=true then iR s.br w else none) P with
    |none=>rfl
    |some bm=>exact(H ⟨H1,bm,hm⟩).elim
   .have e:((P.length:Int) !=(s.cw.length:Int))=true:=by simp;omega
    rw[e,cond_true]
  rw[IH];refine⟨([],false),rfl,?_,z⟩;cases hm:il (iR s.br) (P.filter o0)with
  |none=>rfl
  |some bm=>
   show wb s t bm=_;have afE:=IV _ _ _ hm;have jP:=List.length_filter_le o0 P;have qj:=P7 _ bm hm;obtain⟨x,aa,ag⟩:=P6 s h bd bm (by omega) qj;unfold wb;rw[aa,bind_some];by_cases ar:x=t/\t≠[]
   .exfalso;rcases ag with⟨DR,_⟩|⟨Dv,afG,P9⟩
    .exact ar.2 (ar.1.symm.trans DR)
    .have qW:∀p∈bm,p.b5.length<=1048576:=λp an=>by have:=qj p an;omega
     have afH:=PT s h.1 ae bm qW P9;have P_:P=bm.map (lG s.br):=by
      rw[<-bg,<-ar.1,Dv];refine PZ 32 _ (λe=>?_) λw hw=>?_
      .have:=congrArg List.length e;simp only[List.length_map,List.length_nil]at this;omega
      .obtain⟨p,an,rfl⟩:=List.mem_map.1 hw;exact afz (afH p an)
     have pU:P.filter o0=P:=List.filter_eq_self.2 λw hw=>by
      rw[P_]at hw;obtain⟨p,_,rfl⟩:=List.mem_map.1 hw;simp[lG,o0]
     rw[pU]at hm;refine H ⟨by rw[P_,List.length_map];exact afG,bm,IW _ _ _ _ (λy hy x _ Qa=>?_) hm⟩;have aq:mn s.br x=true:=by unfold mn;rw[Qa];exact P9 y hy
     rw[if_pos aq];exact Qa
   .by_cases Qb:t=[]
    .subst Qb;simp
    .have:(x==t)=false:=by simpa using λe=>ar ⟨e,Qb⟩
     simp[this]
theorem acV (a:lW) (t:aht) (bM:xF a):G4 a t=some true:=by
 unfold G4;by_cases ahs:1048576<t.length
 .have:decide ((1048576:Int)<(t.length:Int))=true:=by simp;omega
  rw[this];rfl
 have afI:decide ((1048576:Int)<(t.length:Int))=false:=by simp;omega
 rw[afI];obtain⟨r,ab,ad⟩:=afg a bM;rw[ab];simp only[cond_false,bind_some];cases aH:decide (r<0)
 .obtain⟨aC,aW,bu,cy,cl⟩:=ad aH;have afJ:oZ (p2 a)<=1048576:=by rw[Pz];omega
  rw[aC];simp only[cond_false,bind_some];generalize p2 a=e at aW bu afJ;obtain⟨x,iC,gA,iE⟩:=afC e bu t (by omega);obtain⟨fB,eL,gT,kj,oQ,c,b2,m1⟩:=aeP e 1 (by omega) (by omega);obtain⟨cf,g,g1,m4,m5⟩:=aeR x.1 1 (by omega) (by omega);simp only[iC,gA,bind_some,aew x.1 iE,aW,m1,m4,m5,beq_self_eq_true,Bool.not_true,bne_self_eq_false,Bool.or_self,cond_false,Io (k:=1+(c:Int)) (by omega),Io (k:=1+(g:Int)) (by omega)]
 .rfl
end Go.lV
