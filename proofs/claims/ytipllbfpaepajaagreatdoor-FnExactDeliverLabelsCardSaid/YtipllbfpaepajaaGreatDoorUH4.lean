/- Part of a proof that a law returns true for every input. No condition. -/
import Derived.Test.YtipllbfpaepajaaGreatDoorUH3
import Derived.Test.YtipllbfpaepajaaGreatDoorUXA
import Derived.Test.YtipllbfpaepajaaGreatDoorUB
namespace Go.ff
open Go Go.ca
def nA (s:List UInt8):Bool:=pk s&& !(s==[116,97,117])
theorem Hm (s:List UInt8):wb s=some (nA s):=by unfold wb;rw[G0];rfl
theorem Hn (s:List UInt8) (U:s.length≤1048576):wH s=some (nA s):=by unfold wH;rw[aag s (by omega)];rfl
def oo (ws:List (List UInt8)):Bool:=ws.all fun w=>(fL w).2
def hL (ws:List (List UInt8)):List Int:=ws.map fun w=>(fL w).1
def kM (x:Int):Bool:=decide (0≤x)&&decide (x≤63)
theorem aaL (ws:List (List UInt8)) (h:ws.length≤1048577):wF ws=some (if oo ws=true then(hL ws,true)else([],false)):=by
 have key:∀i,i≤ws.length→∀m,ws.length-i<m→∀v:List Int,v.length=i→
   qg ws m v (i:Int)=some (if oo (ws.drop i)=true then(v++hL (ws.drop i),true)else([],false)):=by
  refine down ws.length ?_ ?_
  ·intro m hm v aG
   obtain⟨m,rfl⟩:∃j,m=j+1:=⟨m-1,by omega⟩
   simp only[qg,wE]
   rw[im (Nat.le_refl _),List.drop_length]
   simp[oo,hL]
  ·intro i aA ih m hm v aG
   obtain⟨m,rfl⟩:∃j,m=j+1:=⟨m-1,by omega⟩
   simp only[qg,wE,wD]
   rw[jJ aA,cond_true,gJ ws i aA,Option.bind_some,Option.bind_some,drop_cons ws i aA]
   simp only[oo,hL,List.all_cons,List.map_cons]
   cases ae:(fL ws[i]).2
   ·simp
   ·simp only[Bool.not_true,cond_false,Bool.true_and]
    rw[sv (by omega) (by omega),Option.bind_some,jo i _ aA (by omega),ih m (by omega) _ (by simp[aG])]
    simp[oo,hL]
 unfold wF
 refine iQ (ws.length+1) fun m hm=> ?_
 have:=key 0 (by omega) m (by omega) [] rfl
 simpa using this
def kN (ws:List (List UInt8)):Bool:=ws.all fun w=>(fL w).2&&kM (fL w).1
theorem aaM (ws:List (List UInt8)) (h:ws.length≤1048577) (hw:∀w∈ws,w.length≤1048576):
  dG (fun n=>o4 ws n [] 0)=some (if kN ws=true then hL ws else [],kN ws&&decide (ws.length≤2)):=by
 have key:∀i,i≤ws.length→∀m,ws.length-i<m→∀v:List Int,v.length=i→
   o4 ws m v (i:Int)=some (if kN (ws.drop i)=true then v++hL (ws.drop i)else [],kN (ws.drop i)&&decide (ws.length≤2)):=by
  refine down ws.length ?_ ?_
  ·intro m hm v aG
   obtain⟨m,rfl⟩:∃j,m=j+1:=⟨m-1,by omega⟩
   simp only[o4,wi]
   rw[im (Nat.le_refl _),List.drop_length,cond_false]
   have e:decide ((v.length:Int)≤2)=decide (ws.length≤2):=by rw[decide_eq_decide];omega
   rw[e]
   simp[kN,hL]
  ·intro i aA ih m hm v aG
   obtain⟨m,rfl⟩:∃j,m=j+1:=⟨m-1,by omega⟩
   simp only[o4,wi]
   rw[jJ aA,cond_true,gJ ws i aA,Option.bind_some,aaF _ (hw _ (List.getElem_mem aA)),Option.bind_some,drop_cons ws i aA]
   have aaN:kN (ws[i]::ws.drop (i+1))=((fL ws[i]).2&&kM (fL ws[i]).1&&kN (ws.drop (i+1))):=rfl
   rw[aaN]
   by_cases ae:(fL ws[i]).2=true
   ·simp only[ae,Bool.not_true,cond_false,Bool.true_and,tS,Option.bind_some]
    by_cases A9:kM (fL ws[i]).1=true
    ·have uY:=A9
     unfold kM at uY
     rw[uY,A9]
     simp only[Bool.not_true,cond_false,Bool.true_and]
     rw[sv (by omega) (by omega),Option.bind_some,jo i _ aA (by omega),ih m (by omega) _ (by simp[aG])]
     simp only[hL,List.append_assoc,List.map_cons,List.singleton_append]
    ·have Ho:kM (fL ws[i]).1=false:=by simpa using A9
     have uY:=Ho
     unfold kM at uY
     rw[uY,Ho]
     simp
   ·have e8:(fL ws[i]).2=false:=by simpa using ae
    simp[e8]
 refine iQ (ws.length+1) fun m hm=> ?_
 have:=key 0 (by omega) m (by omega) [] rfl
 simpa using this
theorem Hp (a:List Int) (h:a.length≤1048577):wJ a=some (a.all kM):=by
 unfold wJ zX zW
 rw[AV (n:=a.length) (l:=qh a) (fun i=> !kM (a.getD i 0)) (fun m=> ?_) (fun i aA m=> ?_)]
 ·simp only[Option.bind_some,AU,Bool.not_not]
  congr 1
  rw[Bool.eq_iff_iff,uQ,List.all_eq_true]
  constructor
  ·intro q x aq
   obtain⟨k,al,rfl⟩:=List.mem_iff_getElem.1 aq
   have:=q k al
   simpa [List.getD,al]using this
  ·intro q i aA
   have:=q _ (List.getElem_mem aA)
   simpa [List.getD,aA]using this
 ·simp only[qh,wI]
  rw[im (Nat.le_refl _)];rfl
 ·simp only[qh,wI,zV,zU,uf]
  rw[jJ aA,gJ _ i aA,jo i _ aA (by omega)]
  simp only[cond_true,Option.bind_some]
  have e:a.getD i 0=a[i]:=by simp[List.getD,aA]
  rw[e]
  rfl
theorem A_ (s:List UInt8) (U:s.length≤1048576):(40∉s→rS s=some (s.length:Int))∧∀p q,s=p++40::q→40∉p→rS s=some (p.length:Int):=by
 have step:∀i (aA:i<s.length) m,n5 s (m+1) (i:Int)=cond (s[i]==40) (some (i:Int)) (n5 s m ((i+1:Nat):Int)):=by
  intro i aA m
  simp only[n5,v_]
  rw[jJ aA,cond_true,gJ s i aA,Option.bind_some,jo i _ aA (by omega)]
  have e:((s[i].toNat:Int)==40)=(s[i]==40):=by
   rw[Bool.eq_iff_iff]
   simp only[beq_iff_eq]
   constructor
   ·intro h;exact UInt8.toNat_inj.1 (by rw[show(40:UInt8).toNat=40 from rfl];omega)
   ·intro h;rw[h];rfl
  rw[e]
 constructor
 ·intro h
  unfold rS
  rw[su (n:=s.length) (fun _=>some (s.length:Int))]
  ·intro m
   simp only[n5,v_]
   rw[im (Nat.le_refl _)];rfl
  ·intro i aA m ih
   rw[step i aA m,ih]
   have:(s[i]==40)=false:=by
    simp only[beq_eq_false_iff_ne,ne_eq]
    intro e
    exact h (e▸List.getElem_mem aA)
   rw[this];rfl
 ·rintro p q rfl ak
  unfold rS
  refine iQ (p.length+1) fun m hm=> ?_
  have key:∀k,k≤p.length→∀m,k<m→n5 (p++40::q) m ((p.length-k:Nat):Int)=some (p.length:Int):=by
   intro k
   induction k with
   |zero=>
    intro _ m hm
    obtain⟨m,rfl⟩:∃j,m=j+1:=⟨m-1,by omega⟩
    rw[Nat.sub_zero,step p.length (by simp) m]
    have:((p++40::q)[p.length]'(by simp))=40:=by simp
    rw[this];rfl
   |succ k ih=>
    intro al m hm
    obtain⟨m,rfl⟩:∃j,m=j+1:=⟨m-1,by omega⟩
    rw[step (p.length-(k+1)) (by simp;omega) m]
    have:((p++40::q)[p.length-(k+1)]'(by simp;omega)==40)=false:=by
     simp only[beq_eq_false_iff_ne,ne_eq]
     rw[List.getElem_append_left (by omega)]
     intro e
     exact ak (e▸List.getElem_mem (by omega))
    rw[this,cond_false,show p.length-(k+1)+1=p.length-k by omega]
    exact ih (by omega) m (by omega)
  have:=key p.length (Nat.le_refl _) m (by omega)
  simpa using this
theorem Hq (ws:List (List UInt8)):kN ws=(oo ws&&(hL ws).all kM):=by
 unfold kN oo hL
 rw[List.all_map]
 induction ws with
 |nil=>rfl
 |cons w r ih=>simp only[List.all_cons,ih,Function.comp];cases(fL w).2<;>cases kM (fL w).1<;>simp
theorem aaO (ws:List (List UInt8)) (h:kN ws=true):(hL ws).map om=ws:=by
 unfold hL
 rw[List.map_map]
 conv=>rhs;rw[←List.map_id ws]
 refine List.map_congr_left fun w hw=> ?_
 simp only[kN,List.all_eq_true,Bool.and_eq_true]at h
 have:=h w hw
 simp only[kM,Bool.and_eq_true,decide_eq_true_eq]at this
 simp only[Function.comp,id,om]
 exact(aaG (Prod.ext rfl this.1) this.2.1 this.2.2).symm
theorem Hr (p q da:List UInt8) (ak:40∉p) (U:(p++40::q).length≤1048576) (bm:strings_TrimSuffix q [41]=some da) (xz:da.length≤1048576):
  qj (p++40::q)=some (nA p&&(kN (dv 44 da)&&decide ((dv 44 da).length≤2))&&(((p++[40])++da)++[41]==p++40::q)):=by
 have hlen:=xy 44 da
 have aaP:da.count 44≤da.length:=List.count_le_length
 have hl:=U
 simp only[List.length_append,List.length_cons]at hl
 have ok:∀n,n≤4194304→jL n=some ():=fun n aW=>by unfold jL;rw[if_pos (by omega)]
 unfold qj wN
 rw[aat p q ak U]
 simp only[Option.bind_some,cond_true]
 rw[bm,Option.bind_some,aaA 44 da xz,Option.bind_some,aaL _ (by omega),Hq]
 by_cases aW:oo (dv 44 da)=true
 ·rw[if_pos aW,aW]
  simp only[Option.bind_some,Bool.not_true,cond_false,Bool.true_and]
  have kV:(hL (dv 44 da)).length=da.count 44+1:=by unfold hL;rw[List.length_map,hlen]
  unfold ui wM
  by_cases aO:p=[116,97,117]
  ·have eY:(((hL (dv 44 da)).length:Int)==0)=false:=by rw[kV];simp;omega
   subst aO
   simp only[BEq.rfl,cond_true,eY,Option.bind_some,Bool.not_false,Bool.true_or]
   rfl
  ·have aJ:(p==[116,97,117])=false:=by simpa using aO
   rw[aJ,Hn p (by omega)]
   simp only[cond_false,Option.bind_some]
   by_cases bT:nA p=true
   ·rw[bT]
    simp only[Bool.not_true,cond_false,Bool.true_and]
    by_cases ad:(dv 44 da).length≤2
    ·have aK:decide ((2:Int)<((hL (dv 44 da)).length:Int))=false:=by rw[kV];simp;omega
     have b0:decide ((dv 44 da).length≤2)=true:=by simpa using ad
     rw[aK,b0,Hp _ (by omega)]
     simp only[cond_false,Option.bind_some,Bool.and_true]
     by_cases aG:(hL (dv 44 da)).all kM=true
     ·have b_:(((hL (dv 44 da)).length:Int)==0)=false:=by rw[kV];simp;omega
      have h5:kN (dv 44 da)=true:=by rw[Hq,aW,aG];rfl
      rw[aG,b_]
      simp only[Bool.not_true,cond_false,Bool.true_and]
      rw[aan _ (by omega) (fun x aq=>by
       have:=List.all_eq_true.1 aG x aq
       simpa only[kM,Bool.and_eq_true,decide_eq_true_eq]using this),aaO _ h5,G5]
      rw[ok _ (by omega),Option.bind_some,Option.bind_some,ok _ (by simp;omega),Option.bind_some,ok _ (by simp;omega),Option.bind_some,Option.bind_some]
      cases(((p++[40])++da)++[41]==p++40::q)<;>rfl
     ·have iX:(hL (dv 44 da)).all kM=false:=by simpa using aG
      rw[iX];rfl
    ·have aK:decide ((2:Int)<((hL (dv 44 da)).length:Int))=true:=by rw[kV];simp;omega
     have b0:decide ((dv 44 da).length≤2)=false:=by simpa using ad
     rw[aK,b0]
     simp
   ·have nW:nA p=false:=by simpa using bT
    rw[nW];rfl
 ·have mT:oo (dv 44 da)=false:=by simpa using aW
  rw[if_neg aW,mT]
  simp
theorem Hs (p q:List UInt8) (x:UInt8) (ak:40∉p) (r:List UInt8) (e:p++40::q=r++[x]) (U:(p++40::q).length≤1048576):
  cD (p++40::q) (IntKind.i64.wrap (((p++40::q).length:Int)-1))=some x:=by
 rw[e,dq _ (by rw[←e];omega),show(((r++[x]).length:Int)-1)=(r.length:Int) by simp]
 exact A1 r x []
theorem aaQ (p da:List UInt8) (ak:40∉p) (U:(p++40::(da++[41])).length≤1048576):
  nm (p++40::(da++[41]))=some (nA p&&(kN (dv 44 da)&&decide ((dv 44 da).length≤2))):=by
 have hl:=U
 simp only[List.length_append,List.length_cons,List.length_nil]at hl
 have hlen:=xy 44 da
 have aaP:da.count 44≤da.length:=List.count_le_length
 have hw:∀w∈dv 44 da,w.length≤1048576:=by
  have key:∀s:List UInt8,∀w∈dv 44 s,w.length≤s.length:=by
   intro s
   induction s with
   |nil=>intro w hw;simp[dv]at hw;subst hw;exact Nat.le_refl _
   |cons x r ih=>
    intro w hw
    simp only[dv]at hw
    split at hw
    ·rcases List.mem_cons.1 hw with rfl|hw
     ·simp
     ·exact Nat.le_trans (ih w hw) (by simp)
    ·cases aD:dv 44 r with
     |nil=>exact(sw 44 r aD).elim
     |cons a t=>
      rw[aD]at hw ih
      simp only[glue]at hw
      rcases List.mem_cons.1 hw with rfl|hw
      ·have:=ih a (by simp);simp;omega
      ·exact Nat.le_trans (ih w (by simp[hw])) (by simp)
  intro w hw
  have:=key da w hw
  omega
 unfold nm tT
 rw[(A_ _ U).2 p _ rfl ak]
 have aH:(((p.length:Nat):Int)==((p++40::(da++[41])).length:Int))=false:=by simp;omega
 simp only[Option.bind_some,aH,cond_false]
 rw[qL _ _ (by simp),List.take_left' rfl,Option.bind_some,Hm,Option.bind_some]
 rw[Hs p (da++[41]) 41 ak (p++40::da) (by simp) U,Option.bind_some]
 have aJ:((((41:UInt8).toNat:Nat):Int) !=41)=false:=rfl
 have aK:ea (p++40::(da++[41])) (IntKind.i64.wrap ((p.length:Int)+1)) (IntKind.i64.wrap (((p++40::(da++[41])).length:Int)-1))=some da:=by
  rw[dq _ (by omega),dq _ (by omega)]
  have:=uR (p++[40]) da [41] (i:=(p.length:Int)+1) (j:=(((p++40::(da++[41])).length:Int)-1)) (by simp) (by simp;omega)
  simpa using this
 rw[aJ,cond_false,aK,Option.bind_some,aaB 44 da (by omega),Option.bind_some,aaM _ (by omega) hw]
 cases nA p<;>rfl
theorem aaR (p q:List UInt8) (ak:40∉p) (U:(p++40::q).length≤1048576) (h:∀r,q≠r++[41]):nm (p++40::q)=some false:=by
 have hl:=U
 simp only[List.length_append,List.length_cons]at hl
 unfold nm tT
 rw[(A_ _ U).2 p _ rfl ak]
 have aH:(((p.length:Nat):Int)==((p++40::q).length:Int))=false:=by simp;omega
 simp only[Option.bind_some,aH,cond_false]
 rw[qL _ _ (by simp),List.take_left' rfl,Option.bind_some,Hm,Option.bind_some]
 obtain⟨r,x,e,aq⟩:∃r x,p++40::q=r++[x]∧x≠41:=by
  rcases List.eq_nil_or_concat q with rfl|⟨gq,x,rfl⟩
  ·exact⟨p,40,rfl,by decide⟩
  ·refine⟨p++40::gq,x,by simp,?_⟩
   rintro rfl
   exact h gq (by simp)
 rw[Hs p q x ak r e U,Option.bind_some]
 have aJ:((x.toNat:Int) !=41)=true:=by
  simp only[bne_iff_ne,ne_eq]
  intro aS
  exact aq (UInt8.toNat_inj.1 (by rw[show(41:UInt8).toNat=41 from rfl];omega))
 rw[aJ]
 cases nA p<;>rfl
noncomputable def mE (s:List UInt8):Bool:=(nm s).getD false
theorem Ht (s:List UInt8) (U:s.length≤1048576):nm s=some (mE s)∧qj s=some (mE s):=by
 suffices h:∃b,nm s=some b∧qj s=some b by
  obtain⟨b,ab,ad⟩:=h
  unfold mE
  rw[ab,ad];exact⟨rfl,rfl⟩
 by_cases hm:40∈s
 ·obtain⟨p,q,rfl,ak⟩:=AZ hm
  have hl:=U
  simp only[List.length_append,List.length_cons]at hl
  by_cases cf:∃r,q=r++[41]
  ·obtain⟨da,rfl⟩:=cf
   have xz:da.length≤1048576:=by simp at hl;omega
   refine⟨_,aaQ p da ak U,?_⟩
   rw[Hr p _ da ak U (aau da xz) xz]
   have:(((p++[40])++da)++[41]==p++40::(da++[41]))=true:=by simp
   rw[this,Bool.and_true]
  ·have Hu:∀r,q≠r++[41]:=fun r e=>cf ⟨r,e⟩
   refine⟨false,aaR p q ak U Hu,?_⟩
   rw[Hr p q q ak U (aav q (by omega) Hu) (by omega)]
   have:(((p++[40])++q)++[41]==p++40::q)=false:=by
    simp only[beq_eq_false_iff_ne,ne_eq]
    intro e
    have:=congrArg List.length e
    simp at this
   rw[this,Bool.and_false]
 ·unfold nm tT qj wN
  rw[(A_ s U).1 hm,aas hm,G0]
  have aH:((s.length:Int)==(s.length:Int))=true:=by simp
  simp only[Option.bind_some,aH,cond_true,cond_false]
  refine⟨_,rfl,?_⟩
  unfold ui wM
  by_cases aO:s=[116,97,117]
  ·subst aO;rfl
  ·have aJ:(s==[116,97,117])=false:=by simpa using aO
   rw[aJ,Hn s U]
   simp only[cond_false,Option.bind_some]
   have aK:nA s=pk s:=by unfold nA;rw[aJ];simp
   rw[aK]
   cases pk s
   ·rfl
   ·simp only[Bool.not_true,cond_false,List.length_nil]
    rw[Hp [] (by simp)]
    simp
end Go.ff
