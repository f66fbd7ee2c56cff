/- Part of a proof that a law returns true for every input. No condition. -/
import Derived.Test.YtipllbfpaepajaaGreatDoorUH3
import Derived.Test.YtipllbfpaepajaaGreatDoorUXA
import Derived.Test.YtipllbfpaepajaaGreatDoorUB
namespace Go.e3
open Go Go.b9
def mT (s:List UInt8):Bool:=oW s&& !(s==[116,97,117])
theorem Gj (s:List UInt8):vp s=some (mT s):=by unfold vp;rw[FW];rfl
theorem Gk (s:List UInt8) (U:s.length≤1048576):vO s=some (mT s):=by unfold vO;rw[XK s (by omega)];rfl
def nQ (ws:List (List UInt8)):Bool:=ws.all fun w=>(fu w).2
def ho (ws:List (List UInt8)):List Int:=ws.map fun w=>(fu w).1
def kg (x:Int):Bool:=decide (0≤x)&&decide (x≤63)
theorem Ye (ws:List (List UInt8)) (h:ws.length≤1048577):vM ws=some (if nQ ws=true then(ho ws,true)else([],false)):=by
 have key:∀i,i≤ws.length→∀m,ws.length-i<m→∀v:List Int,v.length=i→
   pS ws m v (i:Int)=some (if nQ (ws.drop i)=true then(v++ho (ws.drop i),true)else([],false)):=by
  refine down ws.length ?_ ?_
  ·intro m hm v aE
   obtain⟨m,rfl⟩:∃j,m=j+1:=⟨m-1,by omega⟩
   simp only[pS,vL]
   rw[ji (Nat.le_refl _),List.drop_length]
   simp[nQ,ho]
  ·intro i aA ih m hm v aE
   obtain⟨m,rfl⟩:∃j,m=j+1:=⟨m-1,by omega⟩
   simp only[pS,vL,vK]
   rw[jh aA,cond_true,gE ws i aA,Option.bind_some,Option.bind_some,drop_cons ws i aA]
   simp only[nQ,ho,List.all_cons,List.map_cons]
   cases ae:(fu ws[i]).2
   ·simp
   ·simp only[Bool.not_true,cond_false,Bool.true_and]
    rw[wM (by omega) (by omega),Option.bind_some,iR i _ aA (by omega),ih m (by omega) _ (by simp[aE])]
    simp[nQ,ho]
 unfold vM
 refine ki (ws.length+1) fun m hm=> ?_
 have:=key 0 (by omega) m (by omega) [] rfl
 simpa using this
def kh (ws:List (List UInt8)):Bool:=ws.all fun w=>(fu w).2&&kg (fu w).1
theorem Yf (ws:List (List UInt8)) (h:ws.length≤1048577) (hw:∀w∈ws,w.length≤1048576):
  en (fun n=>oE ws n [] 0)=some (if kh ws=true then ho ws else [],kh ws&&decide (ws.length≤2)):=by
 have key:∀i,i≤ws.length→∀m,ws.length-i<m→∀v:List Int,v.length=i→
   oE ws m v (i:Int)=some (if kh (ws.drop i)=true then v++ho (ws.drop i)else [],kh (ws.drop i)&&decide (ws.length≤2)):=by
  refine down ws.length ?_ ?_
  ·intro m hm v aE
   obtain⟨m,rfl⟩:∃j,m=j+1:=⟨m-1,by omega⟩
   simp only[oE,vv]
   rw[ji (Nat.le_refl _),List.drop_length,cond_false]
   have e:decide ((v.length:Int)≤2)=decide (ws.length≤2):=by rw[decide_eq_decide];omega
   rw[e]
   simp[kh,ho]
  ·intro i aA ih m hm v aE
   obtain⟨m,rfl⟩:∃j,m=j+1:=⟨m-1,by omega⟩
   simp only[oE,vv]
   rw[jh aA,cond_true,gE ws i aA,Option.bind_some,X9 _ (hw _ (List.getElem_mem aA)),Option.bind_some,drop_cons ws i aA]
   have Yg:kh (ws[i]::ws.drop (i+1))=((fu ws[i]).2&&kg (fu ws[i]).1&&kh (ws.drop (i+1))):=rfl
   rw[Yg]
   by_cases ae:(fu ws[i]).2=true
   ·simp only[ae,Bool.not_true,cond_false,Bool.true_and,tk,Option.bind_some]
    by_cases Ao:kg (fu ws[i]).1=true
    ·have uh:=Ao
     unfold kg at uh
     rw[uh,Ao]
     simp only[Bool.not_true,cond_false,Bool.true_and]
     rw[wM (by omega) (by omega),Option.bind_some,iR i _ aA (by omega),ih m (by omega) _ (by simp[aE])]
     simp only[ho,List.append_assoc,List.map_cons,List.singleton_append]
    ·have Gl:kg (fu ws[i]).1=false:=by simpa using Ao
     have uh:=Gl
     unfold kg at uh
     rw[uh,Gl]
     simp
   ·have eZ:(fu ws[i]).2=false:=by simpa using ae
    simp[eZ]
 refine ki (ws.length+1) fun m hm=> ?_
 have:=key 0 (by omega) m (by omega) [] rfl
 simpa using this
theorem Gm (a:List Int) (h:a.length≤1048577):vQ a=some (a.all kg):=by
 unfold vQ zg zf
 rw[Ad (n:=a.length) (l:=pT a) (fun i=> !kg (a.getD i 0)) (fun m=> ?_) (fun i aA m=> ?_)]
 ·simp only[Option.bind_some,Ac,Bool.not_not]
  congr 1
  rw[Bool.eq_iff_iff,t_,List.all_eq_true]
  constructor
  ·intro q x ao
   obtain⟨k,ar,rfl⟩:=List.mem_iff_getElem.1 ao
   have:=q k ar
   simpa [List.getD,ar]using this
  ·intro q i aA
   have:=q _ (List.getElem_mem aA)
   simpa [List.getD,aA]using this
 ·simp only[pT,vP]
  rw[ji (Nat.le_refl _)];rfl
 ·simp only[pT,vP,ze,zd,tA]
  rw[jh aA,gE _ i aA,iR i _ aA (by omega)]
  simp only[cond_true,Option.bind_some]
  have e:a.getD i 0=a[i]:=by simp[List.getD,aA]
  rw[e]
  rfl
theorem Ap (s:List UInt8) (U:s.length≤1048576):(40∉s→rk s=some (s.length:Int))∧∀p q,s=p++40::q→40∉p→rk s=some (p.length:Int):=by
 have step:∀i (aA:i<s.length) m,nC s (m+1) (i:Int)=cond (s[i]==40) (some (i:Int)) (nC s m ((i+1:Nat):Int)):=by
  intro i aA m
  simp only[nC,vn]
  rw[jh aA,cond_true,gE s i aA,Option.bind_some,iR i _ aA (by omega)]
  have e:((s[i].toNat:Int)==40)=(s[i]==40):=by
   rw[Bool.eq_iff_iff]
   simp only[beq_iff_eq]
   constructor
   ·intro h;exact UInt8.toNat_inj.1 (by rw[show(40:UInt8).toNat=40 from rfl];omega)
   ·intro h;rw[h];rfl
  rw[e]
 constructor
 ·intro h
  unfold rk
  rw[rY (n:=s.length) (fun _=>some (s.length:Int))]
  ·intro m
   simp only[nC,vn]
   rw[ji (Nat.le_refl _)];rfl
  ·intro i aA m ih
   rw[step i aA m,ih]
   have:(s[i]==40)=false:=by
    simp only[beq_eq_false_iff_ne,ne_eq]
    intro e
    exact h (e▸List.getElem_mem aA)
   rw[this];rfl
 ·rintro p q rfl ak
  unfold rk
  refine ki (p.length+1) fun m hm=> ?_
  have key:∀k,k≤p.length→∀m,k<m→nC (p++40::q) m ((p.length-k:Nat):Int)=some (p.length:Int):=by
   intro k
   induction k with
   |zero=>
    intro _ m hm
    obtain⟨m,rfl⟩:∃j,m=j+1:=⟨m-1,by omega⟩
    rw[Nat.sub_zero,step p.length (by simp) m]
    have:((p++40::q)[p.length]'(by simp))=40:=by simp
    rw[this];rfl
   |succ k ih=>
    intro ar m hm
    obtain⟨m,rfl⟩:∃j,m=j+1:=⟨m-1,by omega⟩
    rw[step (p.length-(k+1)) (by simp;omega) m]
    have:((p++40::q)[p.length-(k+1)]'(by simp;omega)==40)=false:=by
     simp only[beq_eq_false_iff_ne,ne_eq]
     rw[List.getElem_append_left (by omega)]
     intro e
     exact ak (e▸List.getElem_mem (by omega))
    rw[this,cond_false,show p.length-(k+1)+1=p.length-k by omega]
    exact ih (by omega) m (by omega)
  have:=key p.length (Nat.le_refl _) m (by omega)
  simpa using this
theorem Gn (ws:List (List UInt8)):kh ws=(nQ ws&&(ho ws).all kg):=by
 unfold kh nQ ho
 rw[List.all_map]
 induction ws with
 |nil=>rfl
 |cons w r ih=>simp only[List.all_cons,ih,Function.comp];cases(fu w).2<;>cases kg (fu w).1<;>simp
theorem Yh (ws:List (List UInt8)) (h:kh ws=true):(ho ws).map nP=ws:=by
 unfold ho
 rw[List.map_map]
 conv=>rhs;rw[←List.map_id ws]
 refine List.map_congr_left fun w hw=> ?_
 simp only[kh,List.all_eq_true,Bool.and_eq_true]at h
 have:=h w hw
 simp only[kg,Bool.and_eq_true,decide_eq_true_eq]at this
 simp only[Function.comp,id,nP]
 exact(X_ (Prod.ext rfl this.1) this.2.1 this.2.2).symm
theorem Gp (p q cZ:List UInt8) (ak:40∉p) (U:(p++40::q).length≤1048576) (bz:strings_TrimSuffix q [41]=some cZ) (wO:cZ.length≤1048576):
  pV (p++40::q)=some (mT p&&(kh (dh 44 cZ)&&decide ((dh 44 cZ).length≤2))&&(((p++[40])++cZ)++[41]==p++40::q)):=by
 have hlen:=wN 44 cZ
 have Yi:cZ.count 44≤cZ.length:=List.count_le_length
 have aJ:=U
 simp only[List.length_append,List.length_cons]at aJ
 have ok:∀n,n≤4194304→oX n=some ():=fun n aW=>by unfold oX;rw[if_pos (by omega)]
 unfold pV vU
 rw[XX p q ak U]
 simp only[Option.bind_some,cond_true]
 rw[bz,Option.bind_some,X4 44 cZ wO,Option.bind_some,Ye _ (by omega),Gn]
 by_cases aW:nQ (dh 44 cZ)=true
 ·rw[if_pos aW,aW]
  simp only[Option.bind_some,Bool.not_true,cond_false,Bool.true_and]
  have kp:(ho (dh 44 cZ)).length=cZ.count 44+1:=by unfold ho;rw[List.length_map,hlen]
  unfold tD vT
  by_cases aN:p=[116,97,117]
  ·have eS:(((ho (dh 44 cZ)).length:Int)==0)=false:=by rw[kp];simp;omega
   subst aN
   simp only[BEq.rfl,cond_true,eS,Option.bind_some,Bool.not_false,Bool.true_or]
   rfl
  ·have aI:(p==[116,97,117])=false:=by simpa using aN
   rw[aI,Gk p (by omega)]
   simp only[cond_false,Option.bind_some]
   by_cases bQ:mT p=true
   ·rw[bQ]
    simp only[Bool.not_true,cond_false,Bool.true_and]
    by_cases ad:(dh 44 cZ).length≤2
    ·have aL:decide ((2:Int)<((ho (dh 44 cZ)).length:Int))=false:=by rw[kp];simp;omega
     have bX:decide ((dh 44 cZ).length≤2)=true:=by simpa using ad
     rw[aL,bX,Gm _ (by omega)]
     simp only[cond_false,Option.bind_some,Bool.and_true]
     by_cases aE:(ho (dh 44 cZ)).all kg=true
     ·have b7:(((ho (dh 44 cZ)).length:Int)==0)=false:=by rw[kp];simp;omega
      have hH:kh (dh 44 cZ)=true:=by rw[Gn,aW,aE];rfl
      rw[aE,b7]
      simp only[Bool.not_true,cond_false,Bool.true_and]
      rw[XR _ (by omega) (fun x ao=>by
       have:=List.all_eq_true.1 aE x ao
       simpa only[kg,Bool.and_eq_true,decide_eq_true_eq]using this),Yh _ hH,F2]
      rw[ok _ (by omega),Option.bind_some,Option.bind_some,ok _ (by simp;omega),Option.bind_some,ok _ (by simp;omega),Option.bind_some,Option.bind_some]
      cases(((p++[40])++cZ)++[41]==p++40::q)<;>rfl
     ·have iy:(ho (dh 44 cZ)).all kg=false:=by simpa using aE
      rw[iy];rfl
    ·have aL:decide ((2:Int)<((ho (dh 44 cZ)).length:Int))=true:=by rw[kp];simp;omega
     have bX:decide ((dh 44 cZ).length≤2)=false:=by simpa using ad
     rw[aL,bX]
     simp
   ·have ns:mT p=false:=by simpa using bQ
    rw[ns];rfl
 ·have mg:nQ (dh 44 cZ)=false:=by simpa using aW
  rw[if_neg aW,mg]
  simp
theorem Gq (p q:List UInt8) (x:UInt8) (ak:40∉p) (r:List UInt8) (e:p++40::q=r++[x]) (U:(p++40::q).length≤1048576):
  cF (p++40::q) (IntKind.i64.wrap (((p++40::q).length:Int)-1))=some x:=by
 rw[e,dn _ (by rw[←e];omega),show(((r++[x]).length:Int)-1)=(r.length:Int) by simp]
 exact Ag r x []
theorem Yj (p cZ:List UInt8) (ak:40∉p) (U:(p++40::(cZ++[41])).length≤1048576):
  mE (p++40::(cZ++[41]))=some (mT p&&(kh (dh 44 cZ)&&decide ((dh 44 cZ).length≤2))):=by
 have aJ:=U
 simp only[List.length_append,List.length_cons,List.length_nil]at aJ
 have hlen:=wN 44 cZ
 have Yi:cZ.count 44≤cZ.length:=List.count_le_length
 have hw:∀w∈dh 44 cZ,w.length≤1048576:=by
  have key:∀s:List UInt8,∀w∈dh 44 s,w.length≤s.length:=by
   intro s
   induction s with
   |nil=>intro w hw;simp[dh]at hw;subst hw;exact Nat.le_refl _
   |cons x r ih=>
    intro w hw
    simp only[dh]at hw
    split at hw
    ·rcases List.mem_cons.1 hw with rfl|hw
     ·simp
     ·exact Nat.le_trans (ih w hw) (by simp)
    ·cases aC:dh 44 r with
     |nil=>exact(rZ 44 r aC).elim
     |cons a t=>
      rw[aC]at hw ih
      simp only[glue]at hw
      rcases List.mem_cons.1 hw with rfl|hw
      ·have:=ih a (by simp);simp;omega
      ·exact Nat.le_trans (ih w (by simp[hw])) (by simp)
  intro w hw
  have:=key cZ w hw
  omega
 unfold mE tl
 rw[(Ap _ U).2 p _ rfl ak]
 have aF:(((p.length:Nat):Int)==((p++40::(cZ++[41])).length:Int))=false:=by simp;omega
 simp only[Option.bind_some,aF,cond_false]
 rw[rX _ _ (by simp),List.take_left' rfl,Option.bind_some,Gj,Option.bind_some]
 rw[Gq p (cZ++[41]) 41 ak (p++40::cZ) (by simp) U,Option.bind_some]
 have aI:((((41:UInt8).toNat:Nat):Int) !=41)=false:=rfl
 have aL:ej (p++40::(cZ++[41])) (IntKind.i64.wrap ((p.length:Int)+1)) (IntKind.i64.wrap (((p++40::(cZ++[41])).length:Int)-1))=some cZ:=by
  rw[dn _ (by omega),dn _ (by omega)]
  have:=ua (p++[40]) cZ [41] (i:=(p.length:Int)+1) (j:=(((p++40::(cZ++[41])).length:Int)-1)) (by simp) (by simp;omega)
  simpa using this
 rw[aI,cond_false,aL,Option.bind_some,X5 44 cZ (by omega),Option.bind_some,Yf _ (by omega) hw]
 cases mT p<;>rfl
theorem Yk (p q:List UInt8) (ak:40∉p) (U:(p++40::q).length≤1048576) (h:∀r,q≠r++[41]):mE (p++40::q)=some false:=by
 have aJ:=U
 simp only[List.length_append,List.length_cons]at aJ
 unfold mE tl
 rw[(Ap _ U).2 p _ rfl ak]
 have aF:(((p.length:Nat):Int)==((p++40::q).length:Int))=false:=by simp;omega
 simp only[Option.bind_some,aF,cond_false]
 rw[rX _ _ (by simp),List.take_left' rfl,Option.bind_some,Gj,Option.bind_some]
 obtain⟨r,x,e,ao⟩:∃r x,p++40::q=r++[x]∧x≠41:=by
  rcases List.eq_nil_or_concat q with rfl|⟨fT,x,rfl⟩
  ·exact⟨p,40,rfl,by decide⟩
  ·refine⟨p++40::fT,x,by simp,?_⟩
   rintro rfl
   exact h fT (by simp)
 rw[Gq p q x ak r e U,Option.bind_some]
 have aI:((x.toNat:Int) !=41)=true:=by
  simp only[bne_iff_ne,ne_eq]
  intro aQ
  exact ao (UInt8.toNat_inj.1 (by rw[show(41:UInt8).toNat=41 from rfl];omega))
 rw[aI]
 cases mT p<;>rfl
noncomputable def l1 (s:List UInt8):Bool:=(mE s).getD false
theorem Gr (s:List UInt8) (U:s.length≤1048576):mE s=some (l1 s)∧pV s=some (l1 s):=by
 suffices h:∃b,mE s=some b∧pV s=some b by
  obtain⟨b,aa,ad⟩:=h
  unfold l1
  rw[aa,ad];exact⟨rfl,rfl⟩
 by_cases hm:40∈s
 ·obtain⟨p,q,rfl,ak⟩:=Ae hm
  have aJ:=U
  simp only[List.length_append,List.length_cons]at aJ
  by_cases ca:∃r,q=r++[41]
  ·obtain⟨cZ,rfl⟩:=ca
   have wO:cZ.length≤1048576:=by simp at aJ;omega
   refine⟨_,Yj p cZ ak U,?_⟩
   rw[Gp p _ cZ ak U (XY cZ wO) wO]
   have:(((p++[40])++cZ)++[41]==p++40::(cZ++[41]))=true:=by simp
   rw[this,Bool.and_true]
  ·have Gs:∀r,q≠r++[41]:=fun r e=>ca ⟨r,e⟩
   refine⟨false,Yk p q ak U Gs,?_⟩
   rw[Gp p q q ak U (XZ q (by omega) Gs) (by omega)]
   have:(((p++[40])++q)++[41]==p++40::q)=false:=by
    simp only[beq_eq_false_iff_ne,ne_eq]
    intro e
    have:=congrArg List.length e
    simp at this
   rw[this,Bool.and_false]
 ·unfold mE tl pV vU
  rw[(Ap s U).1 hm,XW hm,FW]
  have aF:((s.length:Int)==(s.length:Int))=true:=by simp
  simp only[Option.bind_some,aF,cond_true,cond_false]
  refine⟨_,rfl,?_⟩
  unfold tD vT
  by_cases aN:s=[116,97,117]
  ·subst aN;rfl
  ·have aI:(s==[116,97,117])=false:=by simpa using aN
   rw[aI,Gk s U]
   simp only[cond_false,Option.bind_some]
   have aL:mT s=oW s:=by unfold mT;rw[aI];simp
   rw[aL]
   cases oW s
   ·rfl
   ·simp only[Bool.not_true,cond_false,List.length_nil]
    rw[Gm [] (by simp)]
    simp
end Go.e3
