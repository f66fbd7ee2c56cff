/- Part of a proof that a law returns true for every input. No condition. -/
import Derived.Test.YtlkabaochkgkdaaGreatDoorUH3
import Derived.Test.YtlkabaochkgkdaaGreatDoorUXA
import Derived.Test.YtlkabaochkgkdaaGreatDoorUB
namespace Go.eU
open Go Go.c_
def rj (s:List UInt8):Bool:=kG s&& !(s==[116,97,117])
theorem SQ (s:List UInt8):qV s=some (rj s):=by unfold qV;rw[BB];rfl
theorem SR (s:List UInt8) (ae:s.length<=1048576):po s=some (rj s):=by unfold po;rw[KK s (by omega)];rfl
def sj (ws:List (List UInt8)):Bool:=ws.all λw=>(iH w).2
def k2 (ws:List (List UInt8)):List Int:=ws.map λw=>(iH w).1
def n8 (x:Int):Bool:=decide (0<=x)&&decide (x<=63)
theorem aFz (ws:List (List UInt8)) (h:ws.length<=1048577):EN ws=some (if sj ws=true then(k2 ws,true)else([],false)):=by
 have key:∀i,i<=ws.length->∀m,ws.length-i<m->∀v:List Int,v.length=i->
   u5 ws m v (i:Int)=some (if sj (ws.drop i)=true then(v++k2 (ws.drop i),true)else([],false)):=by
  refine down ws.length ?_ ?_
  .intro m hm v aT;obtain⟨m,rfl⟩:∃j,m=j+1:=⟨m-1,by omega⟩
   simp only[u5,EM];rw[fh (Nat.le_refl _),List.drop_length];simp[sj,k2]
  .intro i an ih m hm v aT;obtain⟨m,rfl⟩:∃j,m=j+1:=⟨m-1,by omega⟩
   simp only[u5,EM,EL];rw[fX an,cond_true,gN ws i an,Option.bind_some,Option.bind_some,drop_cons ws i an];simp only[sj,k2,List.all_cons,List.map_cons];cases aj:(iH ws[i]).2
   .simp
   .simp only[Bool.not_true,cond_false,Bool.true_and];rw[Gm (by omega) (by omega),Option.bind_some,fO i _ an (by omega),ih m (by omega) _ (by simp[aT])];simp[sj,k2]
 unfold EN;refine ij (ws.length+1) λm hm=>?_;have:=key 0 (by omega) m (by omega) [] rfl;simpa using this
def n9 (ws:List (List UInt8)):Bool:=ws.all λw=>(iH w).2&&n8 (iH w).1
theorem aFA (ws:List (List UInt8)) (h:ws.length<=1048577) (hw:∀w∈ws,w.length<=1048576):
  cB (λn=>th ws n [] 0)=some (if n9 ws=true then k2 ws else [],n9 ws&&decide (ws.length<=2)):=by
 have key:∀i,i<=ws.length->∀m,ws.length-i<m->∀v:List Int,v.length=i->
   th ws m v (i:Int)=some (if n9 (ws.drop i)=true then v++k2 (ws.drop i)else [],n9 (ws.drop i)&&decide (ws.length<=2)):=by
  refine down ws.length ?_ ?_
  .intro m hm v aT;obtain⟨m,rfl⟩:∃j,m=j+1:=⟨m-1,by omega⟩
   simp only[th,DZ];rw[fh (Nat.le_refl _),List.drop_length,cond_false];have e:decide ((v.length:Int)<=2)=decide (ws.length<=2):=by rw[decide_eq_decide];omega
   rw[e];simp[n9,k2]
  .intro i an ih m hm v aT;obtain⟨m,rfl⟩:∃j,m=j+1:=⟨m-1,by omega⟩
   simp only[th,DZ];rw[fX an,cond_true,gN ws i an,Option.bind_some,aFs _ (hw _ (List.getElem_mem an)),Option.bind_some,drop_cons ws i an];have aFB:n9 (ws[i]::ws.drop (i+1))=((iH ws[i]).2&&n8 (iH ws[i]).1&&n9 (ws.drop (i+1))):=rfl;rw[aFB];by_cases aj:(iH ws[i]).2=true
   .simp only[aj,Bool.not_true,cond_false,Bool.true_and,kS,Option.bind_some];by_cases vT:n8 (iH ws[i]).1=true
    .have BH:=vT;unfold n8 at BH;rw[BH,vT];simp only[Bool.not_true,cond_false,Bool.true_and];rw[Gm (by omega) (by omega),Option.bind_some,fO i _ an (by omega),ih m (by omega) _ (by simp[aT])];simp only[k2,List.append_assoc,List.map_cons,List.singleton_append]
    .have SS:n8 (iH ws[i]).1=false:=by simpa using vT
     have BH:=SS;unfold n8 at BH;rw[BH,SS];simp
   .have iw:(iH ws[i]).2=false:=by simpa using aj
    simp[iw]
 refine ij (ws.length+1) λm hm=>?_;have:=key 0 (by omega) m (by omega) [] rfl;simpa using this
theorem SU (a:List Int) (h:a.length<=1048577):u1 a=some (a.all n8):=by
 unfold u1 Ep Eo;rw[tB (n:=a.length) (l:=rX a) (λi=> !n8 (a.getD i 0)) (λm=>?_) (λi an m=>?_)]
 .simp only[Option.bind_some,tA,Bool.not_not];congr 1;rw[Bool.eq_iff_iff,tz,List.all_eq_true];constructor
  .intro q x aw;obtain⟨k,ay,rfl⟩:=List.mem_iff_getElem.1 aw;have:=q k ay;simpa [List.getD,ay]using this
  .intro q i an;have:=q _ (List.getElem_mem an);simpa [List.getD,an]using this
 .simp only[rX,xO];rw[fh (Nat.le_refl _)];rfl
 .simp only[rX,xO,En,xM,jj];rw[fX an,gN _ i an,fO i _ an (by omega)];simp only[cond_true,Option.bind_some];have e:a.getD i 0=a[i]:=by simp[List.getD,an]
  rw[e];rfl
theorem KW (s:List UInt8) (ae:s.length<=1048576):(40∉s->xG s=some (s.length:Int))/\∀p q,s=p++40::q->40∉p->xG s=some (p.length:Int):=by
 have step:∀i (an:i<s.length) m,rU s (m+1) (i:Int)=cond (s[i]==40) (some (i:Int)) (rU s m ((i+1:Nat):Int)):=by
  intro i an m;simp only[rU,DU];rw[fX an,cond_true,gN s i an,Option.bind_some,fO i _ an (by omega)];have e:((s[i].toNat:Int)==40)=(s[i]==40):=by
   rw[Bool.eq_iff_iff];simp only[beq_iff_eq];constructor
   .intro h;exact UInt8.toNat_inj.1 (by rw[show(40:UInt8).toNat=40 from rfl];omega)
   .intro h;rw[h];rfl
  rw[e]
 constructor
 .intro h;unfold xG;rw[sa (n:=s.length) (λ_=>some (s.length:Int))]
  .intro m;simp only[rU,DU];rw[fh (Nat.le_refl _)];rfl
  .intro i an m ih;rw[step i an m,ih];have:(s[i]==40)=false:=by
    simp only[beq_eq_false_iff_ne,ne_eq];intro e;exact h (e▸List.getElem_mem an)
   rw[this];rfl
 .rintro p q rfl au;unfold xG;refine ij (p.length+1) λm hm=>?_;have key:∀k,k<=p.length->∀m,k<m->rU (p++40::q) m ((p.length-k:Nat):Int)=some (p.length:Int):=by
   intro k;induction k with
   |zero=>
    intro _ m hm;obtain⟨m,rfl⟩:∃j,m=j+1:=⟨m-1,by omega⟩
    rw[Nat.sub_zero,step p.length (by simp) m];have:((p++40::q)[p.length]'(by simp))=40:=by simp
    rw[this];rfl
   |succ k ih=>
    intro ay m hm;obtain⟨m,rfl⟩:∃j,m=j+1:=⟨m-1,by omega⟩
    rw[step (p.length-(k+1)) (by simp;omega) m];have:((p++40::q)[p.length-(k+1)]'(by simp;omega)==40)=false:=by
     simp only[beq_eq_false_iff_ne,ne_eq];rw[List.getElem_append_left (by omega)];intro e;exact au (e▸List.getElem_mem (by omega))
    rw[this,cond_false,show p.length-(k+1)+1=p.length-k by omega];exact ih (by omega) m (by omega)
  have:=key p.length (Nat.le_refl _) m (by omega);simpa using this
theorem SV (ws:List (List UInt8)):n9 ws=(sj ws&&(k2 ws).all n8):=by
 unfold n9 sj k2;rw[List.all_map];induction ws with
 |nil=>rfl
 |cons w r ih=>simp only[List.all_cons,ih,Function.comp];cases(iH w).2<;>cases n8 (iH w).1<;>simp
theorem aFC (ws:List (List UInt8)) (h:n9 ws=true):(k2 ws).map sg=ws:=by
 unfold k2;rw[List.map_map];conv=>rhs;rw[<-List.map_id ws]
 refine List.map_congr_left λw hw=>?_;simp only[n9,List.all_eq_true,Bool.and_eq_true]at h;have:=h w hw;simp only[n8,Bool.and_eq_true,decide_eq_true_eq]at this;simp only[Function.comp,id,sg];exact(aFt (Prod.ext rfl this.1) this.2.1 this.2.2).symm
theorem SW (p q fe:List UInt8) (au:40∉p) (ae:(p++40::q).length<=1048576) (ba:strings_TrimSuffix q [41]=some fe) (Gp:fe.length<=1048576):
  u7 (p++40::q)=some (rj p&&(n9 (fI 44 fe)&&decide ((fI 44 fe).length<=2))&&(((p++[40])++fe)++[41]==p++40::q)):=by
 have hlen:=Gn 44 fe;have KX:fe.count 44<=fe.length:=List.count_le_length;have hl:=ae;simp only[List.length_append,List.length_cons]at hl;have ok:∀n,n<=4194304->mU n=some ():=λn a7=>by unfold mU;rw[if_pos (by omega)]
 unfold u7 ES;rw[aFh p q au ae];simp only[Option.bind_some,cond_true];rw[ba,Option.bind_some,aFn 44 fe Gp,Option.bind_some,aFz _ (by omega),SV];by_cases a7:sj (fI 44 fe)=true
 .rw[if_pos a7,a7];simp only[Option.bind_some,Bool.not_true,cond_false,Bool.true_and];have oo:(k2 (fI 44 fe)).length=fe.count 44+1:=by unfold k2;rw[List.length_map,hlen]
  unfold AK ER;by_cases bj:p=[116,97,117]
  .have gx:(((k2 (fI 44 fe)).length:Int)==0)=false:=by rw[oo];simp;omega
   subst bj;simp only[BEq.rfl,cond_true,gx,Option.bind_some,Bool.not_false,Bool.true_or];rfl
  .have a6:(p==[116,97,117])=false:=by simpa using bj
   rw[a6,SR p (by omega)];simp only[cond_false,Option.bind_some];by_cases cf:rj p=true
   .rw[cf];simp only[Bool.not_true,cond_false,Bool.true_and];by_cases ah:(fI 44 fe).length<=2
    .have aQ:decide ((2:Int)<((k2 (fI 44 fe)).length:Int))=false:=by rw[oo];simp;omega
     have cC:decide ((fI 44 fe).length<=2)=true:=by simpa using ah
     rw[aQ,cC,SU _ (by omega)];simp only[cond_false,Option.bind_some,Bool.and_true];by_cases aT:(k2 (fI 44 fe)).all n8=true
     .have cF:(((k2 (fI 44 fe)).length:Int)==0)=false:=by rw[oo];simp;omega
      have lD:n9 (fI 44 fe)=true:=by rw[SV,a7,aT];rfl
      rw[aT,cF];simp only[Bool.not_true,cond_false,Bool.true_and];rw[aFb _ (by omega) (λx aw=>by
       have:=List.all_eq_true.1 aT x aw;simpa only[n8,Bool.and_eq_true,decide_eq_true_eq]using this),aFC _ lD,Sy]
      rw[ok _ (by omega),Option.bind_some,Option.bind_some,ok _ (by simp;omega),Option.bind_some,ok _ (by simp;omega),Option.bind_some,Option.bind_some];cases(((p++[40])++fe)++[41]==p++40::q)<;>rfl
     .have mi:(k2 (fI 44 fe)).all n8=false:=by simpa using aT
      rw[mi];rfl
    .have aQ:decide ((2:Int)<((k2 (fI 44 fe)).length:Int))=true:=by rw[oo];simp;omega
     have cC:decide ((fI 44 fe).length<=2)=false:=by simpa using ah
     rw[aQ,cC];simp
   .have rJ:rj p=false:=by simpa using cf
    rw[rJ];rfl
 .have qH:sj (fI 44 fe)=false:=by simpa using a7
  rw[if_neg a7,qH];simp
theorem SX (p q:List UInt8) (x:UInt8) (au:40∉p) (r:List UInt8) (e:p++40::q=r++[x]) (ae:(p++40::q).length<=1048576):
  bF (p++40::q) (IntKind.i64.wrap (((p++40::q).length:Int)-1))=some x:=by
 rw[e,eC _ (by rw[<-e];omega),show(((r++[x]).length:Int)-1)=(r.length:Int) by simp];exact KO r x []
theorem aFD (p fe:List UInt8) (au:40∉p) (ae:(p++40::(fe++[41])).length<=1048576):
  qW (p++40::(fe++[41]))=some (rj p&&(n9 (fI 44 fe)&&decide ((fI 44 fe).length<=2))):=by
 have hl:=ae;simp only[List.length_append,List.length_cons,List.length_nil]at hl;have hlen:=Gn 44 fe;have KX:fe.count 44<=fe.length:=List.count_le_length;have hw:∀w∈fI 44 fe,w.length<=1048576:=by
  have key:∀s:List UInt8,∀w∈fI 44 s,w.length<=s.length:=by
   intro s;induction s with
   |nil=>intro w hw;simp[fI]at hw;subst hw;exact Nat.le_refl _
   |cons x r ih=>
    intro w hw;simp only[fI]at hw;split at hw
    .rcases List.mem_cons.1 hw with rfl|hw
     .simp
     .exact Nat.le_trans (ih w hw) (by simp)
    .cases aS:fI 44 r with
     |nil=>exact(yr 44 r aS).elim
     |cons a t=>
      rw[aS]at hw ih;simp only[glue]at hw;rcases List.mem_cons.1 hw with rfl|hw
      .have:=ih a (by simp);simp;omega
      .exact Nat.le_trans (ih w (by simp[hw])) (by simp)
  intro w hw;have:=key fe w hw;omega
 unfold qW Aq;rw[(KW _ ae).2 p _ rfl au];have aX:(((p.length:Nat):Int)==((p++40::(fe++[41])).length:Int))=false:=by simp;omega
 simp only[Option.bind_some,aX,cond_false];rw[tv _ _ (by simp),List.take_left' rfl,Option.bind_some,SQ,Option.bind_some];rw[SX p (fe++[41]) 41 au (p++40::fe) (by simp) ae,Option.bind_some];have a6:((((41:UInt8).toNat:Nat):Int) !=41)=false:=rfl;have aQ:gB (p++40::(fe++[41])) (IntKind.i64.wrap ((p.length:Int)+1)) (IntKind.i64.wrap (((p++40::(fe++[41])).length:Int)-1))=some fe:=by
  rw[eC _ (by omega),eC _ (by omega)];have:=BA (p++[40]) fe [41] (i:=(p.length:Int)+1) (j:=(((p++40::(fe++[41])).length:Int)-1)) (by simp) (by simp;omega);simpa using this
 rw[a6,cond_false,aQ,Option.bind_some,aFo 44 fe (by omega),Option.bind_some,aFA _ (by omega) hw];cases rj p<;>rfl
theorem aFE (p q:List UInt8) (au:40∉p) (ae:(p++40::q).length<=1048576) (h:∀r,q≠r++[41]):qW (p++40::q)=some false:=by
 have hl:=ae;simp only[List.length_append,List.length_cons]at hl;unfold qW Aq;rw[(KW _ ae).2 p _ rfl au];have aX:(((p.length:Nat):Int)==((p++40::q).length:Int))=false:=by simp;omega
 simp only[Option.bind_some,aX,cond_false];rw[tv _ _ (by simp),List.take_left' rfl,Option.bind_some,SQ,Option.bind_some];obtain⟨r,x,e,aw⟩:∃r x,p++40::q=r++[x]/\x≠41:=by
  rcases List.eq_nil_or_concat q with rfl|⟨jw,x,rfl⟩
  .exact⟨p,40,rfl,by decide⟩
  .refine⟨p++40::jw,x,by simp,?_⟩;rintro rfl;exact h jw (by simp)
 rw[SX p q x au r e ae,Option.bind_some];have a6:((x.toNat:Int) !=41)=true:=by
  simp only[bne_iff_ne,ne_eq];intro bt;exact aw (UInt8.toNat_inj.1 (by rw[show(41:UInt8).toNat=41 from rfl];omega))
 rw[a6];cases rj p<;>rfl
noncomputable def Gq (s:List UInt8):Bool:=(qW s).getD false
theorem aFF (s:List UInt8) (ae:s.length<=1048576):qW s=some (Gq s)/\u7 s=some (Gq s):=by
 suffices h:∃b,qW s=some b/\u7 s=some b by
  obtain⟨b,ag,ah⟩:=h;unfold Gq;rw[ag,ah];exact⟨rfl,rfl⟩
 by_cases hm:40∈s
 .obtain⟨p,q,rfl,au⟩:=KL hm;have hl:=ae;simp only[List.length_append,List.length_cons]at hl;by_cases cU:∃r,q=r++[41]
  .obtain⟨fe,rfl⟩:=cU;have Gp:fe.length<=1048576:=by simp at hl;omega
   refine⟨_,aFD p fe au ae,?_⟩;rw[SW p _ fe au ae (aFi fe Gp) Gp];have:(((p++[40])++fe)++[41]==p++40::(fe++[41]))=true:=by simp
   rw[this,Bool.and_true]
  .have SY:∀r,q≠r++[41]:=λr e=>cU ⟨r,e⟩;refine⟨false,aFE p q au ae SY,?_⟩;rw[SW p q q au ae (aFj q (by omega) SY) (by omega)];have:(((p++[40])++q)++[41]==p++40::q)=false:=by
    simp only[beq_eq_false_iff_ne,ne_eq];intro e;have:=congrArg List.length e;simp at this
   rw[this,Bool.and_false]
 .unfold qW Aq u7 ES;rw[(KW s ae).1 hm,aFg hm,BB];have aX:((s.length:Int)==(s.length:Int))=true:=by simp
  simp only[Option.bind_some,aX,cond_true,cond_false];refine⟨_,rfl,?_⟩;unfold AK ER;by_cases bj:s=[116,97,117]
  .subst bj;rfl
  .have a6:(s==[116,97,117])=false:=by simpa using bj
   rw[a6,SR s ae];simp only[cond_false,Option.bind_some];have aQ:rj s=kG s:=by unfold rj;rw[a6];simp
   rw[aQ];cases kG s
   .rfl
   .simp only[Bool.not_true,cond_false,List.length_nil];rw[SU [] (by simp)];simp
end Go.eU
