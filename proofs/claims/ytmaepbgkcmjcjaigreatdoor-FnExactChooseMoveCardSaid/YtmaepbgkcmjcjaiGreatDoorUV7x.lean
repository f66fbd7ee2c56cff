/- Part of a proof that a law returns true for every input. No condition. -/
import Derived.Test.YtmaepbgkcmjcjaiGreatDoorUV0x
import Derived.Test.YtmaepbgkcmjcjaiGreatDoorUV6x
import Derived.Test.YtmaepbgkcmjcjaiGreatDoorUV1x
import Derived.Test.YtmaepbgkcmjcjaiGreatDoorUV2x
import Derived.Test.YtmaepbgkcmjcjaiGreatDoorP3
namespace Go.l_
open Option Go.IntKind Nat
open Go Go.eg
theorem aws {s:cM} {q:azA} (cz:q.length<=3) {al:azn} {i0:Nat} (a7:i0<q.length) (aC:al.length=i0) (aa:∀i (h:i<q.length),i<i0->uA s.cw q[i]=some (al.getD i [],true)) (bH:∃S,uA s.cw q[i0]=some (S,false)):
  ∀i,i<=i0->∀m,i0-i<m->wi q s.cw s.cg s.b8 s.cB s.cy m (al.take i) (i:Int)=some ([],false):=by
 refine down i0 ?_ ?_
 .intro m hm;obtain⟨m,rfl⟩:∃j,m=j+1:=⟨m-1,by omega⟩
  obtain⟨S,e⟩:=bH;simp only[wi,F7];rw[d_ a7,cond_true,dJ q i0 a7,bind_some,e];rfl
 .intro i ai ih m hm;obtain⟨m,rfl⟩:∃j,m=j+1:=⟨m-1,by omega⟩
  simp only[wi,F7];rw[d_ (show i<q.length by omega),cond_true,dJ q i (by omega),bind_some,aa i (by omega) ai,bind_some];have mO:i<al.length:=by omega
  have e:al.getD i []=al[i]:=by simp[List.getD,mO]
  simp only[Bool.not_true,cond_false,e];rw[ky (by simp;omega) (by simp;omega),bind_some,<-List.take_succ_eq_append_getElem mO,dQ i q.length (by omega) (by omega)];exact ih m (by omega)
theorem awt {s:cM} {q:azA} {al:azn} (H:tG s q al) {i0:Nat} (a7:i0<q.length) (aa:∀i (h:i<q.length),i<i0->uU s.cw q[i]=some (al.getD i [],true)) (bH:∃S,uU s.cw q[i0]=some (S,false)):
  ∀i,i<=i0->∀(p:azC×Seen) m,p.1.length+200*(i0-i)<=1000->i0-i<m->p1 s q m s q p.1 p.2 (al.take i) (i:Int)=some ([],false):=by
 have aJ:=H.o0;refine down i0 ?_ ?_
 .intro p m ay hm;obtain⟨m,rfl⟩:∃j,m=j+1:=⟨m-1,by omega⟩
  obtain⟨S,e⟩:=bH;simp only[p1,GA];rw[d_ a7,cond_true,dJ q i0 a7,bind_some,e];rfl
 .intro i ai ih p m ay hm;obtain⟨m,rfl⟩:∃j,m=j+1:=⟨m-1,by omega⟩
  have HK:i<q.length:=by omega
  obtain⟨mO,iv,li,tI⟩:=H.at HK;simp only[p1,GA];rw[d_ HK,cond_true,dJ q i HK,bind_some,aa i HK ai,bind_some,iv];simp only[Bool.not_true,cond_false];rw[ky (by simp;omega) (by simp;omega),bind_some,<-List.take_succ_eq_append_getElem mO];have iB:bX (λn=>x_ (p1 s q m) s q (al[i],true) n s q p.1 p.2 (al.take (i+1)) (i:Int) (i:Int) 0)=
    p1 s q m s q ((lD s q i al[i]).foldl h3 p).1 ((lD s q i al[i]).foldl h3 p).2 (al.take (i+1)) ((i+1:Nat):Int):=
   eY (al[i].length+1) λm2 qR=>acj H _ _ HK li tI 0 (by omega) p m2 (by omega) (by omega)
  have b1:=A1 (lD s q i al[i]) p;have dM:=L4 (s:=s) (q:=q) i al[i];rw[iB];exact ih _ m (by omega) (by omega)
theorem awu {s:cM} (h:vq s) (aF:(mE s==0)=true) {q:azA} (cz:∀p∈q,p.bV.length<=1048576) (aa:xd s q=true):
  q.length<=3/\(∀p∈q,kA p)/\∀p∈q,sO s.cw p=some true:=by
 have ao:=Tv aF;unfold xd at aa;rw[Bool.and_eq_true]at aa;have ar:s.cg.length<=3:=by
  have ar:vp s=true:=by
   cases ar:vp s
   .unfold mE at aF;rw[ar]at aF;revert aF;cases lZ s.cw<;>simp
   .rfl
  unfold vp at ar;simp only[Bool.and_eq_true,decide_eq_true_eq]at ar;exact ar.1.2
 have aC:q.length=s.cg.length:=by have:=aa.1;rw[beq_iff_eq]at this;omega
 have ay:∀p∈q,sO s.cw p=some true:=by
  intro p ay;obtain⟨k,ax,rfl⟩:=List.mem_iff_getElem.1 ay;have ad:=nO.1 aa.2 k ax;have e:tF q k=q[k]:=by simp[tF,List.getD,ax]
  rw[e]at ad;rw[(Tw _ h.1 ao _ (cz _ ay)).1,ad]
 refine⟨by omega,λp HL=>?_,ay⟩;obtain⟨i,ai,j,aO,aU,bJ,mK,iB⟩:=abM h.1 ao (cz p HL) (ay p HL);have avs:s.cw[i].Body.length<=20:=(AH ((DP h.1 ao).2.2 i ai).2.1).2.2;have bh:s.cw.length<=4:=(DP h.1 ao).2.1;have P:=(S3 h.1 ao ai bJ).abn;exact⟨⟨i,by omega,aO⟩,⟨j,by omega,aU⟩,by omega,iB⟩
theorem awv {s:cM} (h:vq s) (aF:(mE s==0)=true) {q:azA} (cz:∀p∈q,p.bV.length<=1048576) (aa:xd s q=true):
  ∃(lC S:azC) (b:Bool),KA s q=some (lC,b)/\JN s.cw s.cg s.b8 s.cB s.cy q=some (S,b)/\(b=true->S=lC/\lC.length<=200/\∀m∈lC,i6 q.length m):=by
 obtain⟨aJ,hg,ay⟩:=awu h aF cz aa;have ao:=Tv aF;have aww:=λp (HL:p∈q)=>avr h.1 ao (cz p HL) (ay p HL);have key:∀l:azA,(∀p∈l,p∈q)->(∃al:azn,al.length=l.length/\(∀x∈al,x.length<=200/\∀y∈x,fG y)/\∀i (ai:i<l.length),uU s.cw l[i]=some (al.getD i [],true)/\uA s.cw l[i]=some (al.getD i [],true))\/
   ∃(i0:Nat) (HM:i0<l.length) (al:azn),al.length=i0/\(∀x∈al,x.length<=200/\∀y∈x,fG y)/\(∀i (ai:i<l.length),i<i0->uU s.cw l[i]=some (al.getD i [],true)/\uA s.cw l[i]=some (al.getD i [],true))/\
    (∃S,uU s.cw l[i0]=some (S,false))/\∃S,uA s.cw l[i0]=some (S,false):=by
  intro l;induction l with
  |nil=>intro _;exact .inl ⟨[],rfl,λx an=>(by cases an),λi ai=>absurd ai (not_lt_zero i)⟩
  |cons p l ih=>
   intro aC;obtain⟨lC,S,b,J,a2,a3⟩:=aww p (aC p (by simp));cases b
   .exact .inr ⟨0,by simp,[],rfl,λx an=>(by cases an),λi _ ai=>absurd ai (not_lt_zero i),⟨lC,J⟩,⟨S,a2⟩⟩
   .obtain⟨rfl,a4,a5⟩:=a3 rfl;rcases ih λx an=>aC x (List.mem_cons_of_mem _ an)with⟨al,hC,gd,fY⟩|⟨i0,HM,al,hC,gd,fY,bw,cI⟩
    .refine .inl ⟨S::al,by simp[hC],λx an=>?_,λi ai=>?_⟩
     .rcases List.mem_cons.1 an with rfl|an
      .exact⟨a4,a5⟩
      .exact gd x an
     .cases i with
      |zero=>exact⟨J,a2⟩
      |succ i=>simpa using fY i (by simpa using ai)
    .refine .inr ⟨i0+1,by simpa using HM,S::al,by simp[hC],λx an=>?_,λi ai er=>?_,by simpa using bw,by simpa using cI⟩
     .rcases List.mem_cons.1 an with rfl|an
      .exact⟨a4,a5⟩
      .exact gd x an
     .cases i with
      |zero=>exact⟨J,a2⟩
      |succ i=>simpa using fY i (by simpa using ai) (by omega)
 rcases key q λ_ h=>h with⟨al,hC,gd,fY⟩|⟨i0,HM,al,hC,gd,fY,bw,cI⟩
 .have H:tG s q al:=⟨aF,⟨h.2.2.1.1,h.2.2.2.1.1,h.2.2.2.2.1⟩,aJ,hg,hC,gd⟩
  have DW:KA s q=some (((two s q al 0).foldl h3 ((one s q al 0).foldl h3 ([],[]))).1,decide (((((two s q al 0).foldl h3 ((one s q al 0).foldl h3 ([],[]))).1).length:Int)<=200)):=
   eY (q.length+1) λm hm=>awq H (λi ai=>(fY i ai).1) 0 (by omega) ([],[]) m (by simp;omega) (by omega)
  have cj:JN s.cw s.cg s.b8 s.cB s.cy q=some ((two s q al 0).foldl iM ((one s q al 0).foldl hN []),decide ((((two s q al 0).foldl iM ((one s q al 0).foldl hN [])).length:Int)<=200)):=
   eY (q.length+1) λm hm=>awr H (λi ai=>(fY i ai).2) 0 (by omega) m (by omega)
  have mi:∀x∈one s q al 0++two s q al 0,i6 q.length x:=λx an=>(List.mem_append.1 an).elim (H.gone x) (H.acg x);have aO:((two s q al 0).foldl h3 ((one s q al 0).foldl h3 ([],[]))).1=(two s q al 0).foldl hN ((one s q al 0).foldl hN []):=by
   rw[<-List.foldl_append,<-List.foldl_append];exact Tp (G:=i6 q.length) avG _ [] [] mi (λx an=>by cases an) (λx _=>by simp[j0])
  rw[aO]at DW;have yF:∀x∈(two s q al 0).foldl hN ((one s q al 0).foldl hN []),i6 q.length x:=L2 _ _ (L2 _ _ (λx an=>by cases an) H.gone) H.acg;obtain⟨cA,c2⟩:=abU (two s q al 0) ((one s q al 0).foldl hN []);generalize (two s q al 0).foldl hN ((one s q al 0).foldl hN [])=lC at DW cA c2 yF;by_cases aC:lC.length<=200
  .rw[cA aC]at cj;exact⟨lC,lC,_,DW,cj,λ_=>⟨rfl,aC,yF⟩⟩
  .have:=c2 (by omega);generalize (two s q al 0).foldl iM ((one s q al 0).foldl hN [])=j5 at cj this;refine⟨lC,j5,false,?_,?_,λh=>by cases h⟩
   .rw[DW,show decide ((lC.length:Int)<=200)=false from decide_eq_false (by omega)]
   .rw[cj,show decide ((j5.length:Int)<=200)=false from decide_eq_false (by omega)]
 .let HN:=al++List.replicate (q.length-i0) ([]:azD)
  have hlen:HN.length=q.length:=by simp[HN,hC];omega
  have q7:∀i,i<i0->HN.getD i []=al.getD i []:=λi ai=>by
   simp only[HN,List.getD];rw[List.getElem?_append_left (by omega)]
  have H:tG s q HN:=⟨aF,⟨h.2.2.1.1,h.2.2.2.1.1,h.2.2.2.2.1⟩,aJ,hg,hlen,λx an=>by
   rcases List.mem_append.1 an with an|an
   .exact gd x an
   .rw[(List.mem_replicate.1 an).2];exact⟨by simp,λy hy=>by cases hy⟩⟩
  refine⟨[],[],false,?_,?_,λh=>by cases h⟩
  .exact eY (q.length+1) λm hm=>awt H HM (λi ai er=>by rw[q7 i er];exact(fY i ai er).1) bw 0 (by omega) ([],[]) m (by simp;omega) (by omega)
  .exact eY (q.length+1) λm hm=>aws aJ HM hC (λi ai er=>(fY i ai er).2) cI 0 (by omega) m (by omega)
theorem awx (s:cM) (h:vq s) (q:azA) (cz:q.length<=1048576) (aF:∀p∈q,p.bV.length<=1048576):
  ∃b,Ju s q=some (cond b 0 1)/\Kg s q=some b/\(b=true->(mE s==0)=true/\xd s q=true):=by
 unfold Ju Kg;rw[avY _ h,avZ _ h];simp only[bind_some];cases bH:(mE s==0)
 .exact⟨false,rfl,rfl,λh=>by cases h⟩
 .have ao:=Tv bH;rw[av0 s h.1 ao q cz aF,av1 s h.1 ao q cz aF];refine⟨xd s q,?_,?_,λh=>⟨rfl,h⟩⟩
  .simp only[Bool.not_true,cond_false,bind_some];cases xd s q<;>rfl
  .unfold xd;simp only[bind_some,cond_true,Bool.not_not];cases((q.length:Int)==(s.cg.length:Int))<;>rfl
theorem acm (ws:azb):oW ws=(tt ws&&(lY ws).all pC):=by
 unfold oW tt lY;rw[List.all_map];induction ws with
 |nil=>rfl
 |cons w r ih=>simp only[List.all_cons,ih,Function.comp];cases(iX w).2<;>cases pC (iX w).1<;>simp
theorem awy (ws:azb) (h:oW ws=true):(lY ws).map jB=ws:=by
 unfold lY;rw[List.map_map];conv=>rhs;rw[<-List.map_id ws]
 refine List.map_congr_left λw hw=>?_;simp only[oW,List.all_eq_true,Bool.and_eq_true]at h;have:=h w hw;simp only[pC,Bool.and_eq_true,decide_eq_true_eq]at this;simp only[Function.comp,id,jB];exact(as4 (Prod.ext rfl this.1) this.2.1 this.2.2).symm
theorem acn (p q fp:azc) (ay:40∉p) (aa:(p++40::q).length<=1048576) (a7:strings_TrimSuffix q [41]=some fp) (L5:fp.length<=1048576):
  zV (p++40::q)=some (vi p&&(oW (fR 44 fp)&&decide ((fR 44 fp).length<=2))&&(((p++[40])++fp)++[41]==p++40::q)):=by
 have hlen:=Lv 44 fp;have SP:fp.count 44<=fp.length:=List.count_le_length;have aC:=aa;simp only[List.length_append,List.length_cons]at aC;have ok:∀n,n<=4194304->iO n=some ():=λn aR=>by unfold iO;rw[if_pos (by omega)]
 unfold zV uR;rw[aak p q ay aa];simp only[bind_some,cond_true];rw[a7,bind_some,aao 44 fp L5,bind_some,aaE _ (by omega),acm];by_cases aR:tt (fR 44 fp)=true
 .rw[if_pos aR,aR];simp only[bind_some,Bool.not_true,cond_false,Bool.true_and];have oF:(lY (fR 44 fp)).length=fp.count 44+1:=by unfold lY;rw[List.length_map,hlen]
  unfold zU wq;by_cases aY:p=[116,97,117]
  .have fT:(((lY (fR 44 fp)).length:Int)==0)=false:=by rw[oF];simp;omega
   subst aY;simp only[BEq.rfl,cond_true,fT,bind_some,Bool.not_false,Bool.true_or];rfl
  .have aU:(p==[116,97,117])=false:=by simpa using aY
   rw[aU,aaD p (by omega)];simp only[cond_false,bind_some];by_cases bl:vi p=true
   .rw[bl];simp only[Bool.not_true,cond_false,Bool.true_and];by_cases ae:(fR 44 fp).length<=2
    .have aM:decide ((2:Int)<((lY (fR 44 fp)).length:Int))=false:=by rw[oF];simp;omega
     have bT:decide ((fR 44 fp).length<=2)=true:=by simpa using ae
     rw[aM,bT,aaH _ (by omega)];simp only[cond_false,bind_some,Bool.and_true];by_cases aF:(lY (fR 44 fp)).all pC=true
     .have cv:(((lY (fR 44 fp)).length:Int)==0)=false:=by rw[oF];simp;omega
      have mi:oW (fR 44 fp)=true:=by rw[acm,aR,aF];rfl
      rw[aF,cv];simp only[Bool.not_true,cond_false,Bool.true_and];rw[SI _ (by omega) (λx an=>by
       have:=List.all_eq_true.1 aF x an;simpa only[pC,Bool.and_eq_true,decide_eq_true_eq]using this),awy _ mi,aae]
      rw[ok _ (by omega),bind_some,bind_some,ok _ (by simp;omega),bind_some,ok _ (by simp;omega),bind_some,bind_some];cases(((p++[40])++fp)++[41]==p++40::q)<;>rfl
     .have nW:(lY (fR 44 fp)).all pC=false:=by simpa using aF
      rw[nW];rfl
    .have aM:decide ((2:Int)<((lY (fR 44 fp)).length:Int))=true:=by rw[oF];simp;omega
     have bT:decide ((fR 44 fp).length<=2)=false:=by simpa using ae
     rw[aM,bT];simp
   .have vI:vi p=false:=by simpa using bl
    rw[vI];rfl
 .have oG:tt (fR 44 fp)=false:=by simpa using aR
  rw[if_neg aR,oG];simp
theorem aco (p q:azc) (x:UInt8) (ay:40∉p) (r:azc) (e:p++40::q=r++[x]) (aa:(p++40::q).length<=1048576):
  bk (p++40::q) (i64.wrap (((p++40::q).length:Int)-1))=some x:=by
 rw[e,eD _ (by rw[<-e];omega),show(((r++[x]).length:Int)-1)=(r.length:Int) by simp];exact SA r x []
theorem awz (p fp:azc) (ay:40∉p) (aa:(p++40::(fp++[41])).length<=1048576):
  uw (p++40::(fp++[41]))=some (vi p&&(oW (fR 44 fp)&&decide ((fR 44 fp).length<=2))):=by
 have aC:=aa;simp only[List.length_append,List.length_cons,List.length_nil]at aC;have hlen:=Lv 44 fp;have SP:fp.count 44<=fp.length:=List.count_le_length;have hw:∀w∈fR 44 fp,w.length<=1048576:=by
  have key:∀s:azc,∀w∈fR 44 s,w.length<=s.length:=by
   intro s;induction s with
   |nil=>intro w hw;simp[fR]at hw;subst hw;exact Nat.le_refl _
   |cons x r ih=>
    intro w hw;simp only[fR]at hw;split at hw
    .rcases List.mem_cons.1 hw with rfl|hw
     .simp
     .exact Nat.le_trans (ih w hw) (by simp)
    .cases aT:fR 44 r with
     |nil=>exact(DD 44 r aT).elim
     |cons a t=>
      rw[aT]at hw ih;simp only[glue]at hw;rcases List.mem_cons.1 hw with rfl|hw
      .have:=ih a (by simp);simp;omega
      .exact Nat.le_trans (ih w (by simp[hw])) (by simp)
  intro w hw;have:=key fp w hw;omega
 unfold uw sQ;rw[(yv _ aa).2 p _ rfl ay];have aO:(((p.length:Nat):Int)==((p++40::(fp++[41])).length:Int))=false:=by simp;omega
 simp only[bind_some,aO,cond_false];rw[tq _ _ (by simp),List.take_left' rfl,bind_some,aaC,bind_some];rw[aco p (fp++[41]) 41 ay (p++40::fp) (by simp) aa,bind_some];have aU:((((41:UInt8).toNat:Nat):Int) !=41)=false:=rfl;have aM:gz (p++40::(fp++[41])) (i64.wrap ((p.length:Int)+1)) (i64.wrap (((p++40::(fp++[41])).length:Int)-1))=some fp:=by
  rw[eD _ (by omega),eD _ (by omega)];have:=DC (p++[40]) fp [41] (i:=(p.length:Int)+1) (j:=(((p++40::(fp++[41])).length:Int)-1)) (by simp) (by simp;omega);simpa using this
 rw[aU,cond_false,aM,bind_some,aap 44 fp (by omega),bind_some,aaF _ (by omega) hw];cases vi p<;>rfl
theorem awA (p q:azc) (ay:40∉p) (aa:(p++40::q).length<=1048576) (h:∀r,q≠r++[41]):uw (p++40::q)=some false:=by
 have aC:=aa;simp only[List.length_append,List.length_cons]at aC;unfold uw sQ;rw[(yv _ aa).2 p _ rfl ay];have aO:(((p.length:Nat):Int)==((p++40::q).length:Int))=false:=by simp;omega
 simp only[bind_some,aO,cond_false];rw[tq _ _ (by simp),List.take_left' rfl,bind_some,aaC,bind_some];obtain⟨r,x,e,an⟩:∃r x,p++40::q=r++[x]/\x≠41:=by
  rcases List.eq_nil_or_concat q with rfl|⟨kE,x,rfl⟩
  .exact⟨p,40,rfl,by decide⟩
  .refine⟨p++40::kE,x,by simp,?_⟩;rintro rfl;exact h kE (by simp)
 rw[aco p q x ay r e aa,bind_some];have aU:((x.toNat:Int) !=41)=true:=by
  simp only[bne_iff_ne,ne_eq];intro bD;exact an (UInt8.toNat_inj.1 (by rw[show(41:UInt8).toNat=41 from rfl];omega))
 rw[aU];cases vi p<;>rfl
noncomputable def L6 (s:azc):Bool:=(uw s).getD false
theorem awB (s:azc) (aa:s.length<=1048576):uw s=some (L6 s)/\zV s=some (L6 s):=by
 suffices h:∃b,uw s=some b/\zV s=some b by
  obtain⟨b,ad,ae⟩:=h;unfold L6;rw[ad,ae];exact⟨rfl,rfl⟩
 by_cases hm:40∈s
 .obtain⟨p,q,rfl,ay⟩:=Sw hm;have aC:=aa;simp only[List.length_append,List.length_cons]at aC;by_cases cz:∃r,q=r++[41]
  .obtain⟨fp,rfl⟩:=cz;have L5:fp.length<=1048576:=by simp at aC;omega
   refine⟨_,awz p fp ay aa,?_⟩;rw[acn p _ fp ay aa (aal fp L5) L5];have:(((p++[40])++fp)++[41]==p++40::(fp++[41]))=true:=by simp
   rw[this,Bool.and_true]
  .have acp:∀r,q≠r++[41]:=λr e=>cz ⟨r,e⟩;refine⟨false,awA p q ay aa acp,?_⟩;rw[acn p q q ay aa (asW q (by omega) acp) (by omega)];have:(((p++[40])++q)++[41]==p++40::q)=false:=by
    simp only[beq_eq_false_iff_ne,ne_eq];intro e;have:=congrArg List.length e;simp at this
   rw[this,Bool.and_false]
 .unfold uw sQ zV uR;rw[(yv s aa).1 hm,aaj hm,yu];have aO:((s.length:Int)==(s.length:Int))=true:=by simp
  simp only[bind_some,aO,cond_true,cond_false];refine⟨_,rfl,?_⟩;unfold zU wq;by_cases aY:s=[116,97,117]
  .subst aY;rfl
  .have aU:(s==[116,97,117])=false:=by simpa using aY
   rw[aU,aaD s aa];simp only[cond_false,bind_some];have aM:vi s=ha s:=by unfold vi;rw[aU];simp
   rw[aM];cases ha s
   .rfl
   .simp only[Bool.not_true,cond_false,List.length_nil];rw[aaH [] (by simp)];simp
noncomputable def vt (e:fu):Bool:=(decide (0<=e.Choice)&&decide (e.Choice<=199))&&((decide (0<=e.fa)&&decide (e.fa<=2))&&((decide (-1<=e.Second)&&decide (e.Second<=2))&&L6 e.Label))
theorem acq (e:fu) (h:e.Label.length<=1048576):Jz e=some (vt e)/\Kp e=some (vt e):=by
 obtain⟨ad,ae⟩:=awB e.Label h;unfold Jz Kp jP ig vt;rw[ad,ae];simp only[bind_some];cases(decide (0<=e.Choice)&&decide (e.Choice<=199))<;>cases(decide (0<=e.fa)&&decide (e.fa<=2))<;>cases(decide (-1<=e.Second)&&decide (e.Second<=2))<;>exact⟨rfl,rfl⟩
noncomputable def HO (a:azB):Bool:=decide (a.length<=60)&&a.all vt
theorem awC (a:azB) (aC:a.length<=1048576) (h:∀e∈a,e.Label.length<=1048576):JA a=some (HO a)/\Kq a=some (HO a):=by
 unfold JA Kq HO Qa P_;rw[p8 (n:=a.length) (l:=CO a) (λi=> !vt (a.getD i ⟨0,0,0,[]⟩)) (λm=>?_) (λi ai m=>?_)]
 .simp only[bind_some,tr,Bool.not_not];have aO:fW (λi=>vt (a.getD i ⟨0,0,0,[]⟩)) a.length=a.all vt:=by
   rw[Bool.eq_iff_iff,nO,List.all_eq_true];constructor
   .intro q x an;obtain⟨k,ax,rfl⟩:=List.mem_iff_getElem.1 an;have:=q k ax;simpa [List.getD,ax]using this
   .intro q i ai;have:=q _ (List.getElem_mem ai);simpa [List.getD,ai]using this
  rw[aO];have aa:bX (λn=>B6 a n 0)=some (a.all vt):=by
   rw[oV (n:=a.length) (λi=>some ((a.drop i).all vt))]
   .simp
   .intro m;simp only[B6,O_];rw[ev (Nat.le_refl _)];simp
   .intro i ai m ih;simp only[B6,O_];rw[d_ ai,dJ _ i ai,dQ i _ ai (by omega),ih,drop_cons _ i ai];simp only[cond_true,bind_some,List.all_cons];rw[(acq _ (h _ (List.getElem_mem ai))).1];simp only[bind_some];cases vt a[i]<;>simp
  rw[aa];by_cases acr:a.length<=60
  .rw[show decide ((60:Int)<(a.length:Int))=false from decide_eq_false (by omega),show decide ((a.length:Int)<=60)=true from decide_eq_true (by omega),show decide (a.length<=60)=true from decide_eq_true acr];simp
  .rw[show decide ((60:Int)<(a.length:Int))=true from decide_eq_true (by omega),show decide ((a.length:Int)<=60)=false from decide_eq_false (by omega),show decide (a.length<=60)=false from decide_eq_false acr];exact⟨rfl,rfl⟩
 .simp only[CO,P9];rw[ev (Nat.le_refl _)];rfl
 .simp only[CO,P9,P8];rw[d_ ai,dJ _ i ai,dQ i _ ai (by omega)];simp only[cond_true,bind_some];rw[(acq _ (h _ (List.getElem_mem ai))).2];have e:a.getD i ⟨0,0,0,[]⟩=a[i]:=by simp[List.getD,ai]
  rw[e];rfl
def acs (s:Int):Int:=cond (decide (65535<i64.wrap (s*2))) (bitsOf .xor .i64 (bitsOf .and .i64 (i64.wrap (s*2)) 65535) 4129) (i64.wrap (s*2))
def L7:Nat->Int->Int
 |0,s=>s
 |k+1,s=>L7 k (acs s)
def acu (s:Int) (c:UInt8):Int:=L7 8 (bitsOf .xor .i64 s (i64.wrap ((c.toNat:Int)*256)))
def TG (l:azc) (s:Int):Int:=l.foldl acu s
theorem awD (dz:Int->Int->azh) (a:azc) (i:Int):∀(d n:Nat) (s j:Int),j=8-d->d<=8->d<n->wj dz a n s i j=dz (L7 d s) (i64.wrap (i+1)):=by
 intro d;induction d with
 |zero=>
  intro n s j bJ _ aR;obtain⟨m,rfl⟩:∃m,n=m+1:=⟨n-1,by omega⟩
  simp only[wj,JO];have:decide (j<8)=false:=by simp;omega
  rw[this];rfl
 |succ d ih=>
  intro n s j bJ ao aR;obtain⟨m,rfl⟩:∃m,n=m+1:=⟨n-1,by omega⟩
  simp only[wj,JO,F8];have ad:decide (j<8)=true:=by simp;omega
  have ae:i64.wrap (j+1)=j+1:=eD _ (by omega);rw[ad,ae];simp only[cond_true];rw[ih m _ (j+1) (by omega) (by omega) (by omega),ih m _ (j+1) (by omega) (by omega) (by omega)];simp only[L7,acs];cases decide (65535<i64.wrap (s*2))<;>rfl
theorem awE (a:azc) (bl:a.length<=140737488355328):∀(d n:Nat) (s i:Int),i=a.length-d->d<=a.length->d<n->qw a n s i=some (TG (a.drop i.toNat) s):=by
 intro d;induction d with
 |zero=>
  intro n s i ai _ aR;obtain⟨m,rfl⟩:∃m,n=m+1:=⟨n-1,by omega⟩
  simp only[qw,JP];have ad:decide (i<a.length)=false:=by simp;omega
  rw[ad,List.drop_of_length_le (by omega)];rfl
 |succ d ih=>
  intro n s i ai ao aR;obtain⟨m,rfl⟩:∃m,n=m+1:=⟨n-1,by omega⟩
  simp only[qw,JP];have ad:decide (i<a.length)=true:=by simp;omega
  have er:i.toNat<a.length:=by omega
  rw[ad,L9 (by omega) er];simp only[cond_true,bind_some];rw[eY (x:=qw a m (acu s a[i.toNat]) (i+1)) 9]
  .rw[ih m _ (i+1) (by omega) (by omega) (by omega)];have:(i+1).toNat=i.toNat+1:=by omega
   rw[this,List.drop_eq_getElem_cons er];rfl
  .intro n aR;rw[awD _ a i 8 n _ 0 (by omega) (by omega) (by omega),eD (i+1) (by omega)];rfl
theorem acv (a:azc) (bl:a.length<=140737488355328) (s:Int):CC a s=some (TG a s):=by
 unfold CC;refine eY (a.length+1) λn aR=>?_;rw[awE a bl a.length n s 0 (by omega) (by omega) (by omega)];rfl
theorem awF (a:azc) (s:Int) (h:0<=s/\s<=65535):GB a s=CC a s:=by
 have aO:∀k n s i j,Di k a n s i j=wj k a n s i j:=by
  intro k n;induction n with
  |zero=>intros;rfl
  |succ n ih=>
   intro s i j;simp only[Di,wj,XK,JO,KB,F8,ih]
 have aU:∀n s i,wz a n s i=qw a n s i:=by
  intro n;induction n with
  |zero=>intros;rfl
  |succ n ih=>
   intro s i;have LG:wz a n=qw a n:=by funext s i;exact ih s i
   simp only[wz,qw,XL,JP,aO,LG]
 unfold GB CC ig;have ab:(decide (0<=s)&&decide (s<=65535))=true:=by simp[h]
 simp only[ab,bind_some,Bool.not_true,cond_false,aU]
theorem awG (a:azc) (bl:a.length<=140737488355328) (s:Int) (h:0<=s/\s<=65535):GB a s=some (TG a s):=(awF a s h).trans (acv a bl s)
theorem TH:∀(k n:Nat),n<10^(k+1)->(nt n).length<=k+1:=by
 intro k;induction k with
 |zero=>intro n h;rw[nt,dif_pos (by omega)];simp
 |succ k ih=>
  intro n h;rw[nt];by_cases ad:n<10
  .rw[dif_pos ad];simp
  .rw[dif_neg ad];have:=ih (n/10) (by rw[Nat.pow_succ]at h;omega);simp;omega
theorem awH:∀d:Fin 10,pG (i64.wrap (48+((d:Nat):Int)))=UInt8.ofNat (48+d):=by decide
theorem acw (n:Nat) (h:n<10):pG (i64.wrap (48+(n:Int)))=UInt8.ofNat (48+n):=awH ⟨n,h⟩
theorem acx (a:azc) (bl:a.length<=1000):uy a=some a.reverse:=by
 unfold uy;have key:∀i,i<=a.length->∀m,i<m->Cb a m ((a.drop i).reverse) ((i:Int)-1)=some a.reverse:=by
  intro i;induction i with
  |zero=>
   intro _ m hm;obtain⟨m,rfl⟩:∃j,m=j+1:=⟨m-1,by omega⟩
   simp only[Cb,Pe];rw[show decide ((0:Int)<=((0:Nat):Int)-1)=false from by decide];simp
  |succ i ih=>
   intro ai m hm;obtain⟨m,rfl⟩:∃j,m=j+1:=⟨m-1,by omega⟩
   simp only[Cb,Pe];rw[show decide ((0:Int)<=((i+1:Nat):Int)-1)=true from decide_eq_true (by omega),cond_true,show(((i+1:Nat):Int)-1)=(i:Int) by omega,dJ a i (by omega),bind_some,ky (by simp;omega) (by simp;omega),bind_some,eD ((i:Int)-1) (by omega)];have:=ih (by omega) m (by omega);rw[drop_cons a i (by omega),List.reverse_cons]at this;exact this
 refine eY (a.length+1) λm hm=>?_;have:=key a.length (Nat.le_refl _) m (by omega);rw[List.drop_length]at this;rw[eD _ (by omega)];exact this
theorem acy (a:Int) (s:Int) (aa:s=1\/s= -1) (mI:azc->Option azc) (ts:∀v m,v.length<=30->nr a (m+1) v 0=mI v):
  ∀(k n:Nat) (v:azc),1<=n->n<10^(k+1)->k<=18->v.length+k<=20->∀m,k+2<=m->nr a m v (s*(n:Int))=mI (v++(nt n).reverse):=by
 intro k;induction k with
 |zero=>
  intro n v ad aR _ aF m hm;obtain⟨m,rfl⟩:∃j,m=j+2:=⟨m-2,by omega⟩
  have oG:n<10:=by simpa using aR
  have aU:Int.tmod (s*(n:Int)) 10=s*((n%10:Nat):Int):=by
   rcases aa with rfl|rfl
   .rw[Int.one_mul,Int.one_mul];rfl
   .rw[Int.neg_mul,Int.one_mul,Int.neg_tmod,Int.neg_mul,Int.one_mul];rfl
  have bT:Int.tdiv (s*(n:Int)) 10=0:=by
   rcases aa with rfl|rfl
   .rw[Int.one_mul,show Int.tdiv (n:Int) 10=((n/10:Nat):Int)from rfl];omega
   .rw[Int.neg_mul,Int.one_mul,Int.neg_tdiv,show Int.tdiv (n:Int) 10=((n/10:Nat):Int)from rfl];omega
  have aO:((s*(n:Int)) !=0)=true:=by rcases aa with rfl|rfl<;>simp<;>omega
  simp only[nr,zD,Ca];rw[aO,aU,bT,cond_true];have an:(cond (decide (s*((n%10:Nat):Int)<0)) (i64.wrap (0-s*((n%10:Nat):Int))) (s*((n%10:Nat):Int)))=((n%10:Nat):Int):=by
   rcases aa with rfl|rfl
   .rw[show decide (1*((n%10:Nat):Int)<0)=false from by simp;omega];simp
   .rw[show decide (-1*((n%10:Nat):Int)<0)=true from by simp;omega,cond_true,eD _ (by omega)];omega
  have ax:∀x,x=((n%10:Nat):Int)->((room 1 (v.length+1)).bind λ_=>nr a (m+1) (v++[pG (i64.wrap (48+x))]) (i64.wrap 0))=mI (v++(nt n).reverse):=by
   rintro x rfl;rw[acw (n%10) (by omega),ky (by omega) (by omega),bind_some,eD 0 (by omega),ts _ _ (by simp;omega),nt,dif_pos oG,mod_eq_of_lt oG];rfl
  cases ab:decide (s*((n%10:Nat):Int)<0)
  .rw[ab]at an;exact ax _ an
  .rw[ab]at an;exact ax _ an
 |succ k ih=>
  intro n v ad aR nh aF m hm;by_cases oG:n<10
  .have kB:n<10^(k+1):=Nat.lt_of_lt_of_le oG (by rw[Nat.pow_succ];have:=one_le_pow k 10 (by omega);omega);exact ih n v ad kB (by omega) (by omega) m (by omega)
  obtain⟨m,rfl⟩:∃j,m=j+1:=⟨m-1,by omega⟩
  have ay6:(10:Nat)^(k+1+1)<=10^19:=Nat.pow_le_pow_right (by omega) (by omega);have aU:Int.tmod (s*(n:Int)) 10=s*((n%10:Nat):Int):=by
   rcases aa with rfl|rfl
   .rw[Int.one_mul,Int.one_mul];rfl
   .rw[Int.neg_mul,Int.one_mul,Int.neg_tmod,Int.neg_mul,Int.one_mul];rfl
  have bT:Int.tdiv (s*(n:Int)) 10=s*((n/10:Nat):Int):=by
   rcases aa with rfl|rfl
   .rw[Int.one_mul,Int.one_mul];rfl
   .rw[Int.neg_mul,Int.one_mul,Int.neg_tdiv,Int.neg_mul,Int.one_mul];rfl
  have aO:((s*(n:Int)) !=0)=true:=by rcases aa with rfl|rfl<;>simp<;>omega
  simp only[nr,zD,Ca];rw[aO,aU,bT,cond_true,eD (s*((n/10:Nat):Int)) (by rcases aa with rfl|rfl<;>omega)];have an:(cond (decide (s*((n%10:Nat):Int)<0)) (i64.wrap (0-s*((n%10:Nat):Int))) (s*((n%10:Nat):Int)))=((n%10:Nat):Int):=by
   rcases aa with rfl|rfl
   .rw[show decide (1*((n%10:Nat):Int)<0)=false from by simp;omega];simp
   .by_cases a7:n%10=0
    .rw[a7];rfl
    .rw[show decide (-1*((n%10:Nat):Int)<0)=true from by simp;omega,cond_true,eD _ (by omega)];omega
  have ax:∀x,x=((n%10:Nat):Int)->((room 1 (v.length+1)).bind λ_=>nr a m (v++[pG (i64.wrap (48+x))]) (s*((n/10:Nat):Int)))=mI (v++(nt n).reverse):=by
   rintro x rfl;rw[acw (n%10) (by omega),ky (by omega) (by omega),bind_some,ih (n/10) _ (by omega) (by rw[Nat.pow_succ]at aR;omega) (by omega) (by simp;omega) m (by omega)];congr 1;rw[show nt n=nt (n/10)++[UInt8.ofNat (48+n%10)]from by rw[nt,dif_neg oG]];simp
  cases ab:decide (s*((n%10:Nat):Int)<0)
  .rw[ab]at an;exact ax _ an
  .rw[ab]at an;exact ax _ an
theorem acz (n:Int) (h: -1000000000000000000<n/\n<1000000000000000000):v7 n=some (uP n):=by
 unfold v7 uP;by_cases a7:n=0
 .subst a7;rw[if_neg (by omega),nt,dif_pos (by decide)];rfl
 have e:(n==0)=false:=by simpa using a7
 rw[e,cond_false];by_cases aR:n<0
 .rw[if_pos aR];refine eY 30 λm hm=>?_;have ts:∀v m,v.length<=30->nr n (m+1) v 0=some (45::v.reverse):=by
   intro v m aF;simp only[nr,zD];rw[show decide (n<0)=true from by simpa using aR,ky (by omega) (by omega),acx (v++[45]) (by simp;omega)];simp
  have aC:=TH 17 n.natAbs (by omega);have:=acy n (-1) (.inr rfl) (λv=>some (45::v.reverse)) ts 17 n.natAbs [] (by omega) (by omega) (by omega) (by simp) m (by omega);rw[show-1*(n.natAbs:Int)=n by omega]at this;rw[this];simp
 .rw[if_neg aR];refine eY 30 λm hm=>?_;have ts:∀v m,v.length<=30->nr n (m+1) v 0=some v.reverse:=by
   intro v m aF;simp only[nr,zD];rw[show decide (n<0)=false from by simpa using aR,acx v (by omega)];rfl
  have:=acy n 1 (.inl rfl) (λv=>some v.reverse) ts 17 n.toNat [] (by omega) (by omega) (by omega) (by simp) m (by omega);rw[show 1*(n.toNat:Int)=n by omega]at this;rw[this];simp
theorem acA (n:Int) (h: -1000000000000000000<n/\n<1000000000000000000):oQ n=some (uP n):=by
 unfold oQ zS;rw[if_pos ⟨by omega,by omega,rfl⟩];rfl
theorem acB (n:Int) (h: -1000000000000000000<n/\n<1000000000000000000):(uP n).length<=19:=by
 unfold uP;split
 .have:=TH 17 n.natAbs (by omega);simp;omega
 .have:=TH 17 n.toNat (by omega);omega
theorem awI (ms:azC) (hm:ms.length<=1048576) (log:azB) (aC:log.length<=1048576) (x:fu) (an:bk log (i64.wrap ((log.length:Int)-1))=some x):
  bX (λn=>zL ms x n 0)=some (jr true (iZ (λi=>decide (x.fa<(ms.getD i ⟨[],0,0,[]⟩).fa)) 0 ms.length) 0)/\
  KD ms log=some (iZ (λi=>decide (x.fa<(ms.getD i ⟨[],0,0,[]⟩).fa)) 0 ms.length):=by
 constructor
 .rw[oV (n:=ms.length) (l:=zL ms x) (λi=>some (jr true (iZ (λi=>decide (x.fa<(ms.getD i ⟨[],0,0,[]⟩).fa)) i (ms.length-i)) 0)) (λm=>?_) (λi ai m ih=>?_),Nat.sub_zero]
  .simp only[zL,Pu,F9];rw[ev (Nat.le_refl _),Nat.sub_self];rfl
  .simp only[zL,Pu];rw[d_ ai,ly ms i ⟨[],0,0,[]⟩ ai,dQ i _ ai (by omega),show ms.length-i=(ms.length-(i+1))+1 by omega];simp only[cond_true,bind_some,ih,iZ];by_cases ao:x.fa<(ms.getD i ⟨[],0,0,[]⟩).fa
   .simp only[decide_eq_true ao,cond_true,if_true,jr];rw[if_neg (by omega)]
   .simp only[decide_eq_false ao,cond_false,Bool.false_eq_true,if_false]
 .unfold KD;refine p8 (l:=λm i=>Dj ms log m i) (n:=ms.length) _ (λm=>?_) λi ai m=>?_
  .simp only[Dj,QB];rw[ev (Nat.le_refl _)];rfl
  .simp only[Dj,QB,QA,Qz];rw[d_ ai,ly ms i ⟨[],0,0,[]⟩ ai,dQ i _ ai (by omega),an];rfl
theorem awJ (ms:azC) (a7:ms.length≠0) (hm:ms.length<=1048576) (log:azB) (aC:log.length<=60) (p s:Int) (ay:0<=p/\p<=2) (aa:0<=s/\s<=65535):
  ∃v,JQ ms log p s=some v/\KE ⟨p,s⟩ ms log=some v:=by
 unfold JQ KE F9;have aT:p=0\/p=1\/p=2:=by omega
 rcases aT with rfl|rfl|rfl
 .exact⟨0,rfl,rfl⟩
 .simp only[show((1:Int)==1)=true from rfl,show((1:Int)==2)=false from rfl,cond_true,cond_false,Bool.true_and];by_cases n3:log.length=0
  .rw[n3];exact⟨0,rfl,rfl⟩
  .rw[show((log.length:Int)==0)=false from by rw[beq_eq_false_iff_ne];omega,show decide (0<(log.length:Int))=true from decide_eq_true (by omega),cond_false,cond_true];have an:bk log (i64.wrap ((log.length:Int)-1))=some (log[log.length-1]'(by omega)):=by
    rw[eD _ (by omega),show(log.length:Int)-1=((log.length-1:Nat):Int) by omega,dJ log _ (by omega)]
   obtain⟨aO,aU⟩:=awI ms hm log (by omega) _ an;rw[an,bind_some,aO,aU];exact⟨_,rfl,rfl⟩
 .simp only[show((2:Int)==1)=false from rfl,show((2:Int)==2)=true from rfl,cond_true,cond_false];have J: -1000000000000000000<s/\s<1000000000000000000:=by omega
  have a2: -1000000000000000000<(log.length:Int)/\(log.length:Int)<1000000000000000000:=by omega
  have hC:=acB s J;have gd:=acB (log.length:Int) a2;rw[acz s J,acA s J,acz _ a2,acA _ a2];simp only[bind_some];rw[lA (by omega)];simp only[bind_some];rw[lA (by simp only[List.length_append,List.length_cons,List.length_nil];omega)];simp only[bind_some];rw[acv _ (by simp only[List.length_append,List.length_cons,List.length_nil];omega),awG _ (by simp only[List.length_append,List.length_cons,List.length_nil];omega) _ (by omega)];simp only[bind_some];rw[show A2 (ms.length:Int)=some ()from by unfold A2;rw[if_neg (by omega)]];exact⟨_,rfl,rfl⟩
theorem awK (s:cM) (h:vq s) (q:azA) (cz:q.length<=1048576) (aF:∀p∈q,p.bV.length<=1048576) (log:azB) (aC:log.length<=1048576) (hw:∀e∈log,e.Label.length<=1048576) (p d:Int):
  ∃r,JR s q log p d=some r/\KF s q log p d=some r:=by
 obtain⟨b,hC,gd,fY⟩:=awx s h q cz aF;obtain⟨hJ,l2⟩:=awC log aC hw;unfold JR KF;rw[hC,gd,hJ,l2];simp only[bind_some];cases b
 .exact⟨(0,1),rfl,rfl⟩
 .simp only[Bool.not_true,cond_false,cond_true,bne_self_eq_false];have acC:Jv p d=some ((decide (0<=p)&&decide (p<=2))&&(decide (0<=d)&&decide (d<=65535)))/\Kh ⟨p,d⟩=some ((decide (0<=p)&&decide (p<=2))&&(decide (0<=d)&&decide (d<=65535))):=by
   unfold Jv Kh jP ig;simp only[bind_some];cases(decide (0<=p)&&decide (p<=2))<;>exact⟨rfl,rfl⟩
  rw[acC.1,acC.2];simp only[bind_some];cases ay:((decide (0<=p)&&decide (p<=2))&&(decide (0<=d)&&decide (d<=65535)))
  .exact⟨(0,2),rfl,rfl⟩
  .simp only[Bool.and_eq_true,decide_eq_true_eq]at ay;cases hg:HO log
   .exact⟨(0,7),rfl,rfl⟩
   .simp only[Bool.not_true,cond_false];obtain⟨cA,c2⟩:=fY rfl;obtain⟨lC,S,b,m1,m2,m3⟩:=awv h cA aF c2;rw[m1,m2];simp only[bind_some];cases b
    .exact⟨(0,5),rfl,rfl⟩
    .obtain⟨rfl,yX,_⟩:=m3 rfl;simp only[Bool.not_true,cond_false];have TD:log.length<=60:=by
      simp only[HO,Bool.and_eq_true,decide_eq_true_eq]at hg;exact hg.1
     by_cases a7:S.length=0
     .rw[show((S.length:Int)==0)=true from by rw[a7];rfl];exact⟨(0,3),rfl,rfl⟩
     .obtain⟨v,v1,v2⟩:=awJ S a7 (by omega) log TD p d ay.1 ay.2;rw[show((S.length:Int)==0)=false from by rw[beq_eq_false_iff_ne];omega,cond_false,v1,v2];exact⟨(v,0),rfl,rfl⟩
theorem asz (a:oK) (q:azt) (b:azu) (p d:Int) (bl:Fo a) (cz:q.length<=9223372036854775807/\∀y∈q,BL y) (ab:b.length<=9223372036854775807/\∀y∈b,BM y):QM a q b p d=some true:=by
 unfold QM;obtain⟨r,ad,ae⟩:=avX a bl;rw[ad];simp only[bind_some];cases aT:decide (r<0)
 .obtain⟨aJ,bh,b2,dA,dC⟩:=ae aT;rw[atU q r cz dC (by omega)];simp only[cond_false,bind_some];by_cases aa:((e7 pF q:Nat):Int)<=r
  .rw[DA aa];have er:decide (r-((e7 pF q:Nat):Int)<0)=false:=decide_eq_false (by omega);rw[er,cond_false,atW b _ ab (by omega) (by omega)];simp only[bind_some];by_cases aY:((e7 qP b:Nat):Int)<=r-((e7 pF q:Nat):Int)
   .rw[DA aY];have awL:decide (r-((e7 pF q:Nat):Int)-((e7 qP b:Nat):Int)<0)=false:=decide_eq_false (by omega);have ue:e7 pF q<=1048576:=by omega
    have Bm:e7 qP b<=1048576:=by omega
    have I5:e7 r6 (q.map w2)<=1048576:=by
     rw[wS];simp only[aug];exact ue
    have LQ:e7 r7 (b.map w3)<=1048576:=by
     rw[wS];simp only[auj];exact Bm
    have aC:(q.map w2).length<=1048576:=Nat.le_trans (k8 r6 _) I5;have yX:(b.map w3).length<=1048576:=Nat.le_trans (k8 r7 _) LQ;have aF:∀p∈q.map w2,p.bV.length<=1048576:=λp ay=>by
     have hI:r6 p<=e7 r6 (q.map w2):=lW ay;have jF:r6 p<=1048576:=by omega
     clear hI;unfold r6 at jF;omega
    have hw:∀e∈b.map w3,e.Label.length<=1048576:=λe he=>by
     have hI:r7 e<=e7 r7 (b.map w3):=lW he;have jF:r7 e<=1048576:=by omega
     clear hI;unfold r7 at jF;omega
    rw[awL,aJ,aui q ue,aul b Bm];simp only[cond_false,bind_some];obtain⟨v,v1,v2⟩:=awK _ b2 _ aC aF _ yX hw p d;simp only[v1,v2,bind_some,bh,auA _ I5,auC _ LQ,bne_self_eq_false,Bool.or_self,cond_false,Bool.not_true]
   .rw[DB (by omega)];rfl
  .rw[DB (by omega)];rfl
 .rfl
end Go.l_
