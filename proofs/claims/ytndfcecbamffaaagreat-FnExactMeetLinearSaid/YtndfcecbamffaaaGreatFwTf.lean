/- Part of a proof that a law returns true for every input. No condition. -/
import Derived.Test.YtndfcecbamffaaaGreatFwL
import Derived.OrdersHeld
namespace Go.dD
open List Go.IntKind Nat Or
section
variable {P:Program} {ops:Array Oper} {Q:Exit->Act->World->Prop} {S:World->Prop}
def nH (P:Program) (ops:Array Oper) (Q:Exit->Act->World->Prop) (S:World->Prop):ahC->Act->World->Prop
 |[],a,w=>Q .normal a w
 |i::l,a,w=>wpOp P ops Q i (λcj aK=>S aK/\nH P ops Q S l cj aK) a w
theorem ND:∀(l:ahC) (a:Act) (w:World),nH P ops Q S l a w->wpOps P ops Q l a w
 |[],_,_,h=>h
 |i::l,a,w,h=>by rw[wpOps_cons];exact wpOp_mono (λcj aK bO=>ND l cj aK bO.2) h
theorem Gi {i:Nat} {oi:Oper} {v:Value} (aq:ops[i]? =some oi) (BV:∀(az:Nat) (o:Oper) cs b,ops[az]? =some o->o.op≠.select cs b) (p5:∀c a w,¬Q (.panic c) a w):
  ∀(u l2:ahC) (a:Act) (w:World),(∀az∈u,∀uS,ops[az]? =some uS->oi.apart ops uS=true)->YieldsIf P ops S oi v a->S w->
   nH P ops Q S (u++l2) (a.put oi.dst v) w->nH P ops Q S (u++i::l2) a w
 |[],l2,a,w,_,bu,bN,h=>bu.wpOp aq bN ⟨bN,h⟩
 |az::u,l2,a,w,jM,bu,bN,h=>by
  rw[cons_append]at h⊢;simp only[nH]at h⊢;cases ch:ops[az]? with
  |none=>
   simp only[wpOp,ch]at h⊢;exact⟨h.1,Gi aq BV p5 u l2 a w (λk au=>jM k (mem_cons_of_mem _ au)) bu bN h.2⟩
  |some uS=>
   have ag:=wpOp_putIf ch (jM az (by simp) uS ch) (λcs b=>BV i oi cs b aq) (λcs b=>BV az uS cs b ch) (λc a w h=>(p5 c _ _ h).elim) bu h;exact wpOp_mono (λcj aK aJ=>⟨aJ.2.1,Gi aq BV p5 u l2 cj aK (λk au=>jM k (mem_cons_of_mem _ au)) aJ.1 aJ.2.1 aJ.2.2⟩) ag
def wA (D:ahG) (bT:ahA) (ops:Array Oper):Bool:=
 Region.noSelect ops&&D.all λi=>(range ops.size).all λaz=>az==i.1||(az==i.2||(((bT[az]?).getD []).contains i.1||(match ops[i.1]?,ops[az]? with
  |some x,some y=>x.apart ops y
  |_,_=>false)))
theorem Ws {D:ahG} {bT:ahA} (h:wA D bT ops=true):(∀(az:Nat) (o:Oper) cs b,ops[az]? =some o->o.op≠.select cs b)/\
  ∀i∈D,∀az x y,az≠i.1->az≠i.2->i.1∉(bT[az]?).getD []->ops[i.1]? =some x->ops[az]? =some y->x.apart ops y=true:=by
 simp only[wA,Bool.and_eq_true,List.all_eq_true]at h;refine⟨Region.noSelect_spec h.1,λi aq az x y dG Wt BA aA bu=>?_⟩;have ch:az<ops.size:=(Array.getElem?_eq_some_iff.1 bu).1;have:=h.2 i aq az (mem_range.2 ch);rw[aA,bu]at this;simp only[Bool.or_eq_true,beq_iff_eq,contains_eq_mem,decide_eq_true_eq]at this;rcases this with af|af|af|af
 .exact(dG af).elim
 .exact(Wt af).elim
 .exact(BA af).elim
 .exact af
def wB (bT:ahA) (l:ahC):Prop:=l.Nodup/\l.Pairwise λaz i=>i∉(bT[az]?).getD []
theorem Wu {bT:ahA} {l:ahC} (h:oX bT l):wB bT l:=by
 obtain⟨af,_,aJ⟩:=h;refine⟨af,?_⟩;rw[pairwise_iff_getElem];intro a b bY U iY hm;have hu:l=l.take a++l[a]::l.drop (a+1):=by rw[<-drop_eq_getElem_cons bY,take_append_drop]
 have:=aJ _ _ _ hu _ hm;obtain⟨c,aC,e⟩:=mem_iff_getElem.1 this;rw[getElem_take]at e;have agu:c<a:=by rw[length_take]at aC;omega
 have:=(getElem_inj af).1 e;omega
theorem pull {bT:ahA} {D:ahG} (aC:wA D bT ops=true) (p5:∀c a w,¬Q (.panic c) a w) {i x:Nat} (Wv:(i,x)∈D) {oi:Oper} (aq:ops[i]? =some oi) {v:Value} {l:ahC} (Ww:x=i\/x∉l) (hl:wB bT l) (hm:i∈l) {a:Act} {w:World}
  (bu:YieldsIf P ops S oi v a) (bN:S w) (h:nH P ops Q S (l.filter λaz=>az !=i) (a.put oi.dst v) w):nH P ops Q S l a w:=by
 obtain⟨af,ag⟩:=Ws aC;obtain⟨u,l2,rfl⟩:=append_of_mem hm;obtain⟨ba,aw⟩:=hl;have Gj:i∉u:=λhu=>by
  rw[nodup_append]at ba;exact ba.2.2 i hu i (by simp) rfl
 have wC:i∉l2:=λhu=>by
  rw[nodup_append]at ba;exact(nodup_cons.1 ba.2.1).1 hu
 have e:∀(u:ahC),i∉u->u.filter (λaz=>az !=i)=u:=λu hu=>filter_eq_self.2 λaz ch=>by
  have:az≠i:=λe=>hu (e▸ch);simpa using this
 rw[filter_append,filter_cons_of_neg (by simp),e u Gj,e l2 wC]at h;refine Gi aq af p5 u l2 a w (λaz ch uS Wx=>ag (i,x) Wv az oi uS (λe=>by change az=i at e;subst e;exact Gj ch) (λe=>by change az=x at e;subst e;exact Ww.elim (λaA=>Gj (by rw[<-aA];exact ch)) λaA=>aA (mem_append_left _ ch)) ?_ aq Wx) bu bN h;exact(pairwise_append.1 aw).2.2 az ch i (by simp)
theorem wB.filter {bT:ahA} {l:ahC} (h:wB bT l) (p:Nat->Bool):wB bT (l.filter p):=⟨h.1.filter p,h.2.filter p⟩
end
section
variable {C:bV} {w0 w:World} {F0 X:Nat->Prop} {n:Fr} {ρ:Nat->Value} {s s1:ao} {a:Act} {Q:Exit->Act->World->Prop} {S:World->Prop}
theorem Wy (bx:C.eN) {ops:Array Oper} {ros:List bW} {K:ao->Prop} (bN:∀aH cj aK,Rel w0 F0 X n ρ aH cj aK->S aK) (ba:∀aH cj aK,K aH->Rel w0 F0 X n ρ aH cj aK->Q .normal cj aK):
  ∀(l:ahC),(∀i∈l,(ops[i]? =none->ros[i]? =none)/\∀o,ops[i]? =some o->∃r,ros[i]? =some r/\lb n ops o=some r.un)->
  ∀(s:ao) (a:Act) (w:World),g2 C ros s l K->Rel w0 F0 X n ρ s a w->nH C.P ops Q S l a w:=by
 intro l;induction l with
 |nil=>intro _ s a w h aV;exact ba s a w h aV
 |cons i l ih=>
  intro lf s a w h aV;replace ih:=ih λi aq=>lf i (mem_cons_of_mem _ aq);have sC:∀s a w,g2 C ros s l K->Rel w0 F0 X n ρ s a w->S w/\nH C.P ops Q S l a w:=λs a w af ag=>⟨bN _ _ _ ag,ih s a w af ag⟩
  clear ih;simp only[nH,wpOp];cases b_:ops[i]? with
  |none=>
   simp only[g2,(lf i (by simp)).1 b_]at h;exact sC s a w h aV
  |some o=>
   dsimp only;obtain⟨r,af,ag⟩:=(lf i (by simp)).2 o b_;simp only[g2,af]at h;simp only[lb]at ag;split at ag
   .rename_i rP;split at ag
    .rename_i g bP;obtain⟨rd,bE,rg⟩:=r;simp only[bW.un,Option.some.injEq,bW.mk.injEq]at ag;obtain⟨rfl,cz,rfl⟩:=ag;simp only[ld]at h;have run:∀(de:ao->Prop),(∀aH,de aH->g2 C ros aH l K)->nB C s bE (λav s1=>de (fin s1 o.dst av))->o.wp C.P a w (λcj aK=>S aK/\nH C.P ops Q S l cj aK) Q:=
      λde hK hw=>Lp bx aV cz rP hw (λaH cj aK au ek=>sC aH cj aK (hK aH au) ek)
     cases n3:o.guard with
     |none=>
      rw[n3]at bP;simp only[uy,Option.some.injEq]at bP;subst bP;simp only at h;rw[if_pos (v5 n3)];exact .inl (run _ (λ_ h=>h) h)
     |some yF=>
      obtain⟨az,b⟩:=yF;rw[n3]at bP;simp only[uy]at bP;split at bP
      .rename_i t aZ;simp only[Option.some.injEq]at bP;subst bP;simp only at h;obtain⟨fg,gd⟩:=Lq aV aZ;have yG:∀(de:g2 C ros (fin s o.dst (.tuple [])) l K),S w/\nH C.P ops Q S l (a.put o.dst undef) w:=λde=>sC _ _ _ de (Rel.skip aV rP);split at h
       .rename_i ee ae;have bu:=fg ee ae;split at h
        .rename_i U;subst U;rw[if_pos (by simp[Region.wanted,n3,bu])];exact .inl (run _ (λ_ h=>h) h)
        .rename_i U;rw[if_neg (by simp[Region.wanted,n3,bu,U])];exact yG h
       .rename_i ae;have bu:=gd ae;rw[if_neg (by simp[Region.wanted,n3,bu])];exact yG h
       .exact h.elim
      .cases bP
    .cases ag
   .cases ag
end
structure lJ where
 iS:Nat
 jS:Nat
 hz:Nat
 tl:Nat
 k:Nat
 az:Nat
 off:Nat
 T:TypeId
 cb:TypeId
structure NF (C:bV) (ros:List bW) (e:lJ):Prop where
 gZ:ros[e.iS]? =some ⟨some e.hz,.gZ e.T (.t e.k) e.az,none⟩
 e_:ros[e.jS]? =some ⟨some e.tl,.e_ e.cb (.t e.hz),none⟩
 ty:∃aG,(C.T e.T).k= .struct aG/\aG[e.az]? =some (e.cb,e.off)
 ok:(C.T e.cb).ok=true
 sz:(C.T e.cb).sz≠0
 flat:(C.T e.cb).flat=true
def Wz (e:lJ) (s aH:ao):Prop:=∃ds d,s e.k= .ai (.agg ds)/\ds[e.az]? =some d/\d.tree=true/\d.wd=1/\(∀v,Value.fN v=true->dy d v)/\I.dO (ds.take e.az)=e.off/\
 ((d.plain=false/\aH=cY (kR e.tl (cY (hV e.k (cY s e.hz .hole)) e.k (.ai (.agg (ds.set e.az d.cZ))))) e.tl d)\/(d.plain=true/\aH=cY (cY s e.hz .hole) e.tl d))
def zf:List lJ->ao->ao->Prop
 |[],s,aH=>aH=s
 |e::L,s,aH=>∃s1,Wz e s s1/\zf L s1 aH
section
variable {C:bV} {w0 w:World} {F0 X F:Nat->Prop} {S:Nat->Nat->Prop} {n:Fr} {ρ:Nat->Value} {s s1:ao} {aF:Nat->Value} {a:Act}
theorem WA (h:bK w0 F0 X F S s aF w) {k:Nat} {d:I} (au:s k= .ai d):∃b,aF k= .pointer (some ⟨b,0,none⟩)/\S k b:=by
 have aP:=h.dz k;rw[au]at aP;obtain⟨af,ag⟩:=(aO.cI rfl).1 aP;rw[gj af,ay]at ag;obtain⟨b,cur,e,fr,aS,aX,bk,_⟩:=ag;exact⟨b,by simpa using aX,bk⟩
theorem NG (h:bK w0 F0 X F S s aF w) {k az off tl:Nat} {ds:ahI} {d:I} (au:s k= .ai (.agg ds)) (al:ds[az]? =some d) (aZ:d.tree=true) (NH:d.wd=1) (mQ:∀v,Value.fN v=true->dy d v) (oG:I.dO (ds.take az)=off):
  ∃b v,aF k= .pointer (some ⟨b,0,none⟩)/\(∀aK:World,aK.heap[b]? =w.heap[b]?->hk aK b off [v])/\(d.plain=false->∃aS,bK w0 F0 X F aS (cY (kR tl (cY (hV k s) k (.ai (.agg (ds.set az d.cZ))))) tl d) (cY aF tl v) w)/\(d.plain=true->∃aS,bK w0 F0 X F aS (cY s tl d) (cY aF tl v) w):=by
 have aP:=h.dz k;rw[au]at aP;obtain⟨af,ag⟩:=(aO.cI rfl).1 aP;rw[gj af,ay]at ag;obtain⟨b,cur,e,fr,ck,aX,bk,ca,dr,er,hd,ja⟩:=ag;have aX:aF k= .pointer (some ⟨b,0,none⟩):=by simpa using aX
 rw[ay]at er;obtain⟨b1,fO,cd,hF,hU,kP,g_,fp,fP,ha,e9,mu⟩:=bh.pick ds _ _ az d er al;have hlen:fO.length=1:=(ay.length _ _ _ e9).trans NH;obtain⟨v,rfl⟩:∃v,fO=[v]:=by
  match fO,hlen with
  |[x],_=>exact⟨x,rfl⟩
 have ru:Value.fN v=true:=ay.pB _ _ _ e9 v (by simp);have NI:∀aK:World,aK.heap[b]? =w.heap[b]?->hk aK b 0 cur.toList:=λaK uT i c aq=>by
  simp only[World.cell?,uT,ca,Nat.zero_add];simpa using aq
 have WB:∀aK:World,aK.heap[b]? =w.heap[b]?->hk aK b off [v]:=λaK uT=>by
  have:=NI aK uT;rw[kP]at this;have:=this.AV
  rwa [Nat.zero_add,g_,oG]at this
 refine⟨b,v,aX,WB,λaw=>?_,λaw=>⟨_,h.rn (t:=tl) (d:=d) (v:=v) aw ((aO.cI aZ).2 ⟨mQ v ru,by rw[gj ru];exact ay.plain _ _ _ _ aw e9⟩)⟩⟩;obtain⟨Sn,fy,cO,ui,dZ,bD,dS,cG,c1,c8,_⟩:=h.take (x:=k) (q:=[0,az]) (d:=d) (by rw[au];simp[I.sub,al]) aw;have kx:cO=[v]:=by
  rw[au,aX]at bD;simp only[ct,iy,dh,al]at bD;have hl:(I.agg ds).wd=cur.toList.length:=(ay.length (w:=w) (F:=F) (.agg ds) cur.toList ck (by rw[ay];exact er)).symm;rw[hl,(NI w rfl).np]at bD;simp only[Option.some.injEq,Prod.mk.injEq]at bD;rw[<-bD.2.1,kP,<-g_,drop_left,NH];rfl
 subst kx;have WC:I.put [0,az] d.cZ (s k)= .ai (.agg (ds.set az d.cZ)):=by rw[au];simp[I.put,al]
 rw[WC]at dZ;exact⟨_,dZ.AR (t:=tl) (d:=d) (v:=v) aZ (mQ v ru) (by rw[gj ru];exact dS) (λc aC=>h.et k c (cG c aC)) (λc aC=>h.fS k c (cG c aC)) (λu c hu aC ae=>by
  simp only[gm]at ae;split at ae
  .exact c8 c aC ae
  .rename_i dG;exact h.fe u k c dG ae (cG c aC)) (λc aC=>h.dI k c (cG c aC))⟩
end
section
variable {C:bV} {w0 w:World} {F0 X F:Nat->Prop} {n:Fr} {ρ:Nat->Value} {s s1:ao} {a:Act} {Q:Exit->Act->World->Prop} {WS:World->Prop}
theorem WD {op:Op} {T:TypeId} {x:bn} {k:Nat} (h:c2 op=some (.gZ T x k)):∃y,op= .fieldAddr T y k/\dE y=some x:=by
 cases op with
 |fieldAddr uz y c7=>
  simp only[c2,Option.map_eq_some_iff]at h;obtain⟨cL,aA,h⟩:=h;cases h;exact⟨y,rfl,aA⟩
 |call c=>
  obtain⟨callee,oW,argTypes⟩:=c;simp only[c2]at h;split at h<;>(try split at h)<;>(try split at h)<;>(try simp[Option.map_eq_some_iff]at h)
 |makeFunc fn first cs=>
  cases fn<;>simp only[c2]at h<;>first|(cases h;done)|(split at h<;>simp at h)
 |slice T x e5 aq e2=>
  cases e2<;>simp only[c2]at h<;>first|(cases h;done)|(split at h<;>simp at h)
 |makeMap T r=>cases r<;>simp only[c2]at h<;>simp at h
 |lookup T x i c=>cases c<;>simp only[c2]at h<;>first|(cases h;done)|(split at h<;>simp at h)
 |_=>simp only[c2]at h<;>first|(cases h;done)|(simp at h;done)|(split at h<;>simp at h)
theorem NJ {op:Op} {bE:dU} (h:rO op=bE) (U:bE≠.bad):c2 op=some bE:=by
 rcases qN h with h|h
 .exact(U h).elim
 .exact h
theorem NK (bx:C.eN) {ops:Array Oper} {ros:List bW} {bT:ahA} {D:ahG} (zg:wA D bT ops=true) (p5:∀c a w,¬Q (.panic c) a w)
  (lf:∀(i:Nat) (r:bW),ros[i]? =some r->∃o,ops[i]? =some o/\lb n ops o=some r.un) (Gk:Nat->Value):
  ∀(L:List lJ),(∀e∈L,NF C ros e/\(e.iS,e.iS)∈D/\(e.jS,e.iS)∈D)->(∀e∈L,∀dJ∈L,e.hz≠dJ.k/\e.tl≠dJ.k)->∀(l:ahC) {s s1:ao} {a:Act},wB bT l->(L.flatMap λe=>[e.iS,e.jS]).Nodup->(∀e∈L,e.iS∈l/\e.jS∈l)->
   WS w->(∀e∈L,a.tmps.getD e.k undef=Gk e.k)->(∀e∈L,∀b,Gk e.k= .pointer (some ⟨b,0,none⟩)->∀aK,WS aK->aK.heap[b]? =w.heap[b]?)->Rel w0 F0 X n ρ s a w->zf L s s1->
   (∀cj:Act,(∀u,(∀e∈L,u≠e.hz/\u≠e.tl)->cj.tmps.getD u undef=a.tmps.getD u undef)->Rel w0 F0 X n ρ s1 cj w->nH C.P ops Q WS (l.filter λi=> !(L.flatMap λe=>[e.iS,e.jS]).contains i) cj w)->nH C.P ops Q WS l a w
 |[],_,_,l,s,s1,a,_,_,_,_,_,_,aV,wD,h=>by
  simp only[zf]at wD;subst wD;have:=h a (λ_ _=>rfl) aV;have fV:l.filter (λi=> !(([]:List lJ).flatMap λe=>[e.iS,e.jS]).contains i)=l:=filter_eq_self.2 λ_ _=>rfl;rw[fV]at this;exact this
 |e::L,qO,au,l,s,s1,a,hl,n6,zh,Gl,ea,pQ,aV,wD,h=>by
  obtain⟨⟨a1,bc,⟨aG,bb,cl⟩,cR,b0,b7⟩,d1,d2⟩:=qO e (by simp);obtain⟨s2,⟨ds,d,gu,fF,iC,mx,sQ,v3,uB⟩,wD⟩:=wD;obtain⟨j5,fp,fP⟩:=lf _ _ a1;obtain⟨kz,ha,qD⟩:=lf _ _ bc;obtain⟨f1,f2,f3,f4⟩:=y9 rfl fP;obtain⟨aX,bk,ca,dr⟩:=y9 rfl qD;change some e.hz=j5.dst at f1;change some e.tl=kz.dst at aX;obtain⟨fg,f5,f6⟩:=WD (NJ f3 (by intro h;cases h));obtain⟨gd,er,hd⟩:=M8 (NJ ca (by intro h;cases h));have f6:=F7 f6;have hd:=F7 hd;subst f6 hd;obtain⟨iQ,dR,hr,F,S,aV⟩:=aV;obtain⟨BW,F6⟩:=au e (by simp) e (by simp);have qR:bK w0 F0 X F (gm S e.hz (λ_=>False)) (cY s e.hz .hole) (cY (λt=>a.tmps.getD t undef) e.hz undef) w:=aV.rn (t:=e.hz) (d:=.hole) (v:=undef) rfl (by rw[aO];trivial);obtain⟨b,v,t1,t2,_,_⟩:=NG (tl:=e.tl) qR (by rw[iz _ _ (Ne.symm BW)];exact gu) fF iC mx sQ v3;rw[iz _ _ (Ne.symm BW)]at t1;obtain⟨o3,rY,s8⟩:=yC (n:=n) (dst:=some e.hz) (a:=a) (.pointer (some ⟨b,e.off,none⟩)) dR (by rw[f1];exact f4);have uE:=aV.rn (t:=e.hz) (d:=.hole) (v:=.pointer (some ⟨b,e.off,none⟩)) rfl (by rw[aO];trivial);have WE:∀aK:World,(execOp a.eval j5).run C.P aK= .ok (.value (.pointer (some ⟨b,e.off,none⟩))) aK:=λaK=>by
   obtain⟨dst,op,ty,pos,after,guard⟩:=j5;simp only at f5;subst f5;have:a.eval (.tmp e.k)= .pointer (some ⟨b,0,none⟩):=t1;have bS:=AW bx bb cl cR b0 b 0 aK;rw[Nat.zero_add]at bS;simp[execOp,this,bS]
  refine pull (oi:=j5) (v:=.pointer (some ⟨b,e.off,none⟩)) zg p5 d1 fp (.inl rfl) hl (zh e (by simp)).1 (.inl ⟨v5 f2,λaK _=>WE aK⟩) Gl ?_;rw[<-f1];obtain⟨ee,e4,Gm,WG,WH,WI⟩:=NG (tl:=e.tl) uE (by rw[iz _ _ (Ne.symm BW)];exact gu) fF iC mx sQ v3;rw[iz _ _ (Ne.symm BW)]at Gm;have x3:ee=b:=by
   have:=Gm.symm.trans t1;simpa using this
  subst x3;have EB:(a.put (some e.hz) (.pointer (some ⟨ee,e.off,none⟩))).tmps.size=n.n:=rY;obtain⟨aa,ak,aL⟩:=yC (n:=n) (dst:=some e.tl) (a:=a.put (some e.hz) (.pointer (some ⟨ee,e.off,none⟩))) e4 EB (by rw[aX];exact dr);have WJ:=ea e (by simp);have WK:∀aK:World,WS aK->(execOp (a.put (some e.hz) (.pointer (some ⟨ee,e.off,none⟩))).eval kz).run C.P aK= .ok (.value e4) aK:=λaK uT=>by
   obtain⟨dst,op,ty,pos,after,guard⟩:=kz;simp only at er;subst er;have he:(a.put (some e.hz) (.pointer (some ⟨ee,e.off,none⟩))).eval (.tmp e.hz)= .pointer (some ⟨ee,e.off,none⟩):=by
    have:=congrFun o3 e.hz;simp only[px,mv]at this;exact this
   have j0:=WG aK (pQ e (by simp) ee (WJ▸Gm) aK uT);simp[execOp,he,Instr.loadAt,Instr.sureAddr,Eg bx b7 j0]
  have dG:e.jS≠e.iS:=λh=>by
   simp only[flatMap_cons,cons_append,nodup_cons,mem_cons,not_or]at n6;exact n6.1.1 h.symm
  refine pull (oi:=kz) (v:=e4) zg p5 d2 ha (.inr λhm=>by simp at hm) (hl.filter _) (mem_filter.2 ⟨(zh e (by simp)).2,by simpa using dG⟩) (.inl ⟨v5 bk,WK⟩) Gl ?_;rw[<-aX];have WL:e.hz∉n.fx:=by
   rw[<-f1]at f4;simp only[lE,Bool.and_eq_true,Bool.not_eq_true',contains_eq_mem,decide_eq_false_iff_not]at f4;exact f4.2
  have Gn:e.tl∉n.fx:=by
   rw[<-aX]at dr;simp only[lE,Bool.and_eq_true,Bool.not_eq_true',contains_eq_mem,decide_eq_false_iff_not]at dr;exact dr.2
  have Gp:∀u,u≠e.hz->u≠e.tl->((a.put (some e.hz) (.pointer (some ⟨ee,e.off,none⟩))).put (some e.tl) e4).tmps.getD u undef=a.tmps.getD u undef:=λu af ag=>by
   have b1:=congrFun aa u;have cd:=congrFun o3 u;simp only[px]at b1 cd;rw[iz _ _ ag]at b1;rw[iz _ _ af]at cd;exact b1.trans cd
  have hrel:Rel w0 F0 X n ρ s2 ((a.put (some e.hz) (.pointer (some ⟨ee,e.off,none⟩))).put (some e.tl) e4) w:=by
   have BQ:∀i∈n.fx,((a.put (some e.hz) (.pointer (some ⟨ee,e.off,none⟩))).put (some e.tl) e4).tmps.getD i undef=ρ i:=λi aq=>by
    rw[Gp i (λh=>WL (h▸aq)) (λh=>Gn (h▸aq))];exact hr i aq
   rcases uB with⟨jb,uB⟩|⟨jb,uB⟩
   .obtain⟨A5,dS⟩:=WH jb;refine⟨aL.trans (s8.trans iQ),ak,BQ,F,A5,?_⟩;rw[aa,o3,uB];exact dS
   .obtain⟨A5,dS⟩:=WI jb;refine⟨aL.trans (s8.trans iQ),ak,BQ,F,A5,?_⟩;rw[aa,o3,uB];exact dS
  have A3:∀dJ∈L,e.hz≠dJ.k/\e.tl≠dJ.k:=λdJ j7=>au e (by simp) dJ (by simp[j7]);have Gq:(L.flatMap λe=>[e.iS,e.jS]).Nodup/\e.iS∉(L.flatMap λe=>[e.iS,e.jS])/\e.jS∉(L.flatMap λe=>[e.iS,e.jS]):=by
   simp only[flatMap_cons,cons_append,nil_append,nodup_cons,mem_cons,not_or]at n6;exact⟨n6.2.2,n6.1.2,n6.2.1⟩
  refine NK bx zg p5 lf Gk L (λdJ j7=>qO dJ (by simp[j7])) (λa1 af bc ag=>au a1 (by simp[af]) bc (by simp[ag])) _ ((hl.filter _).filter _) Gq.1 (λdJ j7=>?_) Gl (λdJ j7=>?_) (λdJ j7=>pQ dJ (by simp[j7])) hrel wD λcj pP ek=>?_
  .have hm:∀i,i∈[dJ.iS,dJ.jS]->i∈l->i∈(l.filter λaz=>az !=e.iS).filter λaz=>az !=e.jS:=λi aq WM=>by
    have:i∈(L.flatMap λe=>[e.iS,e.jS]):=mem_flatMap.2 ⟨dJ,j7,aq⟩;refine mem_filter.2 ⟨mem_filter.2 ⟨WM,?_⟩,?_⟩
    .have:i≠e.iS:=λh=>Gq.2.1 (h▸this);simpa using this
    .have:i≠e.jS:=λh=>Gq.2.2 (h▸this);simpa using this
   have:=zh dJ (by simp[j7]);exact⟨hm _ (by simp) this.1,hm _ (by simp) this.2⟩
  .rw[Gp _ (Ne.symm (A3 dJ j7).1) (Ne.symm (A3 dJ j7).2)];exact ea dJ (by simp[j7])
  .have:=h cj (λu hu=>(pP u λdJ j7=>hu dJ (by simp[j7])).trans (Gp u (hu e (by simp)).1 (hu e (by simp)).2)) ek;have WN:((l.filter λaz=>az !=e.iS).filter λaz=>az !=e.jS).filter (λi=> !(L.flatMap λe=>[e.iS,e.jS]).contains i)=l.filter λi=> !((e::L).flatMap λe=>[e.iS,e.jS]).contains i:=by
    rw[List.filter_filter,List.filter_filter];congr 1;funext i;simp only[flatMap_cons,cons_append,nil_append,contains_cons];cases af:i==e.iS<;>cases ag:i==e.jS<;>cases(L.flatMap λe=>[e.iS,e.jS]).contains i<;>simp_all
   rw[WN];exact this
end
def hM:bW:=⟨none,.gI (.c (.bool true)),none⟩
theorem WO {C:bV} {s:ao} {K:ao->Prop} (h:ld C s hM K):K s:=by
 simp only[hM,ld,nB,bL]at h;obtain⟨av,s1,af,ag⟩:=h;simp only[Option.some.injEq,Prod.mk.injEq]at af;obtain⟨_,rfl⟩:=af;exact ag
def zi (L:List lJ):ahC:=L.flatMap λe=>[e.iS,e.jS]
def NL (L:List lJ):ahG:=L.flatMap λe=>[(e.iS,e.iS),(e.jS,e.iS)]
theorem BX {C:bV} {ros jj:List bW} {D:ahC} {K:ao->Prop} (af:∀i,i∈D->jj[i]? =some hM) (ag:∀i,i∉D->jj[i]? =ros[i]?):∀(l:ahC) (s:ao),g2 C jj s l K->g2 C ros s (l.filter λi=> !D.contains i) K
 |[],_,h=>h
 |i::l,s,h=>by
  by_cases aq:i∈D
  .rw[filter_cons_of_neg (by simpa using aq)];simp only[g2,af i aq]at h;exact BX af ag l s (WO h)
  .rw[filter_cons_of_pos (by simpa using aq)];simp only[g2,ag i aq]at h⊢;cases aV:ros[i]? with
   |none=>rw[aV]at h;exact BX af ag l s h
   |some r=>rw[aV]at h;exact yK h λaH bO=>BX af ag l aH bO
def tb:ahC->ao->ao
 |[],s=>s
 |k::fc,s=>tb fc (cY s k .hole)
theorem NM {w0 w:World} {F0 X F:Nat->Prop} {aF:Nat->Value}:∀(fc:ahC) {s:ao} {S:Nat->Nat->Prop},bK w0 F0 X F S s aF w->∃aS,bK w0 F0 X F aS (tb fc s) aF w/\(∀u b,aS u b->S u b)/\∀k∈fc,∀b,¬aS k b
 |[],s,S,h=>⟨S,h,λ_ _ h=>h,λ_ h=>by cases h⟩
 |k::fc,s,S,h=>by
  have af:=h.rn (t:=k) (d:=.hole) (v:=aF k) rfl (by rw[aO];trivial);have e:cY aF k (aF k)=aF:=by funext u;simp only[cY];split<;>simp_all
  rw[e]at af;obtain⟨aS,aX,bk,ca⟩:=NM fc af;refine⟨aS,aX,λu b U=>?_,λc7 g8 b U=>?_⟩
  .have:=bk u b U;simp only[gm]at this;split at this
   .exact this.elim
   .exact this
  .rcases mem_cons.1 g8 with rfl|g8
   .have:=bk c7 b U;simp only[gm,if_true]at this
   .exact ca c7 g8 b U
def nI:ahC->ao->ao->ao
 |[],_,s=>s
 |k::eL,s1,s=>nI eL s1 (cY (kR k s) k (s1 k))
theorem NN {w0 w aK:World} {F0 X F bJ:Nat->Prop} {S:Nat->Nat->Prop} {s1:ao} {aF iO:Nat->Value} (af:bK w0 F0 X F S s1 aF w) (bm:∀b,F b->aK.heap[b]? =w.heap[b]?) (x4:∀b,F b->bJ b) (dR:w.heap.size<=aK.heap.size) (bS:∀u b,S u b->¬bJ b):
  ∀(eL:ahC) {s:ao} {aS:Nat->Nat->Prop},eL.Nodup->(∀k∈eL,∃d,s1 k= .ai d)->(∀k∈eL,iO k=aF k)->(∀k∈eL,∀b,S k b->aK.heap[b]? =w.heap[b]?)->(∀k∈eL,∀u b,aS u b->¬S k b)->(∀k∈eL,∀b,S k b->X b\/w0.heap.size<=b)->bK w0 F0 X bJ aS s iO aK->∃WQ,bK w0 F0 X bJ WQ (nI eL s1 s) iO aK
 |[],_,aS,_,_,_,_,_,_,h=>⟨aS,h⟩
 |k::eL,s,aS,ba,U,aZ,i9,al,j1,h=>by
  obtain⟨d,au⟩:=U k (by simp);have aP:=af.dz k;rw[au]at aP;obtain⟨aX,bk⟩:=(aO.cI rfl).1 aP;have ca:ay aK bJ (.ai d) (ct (aF k)) (S k):=ay.mono x4 _ _ _ _ (λ_ h=>h) (ay.frame bm _ _ _ (i9 k (by simp)) bk);have ag:=h.AR (t:=k) (d:=.ai d) (v:=aF k) (Sn:=S k) rfl aX ca (λb U=>Nat.lt_of_lt_of_le (af.et k b U) dR) (λb U=>bS k b U) (λu b _ U ae=>al k (by simp) u b ae U) (λb U=>j1 k (by simp) b U);have e:cY iO k (aF k)=iO:=by
   funext u;simp only[cY];split
   .rename_i h;rw[h,aZ k (by simp)]
   .rfl
  rw[e,<-au]at ag;simp only[nI];obtain⟨BP,pz⟩:=nodup_cons.1 ba;refine NN af bm x4 dR bS eL pz (λc7 g8=>U c7 (by simp[g8])) (λc7 g8=>aZ c7 (by simp[g8])) (λc7 g8=>i9 c7 (by simp[g8])) (λc7 g8 u b hu ae=>?_) (λc7 g8=>j1 c7 (by simp[g8])) ag;simp only[gm]at hu;split at hu
  .exact af.fe k c7 b (λe=>BP (e▸g8)) hu ae
  .exact al c7 (by simp[g8]) u b hu ae
def wE (C:bV) (jj:List bW) (bT:ahA) (L:List lJ) (fc eL e6:ahC):(Exit->ao->Prop)->ao->Prop:=
 λQ s=>∃s1,zf L s s1/\(∀e∈L,∃d,s1 e.k= .ai d)/\cS C (tb fc s1) jj (some []) λacc s2=>iK (kD bT) 0 [] (acc.getD []).reverse=true/\eK (Q .normal) (an (eD e6 (nI eL s1 s2)))
def Gr (ros:List bW) (bT:ahA):aT:=.h9 ros bT none
structure NO (C:bV) (R:List (Array Oper)) (ros jj:List bW) (bT:ahA) (L:List lJ) (fc eL:ahC):Prop where
 fc:∀e∈L,e.k∈fc
 NP:eL.Nodup
 BZ:∀k∈eL,∃e∈L,e.k=k
 rd:∀r∈ros,∀d,r.dst=some d->d∉eL
 len:bT.length=jj.length
 NQ:bT.length=ros.length
 B0:∀e∈L,NF C ros e
 i_:∀e∈L,∀dJ∈L,e.hz≠dJ.k/\e.tl≠dJ.k
 NR:(zi L).Nodup
 NS:∀i,i∈zi L->jj[i]? =some hM
 same:∀i,i∉zi L->jj[i]? =ros[i]?
 nk:∀ops∈R,ops.toList.map (·.dst)=ros.map (·.dst)->wA (NL L) bT ops=true
def zj (C:bV) (R:List (Array Oper)) (T:(Exit->ao->Prop)->ao->Prop) (b:aT):Prop:=
 ∃(ros jj:List bW) (bT:ahA) (L:List lJ) (fc eL e6:ahC),T=wE C jj bT L fc eL e6/\b=Gr ros bT/\NO C R ros jj bT L fc eL
section
variable {C:bV} {w0 w:World} {F0 X:Nat->Prop} {n:Fr} {ρ:Nat->Value} {s:ao} {a:Act}
theorem WR {c:Code} {rs:List bW} {bT:ahA} (h:ft n c=some (.h9 rs bT none)):∃id ops,c= .region id ops true/\pS n ops ops.toList=some rs/\bT=nC ops/\v7 (nC ops)=true:=by
 cases c with
 |region id ops draw=>
  cases draw with
  |false=>
   simp only[ft]at h;split at h<;>cases h
  |true=>
   simp only[ft]at h;split at h
   .rename_i U;simp only[Option.map_eq_some_iff]at h;obtain⟨r,af,ag⟩:=h;cases ag;exact⟨id,ops,rfl,af,rfl,U⟩
   .cases h
 |seq a b=>simp only[ft]at h;split at h<;>cases h
 |cond c a b=>simp only[ft]at h;split at h<;>cases h
 |block id b=>simp only[ft,Option.map_eq_some_iff]at h;obtain⟨r,af,ag⟩:=h;cases ag
 |loop b=>simp only[ft,Option.map_eq_some_iff]at h;obtain⟨r,af,ag⟩:=h;cases ag
 |_=>simp[ft]at h
theorem WT {ops:Array Oper} {o:Oper} {r:bW} (h:lb n ops o=some r):r.dst=o.dst:=by
 unfold lb at h;split at h
 .split at h
  .cases h;rfl
  .cases h
 .cases h
theorem WU (bx:C.eN) {R:List (Array Oper)} {c:Code} {T:(Exit->ao->Prop)->ao->Prop} {b:aT} {Q:Exit->ao->Prop} (fQ:∀r∈mZ c,r∈R) (fH:zj C R T b) (ae:ft n c=some b.strip) (h:T Q s) (aV:Rel w0 F0 X n ρ s a w):
  c.wp C.P (qQ w0 F0 X n ρ Q) a w:=by
 obtain⟨ros,jj,bT,L,fc,eL,e6,rfl,rfl,ok⟩:=fH;obtain⟨id,ops,rfl,qP,rfl,U⟩:=WR ae;obtain⟨hl,lf⟩:=Br qP;rw[length_map]at hl;have BO:ops.size=ros.length:=by rw[<-hl];simp
 have WV:ops.toList.map (·.dst)=ros.map (·.dst):=by
  apply ext_getElem?;intro i;rw[getElem?_map,getElem?_map];cases b_:ops.toList[i]? with
  |none=>
   have:ros[i]? =none:=by
    rw[List.getElem?_eq_none_iff]at b_⊢;omega
   rw[this];rfl
  |some o=>
   obtain⟨gv,aX,bk⟩:=lf i o b_;rw[getElem?_map]at aX;cases NT:ros[i]? with
   |none=>rw[NT]at aX;cases aX
   |some r=>
    rw[NT]at aX;cases aX;have:=WT bk;simp only[Option.map_some,Option.some.injEq];exact this.symm
 have zg:=ok.nk ops (fQ _ (by simp[mZ])) WV;obtain⟨s1,af,pK,ag⟩:=h;have nr:=yU (K:=λs2=>eK (Q .normal) (an (eD e6 (nI eL s1 s2)))) ok.len ag;let Gs:Exit->Act->World->Prop:=λe a w=>e= .normal/\qQ w0 F0 X n ρ Q .normal a w
 refine wp_mono (Q:=Gs) ?_ (λe a w h=>by obtain⟨rfl,h⟩:=h;exact h);have NU:=aV.drawn (w.drawn+1) (le_succ _);refine wp_region_draw λt=>?_;rw[show Region.schedule (C.P.follows .mixedOrders) ops t=Region.linearise .any ops t by simp[Region.schedule,bx.mixed]];generalize kQ:({w with drawn:=w.drawn+1}:World)=hI at NU;have B1:=Lu U t;generalize Region.linearise .any ops t=l at B1;let WS:World->Prop:=λaK=>∀e∈L,∀b,a.tmps.getD e.k undef= .pointer (some ⟨b,0,none⟩)->aK.heap[b]? =hI.heap[b]?
 have rU:∀i,i<ros.length->i∈l:=λi aq=>(B1.2.1 i).2 (by rw[ok.NQ];exact aq);have wm:∀(i:Nat) (r:bW),ros[i]? =some r->∃o,ops[i]? =some o/\lb n ops o=some r.un:=λi r aq=>by
  have en:i<ros.length:=(List.getElem?_eq_some_iff.1 aq).1;have b_:ops[i]? =some (ops[i]'(by omega)):=Array.getElem?_eq_getElem (by omega);obtain⟨gv,aX,bk⟩:=lf i _ (by rw[Array.getElem?_toList];exact b_);rw[getElem?_map,aq]at aX;cases aX;exact⟨_,b_,bk⟩
 refine ND (S:=WS) l a hI (NK (Q:=Gs) (WS:=WS) bx zg (λc a w h=>by cases h.1) wm (λt=>a.tmps.getD t undef) L (λe he=>⟨ok.B0 e he,mem_flatMap.2 ⟨e,he,by simp⟩,mem_flatMap.2 ⟨e,he,by simp⟩⟩) ok.i_ l (Wu B1) ok.NR
  (λe he=>⟨rU _ (List.getElem?_eq_some_iff.1 (ok.B0 e he).gZ).1,rU _ (List.getElem?_eq_some_iff.1 (ok.B0 e he).e_).1⟩) (λe he b U=>rfl) (λe he=>rfl) (λe he b U aK uT=>uT e he b U) NU af λcj pP ek=>?_)
 obtain⟨cv,cK,eJ,F,S,cU⟩:=ek;obtain⟨aS,d1,d2,d3⟩:=NM fc cU;have rJ:=d1.base;have hw:=BX (K:=λs2=>eK (Q .normal) (an (eD e6 (nI eL s1 s2)))) ok.NS ok.same l _ (nr l B1);let jx:Fr:=⟨n.n,eL++n.fx⟩
 let ρ1:Nat->Value:=λt=>cj.tmps.getD t undef
 have uN:∀(r:bW) (o:Oper),r∈ros->lb n ops o=some r.un->lb jx ops o=some r.un:=λr o aV h=>by
  unfold lb at h⊢;split at h
  .rename_i al;rw[if_pos]
   .exact h
   .cases za:o.dst with
    |none=>rfl
    |some d=>
     rw[za]at al;simp only[lE,Bool.and_eq_true,decide_eq_true_eq,Bool.not_eq_true',contains_eq_mem,decide_eq_false_iff_not]at al⊢;refine⟨al.1,?_⟩;have rP:r.dst=some d:=by
      split at h
      .simp only[bW.un,Option.some.injEq,bW.mk.injEq]at h;rw[<-h.1,za]
      .cases h
     simp only[jx,mem_append,not_or];exact⟨ok.rd r aV d rP,al.2⟩
  .cases h
 refine Wy (Q:=Gs) (S:=WS) (w0:=hI) (F0:=F) (X:=λb=>∃u,aS u b) (n:=jx) (ρ:=ρ1) bx (ros:=ros) (K:=λs2=>eK (Q .normal) (an (eD e6 (nI eL s1 s2)))) (λaH aB aK uE e he b U=>?_) (λaH aB aK au uE=>⟨rfl,?_⟩) _ (λi aq=>⟨λlx=>?_,λo b_=>?_⟩) (tb fc s1) cj hI hw ⟨cv,cK,λ_ _=>rfl,F,aS,rJ⟩
 .obtain⟨_,_,_,j6,dq,bD⟩:=uE;obtain⟨d,al⟩:=pK e he;obtain⟨ee,aX,bk⟩:=WA cU al;have uf:cj.tmps.getD e.k undef=a.tmps.getD e.k undef:=pP _ λdJ j7=>⟨Ne.symm (ok.i_ dJ j7 e he).1,Ne.symm (ok.i_ dJ j7 e he).2⟩
  have:ee=b:=by
   have:=(aX.symm.trans uf).trans U;simpa using this
  subst this;refine bD.old ee (cU.et e.k ee bk) λ⟨u,hu⟩=>?_;by_cases zk:u=e.k
  .subst zk;exact d3 _ (ok.fc e he) ee hu
  .exact cU.fe u e.k ee zk (d2 u ee hu) bk
 .obtain⟨o3,rY,s8,j6,dq,bD⟩:=uE;have WW:∀k∈eL,k∈fc:=λk au=>by
   obtain⟨e,he,rfl⟩:=ok.BZ k au;exact ok.fc e he
  have uU:∀k∈eL,∀b,S k b->¬∃u,aS u b:=λk au b U ⟨u,hu⟩=>by
   by_cases zk:u=k
   .subst zk;exact d3 _ (WW _ au) b hu
   .exact cU.fe u k b zk (d2 u b hu) U
  have WX:=d1.F4 bD;have WY:∀k∈eL,∀b,S k b->¬j6 b:=λk au b U Gn=>by
   rcases bD.ho b Gn with h|h|h
   .exact cU.fS k b U h
   .exact uU k au b U h
   .exact absurd (cU.et k b U) (by omega)
  have WZ:bK w0 F0 X F (λu b=>u∈eL/\S u b) (λu=>if u∈eL then s1 u else .hole) (λt=>cj.tmps.getD t undef) hI:={
   g5:=cU.g5
   ho:=cU.ho
   fR:=cU.fR
   et:=λu b U=>cU.et u b U.2
   fS:=λu b U=>cU.fS u b U.2
   fe:=λu x b dG U aA=>cU.fe u x b dG U.2 aA.2
   dI:=λu b U=>cU.dI u b U.2
   dz:=λu=>by
    by_cases hu:u∈eL
    .rw[if_pos hu];obtain⟨e,he,rfl⟩:=ok.BZ u hu;obtain⟨d,al⟩:=pK e he;have:=cU.dz e.k;rw[al]at this⊢;have qC:(λb=>e.k∈eL/\S e.k b)=S e.k:=by funext b;simp[hu]
     rw[qC];exact(aO.cI rfl).2 ((aO.cI rfl).1 this)
    .rw[if_neg hu,aO];trivial
   old:=cU.old
   size:=cU.size
   os:=cU.os
   tape:=cU.tape
   output:=cU.output
   hG:=cU.hG}
  obtain⟨W0,bC⟩:=NN (s1:=λu=>if u∈eL then s1 u else .hole) (iO:=λt=>aB.tmps.getD t undef) WZ (λb U=>bD.old b (cU.fR b U) λ⟨u,hu⟩=>d1.fS u b hu U) (λb U=>bD.g5 b U) bD.size (λu b U=>WY u U.1 b U.2) eL ok.NP (λk au=>by
   obtain⟨e,he,rfl⟩:=ok.BZ k au;rw[if_pos au];exact pK e he) (λk au=>s8 k (by simp[jx,au])) (λk au b U=>bD.old b (cU.et k b U.2) (uU k au b U.2)) (λk au u b hu ae=>by
   rcases bD.dI u b hu with h|h
   .exact uU k au b ae.2 h
   .exact absurd (cU.et k b ae.2) (by omega)) (λk au b U=>cU.dI k b U.2) WX
  have W1:∀(wF:ahC) (s:ao),(∀k∈wF,k∈eL)->nI wF (λu=>if u∈eL then s1 u else .hole) s=nI wF s1 s:=by
   intro wF;induction wF with
   |nil=>intro s _;rfl
   |cons k wF ih=>
    intro s au;simp only[nI];rw[if_pos (au k (by simp)),ih _ λc7 g8=>au c7 (by simp[g8])]
  rw[W1 eL aH λ_ h=>h]at bC;have W2:∀i∈n.fx,aB.tmps.getD i undef=ρ i:=λi aq=>(s8 i (by simp[jx,aq])).trans (eJ i aq);have W3:Rel w0 F0 X n ρ (nI eL s1 aH) aB aK:=⟨o3,rY,W2,j6,W0,bC⟩
  obtain⟨tc,cw,c1⟩:=W3.eK (K:=eK (Q .normal)) (.inr ⟨_,Ng _ _,au⟩);exact c1.eK cw
 .rw[List.getElem?_eq_none_iff,<-BO];exact Array.getElem?_eq_none_iff.1 lx
 .have en:i<ros.length:=by rw[<-BO];exact(Array.getElem?_eq_some_iff.1 b_).1
  obtain⟨nw,aX,bk⟩:=wm i _ (getElem?_eq_getElem en);rw[b_]at aX;cases aX;exact⟨_,getElem?_eq_getElem en,uN _ _ (getElem_mem en) bk⟩
theorem bt.NV (bx:C.eN) {f:FuncId} {fn:Func} {c:Code} {e1:aT} {fx:ahC} {as outs:ahI} {r:I} (eU:List ResultVar) (l:ahH) (bS:C.P.funcs[f]? =some fn) (U:fn.body=some c)
  (lh:(fn.name== "runtime.NumGoroutine")=false) (ae:ft ⟨fn.ntmps,fx⟩ c=some e1.strip) (ba:as.length<=fn.ntmps) (au:e1.n5 (zj C (mZ c))) (gR:fn.results.toList=eU) (hl:num 0 as=l)
  (h:∀Q:Exit->ao->Prop,(∀s,eK (Ends C fx eU r outs) s->Q .ret s)->(∀s,eK (Ends C fx eU r outs) s->Q .normal s)->bp C e1 Q (an l)):bt C f as r outs:=by
 subst gR hl;intro w F X S vs hl aV;refine Fm (fx:=fx) bx bS U lh ba hl aV λa hrel ea=>?_;refine LH bx (H:=zj C (mZ c)) (R:=mZ c) (λc T b Q s a w fQ iZ uN aZ aV=>WU bx fQ iZ uN aZ aV) c (λ_ h=>h) (by rw[aT.Fh];exact ae) (aT.Fi e1 au) (Fk e1 ?_) hrel;rw[yN];exact h _ (λs h=>⟨.inr rfl,h⟩) (λs h=>⟨.inl rfl,h⟩)
end
def NW (C:bV) (e:lJ):Bool:=(match(C.T e.T).k with
 | .struct aG=>aG[e.az]? ==some (e.cb,e.off)
 |_=>false)&&((C.T e.cb).ok&&((C.T e.cb).sz !=0&&(C.T e.cb).flat))
def Gt (D:ahC) (ros:List bW):List bW:=ros.zipIdx.map λp=>if D.contains p.2 then hM else p.1
theorem NX (D:ahC) (ros:List bW) (i:Nat):(Gt D ros)[i]? =(ros[i]?).map λr=>if D.contains i then hM else r:=by
 unfold Gt;rw[getElem?_map,getElem?_zipIdx];cases ros[i]? <;>simp
theorem NY {C:bV} {R:List (Array Oper)} {ros jj:List bW} {bT:ahA} {L:List lJ} {fc eL:ahC} (af:(L.all λe=>fc.contains e.k)=true) (ag:bT.length=jj.length) (aJ:bT.length=ros.length)
  (a_:L.map (λe=>(ros[e.iS]?,ros[e.jS]?))=L.map λe=>(some ⟨some e.hz,.gZ e.T (.t e.k) e.az,none⟩,some ⟨some e.tl,.e_ e.cb (.t e.hz),none⟩)) (bC:(L.all λe=>L.all λdJ=>e.hz !=dJ.k&&e.tl !=dJ.k)=true) (cw:(zi L).Nodup)
  (cQ:jj=Gt (zi L) ros) (e3:(R.all λops=>(ops.toList.map (·.dst) !=ros.map (·.dst))||wA (NL L) bT ops)=true) (jq:(L.all λe=>NW C e)=true) (aX:eL.Nodup) (bk:(eL.all λk=>L.any λe=>e.k==k)=true) (ca:(ros.all λr=>match r.dst with|some d=> !eL.contains d|none=>true)=true):NO C R ros jj bT L fc eL:=by
 have zl:∀e∈L,ros[e.iS]? =some ⟨some e.hz,.gZ e.T (.t e.k) e.az,none⟩/\ros[e.jS]? =some ⟨some e.tl,.e_ e.cb (.t e.hz),none⟩:=λe he=>by
  have:=map_inj_left.1 a_ e he;simpa using this
 refine {fc:=λe he=>by simpa using List.all_eq_true.1 af e he,NP:=aX,BZ:=λk au=>by simpa using List.all_eq_true.1 bk k au,rd:=λr aV d al=>by have:=List.all_eq_true.1 ca r aV;rw[al]at this;simpa using this,len:=ag,NQ:=aJ,B0:=λe he=>?_,i_:=λe he dJ j7=>?_,NR:=cw,NS:=λi aq=>?_,same:=λi aq=>?_,nk:=λops b_ ae=>?_}
 .have h:=List.all_eq_true.1 jq e he;simp only[NW,Bool.and_eq_true,bne_iff_ne,ne_eq]at h;obtain⟨aX,bk,ca,dr⟩:=h;refine⟨(zl e he).1,(zl e he).2,?_,bk,ca,dr⟩;split at aX
  .rename_i aG EK;exact⟨aG,EK,by simpa using aX⟩
  .cases aX
 .have:=List.all_eq_true.1 (List.all_eq_true.1 bC e he) dJ j7;simpa using this
 .rw[cQ,NX];have en:i<ros.length:=by
   obtain⟨e,he,NZ⟩:=mem_flatMap.1 aq;simp only[mem_cons,not_mem_nil,or_false]at NZ;rcases NZ with rfl|rfl
   .exact(List.getElem?_eq_some_iff.1 (zl e he).1).1
   .exact(List.getElem?_eq_some_iff.1 (zl e he).2).1
  rw[getElem?_eq_getElem en];simp[aq]
 .rw[cQ,NX];cases ros[i]? with
  |none=>rfl
  |some r=>simp[aq]
 .have:=List.all_eq_true.1 e3 ops b_;simpa [ae]using this
def W4 (e:lJ) (l bR:ahH):Prop:=∃ds d,an l e.k= .ai (.agg ds)/\ds[e.az]? =some d/\d.tree=true/\d.wd=1/\(∀v,Value.fN v=true->dy d v)/\I.dO (ds.take e.az)=e.off/\
 ((d.plain=false/\bR=(e.tl,d)::pZ e.tl ((e.k,.ai (.agg (ds.set e.az d.cZ)))::sU e.k ((e.hz,.hole)::l)))\/(d.plain=true/\bR=(e.tl,d)::(e.hz,.hole)::l))
def wG:List lJ->ahH->ahH->Prop
 |[],l,bR=>bR=l
 |e::L,l,bR=>∃di,W4 e l di/\wG L di bR
theorem N0:∀{L:List lJ} {l bR:ahH},wG L l bR->zf L (an l) (an bR)
 |[],_,_,h=>by simp only[wG]at h;subst h;rfl
 |e::L,l,bR,⟨di,⟨ds,d,af,ag,a_,bC,cw,cQ,e3⟩,h⟩=>⟨an di,⟨ds,d,af,ag,a_,bC,cw,cQ,e3.imp (λ⟨aJ,e3⟩=>⟨aJ,by rw[e3,pY,LN,pY,yO,pY]⟩) λ⟨aJ,e3⟩=>⟨aJ,by rw[e3,pY,pY]⟩⟩,N0 h⟩
def td (N:Nat) (iI:ahC):ahC:=(range N).filter λt=> !iI.contains t
theorem N1:∀(fc:ahC) (s:ao) (u:Nat),tb fc s u=if u∈fc then .hole else s u
 |[],s,u=>by simp[tb]
 |k::fc,s,u=>by
  simp only[tb];rw[N1 fc];by_cases af:u∈fc
  .rw[if_pos af,if_pos (mem_cons_of_mem _ af)]
  .rw[if_neg af];by_cases ag:u=k
   .subst ag;rw[mv,if_pos (by simp)]
   .rw[iz _ _ ag,if_neg (by simp[af,ag])]
theorem N2:∀(iI:ahC) (s:ao) (u:Nat),an (eD iI s) u=if u∈iI then s u else .hole
 |[],s,u=>by simp[eD,an]
 |k::iI,s,u=>by
  have ih:=N2 iI s u;unfold eD at ih⊢;rw[map_cons,Uu,ih];by_cases h:u=k
  .subst h;simp
  .rw[if_neg h];by_cases ag:u∈iI
   .rw[if_pos ag,if_pos (mem_cons_of_mem _ ag)]
   .rw[if_neg ag,if_neg (by simp[h,ag])]
theorem W5 (N:Nat) (iI:ahC) (l:ahH) (h:(l.all λp=>decide (p.1<N))=true):tb (td N iI) (an l)=an (eD iI (an l)):=by
 funext u;rw[N1,N2];by_cases af:u∈iI
 .rw[if_pos af,if_neg];intro hm;have:=(mem_filter.1 hm).2;simp[af]at this
 .rw[if_neg af];by_cases ag:u<N
  .rw[if_pos (show u∈td N iI from mem_filter.2 ⟨mem_range.2 ag,by simpa using af⟩)]
  .rw[if_neg (show u∉td N iI from λhm=>ag (mem_range.1 (mem_filter.1 hm).1))];rcases Ff l u with aJ|⟨p,aw,W6,_⟩
   .exact aJ
   .have:=List.all_eq_true.1 h p aw;rw[W6]at this;exact(ag (by simpa using this)).elim
def B2:I->Bool
 | .ai _=>true
 |_=>false
theorem W7 {d:I} (h:B2 d=true):∃x,d= .ai x:=by
 cases d<;>first|exact⟨_,rfl⟩|cases h
def p6:ahH->ao->ao
 |[],s=>s
 |(k,d)::r,s=>p6 r (cY (kR k s) k d)
theorem N3:∀(eL:ahC) (s1 s:ao),nI eL s1 s=p6 (eD eL s1) s
 |[],_,_=>rfl
 |k::eL,s1,s=>by simp only[nI,eD,map_cons,p6];exact N3 eL s1 _
theorem wH:(∀k d r (l:ahH),p6 ((k,d)::r) (an l)=p6 r (an ((k,d)::pZ k l)))/\∀s,p6 [] s=s:=⟨λk d r l=>by rw[p6,yO,pY],λ_=>rfl⟩
theorem W8 {C:bV} {Q:Exit->ao->Prop} {l:ahH} {jj:List bW} {bT:ahA} {L:List lJ} {N:Nat} {iI eL e6:ahC} {b:aT} (di l2 p7 bR:ahH) (af:wG L l di) (ag:eD iI (an di)=l2) (bC:eD eL (an di)=p7) (aJ:(di.all λp=>decide (p.1<N))=true)
  (a_:(L.all λe=>B2 (an di e.k))=true) (h:∀P:ahH->Prop,P bR->cS C (an l2) jj (some []) λacc s2=>iK (kD bT) 0 [] (acc.getD []).reverse=true/\P (eD e6 (p6 p7 s2))) (au:eK (Q .normal) (an bR)):bp C (.i1 (wE C jj bT L (td N iI) eL e6) b) Q (an l):=by
 intro eC p5;refine⟨an di,N0 af,λe he=>W7 (List.all_eq_true.1 a_ e he),?_⟩;rw[W5 N iI di aJ,ag];have e:∀s2,nI eL (an di) s2=p6 p7 s2:=λs2=>by rw[N3,bC]
 have:=h (λl=>eK (eC .normal) (an l)) (uD (λ_ h=>p5 _ _ h) _ au);simpa only[e]using this
theorem W9 {C:bV} {Q:Exit->ao->Prop} {l:ahH} {jj:List bW} {bT:ahA} {L:List lJ} {N:Nat} {iI eL e6:ahC} {b e:aT} (di l2 p7 bR:ahH) (af:wG L l di) (ag:eD iI (an di)=l2) (bC:eD eL (an di)=p7) (aJ:(di.all λp=>decide (p.1<N))=true)
  (a_:(L.all λe=>B2 (an di e.k))=true) (h:∀P:ahH->Prop,P bR->cS C (an l2) jj (some []) λacc s2=>iK (kD bT) 0 [] (acc.getD []).reverse=true/\P (eD e6 (p6 p7 s2))) (au:eK (bp C e Q) (an bR)):bp C (.seq (.i1 (wE C jj bT L (td N iI) eL e6) b) e) Q (an l):=W8 (b:=b) di l2 p7 bR af ag bC aJ a_ h (.inl au)
theorem N4 {C:bV} {Q:Exit->ao->Prop} {l:ahH} {jj:List bW} {bT:ahA} {L:List lJ} {N:Nat} {iI eL e6:ahC} {b e:aT} (di l2 p7 bR:ahH) (af:wG L l di) (ag:eD iI (an di)=l2) (bC:eD eL (an di)=p7) (aJ:(di.all λp=>decide (p.1<N))=true)
  (a_:(L.all λe=>B2 (an di e.k))=true) (h:∀P:ahH->Prop,P bR->cS C (an l2) jj (some []) λacc s2=>iK (kD bT) 0 [] (acc.getD []).reverse=true/\P (eD e6 (p6 p7 s2))) (au:bp C e Q (an bR)):bp C (.seq (.i1 (wE C jj bT L (td N iI) eL e6) b) e) Q (an l):=W9 (b:=b) di l2 p7 bR af ag bC aJ a_ h (.inl au)
end Go.dD
