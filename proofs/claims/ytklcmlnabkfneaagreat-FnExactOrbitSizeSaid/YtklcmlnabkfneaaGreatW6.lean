/- Part of a proof that a law returns true for every input. No condition. -/
import Derived.Test.YtklcmlnabkfneaaGreatW1x6
namespace Go.Proofs.YtklcmlnabkfneaaGreat
open Option Go.IntKind Nat Or
open Go Go.cU Go.ll
set_option maxRecDepth 100000
set_option maxHeartbeats 1400000
set_option linter.unusedSimpArgs false
set_option linter.unusedVariables false
theorem acI (a0 r) (h:Bq a0=some r):aW ah 157 [.int .i64 a0] (.al 1 (r.map jI)) []:=by
 refine bw [0] [.tmp 2] Tryz.func157 YI λbu ai bt=>ao ?_;refine iM (cc (K:=dm _) [(0,.int .i64 a0),(3,.al 1 ([.a_]))] (λP bl=>?_) (tZ [(0,.int .i64 a0),(3,.al 1 ([[]].map jI))] (kl [] rfl (du rfl (kn (t:=3) (d:=.al 1 ([.a_])) (a6:=.al 1 ([[]].map jI)) rfl rfl (.al (.cons (.lf _) (.nil))) (by decide) (km)))) ?_))
 .simp only[aX.down,simprocAttr,(show∀s,eI ah s 200 1 [(0,.a_)]=some (.al 1 [.a_],s)from λs=>by kernel_rfl)];exact b2 (show∀s,eI ah s 200 1 [(0,.a_)]=some (.al 1 [.a_],s)from λs=>by kernel_rfl)
 refine aF ai λ_ eW cG aT=>ao ?_;refine bj cG λmM _ cO cm _=>?_;show a1 ah (.loop ?hh) _ _;have ho:∀n bo f_,mc a0 n bo f_=some r->cz ah ?hh mM (az [(0,.int .i64 a0),(3,.al 1 (bo.map jI)),(9,.int .i64 a0),(10,.int .i64 f_)]):=by
  refine cS λm8 hp bo f_ h=>cR cO λ_ n6 cC cy=>ao ?_;refine aF cC λ_ iC _ fM=>aM h (λft h=>?_) λft h=>?_
  .refine aQ (iC _ (inl (aF cC λ_ n10 cp _=>bj cp λ_ n11 gO _ _=>iM (cc (K:=dm _) [(0,.int .i64 a0),(3,.al 1 (bo.map jI)),(4,.a_),(9,.int .i64 a0),(10,.int .i64 f_)] (λP bl=>?_) (tZ [(0,.int .i64 a0),(3,.al 1 (bo.map mK)),(4,.a_),(9,.int .i64 a0),(10,.int .i64 f_)] (kl [] rfl (du rfl (kn (t:=3) (d:=.al 1 (bo.map jI)) (a6:=.al 1 (bo.map mK)) rfl rfl (.al (Lw (λ_=>wQ rfl rfl (Wk _)) _)) (by decide) (du rfl (du rfl (du rfl (km))))))) ?_)))))
   .simp only[aX.down,simprocAttr];exact b2 trivial
   refine aF gO λ_ n13 ey _=>ao ?_;refine bj ey λacJ _ hy ej _=>?_;show a1 ah (.loop ?acK) _ _;have acL:∀n qi pt pv qj pw,px (mc a0 m8) a0 n qi pt pv qj pw=some r->cz ah ?acK acJ (az [(0,.int .i64 a0),(3,.al 1 (qi.map mK)),(4,.al 1 (pt.map jI)),(9,.int .i64 a0),(10,.int .i64 pv),(12,.h 3 []),(13,.int .i64 qj),(14,.int .i64 pw)]):=by
    refine cS λm23 acM qi pt pv qj pw h=>cR hy λ_ n16 lT BR=>ao ?_;refine aF lT λ_ n18 _ xM=>aM h (λfh h=>?_) λfh h=>?_
    .refine aQ (n18 _ (inl (aF lT λ_ n20 s0 _=>bj s0 λ_ n21 oA _ _=>?_)));obtain⟨ae,mL,h⟩:=aE h;refine eV (af mL (b6 mL)) _ ?_;refine ao ?_;refine bj oA λHc _ lu ox _=>?_;show a1 ah (.loop ?acN) _ _;have acO:∀n mE mb mF mG mH jb,sY (mc a0 m8) (px (mc a0 m8) a0 m23) a0 ae n mE mb mF mG mH jb=some r->cz ah ?acN Hc (az [(0,.int .i64 a0),(3,.al 1 (mE.map mK)),(4,.al 1 (mb.map jI)),(6,.slice (ae.map bf)),(9,.int .i64 a0),(10,.int .i64 mF),(12,.h 3 []),(13,.int .i64 mG),(14,.int .i64 mH),(18,.int .i64 a0),(19,.int .i64 jb)]):=by
      refine cS λacP acQ mE mb mF mG mH jb h=>cR lu λacR n26 s5 Hd=>ao ?_;refine aF s5 λ_ n28 _ acS=>aM h (λie h=>?_) λie h=>?_
      .refine aQ (n28 _ (inl ?_));show a1 ah (.seq _ ?acT) _ _;have NY:∀uO uP uQ uR uS uT,x_ (mc a0 m8) (px (mc a0 m8) a0 m23) (sY (mc a0 m8) (px (mc a0 m8) a0 m23) a0 ae acP) a0 ae uO uP uQ uR uS uT=some r->a1 ah ?acT acR (az [(0,.int .i64 a0),(3,.al 1 (uO.map mK)),(4,.al 1 (uP.map jI)),(6,.slice (ae.map bf)),(9,.int .i64 a0),(10,.int .i64 uQ),(12,.h 3 []),(13,.int .i64 uR),(14,.int .i64 uS),(18,.int .i64 a0),(19,.int .i64 uT)]):=by
        intro uO uP uQ uR uS uT h;refine dc ?_;exact n26 _ (inr ⟨_,bJ rfl,acQ uO uP uQ uR uS (i64.wrap (uT+1)) h⟩)
       refine aF s5 λ_ n30 He _=>bj He λ_ n32 _ _ _=>ao ?_;obtain⟨an,HO,h⟩:=aE h;refine cK (acH ae jb _ HO) _ ?_;refine aM h (λmg h=>?_) λmg h=>?_
       .obtain⟨aT,yS,h⟩:=aE h;obtain⟨acU,ve,h⟩:=aE h;(try simp only[qn.down,Nat.zero_add,Nat.add_zero,reduceAdd]at ve);obtain⟨acU,Ce,h⟩:=aE h;(try simp only[BO.down,Nat.zero_add,Nat.add_zero,reduceAdd]at Ce);refine iv (cc [(0,.int .i64 a0),(3,.al 1 (mE.map mK)),(4,.al 1 ((mb++[(aT++[jb])]).map jI)),(6,.slice (ae.map bf)),(9,.int .i64 a0),(10,.int .i64 mF),(12,.h 3 []),(13,.int .i64 mG),(14,.int .i64 mH),(18,.int .i64 a0),(19,.int .i64 jb)] (λP bl=>?_) ?_)
        ·(try simp only[aX.down,simprocAttr,(show∀s,eI ah s 22 1 [(0,.int .i64 jb)]=some (.al 1 [.int .i64 jb],s)from λs=>by kernel_rfl),GS.down,ve,l9,ei,Ce]);refine fg (NX ae _ yS) (hK:= ?_);simp only[aX.down,simprocAttr,(show∀s,eI ah s 22 1 [(0,.int .i64 jb)]=some (.al 1 [.int .i64 jb],s)from λs=>by kernel_rfl),GS.down,ve,l9,ei,Ce];(try simp only[iA.down,simprocAttr,(show∀s,eI ah s 22 1 [(0,.int .i64 jb)]=some (.al 1 [.int .i64 jb],s)from λs=>by kernel_rfl),GS.down,ve,l9,ei,Ce]at bl⊢);exact bl
        exact n32 _ (n30 _ (inr ⟨_,bJ rfl,NY mE (mb++[(aT++[jb])]) mF mG mH jb h⟩))
       .exact aQ (n32 _ (n30 _ (inr ⟨_,bJ rfl,NY mE mb mF mG mH jb h⟩)))
      .refine cP (acS 4 _ (Hd 4 _ (ox _ (n21 _ (n20 _ (inl (dc ?_)))))));exact n16 _ (inr ⟨_,bJ rfl,acM mE mb mF mG (i64.wrap (mH+1)) h⟩)
     exact c5 h λn h=>acO n qi pt pv qj pw 0 h
    .refine cP (xM 2 _ (BR 2 _ (ej _ (n13 _ (inl (dc ?_))))));refine n11 _ (n10 _ (inl (dc ?_)));exact n6 _ (inr ⟨_,bJ rfl,hp pt (i64.wrap (pv+1)) h⟩)
   obtain⟨n,h⟩:=oL h;exact p9 (inr ⟨_,kl [3] rfl (du (t:=0) (d:=.int .i64 a0) rfl (du (t:=3) (d:=.al 1 (bo.map mK)) rfl (kn (t:=4) (d:=.a_) (a6:=.al 1 []) rfl rfl (.lf _) (by decide) (du (t:=9) (d:=.int .i64 a0) rfl (du (t:=10) (d:=.int .i64 f_) rfl (du (t:=12) (d:=.h 3 []) rfl (du (t:=13) (d:=.int .i64 (bo.length:Int)) rfl (du (t:=14) (d:=.int .i64 0) rfl (km))))))))),acL n bo [] f_ (bo.length:Int) 0 h⟩)
  .exact cP (fM 0 _ (cy 0 _ (cm _ (eW _ (inl (aJ ai [.al 1 (bo.map jI)]))))))
 exact c5 h λn h=>ho n [[]] 0 h
theorem acV (a0 r) (h:Br a0=some r):aW ah 222 [bN a0] (dn r) []:=by
 refine bw [0] [.cell 2 119] Tryz.func222 YJ λbu ai bt=>ao ?_;obtain⟨ae,aS,h⟩:=aE h;refine cK (NX a0.b4 _ aS) _ ?_;exact aJ ai [dn (aU.mk a0.b7 a0.Part ae)]
theorem acW (a0 J r) (h:Bs a0 J=some r):aW ah 158 [.slice (a0.map bN),.slice (J.map bf)] (.al 3 (r.map dn)) []:=by
 refine bw [0,1] [.tmp 4] Tryz.func158 YK λbu ai bt=>ao ?_;refine ao ?_;refine aF ai λ_ eW cG aT=>ao ?_;refine bj cG λmM _ cO cm _=>?_;show a1 ah (.loop ?hh) _ _;have ho:∀n fC f_,Gi a0 J n fC f_=some r->cz ah ?hh mM (az [(0,.slice (a0.map bN)),(5,.al 3 (fC.map dn)),(8,.slice (J.map bf)),(9,.int .i64 (J.length:Int)),(10,.int .i64 f_)]):=by
  refine cS λ_ hp fC f_ h=>cR cO λ_ n6 cC cy=>ao ?_;refine aF cC λ_ iC _ fM=>aM h (λft h=>?_) λft h=>?_
  .refine aQ (iC _ (inl (aF cC λ_ n10 cp _=>bj cp λ_ n11 _ _ _=>?_)));obtain⟨ae,e9,h⟩:=aE h;refine eV e9 _ ?_;obtain⟨an,gX,h⟩:=aE h;obtain⟨aT,b_,h⟩:=aE h;obtain⟨qp,cT,h⟩:=aE h;(try simp only[BO.down,Nat.zero_add,Nat.add_zero,reduceAdd]at cT);refine iv (cc [(0,.slice (a0.map bN)),(5,.al 3 ((fC++[aT]).map dn)),(8,.slice (J.map bf)),(9,.int .i64 (J.length:Int)),(10,.int .i64 f_)] (λP bl=>?_) ?_)
   ·(try simp only[aX.down,simprocAttr,gX,GU.down,l9,ei,cT]);refine fg (acV an _ b_) (hK:= ?_);simp only[aX.down,simprocAttr,gX,GU.down,l9,ei,cT];(try simp only[iA.down,simprocAttr,gX,GU.down,l9,ei,cT]at bl⊢);exact bl
   refine n11 _ (n10 _ (inl (wr [(0,.slice (a0.map bN)),(5,.al 3 ((fC++[aT]).map dn)),(8,.slice (J.map bf)),(9,.int .i64 (J.length:Int)),(10,.int .i64 (i64.wrap (f_+1)))] ?_)));exact n6 _ (inr ⟨_,bJ rfl,hp (fC++[aT]) (i64.wrap (f_+1)) h⟩)
  .exact cP (fM 0 _ (cy 0 _ (cm _ (eW _ (inl (aJ ai [.al 3 (fC.map dn)]))))))
 obtain⟨n,h⟩:=oL h;exact p9 (inr ⟨_,kl [] rfl (du (t:=0) (d:=.slice (a0.map bN)) rfl (kn (t:=5) (d:=.a_) (a6:=.al 3 []) rfl rfl (.lf _) (by decide) (du (t:=8) (d:=.slice (J.map bf)) rfl (du (t:=9) (d:=.int .i64 (J.length:Int)) rfl (du (t:=10) (d:=.int .i64 0) rfl (km)))))),ho n [] 0 h⟩)
theorem NZ (a0 r) (h:Bt a0=some r):aW ah 298 [.int .i64 a0] (.bool r) []:=by
 refine bw [0] [.tmp 2] Tryz.func298 YL λbu ai bt=>ao ?_;exact aJ ai [.bool (a0 !=a0)]
theorem HQ (a0 J r) (h:uU a0 J=some r):aW ah 287 [.int .i64 a0,.int .i64 J] (.int .i64 r) []:=by
 refine bw [0,1] [.tmp 4] Tryz.func287 YM λbu ai bt=>ao ?_;obtain⟨ae,aS,h⟩:=aE h;refine cK (NZ a0 _ aS) _ ?_;obtain⟨an,cd,h⟩:=aE h;refine cK (NZ J _ cd) _ ?_;refine aF ai λ_ n6 cC _=>ao ?_;refine aM h (λb5 h=>?_) λb5 h=>?_
 .refine aF cC λ_ cF bW _=>ao ?_;refine aM h (λlS h=>?_) λlS h=>?_
  .exact aJ bW [.int .i64 0]
  .exact aQ (cF _ (inl (aJ cC [.int .i64 (-1)])))
 .refine aQ (n6 _ (inl (aF ai λ_ n14 dw _=>ao ?_)));refine aM h (λiW h=>?_) λiW h=>?_
  .exact aJ dw [.int .i64 1]
  .refine aQ (n14 _ (inl (aF ai λ_ n18 vd _=>ao ?_)));refine aM h (λfc h=>?_) λfc h=>?_
   .exact aJ vd [.int .i64 (-1)]
   .refine aQ (n18 _ (inl (aF ai λ_ n22 lq _=>ao ?_)));refine aM h (λgY h=>?_) λgY h=>?_
    .exact aJ lq [.int .i64 1]
    .exact aQ (n22 _ (inl (aJ ai [.int .i64 0])))
theorem acX (a0 J r) (h:Bu a0 J=some r):aW ah 288 [.slice (a0.map bf),.slice (J.map bf)] (.int .i64 r) []:=by
 refine bw [0,1] [.tmp 4] Tryz.func288 YN λbu ai bt=>ao ?_;refine aF ai λ_ bK ba an=>ao ?_;refine bj ba λe4 _ bV bR _=>?_;show a1 ah (.loop ?e2) _ _;have fN:∀n iz,uV a0 J n iz=some r->cz ah ?e2 e4 (az [(0,.slice (a0.map bf)),(1,.slice (J.map bf)),(9,.slice (a0.map bf)),(10,.int .i64 (a0.length:Int)),(11,.int .i64 iz)]):=by
  refine cS λ_ fp iz h=>cR bV λ_ eb cO bL=>ao ?_;refine aF cO λ_ cV _ cn=>aM h (λb5 h=>?_) λb5 h=>?_
  .refine aQ (cV _ (inl (aF cO λ_ cF bW _=>bj bW λ_ n10 cp _ _=>?_)));obtain⟨ae,hc,h⟩:=aE h;refine eV hc _ ?_;refine aF cp λ_ n13 ey _=>ao ?_;refine aM h (λej h=>?_) λej h=>?_
   .exact aJ ey [.int .i64 1]
   .refine aQ (n13 _ (inl ?_));obtain⟨an,eO,h⟩:=aE h;refine eV eO _ ?_;obtain⟨aT,jt,h⟩:=aE h;refine cK (HQ ae an _ jt) _ ?_;refine ao ?_;refine aM h (λqq h=>?_) λqq h=>?_
    .exact aJ cp [.int .i64 aT]
    .refine aQ (n10 _ (cF _ (inl (dc ?_))));exact eb _ (inr ⟨_,bJ rfl,fp (i64.wrap (iz+1)) h⟩)
  .refine cP (cn 0 _ (bL 0 _ (bR _ (bK _ (inl (aF ai λ_ n25 lu _=>ao ?_))))));refine aM h (λkp h=>?_) λkp h=>?_
   .exact aJ lu [.int .i64 (-1)]
   .exact aQ (n25 _ (inl (aJ ai [.int .i64 0])))
 exact c5 h λn h=>fN n 0 h
theorem acY (a0 r) (h:Gk a0=some r):aW ah 286 [.slice (a0.map bf)] (.int .i64 r) []:=by
 refine bw [0] [.tmp 2] Tryz.func286 YO λbu ai bt=>ao ?_;refine ao ?_;refine aF ai λ_ eW cG _=>ao ?_;refine bj cG λmM _ cO cm _=>?_;show a1 ah (.loop ?hh) _ _;have ho:∀n py,ya a0 n py=some r->cz ah ?hh mM (az [(3,.int .i64 0),(6,.slice (a0.map bf)),(7,.int .i64 (a0.length:Int)),(8,.int .i64 py)]):=by
  refine cS λ_ hp py h=>cR cO λ_ n6 cC cy=>ao ?_;refine aF cC λ_ iC _ fM=>aM h (λft h=>?_) λft h=>?_
  .refine aQ (iC _ (inl (aF cC λ_ n10 cp _=>bj cp λ_ n11 gO _ _=>?_)));obtain⟨ae,e9,h⟩:=aE h;refine eV e9 _ ?_;refine ao ?_;refine aM h (λej h=>?_) λej h=>?_
   .exact aJ gO [.int .i64 ae]
   .refine aQ (n11 _ (n10 _ (inl (dc ?_))));exact n6 _ (inr ⟨_,bJ rfl,hp (i64.wrap (py+1)) h⟩)
  .exact cP (fM 0 _ (cy 0 _ (cm _ (eW _ (inl (aJ ai [.int .i64 0]))))))
 exact c5 h λn h=>ho n 0 h
theorem acZ (a0 J r) (h:Bv a0 J=some r):aW ah 225 [bN a0,bN J] (.int .i64 r) []:=by
 refine bw [0,1] [.tmp 4] Tryz.func225 YP λbu ai bt=>ao ?_;obtain⟨ae,aS,h⟩:=aE h;obtain⟨an,b0,h⟩:=aE h;obtain⟨aT,cd,h⟩:=aE h;obtain⟨cx,bQ,h⟩:=aE h;refine kj rfl (jW [(4,.int .i64 cx)] (λP bl=>?_) ?_)
 ·(try simp only[dV.down,simprocAttr,(show∀s,eI ah s 327 3 [(0,.int .i64 ae),(1,.int .i64 an),(2,.int .i64 aT)]=some (.al 1 [.int .i64 ae,.int .i64 an,.int .i64 aT],s)from λs=>by kernel_rfl)]);refine jX (HQ a0.b7 J.b7 _ aS) (hK:= ?_);simp only[dV.down,simprocAttr,(show∀s,eI ah s 327 3 [(0,.int .i64 ae),(1,.int .i64 an),(2,.int .i64 aT)]=some (.al 1 [.int .i64 ae,.int .i64 an,.int .i64 aT],s)from λs=>by kernel_rfl)];refine jX (HQ a0.Part J.Part _ b0) (hK:= ?_);simp only[dV.down,simprocAttr,(show∀s,eI ah s 327 3 [(0,.int .i64 ae),(1,.int .i64 an),(2,.int .i64 aT)]=some (.al 1 [.int .i64 ae,.int .i64 an,.int .i64 aT],s)from λs=>by kernel_rfl)];refine jX (acX a0.b4 J.b4 _ cd) (hK:= ?_);simp only[dV.down,simprocAttr,(show∀s,eI ah s 327 3 [(0,.int .i64 ae),(1,.int .i64 an),(2,.int .i64 aT)]=some (.al 1 [.int .i64 ae,.int .i64 an,.int .i64 aT],s)from λs=>by kernel_rfl)];refine jX (acY [ae,an,aT] _ bQ) rfl rfl (by simp only[dV.down,simprocAttr,(show∀s,eI ah s 327 3 [(0,.int .i64 ae),(1,.int .i64 an),(2,.int .i64 aT)]=some (.al 1 [.int .i64 ae,.int .i64 an,.int .i64 aT],s)from λs=>by kernel_rfl),Nr.down,I.shares]<;>rfl) rfl (inr (by rfl)) ?_;simp only[dV.down,simprocAttr,(show∀s,eI ah s 327 3 [(0,.int .i64 ae),(1,.int .i64 an),(2,.int .i64 aT)]=some (.al 1 [.int .i64 ae,.int .i64 an,.int .i64 aT],s)from λs=>by kernel_rfl)];refine⟨jZ (by kernel_rfl),?_⟩;exact b2 (show∀s,eI ah s 327 3 [(0,.int .i64 ae),(1,.int .i64 an),(2,.int .i64 aT)]=some (.al 1 [.int .i64 ae,.int .i64 an,.int .i64 aT],s)from λs=>by kernel_rfl)
 exact dC ai [.int .i64 cx]
theorem ac0 (a0 J r) (h:Bw a0 J=some r):aW ah 224 [.slice (a0.map bN),.slice (J.map bN),.fn 225 []] (.int .i64 r) []:=by
 refine bw [0,1,2] [.tmp 6] Tryz.func224 YQ λbu ai bt=>ao ?_;refine aF ai λ_ bK ba an=>ao ?_;refine bj ba λe4 _ bV bR _=>?_;show a1 ah (.loop ?e2) _ _;have fN:∀n ny,uW a0 J n ny=some r->cz ah ?e2 e4 (az [(0,.slice (a0.map bN)),(1,.slice (J.map bN)),(2,.fn 225 []),(11,.slice (a0.map bN)),(12,.int .i64 (a0.length:Int)),(13,.int .i64 ny)]):=by
  refine cS λ_ fp ny h=>cR bV λ_ eb cO bL=>ao ?_;refine aF cO λ_ cV _ cn=>aM h (λb5 h=>?_) λb5 h=>?_
  .refine aQ (cV _ (inl (aF cO λ_ cF bW _=>bj bW λ_ n10 cp _ _=>?_)));obtain⟨ae,hc,h⟩:=aE h;refine eV hc _ ?_;refine aF cp λ_ n13 ey _=>ao ?_;refine aM h (λej h=>?_) λej h=>?_
   .exact aJ ey [.int .i64 1]
   .refine aQ (n13 _ (inl ?_));obtain⟨an,eO,h⟩:=aE h;refine eV eO _ ?_;obtain⟨aT,jt,h⟩:=aE h;refine cK (acZ ae an _ jt) _ ?_;refine ao ?_;refine aM h (λqq h=>?_) λqq h=>?_
    .exact aJ cp [.int .i64 aT]
    .refine aQ (n10 _ (cF _ (inl (dc ?_))));exact eb _ (inr ⟨_,bJ rfl,fp (i64.wrap (ny+1)) h⟩)
  .refine cP (cn 0 _ (bL 0 _ (bR _ (bK _ (inl (aF ai λ_ n25 lu _=>ao ?_))))));refine aM h (λkp h=>?_) λkp h=>?_
   .exact aJ lu [.int .i64 (-1)]
   .exact aQ (n25 _ (inl (aJ ai [.int .i64 0])))
 exact c5 h λn h=>fN n 0 h
theorem N0 (a0 J r) (h:uX a0 J=some r):aW ah 160 [.slice (a0.map bN),.slice (J.map bN)] (.int .i64 r) []:=by
 refine bw [0,1] [.tmp 4] Tryz.func160 YR λbu ai bt=>ao ?_;obtain⟨ae,aS,h⟩:=aE h;refine cK (ac0 a0 J _ aS) _ ?_;exact dC ai [.int .i64 ae]
theorem ac1 (a0 r:aiI) (h:uY a0=some r):aW ah 159 [.al 1 (a0.map gg),.fn 160 []] (.tuple []) [.al 1 (r.map gg),.hole]:=Zb rfl N0 a0 r h
theorem ac2 (a0 J r) (h:yc a0 J=some r):aW ah 162 [.slice (a0.map bN),.slice (J.map bN)] (.bool r) []:=by
 refine bw [0,1] [.tmp 4] Tryz.func162 YS λbu ai bt=>ao ?_;obtain⟨ae,aS,h⟩:=aE h;refine cK (N0 a0 J _ aS) _ ?_;exact dC ai [.bool (ae==0)]
theorem ac3 (a0 r:aiI) (h:uZ a0=some r):aW ah 161 [.al 1 (a0.map gg),.fn 162 []] (.al 1 (r.map gg)) [.hole,.hole]:=Zq rfl ac2 a0 r h
theorem ac4 (a0 r) (h:yd a0=some r):aW ah 81 [.slice (a0.map bN)] (.al 1 (r.map gg)) []:=by
 refine bw [0] [.tmp 2] Tryz.func81 YT λbu ai bt=>ao ?_;refine ao ?_;refine aF ai λ_ eW cG aT=>?_;obtain⟨ae,cd,h⟩:=aE h;refine cK (acI (a0.length:Int) _ cd) _ ?_;refine bj cG λjM _ cC dE _=>?_;have ho:∀n bo f_,u0 a0 ae n bo f_=some r->cz ah M6 jM (az [(0,.slice (a0.map bN)),(3,.al 1 (bo.map gg)),(8,.al 1 (ae.map jI)),(9,.int .i64 (ae.length:Int)),(10,.int .i64 f_)]):=by
  refine cS λ_ hp bo f_ h=>cR cC λ_ cV dR cn=>ao ?_;refine aF dR λ_ cF _ dN=>aM h (λfu h=>?_) λfu h=>?_
  .refine aQ (cF _ (inl (aF dR λ_ n11 gO _=>bj gO λ_ n12 _ _ _=>?_)));obtain⟨an,dg,h⟩:=aE h;refine eV (af dg (af (b6 dg) @Tn)) _ ?_;obtain⟨aT,b_,h⟩:=aE h;obtain⟨qp,cT,h⟩:=aE h;(try simp only[BO.down,Nat.zero_add,Nat.add_zero,reduceAdd]at cT);refine iv (cc [(0,.slice (a0.map bN)),(3,.al 1 ((bo++[aT]).map gg)),(8,.al 1 (ae.map jI)),(9,.int .i64 (ae.length:Int)),(10,.int .i64 f_)] (λP bl=>?_) ?_)
   ·(try simp only[aX.down,simprocAttr,b6 dg,GV.down,l9,ei,cT]);refine fg (acW a0 an _ b_) rfl rfl (by simp only[aX.down,simprocAttr,b6 dg, @wJ ah 67 62 1 1 [.a_] rfl rfl rfl (by kernel_rfl),l9,wK,ei,wL,dK,pb,List.nil_append,List.cons_append, @n8 ah 67 67 62 rfl rfl,o_,pa,o9,all_nil,cT, @lJ _ gg 1 (λ_=>rfl),lg,lh,lj,dJ, @cQ _ bf bf (λ_=>mJ _)]<;>rfl) rfl (inr (jY (λ_=>GJ _) _)) ?_;simp only[aX.down,simprocAttr,b6 dg,GV.down,l9,ei,cT];(try simp only[iA.down,simprocAttr,b6 dg,GV.down,l9,ei,cT]at bl⊢);exact bl
   refine n12 _ (n11 _ (inl (wr [(0,.slice (a0.map bN)),(3,.al 1 ((bo++[aT]).map gg)),(8,.al 1 (ae.map jI)),(9,.int .i64 (ae.length:Int)),(10,.int .i64 (i64.wrap (f_+1)))] ?_)));exact cV _ (inr ⟨_,bJ rfl,hp (bo++[aT]) (i64.wrap (f_+1)) h⟩)
  .refine cP (dN 0 _ (cn 0 _ (dE _ (eW _ (inl ?_)))));obtain⟨cx,jt,h⟩:=aE h;refine ep (cc [(3,.al 1 (cx.map gg))] (λP bl=>?_) ?_)
   ·(try simp only[aX.down,simprocAttr]);refine z7 [⟨.h 3 [],true,_,_⟩,⟨.fn 160 [],false,_,.hole⟩] (ac1 bo _ jt) rfl rfl rfl (by simp only[aX.down,simprocAttr,Nt.down]) rfl rfl (inl rfl) ?_;simp only[aX.down,simprocAttr,tY];exact b2 trivial
   obtain⟨bL,iV,h⟩:=aE h;refine ep (cc [(2,.al 1 (bL.map gg))] (λP bl=>?_) ?_)
   ·(try simp only[aX.down,simprocAttr]);refine z7 [⟨.h 3 [],true,_,.hole⟩,⟨.fn 162 [],false,_,.hole⟩] (ac3 cx _ iV) rfl rfl rfl (by simp only[aX.down,simprocAttr,Nt.down]) rfl rfl (inl rfl) ?_;simp only[aX.down,simprocAttr,tY];exact b2 trivial
   exact dC ai [.al 1 (bL.map gg)]
 obtain⟨n,h⟩:=oL h;exact p9 (inr ⟨_,kl [] rfl (du (t:=0) (d:=.slice (a0.map bN)) rfl (kn (t:=3) (d:=.a_) (a6:=.al 1 []) rfl rfl (.lf _) (by decide) (du (t:=8) (d:=.al 1 (ae.map jI)) rfl (du (t:=9) (d:=.int .i64 (ae.length:Int)) rfl (du (t:=10) (d:=.int .i64 0) rfl (km)))))),ho n [] 0 h⟩)
theorem ac5 (a0 J r) (h:Bx a0 J=some r):aW ah 31 [hS a0,.slice (J.map bN)] (.tuple [.int .i64 r.1,.int .i64 r.2]) []:=by
 refine bw [0,1] [.tmp 4,.tmp 5] Tryz.func31 YU λbu ai bt=>ao ?_;refine aF ai λ_ bK ba an=>?_;obtain⟨ae,b0,h⟩:=aE h;refine cK (acF a0 J _ b0) _ ?_;refine aM h (λcm h=>?_) λcm h=>?_
 .exact aJ ba [.int .i64 0,.int .i64 1]
 .refine aQ (bK _ (inl ?_));obtain⟨an,gS,h⟩:=aE h;refine cK (ac4 J _ gS) _ ?_;exact dC ai [.int .i64 (an.length:Int),.int .i64 0]
theorem ac6 (a0 J r) (h:ye a0 J=some r):aW ah 241 [fV a0,fV J] (.bool r) []:=by
 refine bw [0,1] [.tmp 4] Tryz.func241 YV λbu ai bt=>ao ?_;refine aF ai λ_ bK ba _=>ao ?_;refine aM h (λbR h=>?_) λbR h=>?_
 .exact aJ ba [.bool false]
 .refine aQ (bK _ (inl (aF ai λ_ n6 cC _=>ao ?_)));refine aM h (λb5 h=>?_) λb5 h=>?_
  .exact aJ cC [.bool false]
  .exact aQ (n6 _ (inl (aJ ai [.bool true])))
theorem ac7 (a0 J r) (h:yf a0 J=some r):aW ah 187 [.slice (a0.map fV),.slice (J.map fV)] (.bool r) []:=by
 refine bw [0,1] [.tmp 4] Tryz.func187 YW λbu ai bt=>ao ?_;refine aF ai λ_ bK ba an=>ao ?_;refine aM h (λbR h=>?_) λbR h=>?_
 .exact aJ ba [.bool false]
 .refine aQ (bK _ (inl (aF ai λ_ n6 cC _=>ao ?_)));refine bj cC λhT _ hn b5 _=>?_;show a1 ah (.loop ?gi) _ _;have gj:∀n bG,Gp a0 J n bG=some r->cz ah ?gi hT (az [(0,.slice (a0.map fV)),(1,.slice (J.map fV)),(5,.int .i64 bG)]):=by
   refine cS λ_ fX bG h=>cR hn λ_ cF bW dN=>aF bW λ_ n10 _ c4=>ao ?_;refine aM h (λeX h=>?_) λeX h=>?_
   .refine aQ (n10 _ (inl (aF bW λ_ n13 ey _=>bj ey λ_ n14 dw _ _=>?_)));obtain⟨ae,b_,h⟩:=aE h;obtain⟨an,cT,h⟩:=aE h;obtain⟨aT,eO,h⟩:=aE h;refine js (af b_ cT) (ac6 ae an _ eO) _ ?_;refine aM h (λfh h=>?_) λfh h=>?_
    .exact aJ dw [.bool false]
    .refine aQ (n14 _ (n13 _ (inl (dc ?_))));exact cF _ (inr ⟨_,bJ rfl,fX (i64.wrap (bG+1)) h⟩)
   .exact cP (c4 0 _ (dN 0 _ (b5 _ (n6 _ (inl (aJ ai [.bool true]))))))
  exact c5 h λn h=>gj n 0 h
theorem ac8 (a0 J r) (h:Bz a0 J=some r):aW ah 188 [.slice (a0.map jc),.slice (J.map jc)] (.bool r) []:=by
 refine bw [0,1] [.tmp 4] Tryz.func188 YX λbu ai bt=>ao ?_;refine aF ai λ_ bK ba an=>ao ?_;refine aM h (λbR h=>?_) λbR h=>?_
 .exact aJ ba [.bool false]
 .refine aQ (bK _ (inl (aF ai λ_ n6 cC _=>ao ?_)));refine bj cC λhT _ hn b5 _=>?_;show a1 ah (.loop ?gi) _ _;have gj:∀n bG,Gq a0 J n bG=some r->cz ah ?gi hT (az [(0,.slice (a0.map jc)),(1,.slice (J.map jc)),(5,.int .i64 bG)]):=by
   refine cS λ_ fX bG h=>cR hn λ_ cF bW dN=>aF bW λ_ n10 _ c4=>ao ?_;refine aM h (λeX h=>?_) λeX h=>?_
   .refine aQ (n10 _ (inl (aF bW λ_ n13 ey _=>bj ey λ_ n14 dw _ _=>?_)));obtain⟨ae,b_,h⟩:=aE h;obtain⟨an,cT,h⟩:=aE h;obtain⟨aT,eO,h⟩:=aE h;refine js (af b_ cT) (ac7 ae an _ eO) _ ?_;refine aM h (λfh h=>?_) λfh h=>?_
    .exact aJ dw [.bool false]
    .refine aQ (n14 _ (n13 _ (inl (dc ?_))));exact cF _ (inr ⟨_,bJ rfl,fX (i64.wrap (bG+1)) h⟩)
   .exact cP (c4 0 _ (dN 0 _ (b5 _ (n6 _ (inl (aJ ai [.bool true]))))))
  exact c5 h λn h=>gj n 0 h
theorem ac9 (a0 J r) (h:yg a0 J=some r):aW ah 289 [db a0,db J] (.bool r) []:=by
 refine bw [0,1] [.tmp 4] Tryz.func289 YY λbu ai bt=>ao ?_;refine aF ai λ_ bK ba _=>ao ?_;refine aM h (λbR h=>?_) λbR h=>?_
 .exact aJ ba [.bool false]
 .refine aQ (bK _ (inl (aF ai λ_ n6 cC _=>ao ?_)));refine aM h (λb5 h=>?_) λb5 h=>?_
  .exact aJ cC [.bool false]
  .refine aQ (n6 _ (inl (aF ai λ_ n10 cp _=>ao ?_)));refine aM h (λeX h=>?_) λeX h=>?_
   .exact aJ cp [.bool false]
   .refine aQ (n10 _ (inl (aF ai λ_ n14 dw _=>?_)));obtain⟨ae,b_,h⟩:=aE h;refine cK (ac8 a0.da J.da _ b_) _ ?_;refine aM h (λj2 h=>?_) λj2 h=>?_
    .exact aJ dw [.bool false]
    .exact aQ (n14 _ (inl (aJ ai [.bool true])))
theorem ac_ (a0 J r) (h:BA a0 J=some r):aW ah 226 [.slice (a0.map db),.slice (J.map db)] (.bool r) []:=by
 refine bw [0,1] [.tmp 4] Tryz.func226 YZ λbu ai bt=>ao ?_;refine aF ai λ_ bK ba an=>ao ?_;refine aM h (λbR h=>?_) λbR h=>?_
 .exact aJ ba [.bool false]
 .refine aQ (bK _ (inl (aF ai λ_ n6 cC _=>ao ?_)));refine bj cC λhT _ hn b5 _=>?_;show a1 ah (.loop ?gi) _ _;have gj:∀n bG,Gr a0 J n bG=some r->cz ah ?gi hT (az [(0,.slice (a0.map db)),(1,.slice (J.map db)),(5,.int .i64 bG)]):=by
   refine cS λ_ fX bG h=>cR hn λ_ cF bW dN=>aF bW λ_ n10 _ c4=>ao ?_;refine aM h (λeX h=>?_) λeX h=>?_
   .refine aQ (n10 _ (inl (aF bW λ_ n13 ey _=>bj ey λ_ n14 dw _ _=>?_)));obtain⟨ae,b_,h⟩:=aE h;obtain⟨an,cT,h⟩:=aE h;obtain⟨aT,eO,h⟩:=aE h;refine js (af b_ cT) (ac9 ae an _ eO) _ ?_;refine aM h (λfh h=>?_) λfh h=>?_
    .exact aJ dw [.bool false]
    .refine aQ (n14 _ (n13 _ (inl (dc ?_))));exact cF _ (inr ⟨_,bJ rfl,fX (i64.wrap (bG+1)) h⟩)
   .exact cP (c4 0 _ (dN 0 _ (b5 _ (n6 _ (inl (aJ ai [.bool true]))))))
  exact c5 h λn h=>gj n 0 h
theorem ada (a0 J r) (h:yh a0 J=some r):aW ah 163 [bP a0,bP J] (.bool r) []:=by
 refine bw [0,1] [.tmp 4] Tryz.func163 Y0 λbu ai bt=>ao ?_;refine aF ai λ_ bK ba _=>ao ?_;refine aM h (λbR h=>?_) λbR h=>?_
 .exact aJ ba [.bool false]
 .refine aQ (bK _ (inl (aF ai λ_ n6 cC _=>ao ?_)));refine aM h (λb5 h=>?_) λb5 h=>?_
  .exact aJ cC [.bool false]
  .refine aQ (n6 _ (inl (aF ai λ_ n10 cp _=>?_)));obtain⟨ae,hc,h⟩:=aE h;refine cK (ac_ a0.Body J.Body _ hc) _ ?_;refine aM h (λgh h=>?_) λgh h=>?_
   .exact aJ cp [.bool false]
   .exact aQ (n10 _ (inl (aJ ai [.bool true])))
theorem adb (a0 J r) (h:BB a0 J=some r):aW ah 82 [.slice (a0.map bP),.slice (J.map bP)] (.bool r) []:=by
 refine bw [0,1] [.tmp 4] Tryz.func82 Y1 λbu ai bt=>ao ?_;refine aF ai λ_ bK ba an=>ao ?_;refine aM h (λbR h=>?_) λbR h=>?_
 .exact aJ ba [.bool false]
 .refine aQ (bK _ (inl (aF ai λ_ n6 cC _=>ao ?_)));refine bj cC λhT _ hn b5 _=>?_;show a1 ah (.loop ?gi) _ _;have gj:∀n bG,Gs a0 J n bG=some r->cz ah ?gi hT (az [(0,.slice (a0.map bP)),(1,.slice (J.map bP)),(5,.int .i64 bG)]):=by
   refine cS λ_ fX bG h=>cR hn λ_ cF bW dN=>aF bW λ_ n10 _ c4=>ao ?_;refine aM h (λeX h=>?_) λeX h=>?_
   .refine aQ (n10 _ (inl (aF bW λ_ n13 ey _=>bj ey λ_ n14 dw _ _=>?_)));obtain⟨ae,b_,h⟩:=aE h;obtain⟨an,cT,h⟩:=aE h;obtain⟨aT,eO,h⟩:=aE h;refine js (af b_ cT) (ada ae an _ eO) _ ?_;refine aM h (λfh h=>?_) λfh h=>?_
    .exact aJ dw [.bool false]
    .refine aQ (n14 _ (n13 _ (inl (dc ?_))));exact cF _ (inr ⟨_,bJ rfl,fX (i64.wrap (bG+1)) h⟩)
   .exact cP (c4 0 _ (dN 0 _ (b5 _ (n6 _ (inl (aJ ai [.bool true]))))))
  exact c5 h λn h=>gj n 0 h
theorem N1 (a0 J r) (h:yi a0 J=some r):aW ah 13 [.slice (a0.map bf),.slice (J.map bf)] (.bool r) []:=by
 refine bw [0,1] [.tmp 4] Tryz.func13 Y2 λbu ai bt=>ao ?_;refine aF ai λ_ bK ba an=>ao ?_;refine aM h (λbR h=>?_) λbR h=>?_
 .exact aJ ba [.bool false]
 .refine aQ (bK _ (inl (aF ai λ_ n6 cC _=>ao ?_)));refine bj cC λhT _ hn b5 _=>?_;show a1 ah (.loop ?gi) _ _;have gj:∀n bG,Gt a0 J n bG=some r->cz ah ?gi hT (az [(0,.slice (a0.map bf)),(1,.slice (J.map bf)),(5,.int .i64 bG)]):=by
   refine cS λ_ fX bG h=>cR hn λ_ cF bW dN=>aF bW λ_ n10 _ c4=>ao ?_;refine aM h (λeX h=>?_) λeX h=>?_
   .refine aQ (n10 _ (inl (aF bW λ_ n13 ey _=>bj ey λ_ n14 dw _ _=>?_)));obtain⟨ae,b_,h⟩:=aE h;obtain⟨an,cT,h⟩:=aE h;refine kE (af b_ cT) _ ?_;refine aM h (λh5 h=>?_) λh5 h=>?_
    .exact aJ dw [.bool false]
    .refine aQ (n14 _ (n13 _ (inl (dc ?_))));exact cF _ (inr ⟨_,bJ rfl,fX (i64.wrap (bG+1)) h⟩)
   .exact cP (c4 0 _ (dN 0 _ (b5 _ (n6 _ (inl (aJ ai [.bool true]))))))
  exact c5 h λn h=>gj n 0 h
theorem ade (a0 J r) (h:yj a0 J=some r):aW ah 164 [hx a0,hx J] (.bool r) []:=by
 refine bw [0,1] [.tmp 4] Tryz.func164 Y3 λbu ai bt=>ao ?_;refine aF ai λ_ bK ba _=>ao ?_;refine aM h (λbR h=>?_) λbR h=>?_
 .exact aJ ba [.bool false]
 .refine aQ (bK _ (inl (aF ai λ_ n6 cC _=>?_)));obtain⟨ae,gS,h⟩:=aE h;refine cK (N1 a0.b4 J.b4 _ gS) _ ?_;refine aM h (λft h=>?_) λft h=>?_
  .exact aJ cC [.bool false]
  .exact aQ (n6 _ (inl (aJ ai [.bool true])))
theorem adf (a0 J r) (h:BC a0 J=some r):aW ah 83 [.slice (a0.map hx),.slice (J.map hx)] (.bool r) []:=by
 refine bw [0,1] [.tmp 4] Tryz.func83 Y4 λbu ai bt=>ao ?_;refine aF ai λ_ bK ba an=>ao ?_;refine aM h (λbR h=>?_) λbR h=>?_
 .exact aJ ba [.bool false]
 .refine aQ (bK _ (inl (aF ai λ_ n6 cC _=>ao ?_)));refine bj cC λhT _ hn b5 _=>?_;show a1 ah (.loop ?gi) _ _;have gj:∀n bG,Gu a0 J n bG=some r->cz ah ?gi hT (az [(0,.slice (a0.map hx)),(1,.slice (J.map hx)),(5,.int .i64 bG)]):=by
   refine cS λ_ fX bG h=>cR hn λ_ cF bW dN=>aF bW λ_ n10 _ c4=>ao ?_;refine aM h (λeX h=>?_) λeX h=>?_
   .refine aQ (n10 _ (inl (aF bW λ_ n13 ey _=>bj ey λ_ n14 dw _ _=>?_)));obtain⟨ae,b_,h⟩:=aE h;obtain⟨an,cT,h⟩:=aE h;obtain⟨aT,eO,h⟩:=aE h;refine js (af b_ cT) (ade ae an _ eO) _ ?_;refine aM h (λfh h=>?_) λfh h=>?_
    .exact aJ dw [.bool false]
    .refine aQ (n14 _ (n13 _ (inl (dc ?_))));exact cF _ (inr ⟨_,bJ rfl,fX (i64.wrap (bG+1)) h⟩)
   .exact cP (c4 0 _ (dN 0 _ (b5 _ (n6 _ (inl (aJ ai [.bool true]))))))
  exact c5 h λn h=>gj n 0 h
theorem adg (a0 J r) (h:yk a0 J=some r):aW ah 65 [cE a0,cE J] (.bool r) []:=by
 refine bw [0,1] [.tmp 4] Tryz.func65 Y5 λbu ai bt=>ao ?_;refine aF ai λ_ bK ba _=>ao ?_;refine aM h (λbR h=>?_) λbR h=>?_
 .exact aJ ba [.bool false]
 .refine aQ (bK _ (inl (aF ai λ_ n6 cC _=>ao ?_)));refine aM h (λb5 h=>?_) λb5 h=>?_
  .exact aJ cC [.bool false]
  .refine aQ (n6 _ (inl (aF ai λ_ n10 cp _=>ao ?_)));refine aM h (λeX h=>?_) λeX h=>?_
   .exact aJ cp [.bool false]
   .exact aQ (n10 _ (inl (aJ ai [.bool true])))
theorem adh (a0 J r) (h:BD a0 J=some r):aW ah 22 [.slice (a0.map cE),.slice (J.map cE)] (.bool r) []:=by
 refine bw [0,1] [.tmp 4] Tryz.func22 GL λbu ai bt=>ao ?_;refine aF ai λ_ bK ba an=>ao ?_;refine aM h (λbR h=>?_) λbR h=>?_
 .exact aJ ba [.bool false]
 .refine aQ (bK _ (inl (aF ai λ_ n6 cC _=>ao ?_)));refine bj cC λhT _ hn b5 _=>?_;show a1 ah (.loop ?gi) _ _;have gj:∀n bG,Gv a0 J n bG=some r->cz ah ?gi hT (az [(0,.slice (a0.map cE)),(1,.slice (J.map cE)),(5,.int .i64 bG)]):=by
   refine cS λ_ fX bG h=>cR hn λ_ cF bW dN=>aF bW λ_ n10 _ c4=>ao ?_;refine aM h (λeX h=>?_) λeX h=>?_
   .refine aQ (n10 _ (inl (aF bW λ_ n13 ey _=>bj ey λ_ n14 dw _ _=>?_)));obtain⟨ae,b_,h⟩:=aE h;obtain⟨an,cT,h⟩:=aE h;obtain⟨aT,eO,h⟩:=aE h;refine js (af b_ cT) (adg ae an _ eO) _ ?_;refine aM h (λfh h=>?_) λfh h=>?_
    .exact aJ dw [.bool false]
    .refine aQ (n14 _ (n13 _ (inl (dc ?_))));exact cF _ (inr ⟨_,bJ rfl,fX (i64.wrap (bG+1)) h⟩)
   .exact cP (c4 0 _ (dN 0 _ (b5 _ (n6 _ (inl (aJ ai [.bool true]))))))
  exact c5 h λn h=>gj n 0 h
theorem N2 (a0 J r) (h:yl a0 J=some r):aW ah 84 [.slice (a0.map cJ),.slice (J.map cJ)] (.bool r) []:=by
 refine bw [0,1] [.tmp 4] Tryz.func84 Y6 λbu ai bt=>ao ?_;refine aF ai λ_ bK ba an=>ao ?_;refine aM h (λbR h=>?_) λbR h=>?_
 .exact aJ ba [.bool false]
 .refine aQ (bK _ (inl (aF ai λ_ n6 cC _=>ao ?_)));refine bj cC λhT _ hn b5 _=>?_;show a1 ah (.loop ?gi) _ _;have gj:∀n bG,Gw a0 J n bG=some r->cz ah ?gi hT (az [(0,.slice (a0.map cJ)),(1,.slice (J.map cJ)),(5,.int .i64 bG)]):=by
   refine cS λ_ fX bG h=>cR hn λ_ cF bW dN=>aF bW λ_ n10 _ c4=>ao ?_;refine aM h (λeX h=>?_) λeX h=>?_
   .refine aQ (n10 _ (inl (aF bW λ_ n13 ey _=>bj ey λ_ n14 dw _ _=>?_)));obtain⟨ae,b_,h⟩:=aE h;obtain⟨an,cT,h⟩:=aE h;refine kE (af b_ cT) _ ?_;refine aM h (λh5 h=>?_) λh5 h=>?_
    .exact aJ dw [.bool false]
    .refine aQ (n14 _ (n13 _ (inl (dc ?_))));exact cF _ (inr ⟨_,bJ rfl,fX (i64.wrap (bG+1)) h⟩)
   .exact cP (c4 0 _ (dN 0 _ (b5 _ (n6 _ (inl (aJ ai [.bool true]))))))
  exact c5 h λn h=>gj n 0 h
theorem adi (a0 J r) (h:ym a0 J=some r):aW ah 32 [hS a0,hS J] (.bool r) []:=by
 refine bw [0,1] [.tmp 4] Tryz.func32 Y7 λbu ai bt=>ao ?_;refine aF ai λ_ bK ba an=>?_;obtain⟨ae,b0,h⟩:=aE h;refine cK (adb a0.dQ J.dQ _ b0) _ ?_;refine aM h (λcm h=>?_) λcm h=>?_
 .exact aJ ba [.bool false]
 .refine aQ (bK _ (inl (aF ai λ_ cV dR _=>?_)));obtain⟨an,jx,h⟩:=aE h;refine cK (adf a0.cv J.cv _ jx) _ ?_;refine aM h (λfu h=>?_) λfu h=>?_
  .exact aJ dR [.bool false]
  .refine aQ (cV _ (inl (aF ai λ_ n12 kG _=>?_)));obtain⟨aT,dg,h⟩:=aE h;refine cK (adh a0.hk J.hk _ dg) _ ?_;refine aM h (λej h=>?_) λej h=>?_
   .exact aJ kG [.bool false]
   .refine aQ (n12 _ (inl (aF ai λ_ n17 j3 _=>?_)));obtain⟨cx,nB,h⟩:=aE h;refine cK (N2 a0.gV J.gV _ nB) _ ?_;refine aM h (λfc h=>?_) λfc h=>?_
    .exact aJ j3 [.bool false]
    .refine aQ (n17 _ (inl (aF ai λ_ n22 lq _=>?_)));obtain⟨bL,jN,h⟩:=aE h;refine cK (N2 a0.gW J.gW _ jN) _ ?_;refine aM h (λox h=>?_) λox h=>?_
     .exact aJ lq [.bool false]
     .exact aQ (n22 _ (inl (aJ ai [.bool true])))
theorem adj (a0 J r) (h:yn a0 J=some r):aW ah 85 [bN a0,bN J] (.bool r) []:=by
 refine bw [0,1] [.tmp 4] Tryz.func85 Y8 λbu ai bt=>ao ?_;refine aF ai λ_ bK ba _=>ao ?_;refine aM h (λbR h=>?_) λbR h=>?_
 .exact aJ ba [.bool false]
 .refine aQ (bK _ (inl (aF ai λ_ n6 cC _=>ao ?_)));refine aM h (λb5 h=>?_) λb5 h=>?_
  .exact aJ cC [.bool false]
  .refine aQ (n6 _ (inl (aF ai λ_ n10 cp _=>?_)));obtain⟨ae,hc,h⟩:=aE h;refine cK (N1 a0.b4 J.b4 _ hc) _ ?_;refine aM h (λgh h=>?_) λgh h=>?_
   .exact aJ cp [.bool false]
   .exact aQ (n10 _ (inl (aJ ai [.bool true])))
theorem adk (a0 J r) (h:BE a0 J=some r):aW ah 33 [.slice (a0.map bN),.slice (J.map bN)] (.bool r) []:=by
 refine bw [0,1] [.tmp 4] Tryz.func33 Y9 λbu ai bt=>ao ?_;refine aF ai λ_ bK ba an=>ao ?_;refine aM h (λbR h=>?_) λbR h=>?_
 .exact aJ ba [.bool false]
 .refine aQ (bK _ (inl (aF ai λ_ n6 cC _=>ao ?_)));refine bj cC λhT _ hn b5 _=>?_;show a1 ah (.loop ?gi) _ _;have gj:∀n bG,Gx a0 J n bG=some r->cz ah ?gi hT (az [(0,.slice (a0.map bN)),(1,.slice (J.map bN)),(5,.int .i64 bG)]):=by
   refine cS λ_ fX bG h=>cR hn λ_ cF bW dN=>aF bW λ_ n10 _ c4=>ao ?_;refine aM h (λeX h=>?_) λeX h=>?_
   .refine aQ (n10 _ (inl (aF bW λ_ n13 ey _=>bj ey λ_ n14 dw _ _=>?_)));obtain⟨ae,b_,h⟩:=aE h;obtain⟨an,cT,h⟩:=aE h;obtain⟨aT,eO,h⟩:=aE h;refine js (af b_ cT) (adj ae an _ eO) _ ?_;refine aM h (λfh h=>?_) λfh h=>?_
    .exact aJ dw [.bool false]
    .refine aQ (n14 _ (n13 _ (inl (dc ?_))));exact cF _ (inr ⟨_,bJ rfl,fX (i64.wrap (bG+1)) h⟩)
   .exact cP (c4 0 _ (dN 0 _ (b5 _ (n6 _ (inl (aJ ai [.bool true]))))))
  exact c5 h λn h=>gj n 0 h
theorem adl (a0 J r) (h:Gy a0 J=some r):aW ah 6 [ot a0,.slice (J.map iU)] (.bool r) []:=by
 refine bw [0,1] [.tmp 4] Tryz.func6 e2 λbu ai bt=>ao ?_;refine ao ?_;obtain⟨ae,b0,h⟩:=aE h;refine cK (ZE a0 1048576 _ b0) _ ?_;refine aF ai λ_ eb cO bL=>ao ?_;refine aM h (λp2 h=>?_) λp2 h=>?_
 .exact aJ cO [.bool true]
 .refine aQ (eb _ (inl ?_));obtain⟨an,kQ,h⟩:=aE h;refine cK (ZG J ae _ kQ) _ ?_;refine aF ai λ_ n11 gO gf=>ao ?_;refine aM h (λgh h=>?_) λgh h=>?_
  .exact aJ gO [.bool true]
  .refine aQ (n11 _ (inl ?_));obtain⟨aT,b_,h⟩:=aE h;obtain⟨cx,cT,h⟩:=aE h;obtain⟨bL,eO,h⟩:=aE h;refine ep (cc [(1,.slice (J.map iU)),(2,.bb (ot a0)),(6,.int .i64 bL.1),(7,.int .i64 bL.2)] (λP bl=>?_) ?_)
   ·(try simp only[aX.down,simprocAttr]);refine fg (GY a0 _ b_) (hK:= ?_);simp only[aX.down,simprocAttr];refine fg (GZ J _ cT) (hK:= ?_);simp only[aX.down,simprocAttr];refine fg (abS aT cx _ eO) rfl rfl (by simp only[aX.down,simprocAttr,Nu.down]<;>rfl) rfl (inr (by rfl)) ?_;simp only[aX.down,simprocAttr];exact b2 trivial
   obtain⟨cy,jt,h⟩:=aE h;refine cK (GY a0 _ jt) _ ?_;obtain⟨cn,iV,h⟩:=aE h;refine cK (GZ J _ iV) _ ?_;obtain⟨fM,jN,h⟩:=aE h;refine ep (cc [(1,.slice (J.map iU)),(2,.bb (ot a0)),(6,.int .i64 bL.1),(7,.int .i64 bL.2),(8,.bb (qk cy)),(9,.al 3 (cn.map dn)),(10,.int .i64 fM.1),(11,.int .i64 fM.2)] (λP bl=>?_) ?_)
   ·(try simp only[aX.down,simprocAttr]);refine fg (ac5 cy cn _ jN) rfl rfl (by simp only[aX.down,simprocAttr,Nu.down]<;>rfl) rfl (inr (by rfl)) ?_;simp only[aX.down,simprocAttr];exact b2 trivial
   refine aF ai λ_ n25 lu _=>kF (fM.1 !=bL.1) [(1,.slice (J.map iU)),(2,.bb (ot a0)),(8,.bb (qk cy)),(9,.al 3 (cn.map dn)),(47,.bool ((fM.1 !=bL.1)||(fM.2 !=bL.2)))] ?_;refine aM h (λkp h=>?_) λkp h=>?_
   .exact aJ lu [.bool false]
   .refine aQ (n25 _ (inl (aF ai λ_ n29 u5 _=>?_)));obtain⟨dN,HN,h⟩:=aE h;obtain⟨c4,oz,h⟩:=aE h;refine kj rfl (jW [(1,.slice (J.map iU)),(9,.al 3 (cn.map dn)),(52,.bool (!c4))] (λP bl=>?_) ?_)
    ·(try simp only[dV.down,simprocAttr]);refine jX (GY a0 _ HN) (hK:= ?_);simp only[dV.down,simprocAttr];refine jX (adi cy dN _ oz) rfl rfl (by simp only[dV.down,simprocAttr,lg,lh,lj,dJ, @cQ _ jd bP (λ_=>yp _), @cQ _ je hx (λ_=>yt _), @cQ _ cE cE (λ_=>rv _), @cQ _ cJ cJ (λ_=>lR _), @cQ _ cJ cJ (λ_=>lR _), @cQ _ jd bP (λ_=>yp _), @cQ _ je hx (λ_=>yt _), @cQ _ cE cE (λ_=>rv _), @cQ _ cJ cJ (λ_=>lR _), @cQ _ cJ cJ (λ_=>lR _)]<;>rfl) rfl (inr (by rfl)) ?_;simp only[dV.down,simprocAttr];refine⟨jZ (by kernel_rfl),?_⟩;exact b2 trivial
    refine aM h (λiE h=>?_) λiE h=>?_
    .exact aJ u5 [.bool false]
    .refine aQ (n29 _ (inl (aF ai λ_ n35 HB _=>?_)));obtain⟨gf,G6,h⟩:=aE h;obtain⟨lo,yS,h⟩:=aE h;refine ep (cc [(57,.bool (!lo))] (λP bl=>?_) ?_)
     ·(try simp only[aX.down,simprocAttr]);refine fg (GZ J _ G6) (hK:= ?_);simp only[aX.down,simprocAttr];refine fg (adk cn gf _ yS) rfl rfl (by simp only[aX.down,simprocAttr,lg,lh,lj,dJ, @cQ _ dn bN (λ_=>u1 _), @cQ _ dn bN (λ_=>u1 _)]<;>rfl) rfl (inr (by rfl)) ?_;simp only[aX.down,simprocAttr];exact b2 trivial
     refine aM h (λadm h=>?_) λadm h=>?_
     .exact aJ HB [.bool false]
     .exact aQ (n35 _ (inl (aJ ai [.bool true])))
end Go.Proofs.YtklcmlnabkfneaaGreat
