/- Part of a proof that a law returns true for every input. No condition. -/
import Derived.Test.YtmaepbgkcmjcjajGreatDoorW2x3
namespace Go.Proofs.YtmaepbgkcmjcjajGreatDoor
open List Option Go.IntKind Nat Or
open Go Go.ep Go.ld
set_option maxRecDepth 100000
set_option maxHeartbeats 2400000
set_option linter.unusedSimpArgs false
set_option linter.unusedVariables false
theorem asq (a0 J r) (h:Lf a0 J=some r):aZ ah 15 [.ag 3 (a0.map dT),.int .i64 J] (.int .i64 r.1) [.ag 3 (r.2.map dT),.hole]:=by
 refine bx [0] [.tmp 4] Tryz.func15 amQ λbt ak bs=>aj ?_;refine ax ak λ_ bF bd ae=>aj ?_;refine bg bd λeP _ bR bw aY=>?_;show bm ah (.loop ?eN) _ _;have e4:∀n bV aT aC,DC n bV aT aC=some r->cL ah ?eN eP (ar [(0,.ag 3 (bV.map dT)),(1,.int .i64 aT),(5,.int .i64 aC)]):=by
  refine cZ λ_ eL bV aT aC h=>cX bR λ_ dM cv aU=>ax cv λ_ cG _ bB=>aj ?_;refine aD h (λb1 h=>?_) λb1 h=>?_
  .refine aK (cG _ (inl (ax cv λ_ cE b9 _=>bg b9 λ_ b2 _ _ _=>?_)));obtain⟨R,dm,h⟩:=an h;refine dh (b7 [(0,.ag 3 ((List.set bV (Int.toNat aC) (ba.mk aT R.Part R.b5)).map dT)),(1,.int .i64 aT),(5,.int .i64 aC)] (λP bc=>?_) ?_)
   .simp only[aE.down,simprocAttr,dm,ca dm,cW,de];exact bU (U dm (U (ca dm) @cW))
   refine ws [(0,.ag 3 ((List.set bV (Int.toNat aC) (ba.mk aT R.Part R.b5)).map dT)),(1,.int .i64 (i64.wrap (aT+1))),(5,.int .i64 aC)] ?_;obtain⟨ae,d_,h⟩:=an h;refine dh (b7 [(0,.ag 3 ((List.set (List.set bV (Int.toNat aC) (ba.mk aT R.Part R.b5)) (Int.toNat aC) (ba.mk ae.cJ (i64.wrap (aT+1)) ae.b5)).map dT)),(1,.int .i64 (i64.wrap (aT+1))),(5,.int .i64 aC)] (λP bc=>?_) ?_)
   .simp only[aE.down,simprocAttr,d_,ca d_,cW,de];exact bU (U d_ (U (ca d_) @cW))
   refine ws [(0,.ag 3 ((List.set (List.set bV (Int.toNat aC) (ba.mk aT R.Part R.b5)) (Int.toNat aC) (ba.mk ae.cJ (i64.wrap (aT+1)) ae.b5)).map dT)),(1,.int .i64 (i64.wrap ((i64.wrap (aT+1))+1))),(5,.int .i64 aC)] ?_;obtain⟨az,eG,h⟩:=an h;obtain⟨aY,fb,h⟩:=an h;refine iy (b7 [(0,.ag 3 ((List.set (List.set (List.set bV (Int.toNat aC) (ba.mk aT R.Part R.b5)) (Int.toNat aC) (ba.mk ae.cJ (i64.wrap (aT+1)) ae.b5)) (Int.toNat aC) (ba.mk az.cJ az.Part aY.2)).map dT)),(1,.int .i64 aY.1),(5,.int .i64 aC)] (λP bc=>?_) ?_)
   ·(try simp only[aE.down,simprocAttr,eG,ca eG]);refine k1 [⟨.h 0 [Int.toNat aC,2],true,_,_⟩,⟨.int .i64 (i64.wrap ((i64.wrap (aT+1))+1)),false,_,.hole⟩] (aaq az.b5 (i64.wrap ((i64.wrap (aT+1))+1)) _ fb) rfl rfl rfl (by simp only[aE.down,simprocAttr,eG,ca eG,Zx.down]) rfl rfl (inl rfl) ?_;simp only[aE.down,simprocAttr,eG,ca eG,kl,(Fz (ca eG)),FA];exact bU (U eG (ca eG))
   refine b2 _ (cE _ (inl (wr [(0,.ag 3 ((List.set (List.set (List.set bV (Int.toNat aC) (ba.mk aT R.Part R.b5)) (Int.toNat aC) (ba.mk ae.cJ (i64.wrap (aT+1)) ae.b5)) (Int.toNat aC) (ba.mk az.cJ az.Part aY.2)).map dT)),(1,.int .i64 aY.1),(5,.int .i64 (i64.wrap (aC+1)))] ?_)));exact dM _ (inr ⟨_,bE rfl,eL (List.set (List.set (List.set bV (Int.toNat aC) (ba.mk aT R.Part R.b5)) (Int.toNat aC) (ba.mk ae.cJ (i64.wrap (aT+1)) ae.b5)) (Int.toNat aC) (ba.mk az.cJ az.Part aY.2)) aY.1 (i64.wrap (aC+1)) h⟩)
  .refine cS (bB 0 _ (aU 0 _ (bw _ (bF _ (inl (aj ?_))))));exact gr (ak _ (inl (hs [.int .i64 aT] rfl (by cases eE h;rfl) (by decide) (hH (js (by cases eE h;rfl) rfl rfl rfl (dy (hI)))))))
 exact dn h λn h=>e4 n a0 J 0 h
theorem asr (a0 J r) (h:Lg a0 J=some r):aZ ah 45 [.slice (a0.map bb),.int .i64 J] (.int .i64 r) []:=by
 refine bx [0] [.tmp 4] Tryz.func45 amR λbt ak bs=>aj ?_;refine ax ak λ_ bF bd _=>aj ?_;refine bg bd λeP _ bR bw _=>?_;show bm ah (.loop ?eN) _ _;have e4:∀n aT aC,DD a0 n aT aC=some r->cL ah ?eN eP (ar [(0,.slice (a0.map bb)),(1,.int .i64 aT),(5,.int .i64 aC)]):=by
  refine cZ λ_ eL aT aC h=>cX bR λ_ dM cv aU=>ax cv λ_ cG _ bB=>aj ?_;refine aD h (λb1 h=>?_) λb1 h=>?_
  .refine aK (cG _ (inl (ax cv λ_ cE b9 _=>bg b9 λ_ b2 cN _ _=>ax cN λ_ ez hN _=>?_)));obtain⟨R,ed,h⟩:=an h;refine c7 ed _ ?_;refine aD h (λiM h=>?_) λiM h=>?_
   .exact aN hN [.int .i64 (-1)]
   .refine aK (ez _ (inl (dr ?_)));refine b2 _ (cE _ (inl (dr ?_)));exact dM _ (inr ⟨_,bE rfl,eL (i64.wrap (aT+1)) (i64.wrap (aC+1)) h⟩)
  .exact cS (bB 0 _ (aU 0 _ (bw _ (bF _ (inl (aN ak [.int .i64 aT]))))))
 exact dn h λn h=>e4 n J 0 h
theorem aas (a0 J r) (h:G7 a0 J=some r):aZ ah 16 [.slice (a0.map bD),.int .i64 J] (.int .i64 r) []:=by
 refine bx [0] [.tmp 4] Tryz.func16 kN λbt ak bs=>aj ?_;refine ax ak λ_ bF bd ae=>aj ?_;refine bg bd λeP _ bR bw _=>?_;show bm ah (.loop ?eN) _ _;have e4:∀n aT aC,DE a0 n aT aC=some r->cL ah ?eN eP (ar [(0,.slice (a0.map bD)),(1,.int .i64 aT),(5,.int .i64 aC)]):=by
  refine cZ λ_ eL aT aC h=>cX bR λ_ dM cv aU=>ax cv λ_ cG _ bB=>aj ?_;refine aD h (λb1 h=>?_) λb1 h=>?_
  .refine aK (cG _ (inl (ax cv λ_ cE b9 _=>bg b9 λ_ b2 cN _ _=>ax cN λ_ ez hN _=>?_)));obtain⟨R,ed,h⟩:=an h;refine c7 ed _ ?_;refine aD h (λiM h=>?_) λiM h=>?_
   .exact aN hN [.int .i64 (-1)]
   .refine aK (ez _ (inl (aj ?_)));refine ax cN λ_ jU kq _=>c7 ed _ ?_;refine aD h (λhb h=>?_) λhb h=>?_
    .exact aN kq [.int .i64 (-1)]
    .refine aK (jU _ (inl (aj ?_)));obtain⟨ae,iD,h⟩:=an h;refine eU ed (asr R.b5 (i64.wrap ((i64.wrap (aT+1))+1)) _ iD) _ ?_;refine aj ?_;refine aD h (λpO h=>?_) λpO h=>?_
     .exact aN cN [.int .i64 (-1)]
     .refine aK (b2 _ (cE _ (inl (dr ?_))));exact dM _ (inr ⟨_,bE rfl,eL ae (i64.wrap (aC+1)) h⟩)
  .exact cS (bB 0 _ (aU 0 _ (bw _ (bF _ (inl (aN ak [.int .i64 aT]))))))
 exact dn h λn h=>e4 n J 0 h
theorem ass (a0 J r) (h:Ro a0 J=some r):aZ ah 3 [n4 a0,.slice (J.map jH)] (.bool r) []:=by
 refine bx [0,1] [.tmp 4] Tryz.func3 c3 λbt ak bs=>aj ?_;refine aj ?_;obtain⟨R,cf,h⟩:=an h;refine cR (anv a0 1048576 _ cf) _ ?_;refine ax ak λ_ dM cv aU=>aj ?_;refine aD h (λqC h=>?_) λqC h=>?_
 .exact aN cv [.bool true]
 .refine aK (dM _ (inl ?_));obtain⟨ae,iU,h⟩:=an h;refine cR (anx J R _ iU) _ ?_;refine ax ak λ_ ez hN fa=>aj ?_;refine aD h (λfi h=>?_) λfi h=>?_
  .exact aN hN [.bool true]
  .refine aK (ez _ (inl ?_));obtain⟨az,cB,h⟩:=an h;obtain⟨aY,dP,h⟩:=an h;obtain⟨aU,eG,h⟩:=an h;refine dh (b7 [(1,.slice (J.map jH)),(2,.aM (n4 a0)),(6,.slice (aU.1.map bD)),(7,.int .i64 aU.2)] (λP bc=>?_) ?_)
   ·(try simp only[aE.down,simprocAttr]);refine dq (((LC a0 _ cB)).wide (x6 rfl rfl (by simp only[cV,I.share,I.shares,ajG]<;>rfl)) rfl rfl) (hK:= ?_);simp only[aE.down,simprocAttr];refine dq (((LD J _ dP)).wide (x6 rfl rfl (by simp only[cV,I.share,I.shares, @b4 _ eY eY (λ_=>Hf _)]<;>rfl)) rfl rfl) (hK:= ?_);simp only[aE.down,simprocAttr];refine dq (ap9 az aY _ eG) (hK:= ?_);simp only[aE.down,simprocAttr];exact bU trivial
   obtain⟨bB,gp,h⟩:=an h;refine cR (LC a0 _ gp) _ ?_;obtain⟨bu,fl,h⟩:=an h;refine cR (LD J _ fl) _ ?_;obtain⟨cy,lP,h⟩:=an h;refine dh (b7 [(1,.slice (J.map jH)),(2,.aM (n4 a0)),(6,.slice (aU.1.map bD)),(7,.int .i64 aU.2),(8,.aM (tr bB)),(9,.ag 4 (bu.map eY)),(10,.ag 3 (cy.1.map dT)),(11,.int .i64 cy.2)] (λP bc=>?_) ?_)
   ·(try simp only[aE.down,simprocAttr]);refine dq (aan bB bu _ lP) rfl rfl (by simp only[aE.down,simprocAttr,Zz.down]<;>rfl) rfl (inr (by simp only[I.dc,I.gN, @j5 _ dT (λ_=>wN _),Bool.and_self])) ?_;simp only[aE.down,simprocAttr];exact bU trivial
   refine ax ak λ_ wX o6 _=>?_;obtain⟨dE,pL,h⟩:=an h;refine dh (b7 [(1,.slice (J.map jH)),(2,.aM (n4 a0)),(6,.slice (aU.1.map bD)),(7,.int .i64 aU.2),(8,.aM (tr bB)),(9,.ag 4 (bu.map eY)),(10,.ag 3 (cy.1.map dT)),(11,.int .i64 cy.2),(53,.bool ((!dE)||(cy.2 !=aU.2)))] (λP bc=>?_) ?_)
   .rcases Bool.eq_false_or_eq_true (dE)with w5|w5
    ·(try simp only[aE.down,simprocAttr,w5]);refine dq (DV cy.1 aU.1 _ pL) rfl rfl (by simp only[aE.down,simprocAttr,w5,wP.down]<;>rfl) rfl (inr (by rfl)) ?_;simp only[aE.down,simprocAttr,w5];exact bU w5
    ·(try simp only[aE.down,simprocAttr,w5]);refine dq (DV cy.1 aU.1 _ pL) rfl rfl (by simp only[aE.down,simprocAttr,w5,wP.down]<;>rfl) rfl (inr (by rfl)) ?_;simp only[aE.down,simprocAttr,w5];exact bU w5
   refine aD h (λik h=>?_) λik h=>?_
   .exact aN o6 [.bool false]
   .refine aK (wX _ (inl (ax ak λ_ Hx Hy _=>?_)));obtain⟨dN,o7,h⟩:=an h;obtain⟨fa,jI,h⟩:=an h;refine kC rfl (jr [(1,.slice (J.map jH)),(2,.aM (n4 a0)),(6,.slice (aU.1.map bD)),(7,.int .i64 aU.2),(8,.aM (tr bB)),(9,.ag 4 (bu.map eY)),(10,.ag 3 (cy.1.map dT)),(11,.int .i64 cy.2),(58,.bool (!fa))] (λP bc=>?_) ?_)
    ·(try simp only[dA.down,simprocAttr]);refine iz (LC a0 _ o7) (hK:= ?_);simp only[dA.down,simprocAttr];refine iz (ase bB dN _ jI) rfl rfl (by simp only[dA.down,simprocAttr,ht,hv,hx,cV, @b4 _ hC bk (λ_=>Ao _), @b4 _ hT db (λ_=>Aq _), @b4 _ bJ bJ (λ_=>qi _), @b4 _ aV aV (λ_=>kM _), @b4 _ aV aV (λ_=>kM _), @b4 _ hC bk (λ_=>Ao _), @b4 _ hT db (λ_=>Aq _), @b4 _ bJ bJ (λ_=>qi _), @b4 _ aV aV (λ_=>kM _), @b4 _ aV aV (λ_=>kM _)]<;>rfl) rfl (inr (by rfl)) ?_;simp only[dA.down,simprocAttr];refine⟨iA (by kernel_rfl),?_⟩;exact bU trivial
    refine aD h (λwS h=>?_) λwS h=>?_
    .exact aN Hy [.bool false]
    .refine aK (Hx _ (inl (ax ak λ_ ast asu _=>?_)));obtain⟨kH,wZ,h⟩:=an h;obtain⟨mK,asv,h⟩:=an h;refine dh (b7 [(1,.slice (J.map jH)),(2,.aM (n4 a0)),(6,.slice (aU.1.map bD)),(7,.int .i64 aU.2),(8,.aM (tr bB)),(9,.ag 4 (bu.map eY)),(10,.ag 3 (cy.1.map dT)),(11,.int .i64 cy.2),(63,.bool (!mK))] (λP bc=>?_) ?_)
     ·(try simp only[aE.down,simprocAttr]);refine dq (LD J _ wZ) (hK:= ?_);simp only[aE.down,simprocAttr];refine dq (asg bu kH _ asv) rfl rfl (by simp only[aE.down,simprocAttr,ht,hv,hx,cV, @b4 _ eY eY (λ_=>Hf _), @b4 _ eY eY (λ_=>Hf _)]<;>rfl) rfl (inr (by rfl)) ?_;simp only[aE.down,simprocAttr];exact bU trivial
     refine aD h (λtz h=>?_) λtz h=>?_
     .exact aN asu [.bool false]
     .refine aK (ast _ (inl (aj ?_)));obtain⟨je,yz,h⟩:=an h;refine dh (b7 [(1,.slice (J.map jH)),(2,.aM (n4 a0)),(6,.slice (aU.1.map bD)),(7,.int .i64 aU.2),(9,.ag 4 (bu.map eY)),(10,.ag 3 (cy.1.map dT)),(11,.int .i64 cy.2),(12,.int .i64 je.1)] (λP bc=>?_) ?_)
      ·(try simp only[aE.down,simprocAttr]);refine k1 [⟨.h 8 [0],true,_,_⟩,⟨.int .i64 1,false,_,.hole⟩] (aso bB.cI bB.b0 bB.cb bB.cD bB.cA 1 _ yz) rfl rfl rfl (by simp only[aE.down,simprocAttr,mo,la,kG,ht,hv,hx,cV,or_true,true_or, @b4 _ hC bk (λ_=>Ao _), @b4 _ hT db (λ_=>Aq _), @b4 _ bJ bJ (λ_=>qi _), @b4 _ aV aV (λ_=>kM _), @b4 _ aV aV (λ_=>kM _)]) rfl rfl (inl rfl) ?_;simp only[aE.down,simprocAttr,kl];exact bU trivial
      obtain⟨hB,AP,h⟩:=an h;refine dh (b7 [(1,.slice (J.map jH)),(2,.aM (n4 a0)),(6,.slice (aU.1.map bD)),(7,.int .i64 aU.2),(10,.ag 3 (cy.1.map dT)),(11,.int .i64 cy.2),(12,.int .i64 hB.1)] (λP bc=>?_) ?_)
      ·(try simp only[aE.down,simprocAttr]);refine k1 [⟨.h 9 [],true,_,_⟩,⟨.int .i64 je.1,false,_,.hole⟩] (asp bu je.1 _ AP) rfl rfl rfl (by simp only[aE.down,simprocAttr,mo,la,kG,ht,hv,hx,cV,or_true,true_or, @b4 _ eY eY (λ_=>Hf _)]) rfl rfl (inl rfl) ?_;simp only[aE.down,simprocAttr,kl];exact bU trivial
      refine ax ak λ_ Sw aat _=>?_;rcases dO h with⟨qn,h⟩|⟨qn,h⟩
      .refine c7 qn _ ?_;refine jS rfl ?_;exact aN aat [.bool false]
      .obtain⟨ju,sb,h⟩:=an h;refine dh (b7 [(1,.slice (J.map jH)),(2,.aM (n4 a0)),(6,.slice (aU.1.map bD)),(7,.int .i64 aU.2),(10,.ag 3 (cy.1.map dT)),(82,.bool ((!ju)||(cy.2 !=aU.2)))] (λP bc=>?_) ?_)
       .rcases Bool.eq_false_or_eq_true (ju)with w6|w6
        ·(try simp only[aE.down,simprocAttr,qn,w6]);refine g_ (DV cy.1 aU.1 _ sb) rfl rfl (by simp only[aE.down,simprocAttr,qn,w6,wP.down]<;>rfl) rfl (inr (by rfl)) ?_;simp only[aE.down,simprocAttr,qn,w6];exact bU (U qn w6)
        ·(try simp only[aE.down,simprocAttr,qn,w6]);refine g_ (DV cy.1 aU.1 _ sb) rfl rfl (by simp only[aE.down,simprocAttr,qn,w6,wP.down]<;>rfl) rfl (inr (by rfl)) ?_;simp only[aE.down,simprocAttr,qn,w6];exact bU (U qn w6)
       refine aD h (λSU h=>?_) λSU h=>?_
       .exact aN aat [.bool false]
       .refine aK (Sw _ (inl (aj ?_)));obtain⟨iK,n9,h⟩:=an h;refine dh (b7 [(1,.slice (J.map jH)),(2,.aM (n4 a0)),(6,.slice (aU.1.map bD)),(7,.int .i64 aU.2),(10,.ag 3 (iK.2.map dT)),(13,.int .i64 iK.1)] (λP bc=>?_) ?_)
        ·(try simp only[aE.down,simprocAttr]);refine k1 [⟨.h 10 [],true,_,_⟩,⟨.int .i64 1,false,_,.hole⟩] (asq cy.1 1 _ n9) rfl rfl rfl (by simp only[aE.down,simprocAttr,mo,la,kG,ht,hv,hx,cV,or_true,true_or, @b4 _ dT bD (λ_=>pI _)]) rfl rfl (inl rfl) ?_;simp only[aE.down,simprocAttr,kl];exact bU trivial
        refine aj ?_;obtain⟨qb,DP,h⟩:=an h;refine dh (b7 [(1,.slice (J.map jH)),(2,.aM (n4 a0)),(6,.slice (aU.1.map bD)),(7,.int .i64 aU.2),(10,.ag 3 (iK.2.map dT)),(13,.int .i64 iK.1),(14,.int .i64 qb)] (λP bc=>?_) ?_)
        ·(try simp only[aE.down,simprocAttr]);refine dq (aas iK.2 1 _ DP) rfl rfl (by simp only[aE.down,simprocAttr,wP.down]<;>rfl) rfl (inr (by rfl)) ?_;simp only[aE.down,simprocAttr];exact bU trivial
        refine ax ak λ_ asw asx _=>aj ?_;refine aD h (λR7 h=>?_) λR7 h=>?_
        .exact aN asx [.bool false]
        .refine aK (asw _ (inl (ax ak λ_ asy asz _=>aj ?_)));refine aD h (λasA h=>?_) λasA h=>?_
         .exact aN asz [.bool false]
         .refine aK (asy _ (inl ?_));obtain⟨lI,vl,h⟩:=an h;obtain⟨lJ,asB,h⟩:=an h;obtain⟨lj,Hv,h⟩:=an h;refine dh (b7 [(6,.slice (aU.1.map bD)),(7,.int .i64 aU.2),(10,.ag 3 (iK.2.map dT)),(13,.int .i64 iK.1),(15,.ag 3 (lj.1.map dT)),(16,.int .i64 lj.2)] (λP bc=>?_) ?_)
          ·(try simp only[aE.down,simprocAttr]);refine dq (LC a0 _ vl) (hK:= ?_);simp only[aE.down,simprocAttr];refine dq (LD J _ asB) (hK:= ?_);simp only[aE.down,simprocAttr];refine dq (aan lI lJ _ Hv) rfl rfl (by simp only[aE.down,simprocAttr,Zz.down]<;>rfl) rfl (inr (by simp only[I.dc,I.gN, @j5 _ dT (λ_=>wN _),Bool.and_self])) ?_;simp only[aE.down,simprocAttr];exact bU trivial
          refine ax ak λ_ SG SH _=>?_;obtain⟨mN,LH,h⟩:=an h;refine dh (b7 [(10,.ag 3 (iK.2.map dT)),(13,.int .i64 iK.1),(110,.bool ((!mN)||(lj.2 !=aU.2)))] (λP bc=>?_) ?_)
          .rcases Bool.eq_false_or_eq_true (mN)with w7|w7
           ·(try simp only[aE.down,simprocAttr,w7]);refine dq (DV lj.1 aU.1 _ LH) rfl rfl (by simp only[aE.down,simprocAttr,w7,wP.down]<;>rfl) rfl (inr (by rfl)) ?_;simp only[aE.down,simprocAttr,w7];exact bU w7
           ·(try simp only[aE.down,simprocAttr,w7]);refine dq (DV lj.1 aU.1 _ LH) rfl rfl (by simp only[aE.down,simprocAttr,w7,wP.down]<;>rfl) rfl (inr (by rfl)) ?_;simp only[aE.down,simprocAttr,w7];exact bU w7
          refine aD h (λasC h=>?_) λasC h=>?_
          .exact aN SH [.bool false]
          .refine aK (SG _ (inl (aj ?_)));obtain⟨lK,asD,h⟩:=an h;refine dh (b7 [(13,.int .i64 iK.1),(14,.int .i64 lK)] (λP bc=>?_) ?_)
           ·(try simp only[aE.down,simprocAttr]);refine dq (aas iK.2 1 _ asD) rfl rfl (by simp only[aE.down,simprocAttr,wP.down]<;>rfl) rfl (inr (by rfl)) ?_;simp only[aE.down,simprocAttr];exact bU trivial
           refine ax ak λ_ SI SJ _=>aj ?_;refine aD h (λSK h=>?_) λSK h=>?_
           .exact aN SJ [.bool false]
           .refine aK (SI _ (inl (ax ak λ_ SM asE _=>aj ?_)));refine aD h (λasF h=>?_) λasF h=>?_
            .exact aN asE [.bool false]
            .exact aK (SM _ (inl (aN ak [.bool true])))
end Go.Proofs.YtmaepbgkcmjcjajGreatDoor
