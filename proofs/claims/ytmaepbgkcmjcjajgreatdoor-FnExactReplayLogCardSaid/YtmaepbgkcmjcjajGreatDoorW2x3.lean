/- Part of a proof that a law returns true for every input. No condition. -/
import Derived.Test.YtmaepbgkcmjcjajGreatDoorW1x3
namespace Go.Proofs.YtmaepbgkcmjcjajGreatDoor
open Option Go.IntKind Nat Or
open Go Go.ep Go.ld
set_option maxRecDepth 100000
set_option maxHeartbeats 8800000
set_option linter.unusedSimpArgs false
set_option linter.unusedVariables false
theorem aqo (a0 r) (h:Qc a0=some r):aZ ah 192 [eH a0] (.bool r) []:=by
 refine bx [0] [.tmp 2] Tryz.func192 alf λbt ak bs=>aj ?_;refine n5 (a0.Kind==4) [(1,.aM (eH a0)),(3,.bool ((a0.Kind==4)||(a0.Kind==5)))] ?_;refine dh (b7 [(1,.aM (eH a0)),(3,.bool ((a0.Kind==4)||(a0.Kind==5))),(4,.bool (((a0.Kind==1)||(a0.Kind==3))||(a0.Kind==5)))] (λP bc=>?_) ?_)
 ·(rcases Bool.eq_false_or_eq_true (a0.Kind==1)with mj|mj)<;>(rcases Bool.eq_false_or_eq_true (a0.Kind==3)with SO|SO)<;>
   (simp only[aE.down,simprocAttr,mj,SO]
    exact bU (U mj SO))
 obtain⟨R,cg,h⟩:=an h;refine dh (b7 [(2,.bool (((R&&(((a0.Kind==4)||(a0.Kind==5))||(a0.Number==0)))&&((a0.Kind==1)||(a0.Name==([]:azq))))&&((((a0.Kind==1)||(a0.Kind==3))||(a0.Kind==5))||((a0.ck.length:Int)==0))))] (λP bc=>?_) ?_)
 ·(rcases Bool.eq_false_or_eq_true (R)with yy|yy)<;>(rcases Bool.eq_false_or_eq_true (a0.Kind==4)with r5|r5)<;>(rcases Bool.eq_false_or_eq_true (a0.Kind==5)with yF|yF)<;>(rcases Bool.eq_false_or_eq_true (a0.Number==0)with LU|LU)<;>(rcases Bool.eq_false_or_eq_true (a0.Kind==1)with LV|LV)<;>(rcases Bool.eq_false_or_eq_true (a0.Name==([]:azq))with LW|LW)<;>(rcases Bool.eq_false_or_eq_true (a0.Kind==3)with LX|LX)<;>
   ((try simp only[aE.down,simprocAttr,yy,r5,yF,LU,LV,LW,LX])
    refine dq (jK a0.Kind 0 5 _ cg) (hK:= ?_);simp only[aE.down,simprocAttr,yy,r5,yF,LU,LV,LW,LX];exact bU (U yy (U r5 (U yF (U LU (U LV (U LW LX)))))))
 exact cM ak [.bool (((R&&(((a0.Kind==4)||(a0.Kind==5))||(a0.Number==0)))&&((a0.Kind==1)||(a0.Name==([]:azq))))&&((((a0.Kind==1)||(a0.Kind==3))||(a0.Kind==5))||((a0.ck.length:Int)==0)))]
theorem mv (a0 r) (h:rJ a0=some r):aZ ah 122 [.str a0] (.bool r) []:=by
 refine bx [0] [.tmp 2] Tryz.func122 alg λbt ak bs=>aj ?_;obtain⟨R,aS,h⟩:=an h;refine dh (b7 [(2,.bool (R&&(!(a0==([116,97,117]:azq)))))] (λP bc=>?_) ?_)
 .rcases Bool.eq_false_or_eq_true (R)with mj|mj
  ·(try simp only[aE.down,simprocAttr,mj]);refine dq (LR a0 _ aS) (hK:= ?_);simp only[aE.down,simprocAttr,mj];exact bU mj
  ·(try simp only[aE.down,simprocAttr,mj]);refine dq (LR a0 _ aS) (hK:= ?_);simp only[aE.down,simprocAttr,mj];exact bU mj
 exact cM ak [.bool (R&&(!(a0==([116,97,117]:azq))))]
theorem DS (a0 J r) (h:wB a0 J=some r):aZ ah 62 [.int .i64 a0,.int .i64 J] (.bool r) []:=by
 refine bx [0,1] [.tmp 4] Tryz.func62 alh λbt ak bs=>aj ?_;obtain⟨R,aS,h⟩:=an h;refine cR (jK a0 0 (i64.wrap (J-1)) _ aS) _ ?_;exact cM ak [.bool R]
theorem aqp (a0 J r) (h:Qd a0 J=some r):aZ ah 193 [eH a0,.slice (J.map bk)] (.bool r) []:=by
 refine bx [0,1] [.tmp 4] Tryz.func193 c193 λbt ak bs=>aj ?_;refine aj ?_;refine ax ak λ_ eZ c_ _=>aj ?_;refine bg c_ λ_ dM cv _ _=>aj ?_;refine aD h (λqC h=>?_) λqC h=>?_
 .refine dh (b7 [(4,.bool (((a0.ck.length:Int)==0)||((!(a0.Name==([116,97,117]:azq)))&&(decide ((a0.ck.length:Int)<=2)))))] (λP bc=>?_) ?_)
  ·(rcases Bool.eq_false_or_eq_true ((a0.ck.length:Int)==0)with r5|r5)<;>(rcases Bool.eq_false_or_eq_true (a0.Name==([116,97,117]:azq))with yF|yF)<;>
    (simp only[aE.down,simprocAttr,r5,yF]
     exact bU (U r5 yF))
  exact cM cv [.bool (((a0.ck.length:Int)==0)||((!(a0.Name==([116,97,117]:azq)))&&(decide ((a0.ck.length:Int)<=2))))]
 .refine aj ?_;refine aD h (λfk h=>?_) λfk h=>?_
  .exact aN cv [.bool ((a0.ck.length:Int)==1)]
  .refine aj ?_;refine aD h (λff h=>?_) λff h=>?_
   .obtain⟨R,dP,h⟩:=an h;refine c7 dP _ ?_;exact cM cv [.bool ((a0.ck.length:Int)==R.dV)]
   .exact aK (dM _ (eZ _ (inl (aN ak [.bool true]))))
theorem Z3 (a0 r) (h:CP a0=some r):aZ ah 165 [.int .i64 a0] (.bool r) []:=by
 refine bx [0] [.tmp 2] Tryz.func165 alj λbt ak bs=>aj ?_;obtain⟨R,aS,h⟩:=an h;refine cR (jK a0 0 63 _ aS) _ ?_;exact cM ak [.bool R]
theorem aqq (a0 J r) (h:Kn a0 J=some r):aZ ah 221 [ea a0,.int .i64 J] (.bool r) []:=by
 refine bx [0,1] [.tmp 4] Tryz.func221 alk λbt ak bs=>aj ?_;refine ax ak λ_ bF bd ae=>aj ?_;refine bg bd λ_ fj bR _ _=>aj ?_;refine aD h (λcP h=>?_) λcP h=>?_
 .obtain⟨R,gk,h⟩:=an h;refine cR (Z3 a0.Value _ gk) _ ?_;exact cM bR [.bool R]
 .refine aj ?_;refine aD h (λe3 h=>?_) λe3 h=>?_
  .obtain⟨ae,dm,h⟩:=an h;refine cR (jK a0.Value 0 (i64.wrap (J-1)) _ dm) _ ?_;exact cM bR [.bool ae]
  .refine aj ?_;refine aD h (λiM h=>?_) λiM h=>?_
   .obtain⟨az,cB,h⟩:=an h;refine cR (jK a0.Value 0 8 _ cB) _ ?_;exact cM bR [.bool az]
   .refine aj ?_;refine aD h (λij h=>?_) λij h=>?_
    .exact aN bR [.bool (a0.Value==0)]
    .exact aK (fj _ (bF _ (inl (aN ak [.bool false]))))
theorem Z4 (a0 r) (h:Ko a0=some r):aZ ah 222 [ea a0] (.int .i64 r) []:=by
 refine bx [0] [.tmp 2] Tryz.func222 c222 λbt ak bs=>aj ?_;refine ax ak λ_ bF bd _=>aj ?_;refine bg bd λ_ fj bR _ _=>aj ?_;refine aD h (λcP h=>?_) λcP h=>?_
 .exact aN bR [.int .i64 2]
 .refine aj ?_;refine aD h (λe8 h=>?_) λe8 h=>?_
  .exact aN bR [.int .i64 1]
  .exact aK (fj _ (bF _ (inl (aN ak [.int .i64 0]))))
theorem aqr (a0 J a2 r) (h:Kp a0 J a2=some r):aZ ah 196 [.slice (a0.map ea),.int .i64 J,.int .i64 a2] (.bool r) []:=by
 refine bx [0,1,2] [.tmp 6] Tryz.func196 c196 λbt ak bs=>aj ?_;refine ax ak λ_ bF bd ae=>?_;obtain⟨R,cf,h⟩:=an h;rcases dO h with⟨dR,h⟩|⟨dR,h⟩
 .refine eU (hY dR) (jK J 0 29 _ cf) _ ?_;refine jS rfl ?_;exact aN bd [.bool false]
 .obtain⟨ae,cg,h⟩:=an h;rcases dO h with⟨b1,h⟩|⟨b1,h⟩
  .refine dh (b7 [(0,.slice (a0.map ea)),(1,.int .i64 J),(24,.bool true)] (λP bc=>?_) ?_)
   ·(try simp only[aE.down,simprocAttr,(cm dR),(hY b1)]);refine dq (jK J 0 29 _ cf) (hK:= ?_);simp only[aE.down,simprocAttr,(cm dR),(hY b1)];refine g_ (jK a2 1 60 _ cg) (hK:= ?_);simp only[aE.down,simprocAttr,(cm dR),(hY b1)];exact bU (U (cm dR) (hY b1))
   refine jS rfl ?_;exact aN bd [.bool false]
  .obtain⟨az,iU,h⟩:=an h;refine dh (b7 [(0,.slice (a0.map ea)),(1,.int .i64 J),(24,.bool (!az))] (λP bc=>?_) ?_)
   ·(try simp only[aE.down,simprocAttr,(cm dR),(cm b1)]);refine dq (jK J 0 29 _ cf) (hK:= ?_);simp only[aE.down,simprocAttr,(cm dR),(cm b1)];refine g_ (jK a2 1 60 _ cg) (hK:= ?_);simp only[aE.down,simprocAttr,(cm dR),(cm b1)];refine g_ (jK (a0.length:Int) 1 a2 _ iU) (hK:= ?_);simp only[aE.down,simprocAttr,(cm dR),(cm b1)];exact bU (U (cm dR) (cm b1))
   refine aD h (λpK h=>?_) λpK h=>?_
   .exact aN bd [.bool false]
   .refine aK (bF _ (inl (aj ?_)));refine ax ak λ_ eO et _=>aj ?_;refine bg et λaqs _ n6 mR _=>?_;show bm ah (.loop ?kN) _ _;have ln:∀n j9 u0,CQ a0 J n j9 u0=some r->cL ah ?kN aqs (ar [(1,.int .i64 J),(7,.int .i64 j9),(25,.slice (a0.map ea)),(26,.int .i64 (a0.length:Int)),(27,.int .i64 u0)]):=by
     refine cZ λ_ lo j9 u0 h=>cX n6 λ_ jU kq iK=>aj ?_;refine ax kq λ_ r3 _ lI=>aD h (λgw h=>?_) λgw h=>?_
     .refine aK (r3 _ (inl (ax kq λ_ tF vo _=>bg vo λ_ oK n7 _ _=>?_)));obtain⟨aY,lP,h⟩:=an h;refine c7 lP _ ?_;refine ax n7 λ_ wX o6 _=>?_;rcases dO h with⟨oM,h⟩|⟨oM,h⟩
      .refine c7 oM _ ?_;refine jS rfl ?_;exact aN o6 [.bool false]
      .obtain⟨aU,tE,h⟩:=an h;refine eU oM (aqq aY J _ tE) _ ?_;refine aD h (λpM h=>?_) λpM h=>?_
       .exact aN o6 [.bool false]
       .refine aK (wX _ (inl ?_));obtain⟨bB,o7,h⟩:=an h;refine Zk (Z4 aY _ o7) _ ?_;refine oK _ (tF _ (inl (dr ?_)));exact jU _ (inr ⟨_,bE rfl,lo (i64.wrap (j9+(i64.wrap (bB-1)))) (i64.wrap (u0+1)) h⟩)
     .exact cS (lI 0 _ (iK 0 _ (mR _ (eO _ (inl (aN ak [.bool (j9==0)]))))))
    exact dn h λn h=>ln n 1 0 h
theorem aqt (a0 J r) (h:Qf a0 J=some r):aZ ah 195 [.slice (a0.map ea),.ref (fE J)] (.bool r) []:=by
 refine bx [0,1] [.tmp 3] Tryz.func195 alm λbt ak bs=>aj ?_;obtain⟨R,aS,h⟩:=an h;refine cR (aqr a0 J.scope 15 _ aS) _ ?_;exact cM ak [.bool (!R)]
theorem aqu (a0 J r) (h:Qh a0 J=some r):aZ ah 220 [.slice (a0.map jf),.fn 195 [.ref (fE J)]] (.int .i64 r) []:=by
 refine bx [0,1] [.tmp 4] Tryz.func220 aln λbt ak bs=>aj ?_;refine ax ak λ_ bF bd ae=>aj ?_;refine bg bd λeP _ bR bw _=>?_;show bm ah (.loop ?eN) _ _;have e4:∀n cK,Gx a0 J n cK=some r->cL ah ?eN eP (ar [(0,.slice (a0.map jf)),(1,.fn 195 [.ref (fE J)]),(7,.int .i64 (a0.length:Int)),(8,.int .i64 cK)]):=by
  refine cZ λ_ eL cK h=>cX bR λ_ dM cv aU=>aj ?_;refine ax cv λ_ dw _ bu=>aD h (λb1 h=>?_) λb1 h=>?_
  .refine aK (dw _ (inl (ax cv λ_ cE b9 _=>bg b9 λ_ b2 cN _ _=>aj ?_)));obtain⟨R,ed,h⟩:=an h;obtain⟨ae,dU,h⟩:=an h;refine eU ed (aqt R J _ dU) _ ?_;refine aD h (λff h=>?_) λff h=>?_
   .exact aN cN [.int .i64 cK]
   .refine aK (b2 _ (cE _ (inl (dr ?_))));exact dM _ (inr ⟨_,bE rfl,eL (i64.wrap (cK+1)) h⟩)
  .exact cS (bu 0 _ (aU 0 _ (bw _ (bF _ (inl (aN ak [.int .i64 (-1)]))))))
 exact dn h λn h=>e4 n 0 h
theorem aqv (a0 J r) (h:Kq a0 J=some r):aZ ah 194 [.slice (a0.map jf),.fn 195 [.ref (fE J)]] (.bool r) []:=by
 refine bx [0,1] [.tmp 4] Tryz.func194 c194 λbt ak bs=>aj ?_;obtain⟨R,aS,h⟩:=an h;refine cR (aqu a0 J _ aS) _ ?_;exact cM ak [.bool (decide (0<=R))]
theorem aqw (a0 J a2 r) (h:GB a0 J a2=some r):aZ ah 162 [eH a0,.slice (J.map bk),fE a2] (.int .i64 r) []:=by
 refine bx [0,1,2] [.tmp 6] Tryz.func162 c162 λbt ak bs=>aj ?_;refine ax ak λ_ bF bd ae=>bg bd λZ5 eZ c_ _ az=>?_;obtain⟨R,cF,h⟩:=an h;refine cR (aqo a0 _ cF) _ ?_;refine aD h (λcP h=>?_) λcP h=>?_
 .exact aN c_ [.int .i64 2]
 .skip;have r4:∀GA,Gz a0 J a2 GA=some r->bm ah Y3 Z5 (ar [(1,.slice (J.map bk)),(3,.aM (eH a0)),(5,.aM (fE a2)),(11,.bool GA)]):=by
   intro GA h;refine aD h (λb1 h=>?_) λb1 h=>?_
   .exact aN c_ [.int .i64 3]
   .skip;have HM:∀Gy,z8 a0 J a2 Gy=some r->bm ah Y2 Z5 (ar [(1,.slice (J.map bk)),(3,.aM (eH a0)),(5,.aM (fE a2)),(26,.bool Gy)]):=by
     intro Gy h;refine aD h (λe3 h=>?_) λe3 h=>?_
     .exact aN c_ [.int .i64 4]
     .obtain⟨ae,ed,h⟩:=an h;refine cR (aqp a0 J _ ed) _ ?_;refine aD h (λiM h=>?_) λiM h=>?_
      .exact aN c_ [.int .i64 5]
      .refine n5 (a0.Kind==5) [(3,.aM (eH a0)),(5,.aM (fE a2)),(54,.bool ((a0.Kind==5)&&(!a2.behind)))] ?_;refine aD h (λmQ h=>?_) λmQ h=>?_
       .exact aN c_ [.int .i64 6]
       .refine n5 (a0.Kind==4) [(3,.aM (eH a0)),(5,.aM (fE a2)),(63,.bool ((a0.Kind==4)&&(decide (6<=a2.scope))))] ?_;refine aD h (λgw h=>?_) λgw h=>?_
        .exact aN c_ [.int .i64 7]
        .obtain⟨az,iD,h⟩:=an h;refine dh (b7 [(72,.bool az)] (λP bc=>?_) ?_)
         ·(try simp only[aE.down,simprocAttr]);refine dq (aqv a0.ck a2 _ iD) rfl rfl (by simp only[aE.down,simprocAttr,yx.down]<;>rfl) rfl (inr (by rfl)) ?_;simp only[aE.down,simprocAttr];exact bU trivial
         refine aD h (λh7 h=>?_) λh7 h=>?_
         .exact aN c_ [.int .i64 8]
         .exact aK (eZ _ (bF _ (inl (aN ak [.int .i64 0]))))
    rcases dO h with⟨kr,h⟩|⟨kr,h⟩
    .obtain⟨aY,tE,h⟩:=an h;rcases dO h with⟨pM,h⟩|⟨pM,h⟩
     .refine mq (b7 (K:=eV _) [(1,.slice (J.map bk)),(3,.aM (eH a0)),(5,.aM (fE a2)),(26,.bool true)] (λP bc=>?_) ?_)
      ·(try simp only[aE.down,simprocAttr,kr,(hY pM)]);refine g_ (jK a0.Number 1 7 _ tE) (hK:= ?_);simp only[aE.down,simprocAttr,kr,(hY pM)];exact bU (U kr (hY pM))
      exact inr ⟨_,bE rfl,HM true h⟩
     .rcases dO h with⟨hj,h⟩|⟨hj,h⟩
      .obtain⟨aU,wV,h⟩:=an h;refine mq (b7 (K:=eV _) [(1,.slice (J.map bk)),(3,.aM (eH a0)),(5,.aM (fE a2)),(26,.bool (!aU))] (λP bc=>?_) ?_)
       ·(try simp only[aE.down,simprocAttr,kr,(cm pM),hj]);refine g_ (jK a0.Number 1 7 _ tE) (hK:= ?_);simp only[aE.down,simprocAttr,kr,(cm pM),hj];refine g_ (DS a0.Number (J.length:Int) _ wV) (hK:= ?_);simp only[aE.down,simprocAttr,kr,(cm pM),hj];exact bU (U kr (U (cm pM) hj))
       exact inr ⟨_,bE rfl,HM (!aU) h⟩
      .refine mq (b7 (K:=eV _) [(1,.slice (J.map bk)),(3,.aM (eH a0)),(5,.aM (fE a2)),(26,.bool false)] (λP bc=>?_) ?_)
       ·(try simp only[aE.down,simprocAttr,kr,(cm pM),hj]);refine g_ (jK a0.Number 1 7 _ tE) (hK:= ?_);simp only[aE.down,simprocAttr,kr,(cm pM),hj];exact bU (U kr (U (cm pM) hj))
       exact inr ⟨_,bE rfl,HM false h⟩
    .rcases dO h with⟨jJ,h⟩|⟨jJ,h⟩
     .obtain⟨bB,jI,h⟩:=an h;refine mq (b7 (K:=eV _) [(1,.slice (J.map bk)),(3,.aM (eH a0)),(5,.aM (fE a2)),(26,.bool (!bB))] (λP bc=>?_) ?_)
      ·(try simp only[aE.down,simprocAttr,kr,jJ]);refine g_ (DS a0.Number (J.length:Int) _ jI) (hK:= ?_);simp only[aE.down,simprocAttr,kr,jJ];exact bU (U kr jJ)
      exact inr ⟨_,bE rfl,HM (!bB) h⟩
     .refine mq (b7 (K:=eV _) [(1,.slice (J.map bk)),(3,.aM (eH a0)),(5,.aM (fE a2)),(26,.bool false)] (λP bc=>?_) ?_)
      .simp only[aE.down,simprocAttr,kr,jJ];exact bU (U kr jJ)
      exact inr ⟨_,bE rfl,HM false h⟩
  rcases dO h with⟨o8,h⟩|⟨o8,h⟩
  .rcases dO h with⟨qm,h⟩|⟨qm,h⟩
   .obtain⟨bu,tD,h⟩:=an h;refine mq (b7 (K:=eV _) [(1,.slice (J.map bk)),(3,.aM (eH a0)),(5,.aM (fE a2)),(11,.bool (!bu))] (λP bc=>?_) ?_)
    ·(try simp only[aE.down,simprocAttr,o8,qm]);refine g_ (mv a0.Name _ tD) (hK:= ?_);simp only[aE.down,simprocAttr,o8,qm];exact bU (U o8 qm)
    exact inr ⟨_,bE rfl,r4 (!bu) h⟩
   .refine mq (b7 (K:=eV _) [(1,.slice (J.map bk)),(3,.aM (eH a0)),(5,.aM (fE a2)),(11,.bool false)] (λP bc=>?_) ?_)
    .simp only[aE.down,simprocAttr,o8,qm];exact bU (U o8 qm)
    exact inr ⟨_,bE rfl,r4 false h⟩
  .refine mq (b7 (K:=eV _) [(1,.slice (J.map bk)),(3,.aM (eH a0)),(5,.aM (fE a2)),(11,.bool false)] (λP bc=>?_) ?_)
   .simp only[aE.down,simprocAttr,o8];exact bU o8
   exact inr ⟨_,bE rfl,r4 false h⟩
theorem aqx (a0 J r) (h:GC a0 J=some r):aZ ah 119 [.slice (a0.map bk),bk J] (.tuple [.int .i64 r.1,.int .i64 r.2]) []:=by
 refine bx [0,1] [.tmp 4,.tmp 5] Tryz.func119 c119 λbt ak bs=>aj ?_;refine ax ak λ_ bF bd ae=>?_;obtain⟨R,cf,h⟩:=an h;rcases dO h with⟨dR,h⟩|⟨dR,h⟩
 .refine oJ (hY dR) (jK (J.Body.length:Int) 1 20 _ cf) _ ?_;refine jS rfl ?_;exact aN bd [.int .i64 0,.int .i64 1]
 .obtain⟨ae,cg,h⟩:=an h;refine kC rfl (jr [(0,.slice (a0.map bk)),(3,.aM (bk J)),(22,.bool (ae !=(J.Body.length:Int)))] (λP bc=>?_) ?_)
  ·(try simp only[dA.down,simprocAttr,(cm dR)]);refine iz (jK (J.Body.length:Int) 1 20 _ cf) (hK:= ?_);simp only[dA.down,simprocAttr,(cm dR)];refine nI (Z1 J 0 _ cg) (hK:= ?_);simp only[dA.down,simprocAttr,(cm dR)];refine⟨iA (by kernel_rfl),?_⟩;exact bU (cm dR)
  refine aD h (λb1 h=>?_) λb1 h=>?_
  .exact aN bd [.int .i64 0,.int .i64 1]
  .refine aK (bF _ (inl ?_));obtain⟨az,lz,h⟩:=an h;refine cR (aqn J _ lz) _ ?_;refine ax ak λ_ gU ke _=>aj ?_;refine bg ke λHo _ et iM _=>?_;show bm ah (.loop ?kN) _ _;have ln:∀n qO,z_ a0 J az n qO=some r->cL ah ?kN Ho (ar [(0,.slice (a0.map bk)),(6,.ag 2 (az.map fE)),(26,.slice (J.Body.map eH)),(27,.int .i64 (J.Body.length:Int)),(28,.int .i64 qO)]):=by
    refine cZ λ_ lo qO h=>cX et λ_ gb gJ hB=>aj ?_;refine ax gJ λ_ jU _ iK=>aD h (λij h=>?_) λij h=>?_
    .refine aK (jU _ (inl (ax gJ λ_ r3 Hp _=>bg Hp λ_ LF RU _ _=>?_)));obtain⟨aY,fl,h⟩:=an h;refine c7 fl _ ?_;obtain⟨aU,lP,h⟩:=an h;obtain⟨bB,iX,h⟩:=an h;refine oJ (U lP (ca lP)) (aqw aY a0 aU _ iX) _ ?_;refine aj ?_;refine aD h (λoM h=>?_) λoM h=>?_
     .exact aN RU [.int .i64 qO,.int .i64 bB]
     .refine aK (LF _ (r3 _ (inl (dr ?_))));exact gb _ (inr ⟨_,bE rfl,lo (i64.wrap (qO+1)) h⟩)
    .exact cS (iK 0 _ (hB 0 _ (iM _ (gU _ (inl (aN ak [.int .i64 0,.int .i64 0]))))))
   exact dn h λn h=>ln n 0 h
theorem aqy (a0 r) (h:Ks a0=some r):aZ ah 86 [.slice (a0.map bk)] (.bool r) []:=by
 refine bx [0] [.tmp 2] Tryz.func86 alr λbt ak bs=>aj ?_;refine ax ak λ_ bF bd ae=>?_;obtain⟨R,cf,h⟩:=an h;rcases dO h with⟨dR,h⟩|⟨dR,h⟩
 .refine eU (hY dR) (jK (a0.length:Int) 1 4 _ cf) _ ?_;refine jS rfl ?_;exact aN bd [.bool false]
 .obtain⟨ae,cg,h⟩:=an h;refine dh (b7 [(0,.slice (a0.map bk)),(15,.bool (!ae))] (λP bc=>?_) ?_)
  ·(try simp only[aE.down,simprocAttr,(cm dR)]);refine dq (jK (a0.length:Int) 1 4 _ cf) (hK:= ?_);simp only[aE.down,simprocAttr,(cm dR)];refine g_ (aqc a0 _ cg) (hK:= ?_);simp only[aE.down,simprocAttr,(cm dR)];exact bU (cm dR)
  refine aD h (λb1 h=>?_) λb1 h=>?_
  .exact aN bd [.bool false]
  .refine aK (bF _ (inl (ax ak λ_ b2 cN _=>aj ?_)));refine bg cN λHq _ ke fk _=>?_;show bm ah (.loop ?gS) _ _;have gV:∀n rK,CR a0 n rK=some r->cL ah ?gS Hq (ar [(0,.slice (a0.map bk)),(16,.slice (a0.map bk)),(17,.int .i64 (a0.length:Int)),(18,.int .i64 rK)]):=by
    refine cZ λ_ gE rK h=>cX ke λ_ fL fJ mK=>aj ?_;refine ax fJ λ_ gb _ hB=>aD h (λmR h=>?_) λmR h=>?_
    .refine aK (gb _ (inl (ax fJ λ_ jU kq _=>bg kq λ_ r9 wW _ _=>?_)));obtain⟨az,gp,h⟩:=an h;refine c7 gp _ ?_;refine ax wW λ_ tF vo _=>?_;obtain⟨aY,iD,h⟩:=an h;rcases dO h with⟨h7,h⟩|⟨h7,h⟩
     .refine oJ (hY h7) (LR az.Name _ iD) _ ?_;refine jS rfl ?_;exact aN vo [.bool false]
     .obtain⟨aU,ql,h⟩:=an h;obtain⟨bB,pL,h⟩:=an h;refine kC rfl (jr [(0,.slice (a0.map bk)),(4,.aM (bk az)),(16,.slice (a0.map bk)),(17,.int .i64 (a0.length:Int)),(18,.int .i64 rK),(35,.bool (decide (0<=bB)))] (λP bc=>?_) ?_)
      ·(try simp only[dA.down,simprocAttr,(cm h7),ql, @j6 _ bk 3 (λ_=>rfl)]);refine iz (LR az.Name _ iD) (hK:= ?_);simp only[dA.down,simprocAttr,(cm h7),ql, @j6 _ bk 3 (λ_=>rfl)];refine nI (aqg aU az.Name _ pL) (hK:= ?_);simp only[dA.down,simprocAttr,(cm h7),ql, @j6 _ bk 3 (λ_=>rfl)];refine⟨iA (by kernel_rfl),?_⟩;exact bU (U (cm h7) (U ql (@j6 _ bk 3 λ_=>rfl)))
      refine aD h (λkr h=>?_) λkr h=>?_
      .exact aN vo [.bool false]
      .refine aK (tF _ (inl ?_));obtain⟨bu,Sv,h⟩:=an h;refine cR (aqx a0 az _ Sv) _ ?_;refine aj ?_;refine aD h (λjJ h=>?_) λjJ h=>?_
       .exact aN wW [.bool false]
       .refine aK (r9 _ (jU _ (inl (dr ?_))));exact fL _ (inr ⟨_,bE rfl,gE (i64.wrap (rK+1)) h⟩)
    .exact cS (hB 0 _ (mK 0 _ (fk _ (b2 _ (inl (aN ak [.bool true]))))))
   exact dn h λn h=>gV n 0 h
theorem aqz (a0 r) (h:Kt a0=some r):aZ ah 164 [.int .i64 a0] (.bool r) []:=by
 refine bx [0] [.tmp 2] Tryz.func164 c164 λbt ak bs=>aj ?_;obtain⟨R,aS,h⟩:=an h;refine cR (Z3 a0 _ aS) _ ?_;exact cM ak [.bool (!R)]
theorem aqA (a0 r) (h:Ku a0=some r):aZ ah 197 [.slice (a0.map bb),.fn 164 []] (.int .i64 r) []:=by
 refine bx [0,1] [.tmp 4] Tryz.func197 als λbt ak bs=>aj ?_;refine ax ak λ_ bF bd ae=>aj ?_;refine bg bd λeP _ bR bw _=>?_;show bm ah (.loop ?eN) _ _;have e4:∀n cK,yo a0 n cK=some r->cL ah ?eN eP (ar [(0,.slice (a0.map bb)),(1,.fn 164 []),(7,.int .i64 (a0.length:Int)),(8,.int .i64 cK)]):=by
  refine cZ λ_ eL cK h=>cX bR λ_ dM cv aU=>aj ?_;refine ax cv λ_ dw _ bu=>aD h (λb1 h=>?_) λb1 h=>?_
  .refine aK (dw _ (inl (ax cv λ_ cE b9 _=>bg b9 λ_ b2 cN _ _=>aj ?_)));obtain⟨R,ed,h⟩:=an h;obtain⟨ae,dU,h⟩:=an h;refine eU ed (aqz R _ dU) _ ?_;refine aD h (λff h=>?_) λff h=>?_
   .exact aN cN [.int .i64 cK]
   .refine aK (b2 _ (cE _ (inl (dr ?_))));exact dM _ (inr ⟨_,bE rfl,eL (i64.wrap (cK+1)) h⟩)
  .exact cS (bu 0 _ (aU 0 _ (bw _ (bF _ (inl (aN ak [.int .i64 (-1)]))))))
 exact dn h λn h=>e4 n 0 h
theorem aqB (a0 r) (h:Kv a0=some r):aZ ah 163 [.slice (a0.map bb),.fn 164 []] (.bool r) []:=by
 refine bx [0,1] [.tmp 4] Tryz.func163 alu λbt ak bs=>aj ?_;obtain⟨R,aS,h⟩:=an h;refine cR (aqA a0 _ aS) _ ?_;exact cM ak [.bool (decide (0<=R))]
theorem Z6 (a0 r) (h:Aa a0=some r):aZ ah 121 [.slice (a0.map bb)] (.bool r) []:=by
 refine bx [0] [.tmp 2] Tryz.func121 alv λbt ak bs=>aj ?_;obtain⟨R,aS,h⟩:=an h;refine cR (aqB a0 _ aS) _ ?_;exact cM ak [.bool (!R)]
theorem aqC (a0 J r) (h:Kw a0 J=some r):aZ ah 90 [.slice (a0.map bk),db J] (.bool r) []:=by
 refine bx [0,1] [.tmp 4] Tryz.func90 alw λbt ak bs=>aj ?_;obtain⟨R,aS,h⟩:=an h;rcases dO h with⟨bw,h⟩|⟨bw,h⟩
 .obtain⟨ae,cF,h⟩:=an h;rcases dO h with⟨cP,h⟩|⟨cP,h⟩
  .obtain⟨az,cg,h⟩:=an h;refine kC rfl (jr [(4,.bool az)] (λP bc=>?_) ?_)
   ·(try simp only[dA.down,simprocAttr,bw,cF,cP]);refine iz (DS J.cJ (a0.length:Int) _ aS) (hK:= ?_);simp only[dA.down,simprocAttr,bw,cF,cP];refine nI (Z6 J.b5 _ cg) (hK:= ?_);simp only[dA.down,simprocAttr,bw,cF,cP];refine⟨iA (by kernel_rfl),?_⟩;exact bU (U bw (U cF cP))
   exact cM ak [.bool az]
  .refine oJ (U bw (U cF cP)) (DS J.cJ (a0.length:Int) _ aS) _ ?_;exact cM ak [.bool false]
 .refine oJ bw (DS J.cJ (a0.length:Int) _ aS) _ ?_;exact cM ak [.bool false]
theorem aqD (a0 J r) (h:Qj a0 J=some r):aZ ah 89 [db a0,.ref (fD J)] (.bool r) []:=by
 refine bx [0,1] [.tmp 3] Tryz.func89 alx λbt ak bs=>aj ?_;obtain⟨R,aS,h⟩:=an h;refine cR (aqC J.cI a0 _ aS) _ ?_;exact cM ak [.bool (!R)]
theorem aqE (a0 J r) (h:Ql a0 J=some r):aZ ah 120 [.slice (a0.map db),.fn 89 [.ref (fD J)]] (.int .i64 r) []:=by
 refine bx [0,1] [.tmp 4] Tryz.func120 aly λbt ak bs=>aj ?_;refine ax ak λ_ bF bd ae=>aj ?_;refine bg bd λeP _ bR bw _=>?_;show bm ah (.loop ?eN) _ _;have e4:∀n cK,GF a0 J n cK=some r->cL ah ?eN eP (ar [(0,.slice (a0.map db)),(1,.fn 89 [.ref (fD J)]),(7,.int .i64 (a0.length:Int)),(8,.int .i64 cK)]):=by
  refine cZ λ_ eL cK h=>cX bR λ_ dM cv aU=>aj ?_;refine ax cv λ_ dw _ bu=>aD h (λb1 h=>?_) λb1 h=>?_
  .refine aK (dw _ (inl (ax cv λ_ cE b9 _=>bg b9 λ_ b2 cN _ _=>aj ?_)));obtain⟨R,ed,h⟩:=an h;obtain⟨ae,dU,h⟩:=an h;refine eU ed (aqD R J _ dU) _ ?_;refine aD h (λff h=>?_) λff h=>?_
   .exact aN cN [.int .i64 cK]
   .refine aK (b2 _ (cE _ (inl (dr ?_))));exact dM _ (inr ⟨_,bE rfl,eL (i64.wrap (cK+1)) h⟩)
  .exact cS (bu 0 _ (aU 0 _ (bw _ (bF _ (inl (aN ak [.int .i64 (-1)]))))))
 exact dn h λn h=>e4 n 0 h
theorem aqF (a0 J r) (h:Kx a0 J=some r):aZ ah 88 [.slice (a0.map db),.fn 89 [.ref (fD J)]] (.bool r) []:=by
 refine bx [0,1] [.tmp 4] Tryz.func88 alz λbt ak bs=>aj ?_;obtain⟨R,aS,h⟩:=an h;refine cR (aqE a0 J _ aS) _ ?_;exact cM ak [.bool (decide (0<=R))]
theorem Z7 (a0 r) (h:Ky a0=some r):aZ ah 223 [.str a0] (.bool r) []:=by
 refine bx [0] [.tmp 2] Tryz.func223 alA λbt ak bs=>aj ?_;exact aN ak [.bool false]
theorem aqG (a0 J r) (h:Kz a0 J=some r):aZ ah 198 [.str a0,.str J] (.int .i64 r) []:=by
 refine bx [0,1] [.tmp 4] Tryz.func198 c198 λbt ak bs=>aj ?_;obtain⟨R,aS,h⟩:=an h;refine cR (Z7 a0 _ aS) _ ?_;obtain⟨ae,cF,h⟩:=an h;refine cR (Z7 J _ cF) _ ?_;refine ax ak λ_ cG cU _=>aj ?_;refine aD h (λb1 h=>?_) λb1 h=>?_
 .refine ax cU λ_ cE b9 _=>aj ?_;refine aD h (λpK h=>?_) λpK h=>?_
  .exact aN b9 [.int .i64 0]
  .exact aK (cE _ (inl (aN cU [.int .i64 (-1)])))
 .refine aK (cG _ (inl (ax ak λ_ eO et _=>aj ?_)));refine aD h (λmR h=>?_) λmR h=>?_
  .exact aN et [.int .i64 1]
  .refine aK (eO _ (inl (ax ak λ_ r9 wW _=>aj ?_)));refine aD h (λgw h=>?_) λgw h=>?_
   .exact aN wW [.int .i64 (-1)]
   .refine aK (r9 _ (inl (ax ak λ_ oK n7 _=>aj ?_)));refine aD h (λh7 h=>?_) λh7 h=>?_
    .exact aN n7 [.int .i64 1]
    .exact aK (oK _ (inl (aN ak [.int .i64 0])))
theorem aqH (a0 J r) (h:KB a0 J=some r):aZ ah 166 [.slice (a0.map aV),.slice (J.map aV)] (.int .i64 r) []:=by
 refine bx [0,1] [.tmp 4] Tryz.func166 alB λbt ak bs=>aj ?_;refine ax ak λ_ bF bd ae=>aj ?_;refine bg bd λeP _ bR bw _=>?_;show bm ah (.loop ?eN) _ _;have e4:∀n rL,KA a0 J n rL=some r->cL ah ?eN eP (ar [(0,.slice (a0.map aV)),(1,.slice (J.map aV)),(9,.slice (a0.map aV)),(10,.int .i64 (a0.length:Int)),(11,.int .i64 rL)]):=by
  refine cZ λ_ eL rL h=>cX bR λ_ dM cv aU=>aj ?_;refine ax cv λ_ dw _ bu=>aD h (λb1 h=>?_) λb1 h=>?_
  .refine aK (dw _ (inl (ax cv λ_ cE b9 _=>bg b9 λ_ b2 cN _ _=>?_)));obtain⟨R,dm,h⟩:=an h;refine c7 dm _ ?_;refine ax cN λ_ fL fJ _=>aj ?_;refine aD h (λff h=>?_) λff h=>?_
   .exact aN fJ [.int .i64 1]
   .refine aK (fL _ (inl ?_));obtain⟨ae,eG,h⟩:=an h;refine c7 eG _ ?_;obtain⟨az,gp,h⟩:=an h;refine cR (aqG R ae _ gp) _ ?_;refine aj ?_;refine aD h (λAw h=>?_) λAw h=>?_
    .exact aN cN [.int .i64 az]
    .refine aK (b2 _ (cE _ (inl (dr ?_))));exact dM _ (inr ⟨_,bE rfl,eL (i64.wrap (rL+1)) h⟩)
  .refine cS (bu 0 _ (aU 0 _ (bw _ (bF _ (inl (ax ak λ_ wX o6 _=>aj ?_))))));refine aD h (λoM h=>?_) λoM h=>?_
   .exact aN o6 [.int .i64 (-1)]
   .exact aK (wX _ (inl (aN ak [.int .i64 0])))
 exact dn h λn h=>e4 n 0 h
theorem aqI (a0 J r) (h:KC a0 J=some r):aZ ah 123 [bJ a0,bJ J] (.int .i64 r) []:=by
 refine bx [0,1] [.tmp 4] Tryz.func123 alC λbt ak bs=>aj ?_;obtain⟨R,aS,h⟩:=an h;refine dh (b7 [(4,.int .i64 R)] (λP bc=>?_) ?_)
 ·(try simp only[aE.down,simprocAttr,(show∀s,eh ah s 25 2 [(0,.str a0.Left),(1,.str a0.cH)]=some (.ag 1 [.str a0.Left,.str a0.cH],s)from λs=>by kernel_rfl),(show∀s,eh ah s 25 2 [(0,.str J.Left),(1,.str J.cH)]=some (.ag 1 [.str J.Left,.str J.cH],s)from λs=>by kernel_rfl)]);refine dq (aqH [a0.Left,a0.cH] [J.Left,J.cH] _ aS) rfl rfl (by simp only[aE.down,simprocAttr,(show∀s,eh ah s 25 2 [(0,.str a0.Left),(1,.str a0.cH)]=some (.ag 1 [.str a0.Left,.str a0.cH],s)from λs=>by kernel_rfl),(show∀s,eh ah s 25 2 [(0,.str J.Left),(1,.str J.cH)]=some (.ag 1 [.str J.Left,.str J.cH],s)from λs=>by kernel_rfl),ht,hv,hx,cV,I.shares, @b4 _ aV aV (λ_=>kM _), @b4 _ aV aV (λ_=>kM _)]<;>rfl) rfl (inr (by rfl)) ?_;simp only[aE.down,simprocAttr,(show∀s,eh ah s 25 2 [(0,.str a0.Left),(1,.str a0.cH)]=some (.ag 1 [.str a0.Left,.str a0.cH],s)from λs=>by kernel_rfl),(show∀s,eh ah s 25 2 [(0,.str J.Left),(1,.str J.cH)]=some (.ag 1 [.str J.Left,.str J.cH],s)from λs=>by kernel_rfl)];exact bU (U (show∀s,eh ah s 25 2 [(0,.str a0.Left),(1,.str a0.cH)]=some (.ag 1 [.str a0.Left,.str a0.cH],s)from λs=>by kernel_rfl) (show∀s,eh ah s 25 2 [(0,.str J.Left),(1,.str J.cH)]=some (.ag 1 [.str J.Left,.str J.cH],s)from λs=>by kernel_rfl))
 exact cM ak [.int .i64 R]
theorem aqJ (a0 J r) (h:Qm a0 J=some r):aZ ah 125 [bJ a0,.ref (bJ J)] (.bool r) []:=by
 refine bx [0,1] [.tmp 3] Tryz.func125 alD λbt ak bs=>aj ?_;refine n5 (a0.Left==J.Result) [(3,.bool ((a0.Left==J.Result)||(a0.cH==J.Result)))] ?_;exact cM ak [.bool ((a0.Left==J.Result)||(a0.cH==J.Result))]
theorem aqK (a0 J r) (h:Qo a0 J=some r):aZ ah 167 [.slice (a0.map bJ),.fn 125 [.ref (bJ J)]] (.int .i64 r) []:=by
 refine bx [0,1] [.tmp 4] Tryz.func167 c167 λbt ak bs=>aj ?_;refine ax ak λ_ bF bd ae=>aj ?_;refine bg bd λeP _ bR bw _=>?_;show bm ah (.loop ?eN) _ _;have e4:∀n cK,GG a0 J n cK=some r->cL ah ?eN eP (ar [(0,.slice (a0.map bJ)),(1,.fn 125 [.ref (bJ J)]),(7,.int .i64 (a0.length:Int)),(8,.int .i64 cK)]):=by
  refine cZ λ_ eL cK h=>cX bR λ_ dM cv aU=>aj ?_;refine ax cv λ_ dw _ bu=>aD h (λb1 h=>?_) λb1 h=>?_
  .refine aK (dw _ (inl (ax cv λ_ cE b9 _=>bg b9 λ_ b2 cN _ _=>aj ?_)));obtain⟨R,ed,h⟩:=an h;obtain⟨ae,dU,h⟩:=an h;refine eU ed (aqJ R J _ dU) _ ?_;refine aD h (λff h=>?_) λff h=>?_
   .exact aN cN [.int .i64 cK]
   .refine aK (b2 _ (cE _ (inl (dr ?_))));exact dM _ (inr ⟨_,bE rfl,eL (i64.wrap (cK+1)) h⟩)
  .exact cS (bu 0 _ (aU 0 _ (bw _ (bF _ (inl (aN ak [.int .i64 (-1)]))))))
 exact dn h λn h=>e4 n 0 h
theorem Z8 (a0 J r) (h:GH a0 J=some r):aZ ah 124 [.slice (a0.map bJ),.fn 125 [.ref (bJ J)]] (.bool r) []:=by
 refine bx [0,1] [.tmp 4] Tryz.func124 c124 λbt ak bs=>aj ?_;obtain⟨R,aS,h⟩:=an h;refine cR (aqK a0 J _ aS) _ ?_;exact cM ak [.bool (decide (0<=R))]
theorem aqL (a0 r) (h:KD a0=some r):aZ ah 91 [.slice (a0.map bJ)] (.bool r) []:=by
 refine bx [0] [.tmp 2] Tryz.func91 c91 λbt ak bs=>aj ?_;refine ax ak λ_ bF bd _=>aj ?_;refine bg bd λeP _ bR bw _=>?_;show bm ah (.loop ?eN) _ _;have e4:∀n fU,CS a0 n fU=some r->cL ah ?eN eP (ar [(0,.slice (a0.map bJ)),(5,.slice (a0.map bJ)),(6,.int .i64 (a0.length:Int)),(7,.int .i64 fU)]):=by
  refine cZ λ_ eL fU h=>cX bR λ_ dM cv aU=>aj ?_;refine ax cv λ_ dw _ bu=>aD h (λb1 h=>?_) λb1 h=>?_
  .refine aK (dw _ (inl (ax cv λ_ cE b9 dE=>bg b9 λ_ b2 cN _ dN=>?_)));obtain⟨R,dm,h⟩:=an h;refine c7 dm _ ?_;refine ax cN λ_ fL fJ _=>?_;obtain⟨aU,fl,h⟩:=an h;rcases dO h with⟨gd,h⟩|⟨gd,h⟩
   .refine oJ (hY gd) (mv R.Left _ fl) _ ?_;refine jS rfl ?_;exact aN fJ [.bool false]
   .obtain⟨bB,iX,h⟩:=an h;rcases dO h with⟨kp,h⟩|⟨kp,h⟩
    .refine kC rfl (jr [(0,.slice (a0.map bJ)),(4,.aM (bJ R)),(5,.slice (a0.map bJ)),(6,.int .i64 (a0.length:Int)),(7,.int .i64 fU),(48,.bool true)] (λP bc=>?_) ?_)
     ·(try simp only[dA.down,simprocAttr,(cm gd),(hY kp)]);refine iz (mv R.Left _ fl) (hK:= ?_);simp only[dA.down,simprocAttr,(cm gd),(hY kp)];refine nI (mv R.cH _ iX) (hK:= ?_);simp only[dA.down,simprocAttr,(cm gd),(hY kp)];refine⟨iA (by kernel_rfl),?_⟩;exact bU (U (cm gd) (hY kp))
     refine jS rfl ?_;exact aN fJ [.bool false]
    .obtain⟨bu,yG,h⟩:=an h;rcases dO h with⟨ik,h⟩|⟨ik,h⟩
     .refine kC rfl (jr [(0,.slice (a0.map bJ)),(4,.aM (bJ R)),(5,.slice (a0.map bJ)),(6,.int .i64 (a0.length:Int)),(7,.int .i64 fU),(48,.bool true)] (λP bc=>?_) ?_)
      ·(try simp only[dA.down,simprocAttr,(cm gd),(cm kp),(hY ik)]);refine iz (mv R.Left _ fl) (hK:= ?_);simp only[dA.down,simprocAttr,(cm gd),(cm kp),(hY ik)];refine nI (mv R.cH _ iX) (hK:= ?_);simp only[dA.down,simprocAttr,(cm gd),(cm kp),(hY ik)];refine nI (mv R.Result _ yG) (hK:= ?_);simp only[dA.down,simprocAttr,(cm gd),(cm kp),(hY ik)];refine⟨iA (by kernel_rfl),?_⟩;exact bU (U (cm gd) (U (cm kp) (hY ik)))
      refine jS rfl ?_;exact aN fJ [.bool false]
     .rcases dO h with⟨hj,h⟩|⟨hj,h⟩
      .refine kC rfl (jr [(0,.slice (a0.map bJ)),(4,.aM (bJ R)),(5,.slice (a0.map bJ)),(6,.int .i64 (a0.length:Int)),(7,.int .i64 fU),(48,.bool true)] (λP bc=>?_) ?_)
       ·(try simp only[dA.down,simprocAttr,(cm gd),(cm kp),(cm ik),hj]);refine iz (mv R.Left _ fl) (hK:= ?_);simp only[dA.down,simprocAttr,(cm gd),(cm kp),(cm ik),hj];refine nI (mv R.cH _ iX) (hK:= ?_);simp only[dA.down,simprocAttr,(cm gd),(cm kp),(cm ik),hj];refine nI (mv R.Result _ yG) (hK:= ?_);simp only[dA.down,simprocAttr,(cm gd),(cm kp),(cm ik),hj];refine⟨iA (by kernel_rfl),?_⟩;exact bU (U (cm gd) (U (cm kp) (U (cm ik) hj)))
       refine jS rfl ?_;exact aN fJ [.bool false]
      .rcases dO h with⟨jJ,h⟩|⟨jJ,h⟩
       .obtain⟨cy,jI,h⟩:=an h;obtain⟨dE,AO,h⟩:=an h;refine kC rfl (jr [(0,.slice (a0.map bJ)),(4,.aM (bJ R)),(5,.slice (a0.map bJ)),(6,.int .i64 (a0.length:Int)),(7,.int .i64 fU),(48,.bool (decide (0<=dE)))] (λP bc=>?_) ?_)
        ·(try simp only[dA.down,simprocAttr,(cm gd),(cm kp),(cm ik),hj,jJ,jI]);refine iz (mv R.Left _ fl) (hK:= ?_);simp only[dA.down,simprocAttr,(cm gd),(cm kp),(cm ik),hj,jJ,jI];refine nI (mv R.cH _ iX) (hK:= ?_);simp only[dA.down,simprocAttr,(cm gd),(cm kp),(cm ik),hj,jJ,jI];refine nI (mv R.Result _ yG) (hK:= ?_);simp only[dA.down,simprocAttr,(cm gd),(cm kp),(cm ik),hj,jJ,jI];refine nI (aqI cy R _ AO) (hK:= ?_);simp only[dA.down,simprocAttr,(cm gd),(cm kp),(cm ik),hj,jJ,jI];refine⟨iA (by kernel_rfl),?_⟩;exact bU (U (cm gd) (U (cm kp) (U (cm ik) (U hj (U jJ jI)))))
        refine aD h (λo8 h=>?_) λo8 h=>?_
        .exact aN fJ [.bool false]
        .refine aK (fL _ (inl ?_));obtain⟨dN,wZ,h⟩:=an h;refine dh (b7 [(0,.slice (a0.map bJ)),(5,.slice (a0.map bJ)),(6,.int .i64 (a0.length:Int)),(7,.int .i64 fU),(51,.bool dN)] (λP bc=>?_) ?_)
         ·(try simp only[aE.down,simprocAttr]);refine dq (Z8 a0 R _ wZ) rfl rfl (by simp only[aE.down,simprocAttr,yx.down]<;>rfl) rfl (inr (by rfl)) ?_;simp only[aE.down,simprocAttr];exact bU trivial
         refine aD h (λHH h=>?_) λHH h=>?_
         .exact aN cN [.bool false]
         .refine aK (b2 _ (cE _ (inl (dr ?_))));exact dM _ (inr ⟨_,bE rfl,eL (i64.wrap (fU+1)) h⟩)
       .refine kC rfl (jr [(0,.slice (a0.map bJ)),(4,.aM (bJ R)),(5,.slice (a0.map bJ)),(6,.int .i64 (a0.length:Int)),(7,.int .i64 fU),(48,.bool false)] (λP bc=>?_) ?_)
        ·(try simp only[dA.down,simprocAttr,(cm gd),(cm kp),(cm ik),hj,jJ]);refine iz (mv R.Left _ fl) (hK:= ?_);simp only[dA.down,simprocAttr,(cm gd),(cm kp),(cm ik),hj,jJ];refine nI (mv R.cH _ iX) (hK:= ?_);simp only[dA.down,simprocAttr,(cm gd),(cm kp),(cm ik),hj,jJ];refine nI (mv R.Result _ yG) (hK:= ?_);simp only[dA.down,simprocAttr,(cm gd),(cm kp),(cm ik),hj,jJ];refine⟨iA (by kernel_rfl),?_⟩;exact bU (U (cm gd) (U (cm kp) (U (cm ik) (U hj jJ))))
        refine ot rfl ?_;refine aK (fL _ (inl ?_));obtain⟨fa,aqM,h⟩:=an h;refine dh (b7 [(0,.slice (a0.map bJ)),(5,.slice (a0.map bJ)),(6,.int .i64 (a0.length:Int)),(7,.int .i64 fU),(51,.bool fa)] (λP bc=>?_) ?_)
        ·(try simp only[aE.down,simprocAttr]);refine dq (Z8 a0 R _ aqM) rfl rfl (by simp only[aE.down,simprocAttr,yx.down]<;>rfl) rfl (inr (by rfl)) ?_;simp only[aE.down,simprocAttr];exact bU trivial
        refine aD h (λAH h=>?_) λAH h=>?_
        .exact aN cN [.bool false]
        .refine aK (b2 _ (cE _ (inl (dr ?_))));exact dM _ (inr ⟨_,bE rfl,eL (i64.wrap (fU+1)) h⟩)
  .exact cS (bu 0 _ (aU 0 _ (bw _ (bF _ (inl (aN ak [.bool (decide ((a0.length:Int)<=6))]))))))
 exact dn h λn h=>e4 n 0 h
theorem Z9 (a0 r) (h:GI a0=some r):aZ ah 92 [.slice (a0.map aV)] (.bool r) []:=by
 refine bx [0] [.tmp 2] Tryz.func92 alE λbt ak bs=>aj ?_;refine ax ak λ_ bF bd ae=>aj ?_;refine bg bd λeP _ bR bw _=>?_;show bm ah (.loop ?eN) _ _;have e4:∀n fU,CT a0 n fU=some r->cL ah ?eN eP (ar [(0,.slice (a0.map aV)),(5,.slice (a0.map aV)),(6,.int .i64 (a0.length:Int)),(7,.int .i64 fU)]):=by
  refine cZ λ_ eL fU h=>cX bR λ_ dM cv aU=>aj ?_;refine ax cv λ_ dw _ bu=>aD h (λb1 h=>?_) λb1 h=>?_
  .refine aK (dw _ (inl (ax cv λ_ cE b9 _=>bg b9 λ_ b2 cN _ _=>?_)));obtain⟨R,dm,h⟩:=an h;refine c7 dm _ ?_;obtain⟨ae,dU,h⟩:=an h;rcases dO h with⟨ff,h⟩|⟨ff,h⟩
   .refine eU (hY ff) (mv R _ dU) _ ?_;refine jS rfl ?_;exact aN cN [.bool false]
   .rcases dO h with⟨mQ,h⟩|⟨mQ,h⟩
    .obtain⟨az,eG,h⟩:=an h;refine eU (U (cm ff) (U mQ eG)) (mv R _ dU) _ ?_;refine aD h (λhb h=>?_) λhb h=>?_
     .exact aN cN [.bool false]
     .refine aK (b2 _ (cE _ (inl (dr ?_))));exact dM _ (inr ⟨_,bE rfl,eL (i64.wrap (fU+1)) h⟩)
    .refine eU (U (cm ff) mQ) (mv R _ dU) _ ?_;refine ot rfl ?_;refine aK (b2 _ (cE _ (inl (dr ?_))));exact dM _ (inr ⟨_,bE rfl,eL (i64.wrap (fU+1)) h⟩)
  .exact cS (bu 0 _ (aU 0 _ (bw _ (bF _ (inl (aN ak [.bool (decide ((a0.length:Int)<=12))]))))))
 exact dn h λn h=>e4 n 0 h
theorem aqN (a0 r) (h:KE a0=some r):aZ ah 56 [fD a0] (.int .i64 r) []:=by
 refine bx [0] [.tmp 2] Tryz.func56 RC λbt ak bs=>aj ?_;refine ax ak λ_ bF bd ae=>bg bd λ_ eZ c_ _ az=>?_;obtain⟨R,cF,h⟩:=an h;refine cR (aqy a0.cI _ cF) _ ?_;refine aD h (λcP h=>?_) λcP h=>?_
 .exact aN c_ [.int .i64 1]
 .obtain⟨ae,h_,h⟩:=an h;rcases dO h with⟨e3,h⟩|⟨e3,h⟩
  .refine eU (hY e3) (jK (a0.b0.length:Int) 1 3 _ h_) _ ?_;refine jS rfl ?_;exact aN c_ [.int .i64 2]
  .obtain⟨az,dm,h⟩:=an h;refine dh (b7 [(1,.aM (fD a0)),(8,.bool az)] (λP bc=>?_) ?_)
   ·(try simp only[aE.down,simprocAttr,(cm e3)]);refine dq (jK (a0.b0.length:Int) 1 3 _ h_) (hK:= ?_);simp only[aE.down,simprocAttr,(cm e3)];refine g_ (aqF a0.b0 a0 _ dm) rfl rfl (by simp only[aE.down,simprocAttr,(cm e3),Lw.down]<;>rfl) rfl (inr (by rfl)) ?_;simp only[aE.down,simprocAttr,(cm e3)];exact bU (cm e3)
   refine aD h (λfi h=>?_) λfi h=>?_
   .exact aN c_ [.int .i64 2]
   .obtain⟨aY,cB,h⟩:=an h;refine cR (aqL a0.cb _ cB) _ ?_;refine aD h (λmQ h=>?_) λmQ h=>?_
    .exact aN c_ [.int .i64 3]
    .obtain⟨aU,gp,h⟩:=an h;refine cR (Z9 a0.cD _ gp) _ ?_;refine aD h (λvn h=>?_) λvn h=>?_
     .exact aN c_ [.int .i64 4]
     .obtain⟨bB,lP,h⟩:=an h;refine cR (Z9 a0.cA _ lP) _ ?_;refine aD h (λpO h=>?_) λpO h=>?_
      .exact aN c_ [.int .i64 5]
      .exact aK (eZ _ (bF _ (inl (aN ak [.int .i64 0]))))
theorem aqO (a0 r) (h:KF a0=some r):aZ ah 30 [fD a0] (.bool r) []:=by
 refine bx [0] [.tmp 2] Tryz.func30 alF λbt ak bs=>aj ?_;obtain⟨R,aS,h⟩:=an h;refine cR (aqN a0 _ aS) _ ?_;exact cM ak [.bool (R==0)]
theorem Z_:∀a c,th a c=Lib.indexByte a c
 |[],_=>rfl
 |a::x,c=>by simp only[th,Lib.indexByte,Z_ x c]
theorem aqP (a0:azq) (J:UInt8) (r:Int) (h:Qr a0 J=some r):aZ ah 245 [.str a0,.int .u8 J.toNat] (.int .i64 r) []:=by
 rw[show r=Lib.indexByte a0 J from(eE h).trans (Z_ _ _)];exact Xe Tryz.func245 (by kernel_rfl) (by kernel_rfl) (by kernel_rfl) (E:=Extern.BytealgIndexByte.indexByte) (by kernel_rfl) a0 J _ λw=>by
  rw[Lib.run_indexByteString,show((J.toNat:Int).toNat).toUInt8=J from by simp]
theorem aqQ (a0 J r) (h:Qs a0 J=some r):aZ ah 227 [.str a0,.int .u8 (J.toNat:Int)] (.int .i64 r) []:=by
 refine bx [0,1] [.tmp 4] Tryz.func227 c227 λbt ak bs=>aj ?_;obtain⟨R,aS,h⟩:=an h;refine cR (aqP a0 J _ aS) _ ?_;exact cM ak [.int .i64 R]
theorem aaa (a0 J r) (h:wC a0 J=some r):aZ ah 201 [.str a0,.str J] (.int .i64 r) []:=by
 refine bx [0,1] [.tmp 4] Tryz.func201 c201 λbt ak bs=>aj ?_;refine aj ?_;refine ax ak λ_ _ c_ _=>bg c_ λ_ _ bR _ _=>n5 ((J.length:Int)==0) [(0,.str a0),(1,.str J),(5,.int .i64 (J.length:Int)),(16,.bool (((J.length:Int)==0)||(J==a0)))] ?_;refine aD h (λcP h=>?_) λcP h=>?_
 .exact aN bR [.int .i64 0]
 .refine aj ?_;refine aD h (λe8 h=>?_) λe8 h=>?_
  .obtain⟨R,lz,h⟩:=an h;obtain⟨ae,dm,h⟩:=an h;refine eU lz (aqQ a0 R _ dm) _ ?_;exact cM bR [.int .i64 ae]
  .refine aj ?_;refine aD h (λiM h=>?_) λiM h=>?_
   .exact aN bR [.int .i64 (-1)]
   .cases h
theorem aqR (a0 J r) (h:KG a0 J=some r):aZ ah 171 [.str a0,.str J] (.tuple [.str r.1,.str r.2.1,.bool r.2.2]) []:=by
 refine bx [0,1] [.tmp 4,.tmp 5,.tmp 6] Tryz.func171 c171 λbt ak bs=>aj ?_;refine ax ak λ_ bF bd ae=>?_;obtain⟨R,cf,h⟩:=an h;refine cR (aaa a0 J _ cf) _ ?_;refine aj ?_;refine aD h (λcP h=>?_) λcP h=>?_
 .obtain⟨ae,gk,h⟩:=an h;obtain⟨az,h_,h⟩:=an h;refine pJ (U gk h_) _ ?_;exact cM bd [.str ae,.str az,.bool true]
 .exact aK (bF _ (inl (aN ak [.str a0,.str ([]:azq),.bool false])))
theorem aqS (a0 J r) (h:CU a0 J=some r):aZ ah 127 [.str a0,.str J] (.tuple [.str r.1,.str r.2.1,.bool r.2.2]) []:=by
 refine bx [0,1] [.tmp 4,.tmp 5,.tmp 6] Tryz.func127 c127 λbt ak bs=>aj ?_;obtain⟨R,aS,h⟩:=an h;refine cR (aqR a0 J _ aS) _ ?_;exact cM ak [.str R.1,.str R.2.1,.bool R.2.2]
theorem aqT (a0 J r) (h:KH a0 J=some r):aZ ah 207 [.str a0,.str J] (.bool r) []:=by
 refine bx [0,1] [.tmp 4] Tryz.func207 alG λbt ak bs=>aj ?_;rcases dO h with⟨f_,h⟩|⟨f_,h⟩
 .obtain⟨R,cf,h⟩:=an h;refine c7 (U f_ cf) _ ?_;exact cM ak [.bool (R==J)]
 .refine c7 f_ _ ?_;exact cM ak [.bool false]
theorem aqU (a0 J r) (h:KI a0 J=some r):aZ ah 174 [.str a0,.str J] (.str r) []:=by
 refine bx [0,1] [.tmp 4] Tryz.func174 alH λbt ak bs=>aj ?_;refine ax ak λ_ bF bd ae=>?_;obtain⟨R,cf,h⟩:=an h;refine cR (aqT a0 J _ cf) _ ?_;refine aD h (λdR h=>?_) λdR h=>?_
 .obtain⟨ae,cg,h⟩:=an h;refine c7 cg _ ?_;exact cM bd [.str ae]
 .exact aK (bF _ (inl (aN ak [.str a0])))
theorem aqV (a0 J r) (h:strings_TrimSuffix a0 J=some r):aZ ah 130 [.str a0,.str J] (.str r) []:=by
 refine bx [0,1] [.tmp 4] Tryz.func130 c130 λbt ak bs=>aj ?_;obtain⟨R,aS,h⟩:=an h;refine cR (aqU a0 J _ aS) _ ?_;exact cM ak [.str R]
theorem aqW (a0:azq) (J:UInt8) (r:Int) (h:Qt a0 J=some r):aZ ah 236 [.str a0,.int .u8 J.toNat] (.int .i64 r) []:=by
 rw[show r=((Lib.countByte a0 J:Nat):Int)from eE h];exact Xe Tryz.func236 (by kernel_rfl) (by kernel_rfl) (by kernel_rfl) (E:=Extern.BytealgCount.count) (by kernel_rfl) a0 J _ λw=>by
  rw[Lib.run_countString,show((J.toNat:Int).toNat).toUInt8=J from by simp]
theorem aab (a0 J r) (h:GJ a0 J=some r):aZ ah 206 [.str a0,.str J] (.int .i64 r) []:=by
 refine bx [0,1] [.tmp 4] Tryz.func206 c206 λbt ak bs=>aj ?_;obtain⟨R,aS,h⟩:=an h;refine cR (aaa a0 J _ aS) _ ?_;exact cM ak [.int .i64 R]
theorem aqX (a0 J r) (h:Qv a0 J=some r):aZ ah 205 [.str a0,.str J] (.int .i64 r) []:=by
 refine bx [1] [.tmp 4] Tryz.func205 alI λbt ak bs=>aj ?_;refine ax ak λ_ bF _ ae=>aj ?_;refine aD h (λbw h=>?_) λbw h=>?_
 .cases h
 .refine aK (bF _ (inl (ax ak λ_ cG cU _=>aj ?_)));refine aD h (λb1 h=>?_) λb1 h=>?_
  .obtain⟨R,iU,h⟩:=an h;obtain⟨ae,lz,h⟩:=an h;refine eU iU (aqW a0 R _ lz) _ ?_;exact cM cU [.int .i64 ae]
  .refine aK (cG _ (inl (aj ?_)));refine bg ak λSu _ fJ _ _=>?_;show bm ah (.loop ?c21) _ _;have aqY:∀n u1 u2,Qu J n u1 u2=some r->cL ah ?c21 Su (ar [(0,.str u1),(1,.str J),(5,.int .i64 u2)]):=by
    refine cZ λ_ aqZ u1 u2 h=>cX fJ λ_ eO et _=>bg et λ_ gb gJ _ _=>?_;obtain⟨az,dP,h⟩:=an h;refine cR (aab u1 J _ dP) _ ?_;refine ax gJ λ_ r9 wW _=>aj ?_;refine aD h (λgw h=>?_) λgw h=>?_
    .exact aN wW [.int .i64 u2]
    .refine aK (r9 _ (inl (aj ?_)));obtain⟨aY,lP,h⟩:=an h;refine rZ lP _ ?_;exact gb _ (eO _ (inr ⟨_,bE rfl,aqZ aY (i64.wrap (u2+1)) h⟩))
   exact dn h λn h=>aqY n a0 0 h
theorem aq0 (a0 J a2 a3 r) (h:Qx a0 J a2 a3=some r):aZ ah 173 [.str a0,.str J,.int .i64 a2,.int .i64 a3] (.ag 1 (r.map aV)) []:=by
 refine bx [1,2] [.tmp 8] Tryz.func173 c173 λbt ak bs=>aj ?_;refine ax ak λ_ bF bd ae=>aj ?_;refine aD h (λbw h=>?_) λbw h=>?_
 .refine aj ?_;exact gr (bd _ (inr ⟨[(8,.ag 1 [])],hf [] rfl (ha (t:=8) (d:=.bf) rfl rfl (.ix _) (by decide) (hh)),nZ [.ag 1 []]⟩))
 .refine aK (bF _ (inl (ax ak λ_ cG _ bB=>aj ?_)));refine aD h (λb1 h=>?_) λb1 h=>?_
  .cases h
  .refine aK (cG _ (inl ?_));show bm ah (.seq _ ?c24) _ _;have yH:∀ka,KJ a0 J a2 ka=some r->bm ah ?c24 bt (ar [(0,.str a0),(1,.str J),(2,.int .i64 a2),(3,.int .i64 ka)]):=by
    intro ka h;refine c7 (U @Xp @agM) _ ?_;obtain⟨ay6,ed,h⟩:=an h;refine r0 (U (q7 ed) @List.map_replicate.{0,0}) [(0,.str a0),(1,.str J),(2,.int .i64 a2),(3,.int .i64 (k4 false ka (i64.wrap ((a0.length:Int)+1)))),(9,.ag 1 ((List.replicate (Int.toNat (k4 false ka (i64.wrap ((a0.length:Int)+1)))) ([]:azq)).map aV))] ?_;refine ws [(0,.str a0),(1,.str J),(2,.int .i64 a2),(3,.int .i64 (i64.wrap ((k4 false ka (i64.wrap ((a0.length:Int)+1)))-1))),(9,.ag 1 ((List.replicate (Int.toNat (k4 false ka (i64.wrap ((a0.length:Int)+1)))) ([]:azq)).map aV))] ?_;refine ws [(0,.str a0),(1,.str J),(2,.int .i64 a2),(3,.int .i64 (i64.wrap ((k4 false ka (i64.wrap ((a0.length:Int)+1)))-1))),(9,.ag 1 ((List.replicate (Int.toNat (k4 false ka (i64.wrap ((a0.length:Int)+1)))) ([]:azq)).map aV)),(10,.int .i64 0)] ?_;show bm ah (.seq _ ?Rz) _ _;have aac:∀CV Ab wD,GK a0 J a2 ka CV Ab wD=some r->bm ah ?Rz bt (ar [(0,.str CV),(1,.str J),(2,.int .i64 a2),(3,.int .i64 (i64.wrap ((k4 false ka (i64.wrap ((a0.length:Int)+1)))-1))),(9,.ag 1 (Ab.map aV)),(10,.int .i64 wD)]):=by
     intro CV Ab wD h;obtain⟨R,eG,h⟩:=an h;refine dh (b7 [(9,.ag 1 ((List.set Ab (Int.toNat wD) CV).map aV)),(10,.int .i64 wD)] (λP bc=>?_) ?_)
     .simp only[aE.down,simprocAttr,eG,ca eG,cW,de];exact bU (U eG (U (ca eG) @cW))
     obtain⟨ae,gp,h⟩:=an h;refine dh (b7 [(8,.ag 1 (ae.map aV))] (λP bc=>?_) ?_)
     .simp only[aE.down,simprocAttr,gp,Zr.down,x7];(try simp only[jg.down,simprocAttr,gp,Zr.down,x7]at bc⊢);exact bc
     exact cM ak [.ag 1 (ae.map aV)]
    refine ax ak λ_ lO n6 _=>bg n6 λaq1 _ vo vn _=>?_;show bm ah (.loop ?Hl) _ _;have R_:∀n o2 n1 lL,Ac a0 J a2 ka n o2 n1 lL=some r->cL ah ?Hl aq1 (ar [(0,.str o2),(1,.str J),(2,.int .i64 a2),(3,.int .i64 (i64.wrap ((k4 false ka (i64.wrap ((a0.length:Int)+1)))-1))),(9,.ag 1 (n1.map aV)),(10,.int .i64 lL)]):=by
     refine cZ λ_ Sa o2 n1 lL h=>cX vo λ_ oK n7 mN=>ax n7 λ_ HD _ lK=>aj ?_;refine aD h (λpO h=>?_) λpO h=>?_
     .refine aK (HD _ (inl (bg n7 λ_ tt tu _ rF=>?_)));obtain⟨az,yG,h⟩:=an h;refine cR (aab o2 J _ yG) _ ?_;refine ax tu λ_ r6 _ Hs=>aj ?_;refine aD h (λhj h=>?_) λhj h=>?_
      .exact cS (Hs 0 _ (rF 0 _ (by decide) (mN 0 _ (vn _ (lO _ (inr ⟨_,bE rfl,aac o2 n1 lL h⟩))))))
      .refine aK (r6 _ (inl ?_));obtain⟨aY,o7,h⟩:=an h;obtain⟨aU,jI,h⟩:=an h;refine dh (b7 [(0,.str o2),(1,.str J),(2,.int .i64 a2),(3,.int .i64 (i64.wrap ((k4 false ka (i64.wrap ((a0.length:Int)+1)))-1))),(9,.ag 1 ((List.set n1 (Int.toNat lL) aY).map aV)),(10,.int .i64 lL),(11,.int .i64 az)] (λP bc=>?_) ?_)
       .simp only[aE.down,simprocAttr,o7,jI,ca jI,cW,de,(show(List.map aV n1).set (Int.toNat lL) (.str aY)=List.map aV (List.set n1 (Int.toNat lL) aY)from(List.map_set ..).symm)];exact bU (U o7 (U jI (U (ca jI) @cW)))
       obtain⟨bB,pN,h⟩:=an h;refine c7 pN [(0,.str bB),(1,.str J),(2,.int .i64 a2),(3,.int .i64 (i64.wrap ((k4 false ka (i64.wrap ((a0.length:Int)+1)))-1))),(9,.ag 1 ((List.set n1 (Int.toNat lL) aY).map aV)),(10,.int .i64 lL)] ?_;refine wr [(0,.str bB),(1,.str J),(2,.int .i64 a2),(3,.int .i64 (i64.wrap ((k4 false ka (i64.wrap ((a0.length:Int)+1)))-1))),(9,.ag 1 ((List.set n1 (Int.toNat lL) aY).map aV)),(10,.int .i64 (i64.wrap (lL+1)))] ?_;exact tt _ (oK _ (inr ⟨_,bE rfl,Sa bB (List.set n1 (Int.toNat lL) aY) (i64.wrap (lL+1)) h⟩))
     .exact cS (lK 0 _ (mN 0 _ (vn _ (lO _ (inr ⟨_,bE rfl,aac o2 n1 lL h⟩)))))
    exact dn h λn h=>R_ n a0 (List.replicate (Int.toNat (k4 false ka (i64.wrap ((a0.length:Int)+1)))) ([]:azq)) 0 h
   refine ax ak λ_ b2 _ _=>aj ?_;refine aD h (λAN h=>?_) λAN h=>?_
   .obtain⟨bu,aq2,h⟩:=an h;refine Zk (aqX a0 J _ aq2) _ ?_;exact b2 _ (inr ⟨_,bE rfl,yH (i64.wrap (bu+1)) h⟩)
   .exact aK (b2 _ (inr ⟨_,bE rfl,yH a3 h⟩))
theorem aq3 (a0 J r) (h:KK a0 J=some r):aZ ah 129 [.str a0,.str J] (.ag 1 (r.map aV)) []:=by
 refine bx [0,1] [.tmp 4] Tryz.func129 alJ λbt ak bs=>aj ?_;obtain⟨R,aS,h⟩:=an h;refine cR (aq0 a0 J 0 (-1) _ aS) _ ?_;exact cM ak [.ag 1 (R.map aV)]
theorem aq4 (a0:azq) (r:Int×Bool) (h:KL a0=some r):aZ ah 172 [.str a0] (.tuple [.int .i64 r.1,.bool r.2]) []:=ani a0 r h
theorem aq5 (a0 r) (h:KM a0=some r):aZ ah 128 [.slice (a0.map aV)] (.tuple [.ag 1 (r.1.map bb),.bool r.2]) []:=by
 refine bx [0] [.tmp 2,.tmp 3] Tryz.func128 alK λbt ak bs=>aj ?_;refine aj ?_;refine ax ak λ_ eZ c_ _=>aj ?_;refine bg c_ λoL _ cv dR _=>?_;show bm ah (.loop ?hd) _ _;have hL:∀n bL rM,CW a0 n bL rM=some r->cL ah ?hd oL (ar [(4,.ag 1 (bL.map bb)),(9,.slice (a0.map aV)),(10,.int .i64 (a0.length:Int)),(11,.int .i64 rM)]):=by
  refine cZ λ_ hM bL rM h=>cX cv λ_ cG cU bB=>aj ?_;refine ax cU λ_ ig _ cy=>aD h (λe8 h=>?_) λe8 h=>?_
  .refine aK (ig _ (inl (ax cU λ_ b2 cN _=>bg cN λ_ ez hN _ _=>?_)));obtain⟨R,ed,h⟩:=an h;refine c7 ed _ ?_;obtain⟨ae,d_,h⟩:=an h;refine cR (aq4 R _ d_) _ ?_;refine ax hN λ_ lO n6 _=>aj ?_;refine aD h (λij h=>?_) λij h=>?_
   .refine aj ?_;exact gr (n6 _ (inr ⟨[(2,.ag 1 []),(3,.bool false)],hf [] rfl (ha (t:=2) (d:=.bf) rfl rfl (.ix _) (by decide) (cz rfl (hh))),nZ [.ag 1 [],.bool false]⟩))
   .refine aK (lO _ (inl ?_));obtain⟨ao2,gT,h⟩:=an h;(try simp only[fM.down,Nat.zero_add,Nat.add_zero,reduceAdd]at gT);refine rZ (U (show∀s,eh ah s 69 1 [(0,.int .i64 ae.1)]=some (.ag 1 [.int .i64 ae.1],s)from λs=>by kernel_rfl) (U (@kD ah 69 69 2 rfl rfl) (U @kE (U @kF (U @gQ (U @all_cons (U @all_nil (U gT (@j6 _ bb 1 λ_=>rfl))))))))) [(4,.ag 1 ((bL++[ae.1]).map bb)),(9,.slice (a0.map aV)),(10,.int .i64 (a0.length:Int)),(11,.int .i64 rM)] ?_;refine ez _ (b2 _ (inl (wr [(4,.ag 1 ((bL++[ae.1]).map bb)),(9,.slice (a0.map aV)),(10,.int .i64 (a0.length:Int)),(11,.int .i64 (i64.wrap (rM+1)))] ?_)));exact cG _ (inr ⟨_,bE rfl,hM (bL++[ae.1]) (i64.wrap (rM+1)) h⟩)
  .exact cS (cy 0 _ (bB 0 _ (dR _ (eZ _ (inl (aN ak [.ag 1 (bL.map bb),.bool true]))))))
 obtain⟨n,h⟩:=l_ h;exact p7 (inr ⟨_,hf [] rfl (ha (t:=4) (d:=.bf) (bT:=.ag 1 []) rfl rfl (.ix _) (by decide) (cz (t:=9) (d:=.slice (a0.map aV)) rfl (cz (t:=10) (d:=.int .i64 (a0.length:Int)) rfl (cz (t:=11) (d:=.int .i64 0) rfl (hh))))),hL n [] 0 h⟩)
theorem aq6 (a0 J:Int) (r:azq) (h:CX a0 J=some r):aZ ah 177 [.int .i64 a0,.int .i64 J] (.str r) []:=am6 a0 J r h
theorem AU (a0 r) (h:rN a0=some r):aZ ah 135 [.int .i64 a0] (.str r) []:=by
 refine bx [0] [.tmp 2] Tryz.func135 alL λbt ak bs=>aj ?_;obtain⟨R,aS,h⟩:=an h;refine cR (aq6 a0 10 _ aS) _ ?_;exact cM ak [.str R]
theorem aad (a0:azp) (J:azq) (r:azq) (h:strings_Join a0 J=some r):aZ ah 179 [.slice (a0.map aV),.str J] (.str r) []:=am7 a0 J r h
theorem aae (a0 J r) (h:Ad a0 J=some r):aZ ah 175 [.slice (a0.map bb),.str J] (.str r) []:=by
 refine bx [0,1] [.tmp 4] Tryz.func175 c175 λbt ak bs=>aj ?_;obtain⟨Si,aS,h⟩:=an h;refine r0 (U (q7 aS) @List.map_replicate.{0,0}) [(0,.slice (a0.map bb)),(1,.str J),(5,.ag 1 ((List.replicate (Int.toNat (a0.length:Int)) ([]:azq)).map aV))] ?_;refine ax ak λ_ fj bR aY=>ws [(1,.str J),(5,.ag 1 ((List.replicate (Int.toNat (a0.length:Int)) ([]:azq)).map aV)),(11,.slice (a0.map bb)),(12,.int .i64 (a0.length:Int)),(13,.int .i64 0)] ?_;refine bg bR λjh _ cU cP _=>?_;show bm ah (.loop ?hd) _ _;have hL:∀n fK oB,CY a0 J n fK oB=some r->cL ah ?hd jh (ar [(1,.str J),(5,.ag 1 (fK.map aV)),(11,.slice (a0.map bb)),(12,.int .i64 (a0.length:Int)),(13,.int .i64 oB)]):=by
  refine cZ λ_ hM fK oB h=>cX cU λ_ dw ev bu=>aj ?_;refine ax ev λ_ cE _ dE=>aD h (λe3 h=>?_) λe3 h=>?_
  .refine aK (cE _ (inl (ax ev λ_ ez hN _=>bg hN λ_ gU _ _ _=>?_)));obtain⟨R,dU,h⟩:=an h;refine c7 dU _ ?_;obtain⟨ae,cB,h⟩:=an h;obtain⟨az,dP,h⟩:=an h;refine iy (b7 [(1,.str J),(5,.ag 1 ((List.set fK (Int.toNat oB) ae).map aV)),(11,.slice (a0.map bb)),(12,.int .i64 (a0.length:Int)),(13,.int .i64 oB)] (λP bc=>?_) ?_)
   ·(try simp only[aE.down,simprocAttr,dP,ca dP,cW,de]);refine dq (AU R _ cB) (hK:= ?_);simp only[aE.down,simprocAttr,dP,ca dP,cW,de];exact bU (U dP (U (ca dP) @cW))
   refine gU _ (ez _ (inl (wr [(1,.str J),(5,.ag 1 ((List.set fK (Int.toNat oB) ae).map aV)),(11,.slice (a0.map bb)),(12,.int .i64 (a0.length:Int)),(13,.int .i64 (i64.wrap (oB+1)))] ?_)));exact dw _ (inr ⟨_,bE rfl,hM (List.set fK (Int.toNat oB) ae) (i64.wrap (oB+1)) h⟩)
  .refine cS (dE 0 _ (bu 0 _ (cP _ (fj _ (inl ?_)))));obtain⟨aY,gp,h⟩:=an h;refine dh (b7 [(4,.str aY)] (λP bc=>?_) ?_)
   ·(try simp only[aE.down,simprocAttr]);refine dq (aad fK J _ gp) rfl rfl (by simp only[aE.down,simprocAttr,RO.down]<;>rfl) rfl (inr (by rfl)) ?_;simp only[aE.down,simprocAttr];exact bU trivial
   exact cM ak [.str aY]
 exact dn h λn h=>hL n (List.replicate (Int.toNat (a0.length:Int)) ([]:azq)) 0 h
theorem LY (a0 J r) (h:wE a0 J=some r):aZ ah 131 [.str a0,.slice (J.map bb)] (.tuple [.str r.1,.bool r.2]) []:=by
 refine bx [0,1] [.tmp 4,.tmp 5] Tryz.func131 c131 λbt ak bs=>aj ?_;refine ax ak λ_ bF bd ae=>bg bd λ_ eZ c_ _ az=>aj ?_;refine aD h (λdR h=>?_) λdR h=>?_
 .exact aN c_ [.str ([116,97,117]:azq),.bool ((J.length:Int)==0)]
 .obtain⟨ae,h_,h⟩:=an h;rcases dO h with⟨e3,h⟩|⟨e3,h⟩
  .refine eU (hY e3) (mv a0 _ h_) _ ?_;refine jS rfl ?_;exact aN c_ [.str ([]:azq),.bool false]
  .rcases dO h with⟨fk,h⟩|⟨fk,h⟩
   .refine eU (U (cm e3) fk) (mv a0 _ h_) _ ?_;refine jS rfl ?_;exact aN c_ [.str ([]:azq),.bool false]
   .obtain⟨az,dU,h⟩:=an h;refine dh (b7 [(0,.str a0),(1,.slice (J.map bb)),(12,.bool (!az))] (λP bc=>?_) ?_)
    ·(try simp only[aE.down,simprocAttr,(cm e3),fk]);refine dq (mv a0 _ h_) (hK:= ?_);simp only[aE.down,simprocAttr,(cm e3),fk];refine g_ (Z6 J _ dU) (hK:= ?_);simp only[aE.down,simprocAttr,(cm e3),fk];exact bU (U (cm e3) fk)
    refine aD h (λff h=>?_) λff h=>?_
    .exact aN c_ [.str ([]:azq),.bool false]
    .refine aj ?_;refine aD h (λij h=>?_) λij h=>?_
     .exact aN c_ [.str a0,.bool true]
     .refine aK (eZ _ (bF _ (inl ?_)));obtain⟨aaf,gT,h⟩:=an h;(try simp only[fM.down,Nat.zero_add,Nat.add_zero,reduceAdd]at gT);obtain⟨aY,fl,h⟩:=an h;obtain⟨aaf,iD,h⟩:=an h;(try simp only[fM.down,Nat.zero_add,Nat.add_zero,reduceAdd]at iD);obtain⟨aaf,lP,h⟩:=an h;(try simp only[fM.down,Nat.zero_add,Nat.add_zero,reduceAdd]at lP);refine eU (U gT (U @vX (U @vY (U iD lP)))) (aae J ([44]:azq) _ fl) [(4,.str (((a0++([40]:azq))++aY)++([41]:azq))),(5,.bool true)] ?_;exact cM ak [.str (((a0++([40]:azq))++aY)++([41]:azq)),.bool true]
theorem LZ (a0 r) (h:u4 a0=some r):aZ ah 97 [.str a0] (.tuple [.str r.1,.ag 1 (r.2.1.map bb),.bool r.2.2]) []:=by
 refine bx [0] [.tmp 2,.tmp 3,.tmp 4] Tryz.func97 alO λbt ak bs=>aj ?_;obtain⟨R,aS,h⟩:=an h;refine cR (aqS a0 ([40]:azq) _ aS) _ ?_;refine aj ?_;have wQ:∀u3,Ae a0 R u3=some r->bm ah Y4 bt (ar [(0,.str a0),(5,.str R.1),(8,.ag 1 (u3.map bb))]):=by
  intro u3 h;refine ax ak λ_ cG cU _=>?_;obtain⟨ae,gk,h⟩:=an h;refine dh (b7 [(0,.str a0),(5,.str R.1),(8,.ag 1 (u3.map bb)),(10,.str ae.1),(11,.bool ae.2)] (λP bc=>?_) ?_)
  ·(try simp only[aE.down,simprocAttr]);refine dq (LY R.1 u3 _ gk) rfl rfl (by simp only[aE.down,simprocAttr,Lv.down]<;>rfl) rfl (inr (by rfl)) ?_;simp only[aE.down,simprocAttr];exact bU trivial
  refine n5 (ae.2) [(5,.str R.1),(8,.ag 1 (u3.map bb)),(40,.bool ((!ae.2)||(!(ae.1==a0))))] ?_;refine aD h (λe3 h=>?_) λe3 h=>?_
  .refine aj ?_;exact gr (cU _ (inr ⟨[(2,.str ([]:azq)),(3,.ag 1 []),(4,.bool false)],hf [] rfl (cz rfl (ha (t:=3) (d:=.bf) rfl rfl (.ix _) (by decide) (cz rfl (hh)))),nZ [.str ([]:azq),.ag 1 [],.bool false]⟩))
  .exact aK (cG _ (inl (aN ak [.str R.1,.ag 1 (u3.map bb),.bool true])))
 refine ax ak λ_ dM cv aU=>aj ?_;refine aD h (λiM h=>?_) λiM h=>?_
 .refine aj ?_;obtain⟨az,dP,h⟩:=an h;obtain⟨aY,eG,h⟩:=an h;obtain⟨aU,fb,h⟩:=an h;refine dh (b7 [(0,.str a0),(5,.str R.1),(8,.ag 1 (aU.1.map bb)),(9,.bool aU.2)] (λP bc=>?_) ?_)
  ·(try simp only[aE.down,simprocAttr]);refine dq (aqV R.2.1 ([41]:azq) _ dP) (hK:= ?_);simp only[aE.down,simprocAttr];refine dq (aq3 az ([44]:azq) _ eG) (hK:= ?_);simp only[aE.down,simprocAttr];refine dq (aq5 aY _ fb) rfl rfl (by simp only[aE.down,simprocAttr,RO.down]<;>rfl) rfl (inr (by simp only[I.dc,I.gN, @j5 _ bb (λ_=>Lh _),Bool.and_self])) ?_;simp only[aE.down,simprocAttr];exact bU trivial
  refine aj ?_;refine aD h (λvn h=>?_) λvn h=>?_
  .refine aj ?_;exact gr (cv _ (inr ⟨[(2,.str ([]:azq)),(3,.ag 1 []),(4,.bool false)],hf [] rfl (cz rfl (ha (t:=3) (d:=.bf) rfl rfl (.ix _) (by decide) (cz rfl (hh)))),nZ [.str ([]:azq),.ag 1 [],.bool false]⟩))
  .exact aK (dM _ (inr ⟨_,bE rfl,wQ aU.1 h⟩))
 .exact aK (dM _ (inr ⟨_,hf [] rfl (cz (t:=0) (d:=.str a0) rfl (cz (t:=5) (d:=.str R.1) rfl (ha (t:=8) (d:=.bf) (bT:=.ag 1 []) rfl rfl (.ix _) (by decide) (hh)))),wQ [] h⟩))
theorem aq7 (a0 r) (h:Af a0=some r):aZ ah 94 [.str a0] (.bool r) []:=by
 refine bx [0] [.tmp 2] Tryz.func94 alP λbt ak bs=>aj ?_;obtain⟨R,aS,h⟩:=an h;refine cR (LZ a0 _ aS) _ ?_;exact aN ak [.bool R.2.2]
theorem aq8 (a0 r) (h:KN a0=some r):aZ ah 59 [eY a0] (.bool r) []:=by
 refine bx [0] [.tmp 2] Tryz.func59 c59 λbt ak bs=>aj ?_;obtain⟨R,aS,h⟩:=an h;rcases dO h with⟨bw,h⟩|⟨bw,h⟩
 .obtain⟨ae,cF,h⟩:=an h;rcases dO h with⟨cP,h⟩|⟨cP,h⟩
  .obtain⟨az,cg,h⟩:=an h;rcases dO h with⟨b1,h⟩|⟨b1,h⟩
   .obtain⟨aY,h_,h⟩:=an h;refine dh (b7 [(2,.bool aY)] (λP bc=>?_) ?_)
    ·(try simp only[aE.down,simprocAttr,bw,cP,b1]);refine dq (jK a0.Choice 0 199 _ aS) (hK:= ?_);simp only[aE.down,simprocAttr,bw,cP,b1];refine g_ (jK a0.ef 0 2 _ cF) (hK:= ?_);simp only[aE.down,simprocAttr,bw,cP,b1];refine g_ (jK a0.Second (-1) 2 _ cg) (hK:= ?_);simp only[aE.down,simprocAttr,bw,cP,b1];refine g_ (aq7 a0.Label _ h_) (hK:= ?_);simp only[aE.down,simprocAttr,bw,cP,b1];exact bU (U bw (U cP b1))
    exact cM ak [.bool aY]
   .refine dh (b7 [(2,.bool false)] (λP bc=>?_) ?_)
    ·(try simp only[aE.down,simprocAttr,bw,cP,b1]);refine dq (jK a0.Choice 0 199 _ aS) (hK:= ?_);simp only[aE.down,simprocAttr,bw,cP,b1];refine g_ (jK a0.ef 0 2 _ cF) (hK:= ?_);simp only[aE.down,simprocAttr,bw,cP,b1];refine g_ (jK a0.Second (-1) 2 _ cg) (hK:= ?_);simp only[aE.down,simprocAttr,bw,cP,b1];exact bU (U bw (U cP b1))
    exact cM ak [.bool false]
  .refine dh (b7 [(2,.bool false)] (λP bc=>?_) ?_)
   ·(try simp only[aE.down,simprocAttr,bw,cP]);refine dq (jK a0.Choice 0 199 _ aS) (hK:= ?_);simp only[aE.down,simprocAttr,bw,cP];refine g_ (jK a0.ef 0 2 _ cF) (hK:= ?_);simp only[aE.down,simprocAttr,bw,cP];exact bU (U bw cP)
   exact cM ak [.bool false]
 .refine eU bw (jK a0.Choice 0 199 _ aS) _ ?_;exact cM ak [.bool false]
theorem aq9 (a0 r) (h:QA a0=some r):aZ ah 58 [eY a0] (.bool r) []:=by
 refine bx [0] [.tmp 2] Tryz.func58 alQ λbt ak bs=>aj ?_;obtain⟨R,aS,h⟩:=an h;refine cR (aq8 a0 _ aS) _ ?_;exact cM ak [.bool (!R)]
theorem aq_ (a0 r) (h:QC a0=some r):aZ ah 93 [.slice (a0.map eY),.fn 58 []] (.int .i64 r) []:=by
 refine bx [0,1] [.tmp 4] Tryz.func93 c93 λbt ak bs=>aj ?_;refine ax ak λ_ bF bd ae=>aj ?_;refine bg bd λeP _ bR bw _=>?_;show bm ah (.loop ?eN) _ _;have e4:∀n cK,CZ a0 n cK=some r->cL ah ?eN eP (ar [(0,.slice (a0.map eY)),(1,.fn 58 []),(7,.int .i64 (a0.length:Int)),(8,.int .i64 cK)]):=by
  refine cZ λ_ eL cK h=>cX bR λ_ dM cv aU=>aj ?_;refine ax cv λ_ dw _ bu=>aD h (λb1 h=>?_) λb1 h=>?_
  .refine aK (dw _ (inl (ax cv λ_ cE b9 _=>bg b9 λ_ b2 cN _ _=>aj ?_)));obtain⟨R,ed,h⟩:=an h;obtain⟨ae,dU,h⟩:=an h;refine eU ed (aq9 R _ dU) _ ?_;refine aD h (λff h=>?_) λff h=>?_
   .exact aN cN [.int .i64 cK]
   .refine aK (b2 _ (cE _ (inl (dr ?_))));exact dM _ (inr ⟨_,bE rfl,eL (i64.wrap (cK+1)) h⟩)
  .exact cS (bu 0 _ (aU 0 _ (bw _ (bF _ (inl (aN ak [.int .i64 (-1)]))))))
 exact dn h λn h=>e4 n 0 h
theorem ara (a0 r) (h:QD a0=some r):aZ ah 57 [.slice (a0.map eY),.fn 58 []] (.bool r) []:=by
 refine bx [0,1] [.tmp 4] Tryz.func57 alR λbt ak bs=>aj ?_;obtain⟨R,aS,h⟩:=an h;refine cR (aq_ a0 _ aS) _ ?_;exact cM ak [.bool (decide (0<=R))]
theorem arb (a0 r) (h:KO a0=some r):aZ ah 31 [.slice (a0.map eY)] (.bool r) []:=by
 refine bx [0] [.tmp 2] Tryz.func31 c31 λbt ak bs=>aj ?_;rcases dO h with⟨f_,h⟩|⟨f_,h⟩
 .obtain⟨R,cf,h⟩:=an h;refine eU f_ (ara a0 _ cf) _ ?_;exact cM ak [.bool (!R)]
 .refine c7 f_ _ ?_;exact cM ak [.bool false]
theorem L0 (a0 r) (h:wF a0=some r):aZ ah 95 [.slice (a0.map bb)] (.ag 1 (r.map bb)) []:=by
 refine bx [0] [.tmp 2] Tryz.func95 alS λbt ak bs=>aj ?_;refine ax ak λ_ bF bd _=>?_;rcases dO h with⟨bw,h⟩|⟨bw,h⟩
 .refine dh (b7 [(0,.slice (a0.map bb)),(4,.gx)] (λP bc=>?_) ?_)
  .simp only[aE.down,simprocAttr,Jg,(Xh bw),Jh];exact bU (U @Jg (U (Xh bw) @Jh))
  obtain⟨b6,h⟩:=acV h;refine agp rfl ?_ ?_
  .replace h:=b6;refine aj ?_;exact gr (bd _ (inr ⟨[(2,.ag 1 [])],hf [] rfl (ha (t:=2) (d:=.bf) rfl rfl (.ix _) (by decide) (hh)),nZ [.ag 1 []]⟩))
  .refine aK (bF _ (inl ?_));obtain⟨u8,gk,h⟩:=an h;(try simp only[fM.down,Nat.zero_add,Nat.add_zero,reduceAdd]at gk);refine c7 (U (show∀s,eh ah s 69 0 []=some (.ag 1 [],s)from λs=>by kernel_rfl) (U (@kD ah 69 69 2 rfl rfl) (U @kE (U @kF (U @gQ (U @all_cons (U @all_nil (U gk (@j6 _ bb 1 λ_=>rfl))))))))) _ ?_;exact cM ak [.ag 1 (a0.map bb)]
 .refine dh (b7 [(0,.slice (a0.map bb)),(4,.bool false)] (λP bc=>?_) ?_)
  .simp only[aE.down,simprocAttr,Jg,(Xi bw),Jh];exact bU (U @Jg (U (Xi bw) @Jh))
  refine ot rfl ?_;refine aK (bF _ (inl ?_));obtain⟨DM,iU,h⟩:=an h;(try simp only[fM.down,Nat.zero_add,Nat.add_zero,reduceAdd]at iU);refine c7 (U (show∀s,eh ah s 69 0 []=some (.ag 1 [],s)from λs=>by kernel_rfl) (U (@kD ah 69 69 2 rfl rfl) (U @kE (U @kF (U @gQ (U @all_cons (U @all_nil (U iU (@j6 _ bb 1 λ_=>rfl))))))))) _ ?_;exact cM ak [.ag 1 (a0.map bb)]
theorem arc (a0 r) (h:KP a0=some r):aZ ah 60 [fD a0] (.ag 3 (r.map dT)) []:=by
 refine bx [0] [.tmp 2] Tryz.func60 alT λbt ak bs=>aj ?_;refine aj ?_;refine ax ak λ_ eZ c_ _=>aj ?_;refine bg c_ λoL _ cv dR _=>?_;show bm ah (.loop ?hd) _ _;have hL:∀n bP rO,C0 a0 n bP rO=some r->cL ah ?hd oL (ar [(3,.ag 3 (bP.map dT)),(7,.slice (a0.b0.map db)),(8,.int .i64 (a0.b0.length:Int)),(9,.int .i64 rO)]):=by
  refine cZ λ_ hM bP rO h=>cX cv λ_ cG cU bB=>aj ?_;refine ax cU λ_ ig _ cy=>aD h (λe8 h=>?_) λe8 h=>?_
  .refine aK (ig _ (inl (ax cU λ_ b2 cN _=>bg cN λ_ ez _ _ _=>?_)));obtain⟨R,ed,h⟩:=an h;refine c7 ed _ ?_;obtain⟨ae,d_,h⟩:=an h;obtain⟨DH,cB,h⟩:=an h;(try simp only[fM.down,Nat.zero_add,Nat.add_zero,reduceAdd]at cB);refine Ft rfl (jr [(3,.ag 3 ((bP++[(ba.mk R.cJ 0 ae)]).map dT)),(7,.slice (a0.b0.map db)),(8,.int .i64 (a0.b0.length:Int)),(9,.int .i64 rO)] (λP bc=>?_) ?_)
   ·(try simp only[dA.down,simprocAttr,wO.down,dZ,dB,lX,cB]);refine iz (L0 R.b5 _ d_) (hK:= ?_);simp only[dA.down,simprocAttr,wO.down,dZ,dB,lX,cB];refine⟨iA (by kernel_rfl),?_⟩;(try simp only[jg.down,simprocAttr,wO.down,dZ,dB,lX,cB]at bc⊢);exact bc
   refine ez _ (b2 _ (inl (wr [(3,.ag 3 ((bP++[(ba.mk R.cJ 0 ae)]).map dT)),(7,.slice (a0.b0.map db)),(8,.int .i64 (a0.b0.length:Int)),(9,.int .i64 (i64.wrap (rO+1)))] ?_)));exact cG _ (inr ⟨_,bE rfl,hM (bP++[(ba.mk R.cJ 0 ae)]) (i64.wrap (rO+1)) h⟩)
  .exact cS (cy 0 _ (bB 0 _ (dR _ (eZ _ (inl (aN ak [.ag 3 (bP.map dT)]))))))
 obtain⟨n,h⟩:=l_ h;exact p7 (inr ⟨_,hf [] rfl (ha (t:=3) (d:=.bf) (bT:=.ag 3 []) rfl rfl (.ix _) (by decide) (cz (t:=7) (d:=.slice (a0.b0.map db)) rfl (cz (t:=8) (d:=.int .i64 (a0.b0.length:Int)) rfl (cz (t:=9) (d:=.int .i64 0) rfl (hh))))),hL n [] 0 h⟩)
theorem ard (u5:azI->Option (bY×(List dD)×azI)) (arf:∀a0 r,u5 a0=some r->aZ ah 224 [.slice (a0.map ea)] (.tuple [.aM (.agg [ea r.1,.ag 1 (r.2.1.map l4)]),.slice (r.2.2.map ea)]) []) (a0 r) (h:QG u5 a0=some r):aZ ah 224 [.slice (a0.map ea)] (.tuple [.aM (.agg [ea r.1,.ag 1 (r.2.1.map l4)]),.slice (r.2.2.map ea)]) []:=by
 refine bx [0] [.tmp 2,.tmp 3] Tryz.func224 alU λbt ak bs=>aj ?_;obtain⟨R,aS,h⟩:=an h;refine c7 (U aS (show∀s,gH ah s 283 [(0,.agg [.int .i64 R.Kind,.int .i64 R.Value])]=some (.agg [.agg [.int .i64 R.Kind,.int .i64 R.Value],.bf],s)from λs=>by kernel_rfl)) _ ?_;obtain⟨ae,cF,h⟩:=an h;refine c7 (U cF (@j6 _ ea 2 λ_=>rfl)) _ ?_;refine ax ak λ_ cG cU _=>?_;obtain⟨az,gk,h⟩:=an h;refine eU aS (Z4 R _ gk) _ ?_;refine bg cU λkd _ b9 e8 _=>?_;show bm ah (.loop ?Ar) _ _;have AK:∀n iC kn ti,Ag u5 R az n iC kn ti=some r->cL ah ?Ar kd (ar [(4,.aM (.agg [ea R,.ag 1 (iC.map l4)])),(5,.slice (kn.map ea)),(17,.int .i64 az),(18,.int .i64 ti)]):=by
  refine cZ λ_ AL iC kn ti h=>cX b9 λ_ b2 cN dN=>aj ?_;refine ax cN λ_ gU _ kH=>aD h (λfi h=>?_) λfi h=>?_
  .refine aK (gU _ (inl (ax cN λ_ eO et _=>bg et λ_ gb _ _ _=>aj ?_)));obtain⟨aY,eG,h⟩:=an h;refine cR (arf kn _ eG) _ ?_;obtain⟨aoM,gp,h⟩:=an h;(try simp only[fM.down,Nat.zero_add,Nat.add_zero,reduceAdd]at gp);refine iy (b7 [(4,.aM (.agg [ea R,.ag 1 ((iC++[(dD.mk aY.1 aY.2.1)]).map l4)])),(5,.slice (aY.2.2.map ea)),(17,.int .i64 az),(18,.int .i64 ti)] (λP bc=>?_) ?_)
   .simp only[aE.down,simprocAttr,Zs.down,lX,dB,gp];(try simp only[jg.down,simprocAttr,Zs.down,lX,dB,gp]at bc⊢);exact bc
   refine gb _ (eO _ (inl (wr [(4,.aM (.agg [ea R,.ag 1 ((iC++[(dD.mk aY.1 aY.2.1)]).map l4)])),(5,.slice (aY.2.2.map ea)),(17,.int .i64 az),(18,.int .i64 (i64.wrap (ti+1)))] ?_)));exact b2 _ (inr ⟨_,bE rfl,AL (iC++[(dD.mk aY.1 aY.2.1)]) aY.2.2 (i64.wrap (ti+1)) h⟩)
  .exact cS (kH 0 _ (dN 0 _ (e8 _ (cG _ (inl (aN ak [.aM (.agg [ea R,.ag 1 (iC.map l4)]),.slice (kn.map ea)]))))))
 obtain⟨n,h⟩:=l_ h;exact p7 (inr ⟨_,hf [] rfl (ha (t:=4) (d:=.aM (.agg [ea R,.bf])) (bT:=.aM (.agg [ea R,.ag 1 []])) rfl rfl (.aM (.agg (.cons (.refl _) (.cons (.ix _) (.nil))))) (by decide) (cz (t:=5) (d:=.slice (ae.map ea)) rfl (cz (t:=17) (d:=.int .i64 az) rfl (cz (t:=18) (d:=.int .i64 0) rfl (hh))))),AK n [] ae 0 h⟩)
theorem arh:∀n a0 r,C1 n a0=some r->aZ ah 224 [.slice (a0.map ea)] (.tuple [.aM (.agg [ea r.1,.ag 1 (r.2.1.map l4)]),.slice (r.2.2.map ea)]) []:=by
 intro n;induction n with
 |zero=>intro a0 r h;cases(show none=some r from h)
 |succ n ih=>intro a0 r h;exact ard (C1 n) ih a0 r h
theorem ari (a0 r) (h:QH a0=some r):aZ ah 224 [.slice (a0.map ea)] (.tuple [.aM (.agg [ea r.1,.ag 1 (r.2.1.map l4)]),.slice (r.2.2.map ea)]) []:=by
 obtain⟨n,h⟩:=l_ h;exact arh n a0 r h
theorem arj (a0 r) (h:KQ a0=some r):aZ ah 199 [.slice (a0.map ea)] (.aM (.agg [ea r.1,.ag 1 (r.2.map l4)])) []:=by
 refine bx [0] [.tmp 2] Tryz.func199 alV λbt ak bs=>aj ?_;obtain⟨R,aS,h⟩:=an h;refine cR (ari a0 _ aS) _ ?_;exact aN ak [.aM (.agg [ea R.1,.ag 1 (R.2.1.map l4)])]
theorem w4 (a0 r) (h:rP a0=some r):aZ ah 225 [.bool a0] (.int .i64 r) []:=by
 refine bx [0] [.tmp 2] Tryz.func225 alW λbt ak bs=>aj ?_;refine ax ak λ_ bF bd _=>aj ?_;refine aD h (λbw h=>?_) λbw h=>?_
 .exact aN bd [.int .i64 1]
 .exact aK (bF _ (inl (aN ak [.int .i64 0])))
theorem ark (a0 J a2 r) (h:KR a0 J a2=some r):aZ ah 226 [.int .i64 a0,.int .i64 J,.int .i64 a2] (.int .i64 r) []:=by
 refine bx [0,1,2] [.tmp 6] Tryz.func226 c226 λbt ak bs=>aj ?_;refine ax ak λ_ bF bd ae=>aj ?_;refine bg bd λ_ fj bR _ aY=>aj ?_;refine aD h (λcP h=>?_) λcP h=>?_
 .refine c7 (@x4 .i64 64 (by decide)) _ ?_;exact cM bR [.int .i64 (Int.tmod (i64.wrap (J+a2)) 64)]
 .refine aj ?_;refine aD h (λe8 h=>?_) λe8 h=>?_
  .refine c7 (@x4 .i64 64 (by decide)) _ ?_;exact cM bR [.int .i64 (Int.tmod (i64.wrap ((i64.wrap (J-a2))+64)) 64)]
  .refine aj ?_;refine aD h (λfk h=>?_) λfk h=>?_
   .refine c7 (@x4 .i64 64 (by decide)) _ ?_;exact cM bR [.int .i64 (Int.tmod (i64.wrap (J*a2)) 64)]
   .refine aj ?_;refine aD h (λff h=>?_) λff h=>?_
    .obtain⟨R,dP,h⟩:=an h;refine cR (w4 (J==a2) _ dP) _ ?_;exact cM bR [.int .i64 R]
    .refine aj ?_;refine aD h (λhb h=>?_) λhb h=>?_
     .obtain⟨ae,gT,h⟩:=an h;refine cR (w4 (J !=a2) _ gT) _ ?_;exact cM bR [.int .i64 ae]
     .refine aj ?_;refine aD h (λgd h=>?_) λgd h=>?_
      .obtain⟨az,iX,h⟩:=an h;refine cR (w4 (decide (J<a2)) _ iX) _ ?_;exact cM bR [.int .i64 az]
      .refine aj ?_;refine aD h (λoM h=>?_) λoM h=>?_
       .obtain⟨aY,tE,h⟩:=an h;refine cR (w4 (decide (J<=a2)) _ tE) _ ?_;exact cM bR [.int .i64 aY]
       .refine aj ?_;refine aD h (λhj h=>?_) λhj h=>?_
        .rcases dO h with⟨jJ,h⟩|⟨jJ,h⟩
         .obtain⟨aU,jI,h⟩:=an h;refine eU jJ (w4 (a2 !=0) _ jI) _ ?_;exact cM bR [.int .i64 aU]
         .obtain⟨bB,AO,h⟩:=an h;refine eU jJ (w4 false _ AO) _ ?_;exact cM bR [.int .i64 bB]
        .refine aK (fj _ (bF _ (inl ?_)));rcases dO h with⟨qm,h⟩|⟨qm,h⟩
         .obtain⟨bu,tD,h⟩:=an h;refine eU qm (w4 true _ tD) _ ?_;exact cM ak [.int .i64 bu]
         .obtain⟨cy,wZ,h⟩:=an h;refine eU qm (w4 (a2 !=0) _ wZ) _ ?_;exact cM ak [.int .i64 cy]
theorem arl (C2:dD->azs->azv) (SP:∀a0 J r,C2 a0 J=some r->aZ ah 200 [.ref (qZ a0),.slice (J.map bb)] (.int .i64 r) []) (a0 J r) (h:QI C2 a0 J=some r):aZ ah 200 [.ref (qZ a0),.slice (J.map bb)] (.int .i64 r) []:=by
 refine bx [0,1] [.tmp 4] Tryz.func200 alX λbt ak bs=>aj ?_;refine ax ak λ_ bF bd ae=>aj ?_;refine bg bd λ_ fj bR _ aY=>aj ?_;refine aD h (λcP h=>?_) λcP h=>?_
 .exact aN bR [.int .i64 a0.term.Value]
 .refine aj ?_;refine aD h (λe8 h=>?_) λe8 h=>?_
  .obtain⟨R,lz,h⟩:=an h;refine c7 lz _ ?_;exact cM bR [.int .i64 R]
  .refine aj ?_;refine aD h (λfi h=>?_) λfi h=>?_
   .obtain⟨ae,d_,h⟩:=an h;obtain⟨az,cB,h⟩:=an h;obtain⟨aY,dP,h⟩:=an h;refine dh (b7 [(4,.int .i64 aY)] (λP bc=>?_) ?_)
    ·(try simp only[aE.down,simprocAttr,d_]);refine dq (SP ae J _ cB) rfl rfl (by simp only[aE.down,simprocAttr,d_,yx.down]<;>rfl) rfl (inl (by rfl)) ?_;simp only[aE.down,simprocAttr,d_];refine dq (w4 (az==0) _ dP) (hK:= ?_);simp only[aE.down,simprocAttr,d_];exact bU d_
    exact cM bR [.int .i64 aY]
   .refine aK (fj _ (bF _ (inl ?_)));obtain⟨aU,fb,h⟩:=an h;obtain⟨bB,gp,h⟩:=an h;obtain⟨bu,gT,h⟩:=an h;obtain⟨cy,fl,h⟩:=an h;obtain⟨dE,iD,h⟩:=an h;refine kC rfl (jr [(4,.int .i64 dE)] (λP bc=>?_) ?_)
    ·(try simp only[dA.down,simprocAttr,fb,gT]);refine iz (SP aU J _ gp) rfl rfl (by simp only[dA.down,simprocAttr,fb,gT,yx.down]<;>rfl) rfl (inl (by rfl)) ?_;simp only[dA.down,simprocAttr,fb,gT];refine iz (SP bu J _ fl) rfl rfl (by simp only[dA.down,simprocAttr,fb,gT,yx.down]<;>rfl) rfl (inl (by rfl)) ?_;simp only[dA.down,simprocAttr,fb,gT];refine iz (ark a0.term.Value bB cy _ iD) (hK:= ?_);simp only[dA.down,simprocAttr,fb,gT];refine⟨iA (by kernel_rfl),?_⟩;exact bU (U fb gT)
    exact cM ak [.int .i64 dE]
theorem arn:∀n a0 J r,Ah n a0 J=some r->aZ ah 200 [.ref (qZ a0),.slice (J.map bb)] (.int .i64 r) []:=by
 intro n;induction n with
 |zero=>intro a0 J r h;cases(show none=some r from h)
 |succ n ih=>intro a0 J r h;exact arl (Ah n) ih a0 J r h
theorem aro (a0 J r) (h:QJ a0 J=some r):aZ ah 200 [.ref (qZ a0),.slice (J.map bb)] (.int .i64 r) []:=by
 obtain⟨n,h⟩:=l_ h;exact arn n a0 J r h
theorem aag (a0 J r) (h:C3 a0 J=some r):aZ ah 170 [.slice (a0.map ea),.slice (J.map bb)] (.int .i64 r) []:=by
 refine bx [0,1] [.tmp 4] Tryz.func170 alY λbt ak bs=>aj ?_;obtain⟨R,aS,h⟩:=an h;obtain⟨ae,cf,h⟩:=an h;refine dh (b7 [(4,.int .i64 ae)] (λP bc=>?_) ?_)
 ·(try simp only[aE.down,simprocAttr]);refine dq (arj a0 _ aS) (hK:= ?_);simp only[aE.down,simprocAttr];refine dq (aro (dD.mk R.1 R.2) J _ cf) rfl rfl (by simp only[aE.down,simprocAttr,ht,hv,hx,cV, @b4 _ l4 qj (λ_=>Yx _)]<;>rfl) rfl (inr (by rfl)) ?_;simp only[aE.down,simprocAttr];exact bU trivial
 exact cM ak [.int .i64 ae]
theorem aah (a0 J r) (h:GM a0 J=some r):aZ ah 168 [.slice (a0.map jf),.slice (J.map bb)] (.ag 1 (r.map bb)) []:=by
 refine bx [0,1] [.tmp 4] Tryz.func168 c168 λbt ak bs=>aj ?_;refine aj ?_;refine ax ak λ_ eZ c_ _=>aj ?_;refine bg c_ λoL _ cv dR _=>?_;show bm ah (.loop ?hd) _ _;have hL:∀n fK rQ,C4 a0 J n fK rQ=some r->cL ah ?hd oL (ar [(1,.slice (J.map bb)),(5,.ag 1 (fK.map bb)),(8,.slice (a0.map jf)),(9,.int .i64 (a0.length:Int)),(10,.int .i64 rQ)]):=by
  refine cZ λ_ hM fK rQ h=>cX cv λ_ cG cU bB=>aj ?_;refine ax cU λ_ ig _ cy=>aD h (λe8 h=>?_) λe8 h=>?_
  .refine aK (ig _ (inl (ax cU λ_ b2 cN _=>bg cN λ_ ez _ _ _=>?_)));obtain⟨R,ed,h⟩:=an h;refine c7 ed _ ?_;obtain⟨ae,d_,h⟩:=an h;obtain⟨DH,cB,h⟩:=an h;(try simp only[fM.down,Nat.zero_add,Nat.add_zero,reduceAdd]at cB);refine As (U (show∀s,eh ah s 69 1 [(0,.int .i64 ae)]=some (.ag 1 [.int .i64 ae],s)from λs=>by kernel_rfl) (U (@kD ah 69 69 2 rfl rfl) (U @kE (U @kF (U @gQ (U @all_cons (U @all_nil (U cB (@j6 _ bb 1 λ_=>rfl))))))))) (aag R J _ d_) [(1,.slice (J.map bb)),(5,.ag 1 ((fK++[ae]).map bb)),(8,.slice (a0.map jf)),(9,.int .i64 (a0.length:Int)),(10,.int .i64 rQ)] ?_;refine ez _ (b2 _ (inl (wr [(1,.slice (J.map bb)),(5,.ag 1 ((fK++[ae]).map bb)),(8,.slice (a0.map jf)),(9,.int .i64 (a0.length:Int)),(10,.int .i64 (i64.wrap (rQ+1)))] ?_)));exact cG _ (inr ⟨_,bE rfl,hM (fK++[ae]) (i64.wrap (rQ+1)) h⟩)
  .exact cS (cy 0 _ (bB 0 _ (dR _ (eZ _ (inl (aN ak [.ag 1 (fK.map bb)]))))))
 obtain⟨n,h⟩:=l_ h;exact p7 (inr ⟨_,hf [] rfl (cz (t:=1) (d:=.slice (J.map bb)) rfl (ha (t:=5) (d:=.bf) (bT:=.ag 1 []) rfl rfl (.ix _) (by decide) (cz (t:=8) (d:=.slice (a0.map jf)) rfl (cz (t:=9) (d:=.int .i64 (a0.length:Int)) rfl (cz (t:=10) (d:=.int .i64 0) rfl (hh)))))),hL n [] 0 h⟩)
theorem arp (a0 r) (h:QL a0=some r):aZ ah 269 [.int .i64 a0] (.bool r) []:=by
 refine bx [0] [.tmp 2] Tryz.func269 alZ λbt ak bs=>aj ?_;obtain⟨R,aS,h⟩:=an h;refine cR (jK a0 (-1000000000000) 1000000000000 _ aS) _ ?_;exact cM ak [.bool (!R)]
theorem arq (a0 r) (h:QN a0=some r):aZ ah 197 [.slice (a0.map bb),.fn 269 []] (.int .i64 r) []:=by
 refine bx [0,1] [.tmp 4] Tryz.func197 al0 λbt ak bs=>aj ?_;refine ax ak λ_ bF bd ae=>aj ?_;refine bg bd λeP _ bR bw _=>?_;show bm ah (.loop ?eN) _ _;have e4:∀n cK,C5 a0 n cK=some r->cL ah ?eN eP (ar [(0,.slice (a0.map bb)),(1,.fn 269 []),(7,.int .i64 (a0.length:Int)),(8,.int .i64 cK)]):=by
  refine cZ λ_ eL cK h=>cX bR λ_ dM cv aU=>aj ?_;refine ax cv λ_ dw _ bu=>aD h (λb1 h=>?_) λb1 h=>?_
  .refine aK (dw _ (inl (ax cv λ_ cE b9 _=>bg b9 λ_ b2 cN _ _=>aj ?_)));obtain⟨R,ed,h⟩:=an h;obtain⟨ae,dU,h⟩:=an h;refine eU ed (arp R _ dU) _ ?_;refine aD h (λff h=>?_) λff h=>?_
   .exact aN cN [.int .i64 cK]
   .refine aK (b2 _ (cE _ (inl (dr ?_))));exact dM _ (inr ⟨_,bE rfl,eL (i64.wrap (cK+1)) h⟩)
  .exact cS (bu 0 _ (aU 0 _ (bw _ (bF _ (inl (aN ak [.int .i64 (-1)]))))))
 exact dn h λn h=>e4 n 0 h
theorem ars (a0 r) (h:QO a0=some r):aZ ah 163 [.slice (a0.map bb),.fn 269 []] (.bool r) []:=by
 refine bx [0,1] [.tmp 4] Tryz.func163 al1 λbt ak bs=>aj ?_;obtain⟨R,aS,h⟩:=an h;refine cR (arq a0 _ aS) _ ?_;exact cM ak [.bool (decide (0<=R))]
theorem art (a0 r) (h:KS a0=some r):aZ ah 259 [.slice (a0.map bb)] (.bool r) []:=by
 refine bx [0] [.tmp 2] Tryz.func259 al2 λbt ak bs=>aj ?_;rcases dO h with⟨f_,h⟩|⟨f_,h⟩
 .obtain⟨R,cf,h⟩:=an h;refine eU f_ (ars a0 _ cf) _ ?_;exact cM ak [.bool (!R)]
 .refine c7 f_ _ ?_;exact cM ak [.bool false]
theorem aru (a0 r) (h:GN a0=some r):aZ ah 241 [.slice (a0.map bb)] (.str r) []:=by
 refine bx [0] [.tmp 2] Tryz.func241 al3 λbt ak bs=>aj ?_;refine ax ak λ_ bF bd ae=>bg bd λ_ eZ c_ _ _=>?_;obtain⟨R,cF,h⟩:=an h;refine cR (art a0 _ cF) _ ?_;refine aD h (λcP h=>?_) λcP h=>?_
 .exact aN c_ [.str ([]:azq)]
 .refine aj ?_;refine aD h (λe8 h=>?_) λe8 h=>?_
  .exact aN c_ [.str ([45]:azq)]
  .refine aK (eZ _ (bF _ (inl ?_)));obtain⟨ae,dm,h⟩:=an h;refine cR (aae a0 ([44]:azq) _ dm) _ ?_;exact cM ak [.str ae]
theorem arv (a0 r) (h:KT a0=some r):aZ ah 209 [bD a0] (.str r) []:=by
 refine bx [0] [.tmp 2] Tryz.func209 al4 λbt ak bs=>aj ?_;obtain⟨R,aS,h⟩:=an h;obtain⟨LS,cf,h⟩:=an h;(try simp only[fM.down,Nat.zero_add,Nat.add_zero,reduceAdd]at cf);obtain⟨ae,cF,h⟩:=an h;obtain⟨LS,cw,h⟩:=an h;(try simp only[fM.down,Nat.zero_add,Nat.add_zero,reduceAdd]at cw);refine kC rfl (jr [(2,.str ((R++([58]:azq))++ae))] (λP bc=>?_) ?_)
 ·(try simp only[dA.down,simprocAttr,cf,mO.down,cw]);refine iz (AU a0.Part _ aS) (hK:= ?_);simp only[dA.down,simprocAttr,cf,mO.down,cw];refine iz (aru a0.b5 _ cF) (hK:= ?_);simp only[dA.down,simprocAttr,cf,mO.down,cw];refine⟨iA (by kernel_rfl),?_⟩;exact bU (U cf (U mO.down cw))
 exact cM ak [.str ((R++([58]:azq))++ae)]
theorem aai (a0 r) (h:Ai a0=some r):aZ ah 178 [bD a0] (.str r) []:=by
 refine bx [0] [.tmp 2] Tryz.func178 al5 λbt ak bs=>aj ?_;obtain⟨R,aS,h⟩:=an h;obtain⟨LS,cf,h⟩:=an h;(try simp only[fM.down,Nat.zero_add,Nat.add_zero,reduceAdd]at cf);obtain⟨ae,cF,h⟩:=an h;obtain⟨LS,cw,h⟩:=an h;(try simp only[fM.down,Nat.zero_add,Nat.add_zero,reduceAdd]at cw);refine kC rfl (jr [(2,.str ((R++([58]:azq))++ae))] (λP bc=>?_) ?_)
 ·(try simp only[dA.down,simprocAttr,cf,mO.down,cw]);refine iz (AU a0.cJ _ aS) (hK:= ?_);simp only[dA.down,simprocAttr,cf,mO.down,cw];refine iz (arv a0 _ cF) (hK:= ?_);simp only[dA.down,simprocAttr,cf,mO.down,cw];refine⟨iA (by kernel_rfl),?_⟩;exact bU (U cf (U mO.down cw))
 exact cM ak [.str ((R++([58]:azq))++ae)]
theorem arw (bn bp bo iW kK qe u6 r) (h:KU bn bp bo iW kK qe u6=some r):aZ ah 169 [.aM (.agg [.slice (bn.map bk),.ag 4 (bp.map hZ),.cj (.mp bo)]),.agg [.str iW,.agg [.int .i64 kK,.int .i64 qe,.ag 1 (u6.map bb)]]] (.tuple []) [.aM (.agg [.slice (r.1.map bk),.ag 4 (r.2.1.map hZ),.cj (.mp r.2.2)]),.hole]:=by
 refine bx [0,1] [] Tryz.func169 al7 λbt ak bs=>aj ?_;obtain⟨DM,aS,h⟩:=an h;(try simp only[fM.down,Nat.zero_add,Nat.add_zero,reduceAdd]at aS);obtain⟨R,cf,h⟩:=an h;obtain⟨DM,cF,h⟩:=an h;(try simp only[fM.down,Nat.zero_add,Nat.add_zero,reduceAdd]at cF);refine kC rfl (jr [(0,.aM (.agg [.slice (bn.map bk),.ag 4 (bp.map hZ),.cj (.mp bo)])),(1,.agg [.str iW,.agg [.int .i64 kK,.int .i64 qe,.hole]]),(3,.aM (.agg [.str iW,.agg [.int .i64 kK,.int .i64 qe,.ag 1 (u6.map bb)]])),(4,.str ((iW++([32]:azq))++R))] (λP bc=>?_) ?_)
 ·(try simp only[dA.down,simprocAttr,aS,mO.down,cF]);refine iz (aai (ba.mk kK qe u6) _ cf) rfl rfl (by simp only[dA.down,simprocAttr,aS,vX,vY,cF,ht,hv,hx,cV, @b4 _ bb bb (λ_=>ko _)]<;>rfl) rfl (inr (by rfl)) ?_;simp only[dA.down,simprocAttr,aS,mO.down,cF];refine⟨iA (by kernel_rfl),?_⟩;exact bU (U aS (U mO.down cF))
 refine c7 (U @OC (U @BZ (show ri ah 148=true from by kernel_rfl))) [(0,.aM (.agg [.slice (bn.map bk),.ag 4 (bp.map hZ),.cj (.mp bo)])),(1,.agg [.str iW,.agg [.int .i64 kK,.int .i64 qe,.hole]]),(3,.aM (.agg [.str iW,.agg [.int .i64 kK,.int .i64 qe,.ag 1 (u6.map bb)]])),(4,.str ((iW++([32]:azq))++R)),(18,.bool (!(kh ((iW++([32]:azq))++R) bo)))] ?_;refine aD h (λqC h=>?_) λqC h=>?_
 .refine c7 (U @OD (U @BZ (show ri ah 148=true from by kernel_rfl))) [(0,.aM (.agg [.slice (bn.map bk),.ag 4 (bp.map hZ),.cj (.mp (ku ((iW++([32]:azq))++R) true bo))])),(1,.agg [.str iW,.agg [.int .i64 kK,.int .i64 qe,.hole]]),(3,.aM (.agg [.str iW,.agg [.int .i64 kK,.int .i64 qe,.ag 1 (u6.map bb)]]))] ?_;obtain⟨DM,iU,h⟩:=an h;(try simp only[fM.down,Nat.zero_add,Nat.add_zero,reduceAdd]at iU);refine ah1 0 7 [1,2,3,4,5,6,7,0,8,9,10] rfl rfl [(0,.aM (.agg [.slice (bn.map bk),.ag 4 ((bp++[(bl.mk iW (ba.mk kK qe u6))]).map hZ),.cj (.mp (ku ((iW++([32]:azq))++R) true bo))])),(1,.agg [.str iW,.agg [.int .i64 kK,.int .i64 qe,.hole]])] (λP bc=>?_) (λP bc=>?_) ?_
  .simp only[dA.down,simprocAttr,Lx.down,lX,dB,iU];refine⟨iA (by kernel_rfl),?_⟩;(try simp only[jg.down,simprocAttr,Lx.down,lX,dB,iU]at bc⊢);exact bc
  .simp only[v8,List.map_cons,List.map_nil,List.getD_cons_zero,List.getD_cons_succ,simprocAttr];simp only[dA.down,simprocAttr,Lx.down,lX,dB,iU];refine⟨iA (by kernel_rfl),?_⟩;(try simp only[jg.down,simprocAttr,Lx.down,lX,dB,iU]at bc⊢);exact bc
  exact bs _ (inl (hs [] rfl (by cases eE h;rfl) (by decide) (hH (js (by cases eE h;rfl) rfl rfl rfl (dy (hI))))))
 .exact aK (bs _ (inl (hs [] rfl (by cases eE h;rfl) (by decide) (hH (js (by cases eE h;rfl) rfl rfl rfl (dy (hI)))))))
theorem arx (oC:azK->azQ->azo->Int->Int->azs->Option (azK×azQ×azo)) (L1:∀bn bp bo J a2 a3 r,oC bn bp bo J a2 a3=some r->aZ ah 126 [.aM (.agg [.slice (bn.map bk),.ag 4 (bp.map hZ),.cj (.mp bo)]),.int .i64 J,.int .i64 a2,.slice (a3.map bb)] (.tuple []) [.aM (.agg [.slice (r.1.map bk),.ag 4 (r.2.1.map hZ),.cj (.mp r.2.2)]),.hole,.hole,.hole]) (bn bp bo J a2 a3 r) (h:yq oC bn bp bo J a2 a3=some r):aZ ah 126 [.aM (.agg [.slice (bn.map bk),.ag 4 (bp.map hZ),.cj (.mp bo)]),.int .i64 J,.int .i64 a2,.slice (a3.map bb)] (.tuple []) [.aM (.agg [.slice (r.1.map bk),.ag 4 (r.2.1.map hZ),.cj (.mp r.2.2)]),.hole,.hole,.hole]:=by
 refine bx [0,1,2,3] [] Tryz.func126 ama λbt ak bs=>?_;obtain⟨R,aW,h⟩:=an h;refine c7 aW _ ?_;obtain⟨ae,cf,h⟩:=an h;refine c7 cf _ ?_;refine aj ?_;refine bg ak λjh cG cU _ bB=>aj ?_;refine aD h (λb1 h=>?_) λb1 h=>?_
 .obtain⟨az,iU,h⟩:=an h;obtain⟨aY,lz,h⟩:=an h;refine kC rfl (jr [(0,.aM (.agg [.slice (bn.map bk),.ag 4 (bp.map hZ),.cj (.mp bo)])),(1,.int .i64 J),(2,.int .i64 a2),(3,.slice (a3.map bb)),(8,.aM (bk R)),(10,.str aY.1)] (λP bc=>?_) ?_)
  ·(try simp only[dA.down,simprocAttr]);refine iz (aah ae.ck a3 _ iU) (hK:= ?_);simp only[dA.down,simprocAttr];refine iz (LY ae.Name az _ lz) rfl rfl (by simp only[dA.down,simprocAttr,Lv.down]<;>rfl) rfl (inr (by rfl)) ?_;simp only[dA.down,simprocAttr];refine⟨iA (by kernel_rfl),?_⟩;exact bU trivial
  obtain⟨aU,ed,h⟩:=an h;refine eU (U (@ng ah 71 [(2,0),(2,1),(69,2)] [(.int .i64 0),(.int .i64 0),.bf] rfl rfl (by kernel_rfl)) (U @lY (U @lZ (U @cW (U @gQ (U @List.nil_append.{0} @List.cons_append.{0})))))) (L0 a3 _ ed) _ ?_;have wQ:∀C6 C7 C8,KV oC bn bp bo aY C6 C7 C8=some r->bm ah Y5 jh (ar [(0,.aM (.agg [.slice (bn.map bk),.ag 4 (bp.map hZ),.cj (.mp bo)])),(10,.str aY.1),(12,.aM (.agg [.int .i64 C6,.int .i64 C7,.ag 1 (C8.map bb)]))]):=by
   intro C6 C7 C8 h;obtain⟨bB,cB,h⟩:=an h;refine iy (b7 [(0,.aM (.agg [.slice (bB.1.map bk),.ag 4 (bB.2.1.map hZ),.cj (.mp bB.2.2)]))] (λP bc=>?_) ?_)
   ·(try simp only[aE.down,simprocAttr,Zt.down,dZ,dB]);refine k1 [⟨.h 0 [],true,_,_⟩,⟨.h 66 [],true,_,.hole⟩] (arw bn bp bo aY.1 C6 C7 C8 _ cB) rfl rfl rfl (by simp only[aE.down,simprocAttr, @ng ah 135 [(9,0),(71,1)] [(.str []),(.agg [(.int .i64 0),(.int .i64 0),.bf])] rfl rfl (by kernel_rfl),dZ,lY,dB,lZ,cW,gQ,List.nil_append,List.cons_append,mo,la,kG,ht,hv,hx,cV,or_true,true_or, @b4 _ bk bk (λ_=>tq _), @b4 _ hZ di (λ_=>Hh _), @b4 _ bb bb (λ_=>ko _)]) rfl rfl (inl rfl) ?_;simp only[aE.down,simprocAttr, @ng ah 135 [(9,0),(71,1)] [(.str []),(.agg [(.int .i64 0),(.int .i64 0),.bf])] rfl rfl (by kernel_rfl),dZ,lY,dB,lZ,cW,gQ,List.nil_append,List.cons_append,kl];exact bU Zt.down
   exact cG _ (bs _ (inl (hs [] rfl (by cases eE h;rfl) (by decide) (hH (js (by cases eE h;rfl) rfl rfl rfl (dy (dy (dy (hI)))))))))
  refine ax cU λ_ eO _ je=>?_;obtain⟨bu,eG,h⟩:=an h;refine c7 eG _ ?_;refine aj ?_;refine aD h (λgw h=>?_) λgw h=>?_
  .obtain⟨cy,fl,h⟩:=an h;refine Zl (U (@ng ah 71 [(2,0),(2,1),(69,2)] [(.int .i64 0),(.int .i64 0),.bf] rfl rfl (by kernel_rfl)) (U @lY (U @lZ (U @cW (U @gQ (U @List.nil_append.{0} @List.cons_append.{0})))))) (aah bu.ck a3 _ fl) _ ?_;exact eO _ (inr ⟨_,bE rfl,wQ bu.Number 0 cy h⟩)
  .exact aK (eO _ (inr ⟨_,bE rfl,wQ J (i64.wrap (a2+1)) aU h⟩))
 .refine aj ?_;refine aD h (λh7 h=>?_) λh7 h=>?_
  .obtain⟨dE,ql,h⟩:=an h;refine dh (b7 [(0,.aM (.agg [.slice (dE.1.map bk),.ag 4 (dE.2.1.map hZ),.cj (.mp dE.2.2)])),(1,.int .i64 J),(2,.int .i64 a2),(3,.slice (a3.map bb)),(8,.aM (bk R))] (λP bc=>?_) ?_)
   ·(try simp only[aE.down,simprocAttr]);refine k1 [⟨.h 0 [],true,_,_⟩,⟨.int .i64 J,false,_,.hole⟩,⟨.int .i64 (i64.wrap (a2+1)),false,_,.hole⟩,⟨.slice (a3.map bb),false,_,.hole⟩] (L1 bn bp bo J (i64.wrap (a2+1)) a3 _ ql) rfl rfl rfl (by simp only[aE.down,simprocAttr,RP.down]) rfl rfl (inl rfl) ?_;simp only[aE.down,simprocAttr,kl];exact bU trivial
   obtain⟨dN,yG,h⟩:=an h;obtain⟨fa,tE,h⟩:=an h;refine iy (b7 [(0,.aM (.agg [.slice (fa.1.map bk),.ag 4 (fa.2.1.map hZ),.cj (.mp fa.2.2)]))] (λP bc=>?_) ?_)
   ·(try simp only[aE.down,simprocAttr]);refine dq (Z1 R (i64.wrap (a2+1)) _ yG) (hK:= ?_);simp only[aE.down,simprocAttr];refine k1 [⟨.h 0 [],true,_,_⟩,⟨.int .i64 J,false,_,.hole⟩,⟨.int .i64 dN,false,_,.hole⟩,⟨.slice (a3.map bb),false,_,.hole⟩] (L1 dE.1 dE.2.1 dE.2.2 J dN a3 _ tE) rfl rfl rfl (by simp only[aE.down,simprocAttr,RP.down]) rfl rfl (inl rfl) ?_;simp only[aE.down,simprocAttr,kl];exact bU trivial
   exact cG _ (bs _ (inl (hs [] rfl (by cases eE h;rfl) (by decide) (hH (js (by cases eE h;rfl) rfl rfl rfl (dy (dy (dy (hI)))))))))
  .refine aj ?_;refine aD h (λhj h=>?_) λhj h=>?_
   .obtain⟨kH,o7,h⟩:=an h;obtain⟨mK,jI,h⟩:=an h;refine eU o7 (aag kH a3 _ jI) _ ?_;refine aD h (λwS h=>?_) λwS h=>?_
    .obtain⟨je,tx,h⟩:=an h;refine iy (b7 [(0,.aM (.agg [.slice (je.1.map bk),.ag 4 (je.2.1.map hZ),.cj (.mp je.2.2)]))] (λP bc=>?_) ?_)
     ·(try simp only[aE.down,simprocAttr]);refine k1 [⟨.h 0 [],true,_,_⟩,⟨.int .i64 J,false,_,.hole⟩,⟨.int .i64 (i64.wrap (a2+1)),false,_,.hole⟩,⟨.slice (a3.map bb),false,_,.hole⟩] (L1 bn bp bo J (i64.wrap (a2+1)) a3 _ tx) rfl rfl rfl (by simp only[aE.down,simprocAttr,RP.down]) rfl rfl (inl rfl) ?_;simp only[aE.down,simprocAttr,kl];exact bU trivial
     exact cG _ (bs _ (inl (hs [] rfl (by cases eE h;rfl) (by decide) (hH (js (by cases eE h;rfl) rfl rfl rfl (dy (dy (dy (hI)))))))))
    .exact aK (cG _ (bs _ (inl (hs [] rfl (by cases eE h;rfl) (by decide) (hH (js (by cases eE h;rfl) rfl rfl rfl (dy (dy (dy (hI))))))))))
   .refine aj ?_;refine aD h (λAN h=>?_) λAN h=>?_
    .refine aj ?_;refine bg cU λHz _ vm tz _=>?_;have ary:∀n wG wH wI lk,C9 oC J a2 a3 ae n wG wH wI lk=some r->cL ah Y6 Hz (ar [(0,.aM (.agg [.slice (wG.map bk),.ag 4 (wH.map hZ),.cj (.mp wI)])),(1,.int .i64 J),(2,.int .i64 a2),(3,.slice (a3.map bb)),(103,.int .i64 (i64.wrap (ae.Number+1))),(104,.int .i64 lk)]):=by
      refine cZ λ_ arz wG wH wI lk h=>cX vm λ_ AF yC AG=>aj ?_;refine ax yC λ_ yD _ HK=>aD h (λAH h=>?_) λAH h=>?_
      .refine aK (yD _ (inl (ax yC λ_ AJ wU _=>bg wU λ_ qk _ _ _=>aj ?_)));obtain⟨hB,HC,h⟩:=an h;obtain⟨ay7,w2,h⟩:=an h;(try simp only[fM.down,Nat.zero_add,Nat.add_zero,reduceAdd]at w2);obtain⟨ju,sb,h⟩:=an h;refine iy (b7 [(0,.aM (.agg [.slice (ju.1.map bk),.ag 4 (ju.2.1.map hZ),.cj (.mp ju.2.2)])),(1,.int .i64 J),(2,.int .i64 a2),(3,.slice (a3.map bb)),(103,.int .i64 (i64.wrap (ae.Number+1))),(104,.int .i64 lk)] (λP bc=>?_) ?_)
       ·(try simp only[aE.down,simprocAttr,(show∀s,eh ah s 69 1 [(0,.int .i64 lk)]=some (.ag 1 [.int .i64 lk],s)from λs=>by kernel_rfl),DG.down,w2,I.shares]);refine dq (L0 a3 _ HC) (hK:= ?_);simp only[aE.down,simprocAttr,(show∀s,eh ah s 69 1 [(0,.int .i64 lk)]=some (.ag 1 [.int .i64 lk],s)from λs=>by kernel_rfl),DG.down,w2,I.shares];refine k1 [⟨.h 0 [],true,_,_⟩,⟨.int .i64 J,false,_,.hole⟩,⟨.int .i64 (i64.wrap (a2+1)),false,_,.hole⟩,⟨.slice ((hB++[lk]).map bb),false,_,.hole⟩] (L1 wG wH wI J (i64.wrap (a2+1)) (hB++[lk]) _ sb) rfl rfl (by simp only[aE.down,simprocAttr,(show∀s,eh ah s 69 1 [(0,.int .i64 lk)]=some (.ag 1 [.int .i64 lk],s)from λs=>by kernel_rfl),Zo.down,w2,I.shares]) (by simp only[aE.down,simprocAttr,(show∀s,eh ah s 69 1 [(0,.int .i64 lk)]=some (.ag 1 [.int .i64 lk],s)from λs=>by kernel_rfl), @kD ah 69 69 2 rfl rfl,kE,kF,gQ,all_cons,all_nil,w2, @j6 _ bb 1 (λ_=>rfl),ow,ov,I.shares,cV,ou, @b4 _ bb bb (λ_=>ko _),mo,la,kG,ht,hv,hx,cV,or_true,true_or, @b4 _ bk bk (λ_=>tq _), @b4 _ hZ di (λ_=>Hh _)]) rfl rfl (inl rfl) ?_;simp only[aE.down,simprocAttr,(show∀s,eh ah s 69 1 [(0,.int .i64 lk)]=some (.ag 1 [.int .i64 lk],s)from λs=>by kernel_rfl),Zp.down,w2,I.shares];exact bU (U (show∀s,eh ah s 69 1 [(0,.int .i64 lk)]=some (.ag 1 [.int .i64 lk],s)from λs=>by kernel_rfl) (U DG.down w2))
       refine qk _ (AJ _ (inl (dr ?_)));exact AF _ (inr ⟨_,bE rfl,arz ju.1 ju.2.1 ju.2.2 (i64.wrap (lk+1)) h⟩)
      .exact cS (HK 1 _ (AG 1 _ (tz _ (cG _ (bs _ (inl (hs [] rfl (by cases eE h;rfl) (by decide) (hH (js (by cases eE h;rfl) rfl rfl rfl (dy (dy (dy (hI)))))))))))))
     exact dn h λn h=>ary n bn bp bo 0 h
    .exact aK (cG _ (bs _ (inl (hs [] rfl (by cases eE h;rfl) (by decide) (hH (js (by cases eE h;rfl) rfl rfl rfl (dy (dy (dy (hI))))))))))
theorem arA:∀n bn bp bo J a2 a3 r,rR n bn bp bo J a2 a3=some r->aZ ah 126 [.aM (.agg [.slice (bn.map bk),.ag 4 (bp.map hZ),.cj (.mp bo)]),.int .i64 J,.int .i64 a2,.slice (a3.map bb)] (.tuple []) [.aM (.agg [.slice (r.1.map bk),.ag 4 (r.2.1.map hZ),.cj (.mp r.2.2)]),.hole,.hole,.hole]:=by
 intro n;induction n with
 |zero=>intro bn bp bo J a2 a3 r h;cases(show none=some r from h)
 |succ n ih=>intro bn bp bo J a2 a3 r h;exact arx (rR n) ih bn bp bo J a2 a3 r h
theorem arB (bn bp bo J a2 a3 r) (h:KW bn bp bo J a2 a3=some r):aZ ah 126 [.aM (.agg [.slice (bn.map bk),.ag 4 (bp.map hZ),.cj (.mp bo)]),.int .i64 J,.int .i64 a2,.slice (a3.map bb)] (.tuple []) [.aM (.agg [.slice (r.1.map bk),.ag 4 (r.2.1.map hZ),.cj (.mp r.2.2)]),.hole,.hole,.hole]:=by
 obtain⟨n,h⟩:=l_ h;exact arA n bn bp bo J a2 a3 r h
theorem arC (a0 J r) (h:u7 a0 J=some r):aZ ah 96 [.slice (a0.map bk),bD J] (.tuple [.ag 4 (r.1.map hZ),.bool r.2]) []:=by
 refine bx [0,1] [.tmp 4,.tmp 5] Tryz.func96 amc λbt ak bs=>aj ?_;refine c7 (U @Xl (U (@ng ah 184 [(34,0),(130,1),(148,2)] [.bf,.bf,(.cj .kv)] rfl rfl (by kernel_rfl)) (U @lY (U @lZ (U @cW (U @gQ (U @List.nil_append.{0} @List.cons_append.{0}))))))) _ ?_;obtain⟨R,cf,h⟩:=an h;refine dh (b7 [(6,.aM (.agg [.slice (R.1.map bk),.ag 4 (R.2.1.map hZ),.cj (.mp R.2.2)]))] (λP bc=>?_) ?_)
 ·(try simp only[aE.down,simprocAttr]);refine k1 [⟨.h 6 [],true,_,_⟩,⟨.int .i64 J.cJ,false,_,.hole⟩,⟨.int .i64 J.Part,false,_,.hole⟩,⟨.slice (J.b5.map bb),false,_,.hole⟩] (aZ.agO (arB a0 [] [] J.cJ J.Part J.b5 _ cf) (.wd (.aM (.agg (.cons (.refl _) (.cons (.ix _) (.cons (.refl _) (.nil)))))) rfl rfl (.eq rfl (.eq rfl (.eq rfl (.nil)))))) rfl rfl rfl (by simp only[aE.down,simprocAttr,mo,la,kG,ht,hv,hx,cV,or_true,true_or, @b4 _ bk bk (λ_=>tq _)]) rfl rfl (inl rfl) ?_;simp only[aE.down,simprocAttr,kl];exact bU trivial
 refine pJ @Xk _ ?_;exact gr (ak _ (inl (WS 4 [.ag 4 (R.2.1.map hZ),.bool (decide ((R.2.1.length:Int)<=200))])))
theorem arD (a0 J r) (h:QR a0 J=some r):aZ ah 176 [.slice (a0.map aV),.str J] (.int .i64 r) []:=by
 refine bx [0,1] [.tmp 4] Tryz.func176 amd λbt ak bs=>aj ?_;refine ax ak λ_ bF bd _=>aj ?_;refine bg bd λeP _ bR bw _=>?_;show bm ah (.loop ?eN) _ _;have e4:∀n cK,Aj a0 J n cK=some r->cL ah ?eN eP (ar [(0,.slice (a0.map aV)),(1,.str J),(7,.int .i64 (a0.length:Int)),(8,.int .i64 cK)]):=by
  refine cZ λ_ eL cK h=>cX bR λ_ dM cv aU=>aj ?_;refine ax cv λ_ dw _ bu=>aD h (λb1 h=>?_) λb1 h=>?_
  .refine aK (dw _ (inl (ax cv λ_ cE b9 _=>bg b9 λ_ b2 cN _ _=>aj ?_)));obtain⟨R,ed,h⟩:=an h;refine c7 ed _ ?_;refine aD h (λiM h=>?_) λiM h=>?_
   .exact aN cN [.int .i64 cK]
   .refine aK (b2 _ (cE _ (inl (dr ?_))));exact dM _ (inr ⟨_,bE rfl,eL (i64.wrap (cK+1)) h⟩)
  .exact cS (bu 0 _ (aU 0 _ (bw _ (bF _ (inl (aN ak [.int .i64 (-1)]))))))
 exact dn h λn h=>e4 n 0 h
theorem SQ (a0 J r) (h:C_ a0 J=some r):aZ ah 132 [.slice (a0.map aV),.str J] (.bool r) []:=by
 refine bx [0,1] [.tmp 4] Tryz.func132 ame λbt ak bs=>aj ?_;obtain⟨R,aS,h⟩:=an h;refine cR (arD a0 J _ aS) _ ?_;exact cM ak [.bool (decide (0<=R))]
theorem HN (a0 r) (h:Ak a0=some r):aZ ah 134 [bD a0] (dT r) []:=by
 refine bx [0] [.cell 2 71] Tryz.func134 amf λbt ak bs=>aj ?_;obtain⟨R,aS,h⟩:=an h;refine cR (L0 a0.b5 _ aS) _ ?_;exact aN ak [dT (ba.mk a0.cJ a0.Part R)]
theorem aaj (a0 r) (h:KX a0=some r):aZ ah 133 [.slice (a0.map bD)] (.ag 3 (r.map dT)) []:=by
 refine bx [0] [.tmp 2] Tryz.func133 amg λbt ak bs=>aj ?_;refine aj ?_;refine ax ak λ_ eZ c_ _=>aj ?_;refine bg c_ λoL _ cv dR _=>?_;show bm ah (.loop ?hd) _ _;have hL:∀n bP ll,Da a0 n bP ll=some r->cL ah ?hd oL (ar [(3,.ag 3 (bP.map dT)),(6,.slice (a0.map bD)),(7,.int .i64 (a0.length:Int)),(8,.int .i64 ll)]):=by
  refine cZ λ_ hM bP ll h=>cX cv λ_ cG cU bB=>aj ?_;refine ax cU λ_ ig _ cy=>aD h (λe8 h=>?_) λe8 h=>?_
  .refine aK (ig _ (inl (ax cU λ_ b2 cN _=>bg cN λ_ ez _ _ _=>?_)));obtain⟨R,ed,h⟩:=an h;refine c7 ed _ ?_;obtain⟨ae,d_,h⟩:=an h;obtain⟨DH,cB,h⟩:=an h;(try simp only[fM.down,Nat.zero_add,Nat.add_zero,reduceAdd]at cB);refine iy (b7 [(3,.ag 3 ((bP++[ae]).map dT)),(6,.slice (a0.map bD)),(7,.int .i64 (a0.length:Int)),(8,.int .i64 ll)] (λP bc=>?_) ?_)
   ·(try simp only[aE.down,simprocAttr,RQ.down,lX,dB,cB]);refine dq (HN R _ d_) (hK:= ?_);simp only[aE.down,simprocAttr,RQ.down,lX,dB,cB];(try simp only[jg.down,simprocAttr,RQ.down,lX,dB,cB]at bc⊢);exact bc
   refine ez _ (b2 _ (inl (wr [(3,.ag 3 ((bP++[ae]).map dT)),(6,.slice (a0.map bD)),(7,.int .i64 (a0.length:Int)),(8,.int .i64 (i64.wrap (ll+1)))] ?_)));exact cG _ (inr ⟨_,bE rfl,hM (bP++[ae]) (i64.wrap (ll+1)) h⟩)
  .exact cS (cy 0 _ (bB 0 _ (dR _ (eZ _ (inl (aN ak [.ag 3 (bP.map dT)]))))))
 obtain⟨n,h⟩:=l_ h;exact p7 (inr ⟨_,hf [] rfl (ha (t:=3) (d:=.bf) (bT:=.ag 3 []) rfl rfl (.ix _) (by decide) (cz (t:=6) (d:=.slice (a0.map bD)) rfl (cz (t:=7) (d:=.int .i64 (a0.length:Int)) rfl (cz (t:=8) (d:=.int .i64 0) rfl (hh))))),hL n [] 0 h⟩)
theorem aak (a0 r) (h:KY a0=some r):aZ ah 136 [.slice (a0.map bD)] (.str r) []:=by
 refine bx [0] [.tmp 2] Tryz.func136 amh λbt ak bs=>aj ?_;refine aj ?_;refine ax ak λ_ eZ c_ az=>aj ?_;refine bg c_ λoL _ cv dR _=>?_;have hL:∀n bP ll,Db a0 n bP ll=some r->cL ah Y7 oL (ar [(3,.ag 1 (bP.map aV)),(6,.slice (a0.map bD)),(7,.int .i64 (a0.length:Int)),(8,.int .i64 ll)]):=by
  refine cZ λ_ hM bP ll h=>cX cv λ_ cG cU bB=>aj ?_;refine ax cU λ_ ig _ cy=>aD h (λe8 h=>?_) λe8 h=>?_
  .refine aK (ig _ (inl (ax cU λ_ b2 cN _=>bg cN λ_ ez _ _ _=>?_)));obtain⟨R,ed,h⟩:=an h;refine c7 ed _ ?_;obtain⟨ae,d_,h⟩:=an h;obtain⟨DH,cB,h⟩:=an h;(try simp only[fM.down,Nat.zero_add,Nat.add_zero,reduceAdd]at cB);refine As (U (show∀s,eh ah s 25 1 [(0,.str ae)]=some (.ag 1 [.str ae],s)from λs=>by kernel_rfl) (U (@kD ah 25 25 9 rfl rfl) (U @kE (U @kF (U @gQ (U @all_cons (U @all_nil (U cB (@j6 _ aV 1 λ_=>rfl))))))))) (aai R _ d_) [(3,.ag 1 ((bP++[ae]).map aV)),(6,.slice (a0.map bD)),(7,.int .i64 (a0.length:Int)),(8,.int .i64 ll)] ?_;refine ez _ (b2 _ (inl (wr [(3,.ag 1 ((bP++[ae]).map aV)),(6,.slice (a0.map bD)),(7,.int .i64 (a0.length:Int)),(8,.int .i64 (i64.wrap (ll+1)))] ?_)));exact cG _ (inr ⟨_,bE rfl,hM (bP++[ae]) (i64.wrap (ll+1)) h⟩)
  .refine cS (cy 0 _ (bB 0 _ (dR _ (eZ _ (inl ?_)))));obtain⟨az,fb,h⟩:=an h;refine dh (b7 [(2,.str az)] (λP bc=>?_) ?_)
   ·(try simp only[aE.down,simprocAttr]);refine dq (aad bP ([32]:azq) _ fb) rfl rfl (by simp only[aE.down,simprocAttr,RO.down]<;>rfl) rfl (inr (by rfl)) ?_;simp only[aE.down,simprocAttr];exact bU trivial
   exact cM ak [.str az]
 obtain⟨n,h⟩:=l_ h;exact p7 (inr ⟨_,hf [] rfl (ha (t:=3) (d:=.bf) (bT:=.ag 1 []) rfl rfl (.ix _) (by decide) (cz (t:=6) (d:=.slice (a0.map bD)) rfl (cz (t:=7) (d:=.int .i64 (a0.length:Int)) rfl (cz (t:=8) (d:=.int .i64 0) rfl (hh))))),hL n [] 0 h⟩)
theorem aal (bn bp bo bH bG gB gR gC J a2 a3 a4 a5 r) (h:Dd bn bp bo bH bG gB gR gC J a2 a3 a4 a5=some r):aZ ah 98 [.aM (.agg [.agg [.slice (bn.map bk),.slice (bp.map db),.slice (bo.map bJ),.slice (bH.map aV),.slice (bG.map aV)],.slice (gB.map bD),.ag 4 (gR.map fI),.cj (.mp gC)]),.str J,.slice (a2.map bb),.int .i64 a3,.int .i64 a4,.slice (a5.map bD)] (.tuple []) [.aM (.agg [.agg [.slice (r.1.map bk),.slice (r.2.1.map db),.slice (r.2.2.1.map bJ),.slice (r.2.2.2.1.map aV),.slice (r.2.2.2.2.1.map aV)],.slice (r.2.2.2.2.2.1.map bD),.ag 4 (r.2.2.2.2.2.2.1.map fI),.cj (.mp r.2.2.2.2.2.2.2)]),.hole,.hole,.hole,.hole,.hole]:=by
 refine bx [0,3,4,5] [] Tryz.func98 amk λbt ak bs=>ax ak λ_ mn en R=>?_;rcases dO h with⟨f_,h⟩|⟨f_,h⟩
 .obtain⟨R,cf,h⟩:=an h;refine eU f_ (SQ bH J _ cf) _ ?_;refine aD h (λdR h=>?_) λdR h=>?_
  .exact gr (en _ (inl (hs [] rfl (by cases eE h;rfl) (by decide) (hH (js (by cases eE h;rfl) rfl rfl rfl (dy (dy (dy (dy (dy (hI)))))))))))
  .refine aK (mn _ (inl ?_));have r4:∀tj tk,qP a3 a4 a5 bn bp bo bH bG gB gR gC tj tk=some r->bm ah RE bt (ar [(0,.aM (.agg [.agg [.slice (bn.map bk),.slice (bp.map db),.slice (bo.map bJ),.slice (bH.map aV),.slice (bG.map aV)],.slice (gB.map bD),.ag 4 (gR.map fI),.cj (.mp gC)])),(1,.str tj),(2,.slice (tk.map bb)),(3,.int .i64 a3),(4,.int .i64 a4),(5,.slice (a5.map bD))]):=by
    intro tj tk h;obtain⟨ae,gk,h⟩:=an h;refine cR (LY tj tk _ gk) _ ?_;obtain⟨az,iU,h⟩:=an h;refine cR (aaj gB _ iU) _ ?_;obtain⟨aY,dm,h⟩:=an h;obtain⟨aU,ed,h⟩:=an h;obtain⟨bB,dU,h⟩:=an h;refine dh (b7 [(0,.aM (.agg [.agg [.slice (bn.map bk),.slice (bp.map db),.slice (bo.map bJ),.slice (bH.map aV),.slice (bG.map aV)],.slice (gB.map bD),.ag 4 (gR.map fI),.cj (.mp gC)])),(3,.int .i64 a3),(4,.int .i64 a4),(5,.slice (a5.map bD)),(12,.str ae.1),(14,.ag 3 ((List.set az (Int.toNat a3) aU).map dT))] (λP bc=>?_) ?_)
    ·(try simp only[aE.down,simprocAttr,dm,dU,ca dU,cW,de]);refine dq (HN aY _ ed) (hK:= ?_);simp only[aE.down,simprocAttr,dm,dU,ca dU,cW,de];exact bU (U dm (U dU (U (ca dU) @cW)))
    have yH:∀iL nj,Dc a3 a4 bn bp bo bH bG gB gR gC iL nj=some r->bm ah RD bt (ar [(0,.aM (.agg [.agg [.slice (bn.map bk),.slice (bp.map db),.slice (bo.map bJ),.slice (bH.map aV),.slice (bG.map aV)],.slice (gB.map bD),.ag 4 (gR.map fI),.cj (.mp gC)])),(3,.int .i64 a3),(4,.int .i64 a4),(12,.str iL),(14,.ag 3 (nj.map dT))]):=by
     intro iL nj h;obtain⟨DT,dP,h⟩:=an h;(try simp only[fM.down,Nat.zero_add,Nat.add_zero,reduceAdd]at dP);obtain⟨bu,eG,h⟩:=an h;obtain⟨DT,fb,h⟩:=an h;(try simp only[fM.down,Nat.zero_add,Nat.add_zero,reduceAdd]at fb);obtain⟨DT,gp,h⟩:=an h;(try simp only[fM.down,Nat.zero_add,Nat.add_zero,reduceAdd]at gp);obtain⟨cy,gT,h⟩:=an h;obtain⟨DT,fl,h⟩:=an h;(try simp only[fM.down,Nat.zero_add,Nat.add_zero,reduceAdd]at fl);obtain⟨DT,iD,h⟩:=an h;(try simp only[fM.down,Nat.zero_add,Nat.add_zero,reduceAdd]at iD);obtain⟨dE,lP,h⟩:=an h;obtain⟨DT,iX,h⟩:=an h;(try simp only[fM.down,Nat.zero_add,Nat.add_zero,reduceAdd]at iX);refine dh (b7 [(0,.aM (.agg [.agg [.slice (bn.map bk),.slice (bp.map db),.slice (bo.map bJ),.slice (bH.map aV),.slice (bG.map aV)],.slice (gB.map bD),.ag 4 (gR.map fI),.cj (.mp gC)])),(3,.int .i64 a3),(4,.int .i64 a4),(12,.str iL),(14,.ag 3 (nj.map dT)),(15,.str ((((((iL++([32]:azq))++bu)++([32]:azq))++cy)++([32]:azq))++dE))] (λP bc=>?_) ?_)
     ·(try simp only[aE.down,simprocAttr,dP,mO.down,fb,gp,fl,iD,iX]);refine dq (AU a3 _ eG) (hK:= ?_);simp only[aE.down,simprocAttr,dP,mO.down,fb,gp,fl,iD,iX];refine dq (AU a4 _ gT) (hK:= ?_);simp only[aE.down,simprocAttr,dP,mO.down,fb,gp,fl,iD,iX];refine dq (aak nj _ lP) rfl rfl (by simp only[aE.down,simprocAttr,dP,Zu.down,fb,gp,fl,iD,iX]<;>rfl) rfl (inr (by rfl)) ?_;simp only[aE.down,simprocAttr,dP,mO.down,fb,gp,fl,iD,iX];exact bU (U dP (U mO.down (U fb (U gp (U fl (U iD iX))))))
     refine c7 (U @OC (U @BZ (show ri ah 148=true from by kernel_rfl))) [(0,.aM (.agg [.agg [.slice (bn.map bk),.slice (bp.map db),.slice (bo.map bJ),.slice (bH.map aV),.slice (bG.map aV)],.slice (gB.map bD),.ag 4 (gR.map fI),.cj (.mp gC)])),(3,.int .i64 a3),(4,.int .i64 a4),(12,.str iL),(14,.ag 3 (nj.map dT)),(15,.str ((((((iL++([32]:azq))++bu)++([32]:azq))++cy)++([32]:azq))++dE)),(81,.bool (!(kh ((((((iL++([32]:azq))++bu)++([32]:azq))++cy)++([32]:azq))++dE) gC)))] ?_;refine aD h (λoM h=>?_) λoM h=>?_
     .refine c7 (U @OD (U @BZ (show ri ah 148=true from by kernel_rfl))) [(0,.aM (.agg [.agg [.slice (bn.map bk),.slice (bp.map db),.slice (bo.map bJ),.slice (bH.map aV),.slice (bG.map aV)],.slice (gB.map bD),.ag 4 (gR.map fI),.cj (.mp (ku ((((((iL++([32]:azq))++bu)++([32]:azq))++cy)++([32]:azq))++dE) true gC))])),(3,.int .i64 a3),(4,.int .i64 a4),(12,.str iL),(14,.ag 3 (nj.map dT))] ?_;obtain⟨DT,HO,h⟩:=an h;(try simp only[fM.down,Nat.zero_add,Nat.add_zero,reduceAdd]at HO);refine iy (b7 [(0,.aM (.agg [.agg [.slice (bn.map bk),.slice (bp.map db),.slice (bo.map bJ),.slice (bH.map aV),.slice (bG.map aV)],.slice (gB.map bD),.ag 4 ((gR++[(br.mk iL a3 a4 nj)]).map fI),.cj (.mp (ku ((((((iL++([32]:azq))++bu)++([32]:azq))++cy)++([32]:azq))++dE) true gC))]))] (λP bc=>?_) ?_)
      .simp only[aE.down,simprocAttr,Ly.down,dZ,dB,lX,HO];(try simp only[jg.down,simprocAttr,Ly.down,dZ,dB,lX,HO]at bc⊢);exact bc
      exact bs _ (inl (hs [] rfl (by cases eE h;rfl) (by decide) (hH (js (by cases eE h;rfl) rfl rfl rfl (dy (dy (dy (dy (dy (hI))))))))))
     .exact aK (bs _ (inl (hs [] rfl (by cases eE h;rfl) (by decide) (hH (js (by cases eE h;rfl) rfl rfl rfl (dy (dy (dy (dy (dy (hI)))))))))))
    refine ax ak λ_ gb _ hB=>ws [(0,.aM (.agg [.agg [.slice (bn.map bk),.slice (bp.map db),.slice (bo.map bJ),.slice (bH.map aV),.slice (bG.map aV)],.slice (gB.map bD),.ag 4 (gR.map fI),.cj (.mp gC)])),(3,.int .i64 a3),(4,.int .i64 a4),(5,.slice (a5.map bD)),(12,.str ae.1),(14,.ag 3 ((List.set az (Int.toNat a3) aU).map dT)),(54,.bool (decide (0<=a4)))] ?_;refine aD h (λAy h=>?_) λAy h=>?_
    .obtain⟨dN,jI,h⟩:=an h;obtain⟨fa,AO,h⟩:=an h;obtain⟨kH,pN,h⟩:=an h;refine iy (b7 [(0,.aM (.agg [.agg [.slice (bn.map bk),.slice (bp.map db),.slice (bo.map bJ),.slice (bH.map aV),.slice (bG.map aV)],.slice (gB.map bD),.ag 4 (gR.map fI),.cj (.mp gC)])),(3,.int .i64 a3),(4,.int .i64 a4),(12,.str ae.1),(14,.ag 3 ((List.set (List.set az (Int.toNat a3) aU) (Int.toNat a4) fa).map dT))] (λP bc=>?_) ?_)
     ·(try simp only[aE.down,simprocAttr,jI,pN,ca pN,cW,de]);refine dq (HN dN _ AO) (hK:= ?_);simp only[aE.down,simprocAttr,jI,pN,ca pN,cW,de];exact bU (U jI (U pN (U (ca pN) @cW)))
     exact gb _ (inr ⟨_,bE rfl,yH ae.1 (List.set (List.set az (Int.toNat a3) aU) (Int.toNat a4) fa) h⟩)
    .exact aK (gb _ (inr ⟨_,bE rfl,yH ae.1 (List.set az (Int.toNat a3) aU) h⟩))
   refine ax ak λ_ cG _ bB=>?_;obtain⟨mK,tD,h⟩:=an h;refine cR (SQ bG J _ tD) _ ?_;refine aD h (λAN h=>?_) λAN h=>?_
   .refine dr ?_;exact cG _ (inr ⟨_,hf [] rfl (cz (t:=0) (d:=.aM (.agg [.agg [.slice (bn.map bk),.slice (bp.map db),.slice (bo.map bJ),.slice (bH.map aV),.slice (bG.map aV)],.slice (gB.map bD),.ag 4 (gR.map fI),.cj (.mp gC)])) rfl (cz (t:=1) (d:=.str ([116,97,117]:azq)) rfl (ha (t:=2) (d:=.bf) (bT:=.slice []) rfl rfl (.qH) (by decide) (cz (t:=3) (d:=.int .i64 a3) rfl (cz (t:=4) (d:=.int .i64 a4) rfl (cz (t:=5) (d:=.slice (a5.map bD)) rfl (hh))))))),r4 ([116,97,117]:azq) [] h⟩)
   .exact aK (cG _ (inr ⟨_,bE rfl,r4 J a2 h⟩))
 .refine c7 f_ _ ?_;refine ot rfl ?_;refine aK (mn _ (inl ?_));have r4:∀tj tk,qP a3 a4 a5 bn bp bo bH bG gB gR gC tj tk=some r->bm ah RE bt (ar [(0,.aM (.agg [.agg [.slice (bn.map bk),.slice (bp.map db),.slice (bo.map bJ),.slice (bH.map aV),.slice (bG.map aV)],.slice (gB.map bD),.ag 4 (gR.map fI),.cj (.mp gC)])),(1,.str tj),(2,.slice (tk.map bb)),(3,.int .i64 a3),(4,.int .i64 a4),(5,.slice (a5.map bD))]):=by
   intro tj tk h;obtain⟨je,DL,h⟩:=an h;refine cR (LY tj tk _ DL) _ ?_;obtain⟨hB,yz,h⟩:=an h;refine cR (aaj gB _ yz) _ ?_;obtain⟨ju,AP,h⟩:=an h;obtain⟨iK,SF,h⟩:=an h;obtain⟨qb,tA,h⟩:=an h;refine dh (b7 [(0,.aM (.agg [.agg [.slice (bn.map bk),.slice (bp.map db),.slice (bo.map bJ),.slice (bH.map aV),.slice (bG.map aV)],.slice (gB.map bD),.ag 4 (gR.map fI),.cj (.mp gC)])),(3,.int .i64 a3),(4,.int .i64 a4),(5,.slice (a5.map bD)),(12,.str je.1),(14,.ag 3 ((List.set hB (Int.toNat a3) iK).map dT))] (λP bc=>?_) ?_)
   ·(try simp only[aE.down,simprocAttr,AP,tA,ca tA,cW,de]);refine dq (HN ju _ SF) (hK:= ?_);simp only[aE.down,simprocAttr,AP,tA,ca tA,cW,de];exact bU (U AP (U tA (U (ca tA) @cW)))
   have yH:∀iL nj,Dc a3 a4 bn bp bo bH bG gB gR gC iL nj=some r->bm ah RD bt (ar [(0,.aM (.agg [.agg [.slice (bn.map bk),.slice (bp.map db),.slice (bo.map bJ),.slice (bH.map aV),.slice (bG.map aV)],.slice (gB.map bD),.ag 4 (gR.map fI),.cj (.mp gC)])),(3,.int .i64 a3),(4,.int .i64 a4),(12,.str iL),(14,.ag 3 (nj.map dT))]):=by
    intro iL nj h;obtain⟨DU,sb,h⟩:=an h;(try simp only[fM.down,Nat.zero_add,Nat.add_zero,reduceAdd]at sb);obtain⟨lI,DO,h⟩:=an h;obtain⟨DU,w1,h⟩:=an h;(try simp only[fM.down,Nat.zero_add,Nat.add_zero,reduceAdd]at w1);obtain⟨DU,oN,h⟩:=an h;(try simp only[fM.down,Nat.zero_add,Nat.add_zero,reduceAdd]at oN);obtain⟨lJ,HJ,h⟩:=an h;obtain⟨DU,w3,h⟩:=an h;(try simp only[fM.down,Nat.zero_add,Nat.add_zero,reduceAdd]at w3);obtain⟨DU,n9,h⟩:=an h;(try simp only[fM.down,Nat.zero_add,Nat.add_zero,reduceAdd]at n9);obtain⟨lj,r_,h⟩:=an h;obtain⟨DU,tC,h⟩:=an h;(try simp only[fM.down,Nat.zero_add,Nat.add_zero,reduceAdd]at tC);refine dh (b7 [(0,.aM (.agg [.agg [.slice (bn.map bk),.slice (bp.map db),.slice (bo.map bJ),.slice (bH.map aV),.slice (bG.map aV)],.slice (gB.map bD),.ag 4 (gR.map fI),.cj (.mp gC)])),(3,.int .i64 a3),(4,.int .i64 a4),(12,.str iL),(14,.ag 3 (nj.map dT)),(15,.str ((((((iL++([32]:azq))++lI)++([32]:azq))++lJ)++([32]:azq))++lj))] (λP bc=>?_) ?_)
    ·(try simp only[aE.down,simprocAttr,sb,mO.down,w1,oN,w3,n9,tC]);refine dq (AU a3 _ DO) (hK:= ?_);simp only[aE.down,simprocAttr,sb,mO.down,w1,oN,w3,n9,tC];refine dq (AU a4 _ HJ) (hK:= ?_);simp only[aE.down,simprocAttr,sb,mO.down,w1,oN,w3,n9,tC];refine dq (aak nj _ r_) rfl rfl (by simp only[aE.down,simprocAttr,sb,Zu.down,w1,oN,w3,n9,tC]<;>rfl) rfl (inr (by rfl)) ?_;simp only[aE.down,simprocAttr,sb,mO.down,w1,oN,w3,n9,tC];exact bU (U sb (U mO.down (U w1 (U oN (U w3 (U n9 tC))))))
    refine c7 (U @OC (U @BZ (show ri ah 148=true from by kernel_rfl))) [(0,.aM (.agg [.agg [.slice (bn.map bk),.slice (bp.map db),.slice (bo.map bJ),.slice (bH.map aV),.slice (bG.map aV)],.slice (gB.map bD),.ag 4 (gR.map fI),.cj (.mp gC)])),(3,.int .i64 a3),(4,.int .i64 a4),(12,.str iL),(14,.ag 3 (nj.map dT)),(15,.str ((((((iL++([32]:azq))++lI)++([32]:azq))++lJ)++([32]:azq))++lj)),(81,.bool (!(kh ((((((iL++([32]:azq))++lI)++([32]:azq))++lJ)++([32]:azq))++lj) gC)))] ?_;refine aD h (λarE h=>?_) λarE h=>?_
    .refine c7 (U @OD (U @BZ (show ri ah 148=true from by kernel_rfl))) [(0,.aM (.agg [.agg [.slice (bn.map bk),.slice (bp.map db),.slice (bo.map bJ),.slice (bH.map aV),.slice (bG.map aV)],.slice (gB.map bD),.ag 4 (gR.map fI),.cj (.mp (ku ((((((iL++([32]:azq))++lI)++([32]:azq))++lJ)++([32]:azq))++lj) true gC))])),(3,.int .i64 a3),(4,.int .i64 a4),(12,.str iL),(14,.ag 3 (nj.map dT))] ?_;obtain⟨DU,HL,h⟩:=an h;(try simp only[fM.down,Nat.zero_add,Nat.add_zero,reduceAdd]at HL);refine iy (b7 [(0,.aM (.agg [.agg [.slice (bn.map bk),.slice (bp.map db),.slice (bo.map bJ),.slice (bH.map aV),.slice (bG.map aV)],.slice (gB.map bD),.ag 4 ((gR++[(br.mk iL a3 a4 nj)]).map fI),.cj (.mp (ku ((((((iL++([32]:azq))++lI)++([32]:azq))++lJ)++([32]:azq))++lj) true gC))]))] (λP bc=>?_) ?_)
     .simp only[aE.down,simprocAttr,Ly.down,dZ,dB,lX,HL];(try simp only[jg.down,simprocAttr,Ly.down,dZ,dB,lX,HL]at bc⊢);exact bc
     exact bs _ (inl (hs [] rfl (by cases eE h;rfl) (by decide) (hH (js (by cases eE h;rfl) rfl rfl rfl (dy (dy (dy (dy (dy (hI))))))))))
    .exact aK (bs _ (inl (hs [] rfl (by cases eE h;rfl) (by decide) (hH (js (by cases eE h;rfl) rfl rfl rfl (dy (dy (dy (dy (dy (hI)))))))))))
   refine ax ak λ_ aam _ _=>ws [(0,.aM (.agg [.agg [.slice (bn.map bk),.slice (bp.map db),.slice (bo.map bJ),.slice (bH.map aV),.slice (bG.map aV)],.slice (gB.map bD),.ag 4 (gR.map fI),.cj (.mp gC)])),(3,.int .i64 a3),(4,.int .i64 a4),(5,.slice (a5.map bD)),(12,.str je.1),(14,.ag 3 ((List.set hB (Int.toNat a3) iK).map dT)),(54,.bool (decide (0<=a4)))] ?_;refine aD h (λn8 h=>?_) λn8 h=>?_
   .obtain⟨mN,SR,h⟩:=an h;obtain⟨lK,arF,h⟩:=an h;obtain⟨PX,vl,h⟩:=an h;refine iy (b7 [(0,.aM (.agg [.agg [.slice (bn.map bk),.slice (bp.map db),.slice (bo.map bJ),.slice (bH.map aV),.slice (bG.map aV)],.slice (gB.map bD),.ag 4 (gR.map fI),.cj (.mp gC)])),(3,.int .i64 a3),(4,.int .i64 a4),(12,.str je.1),(14,.ag 3 ((List.set (List.set hB (Int.toNat a3) iK) (Int.toNat a4) lK).map dT))] (λP bc=>?_) ?_)
    ·(try simp only[aE.down,simprocAttr,SR,vl,ca vl,cW,de]);refine dq (HN mN _ arF) (hK:= ?_);simp only[aE.down,simprocAttr,SR,vl,ca vl,cW,de];exact bU (U SR (U vl (U (ca vl) @cW)))
    exact aam _ (inr ⟨_,bE rfl,yH je.1 (List.set (List.set hB (Int.toNat a3) iK) (Int.toNat a4) lK) h⟩)
   .exact aK (aam _ (inr ⟨_,bE rfl,yH je.1 (List.set hB (Int.toNat a3) iK) h⟩))
  refine ax ak λ_ AM _ _=>?_;obtain⟨wt,Hv,h⟩:=an h;refine cR (SQ bG J _ Hv) _ ?_;refine aD h (λarG h=>?_) λarG h=>?_
  .refine dr ?_;exact AM _ (inr ⟨_,hf [] rfl (cz (t:=0) (d:=.aM (.agg [.agg [.slice (bn.map bk),.slice (bp.map db),.slice (bo.map bJ),.slice (bH.map aV),.slice (bG.map aV)],.slice (gB.map bD),.ag 4 (gR.map fI),.cj (.mp gC)])) rfl (cz (t:=1) (d:=.str ([116,97,117]:azq)) rfl (ha (t:=2) (d:=.bf) (bT:=.slice []) rfl rfl (.qH) (by decide) (cz (t:=3) (d:=.int .i64 a3) rfl (cz (t:=4) (d:=.int .i64 a4) rfl (cz (t:=5) (d:=.slice (a5.map bD)) rfl (hh))))))),r4 ([116,97,117]:azq) [] h⟩)
  .exact aK (AM _ (inr ⟨_,bE rfl,r4 J a2 h⟩))
theorem arH (a0 J a2 r) (h:Ye a0 J a2=some r):aZ ah 180 [bJ a0,.ref (.str J),.ref (.str a2)] (.bool r) []:=by
 refine bx [0,1,2] [.tmp 4] Tryz.func180 aml λbt ak bs=>aj ?_;refine Lt (a0.Left==(h8 false J a2)) (U @Xp @agN) [(4,.bool ((a0.Left==(h8 false J a2))&&(a0.cH==(h8 true J a2))))] ?_;exact cM ak [.bool ((a0.Left==(h8 false J a2))&&(a0.cH==(h8 true J a2)))]
theorem arI (a0 iW kK r) (h:QV a0 iW kK=some r):aZ ah 167 [.slice (a0.map bJ),.fn 180 [.ref (.str iW),.ref (.str kK)]] (.int .i64 r) []:=by
 refine bx [0,1] [.tmp 4] Tryz.func167 amm λbt ak bs=>aj ?_;refine ax ak λ_ bF bd ae=>aj ?_;refine bg bd λeP _ bR bw _=>?_;show bm ah (.loop ?eN) _ _;have e4:∀n cK,De a0 iW kK n cK=some r->cL ah ?eN eP (ar [(0,.slice (a0.map bJ)),(1,.fn 180 [.ref (.str iW),.ref (.str kK)]),(7,.int .i64 (a0.length:Int)),(8,.int .i64 cK)]):=by
  refine cZ λ_ eL cK h=>cX bR λ_ dM cv aU=>aj ?_;refine ax cv λ_ dw _ bu=>aD h (λb1 h=>?_) λb1 h=>?_
  .refine aK (dw _ (inl (ax cv λ_ cE b9 _=>bg b9 λ_ b2 cN _ _=>aj ?_)));obtain⟨R,ed,h⟩:=an h;obtain⟨ae,dU,h⟩:=an h;refine eU ed (arH R iW kK _ dU) _ ?_;refine aD h (λff h=>?_) λff h=>?_
   .exact aN cN [.int .i64 cK]
   .refine aK (b2 _ (cE _ (inl (dr ?_))));exact dM _ (inr ⟨_,bE rfl,eL (i64.wrap (cK+1)) h⟩)
  .exact cS (bu 0 _ (aU 0 _ (bw _ (bF _ (inl (aN ak [.int .i64 (-1)]))))))
 exact dn h λn h=>e4 n 0 h
theorem arJ (a0 J a2 r) (h:Al a0 J a2=some r):aZ ah 137 [fD a0,.str J,.str a2] (.tuple [.str r.1,.bool r.2]) []:=by
 refine bx [0,1,2] [.tmp 6,.tmp 7] Tryz.func137 amn λbt ak bs=>aj ?_;obtain⟨R,aS,h⟩:=an h;refine dh (b7 [(3,.aM (fD a0)),(8,.int .i64 R)] (λP bc=>?_) ?_)
 ·(try simp only[aE.down,simprocAttr]);refine dq (arI a0.cb J a2 _ aS) rfl rfl (by simp only[aE.down,simprocAttr,yx.down]<;>rfl) rfl (inr (by rfl)) ?_;simp only[aE.down,simprocAttr];exact bU trivial
 refine ax ak λ_ fj bR _=>aj ?_;refine aD h (λcP h=>?_) λcP h=>?_
 .exact aN bR [.str ([]:azq),.bool false]
 .refine aK (fj _ (inl ?_));obtain⟨ae,h_,h⟩:=an h;refine c7 h_ _ ?_;exact cM ak [.str ae.Result,.bool true]
theorem arK (a0 J r) (h:GO a0 J=some r):aZ ah 138 [.slice (a0.map bb),.slice (J.map bb)] (.bool r) []:=by
 refine bx [0,1] [.tmp 4] Tryz.func138 c138 λbt ak bs=>aj ?_;refine ax ak λ_ bF bd ae=>aj ?_;refine aD h (λbw h=>?_) λbw h=>?_
 .exact aN bd [.bool false]
 .refine aK (bF _ (inl (ax ak λ_ cG cU _=>aj ?_)));refine bg cU λiN _ h0 b1 _=>?_;show bm ah (.loop ?gS) _ _;have gV:∀n tl,Df a0 J n tl=some r->cL ah ?gS iN (ar [(0,.slice (a0.map bb)),(1,.slice (J.map bb)),(12,.int .i64 (a0.length:Int)),(13,.int .i64 tl)]):=by
   refine cZ λ_ gE tl h=>cX h0 λ_ cE b9 dE=>aj ?_;refine ax b9 λ_ ez _ fa=>aD h (λfk h=>?_) λfk h=>?_
   .refine aK (ez _ (inl (ax b9 λ_ fL fJ _=>bg fJ λ_ eO et _ _=>aj ?_)));obtain⟨R,dP,h⟩:=an h;obtain⟨ae,eG,h⟩:=an h;refine pJ (U dP eG) _ ?_;refine aD h (λhb h=>?_) λhb h=>?_
    .exact aN et [.bool false]
    .refine aK (eO _ (fL _ (inl (dr ?_))));exact cE _ (inr ⟨_,bE rfl,gE (i64.wrap (tl+1)) h⟩)
   .exact cS (fa 0 _ (dE 0 _ (b1 _ (cG _ (inl (aN ak [.bool true]))))))
  exact dn h λn h=>gV n 0 h
theorem arL (bn bp bo bH bG gB gR gC J a2 a3 a4 r) (h:QZ bn bp bo bH bG gB gR gC J a2 a3 a4=some r):aZ ah 99 [.aM (.agg [.agg [.slice (bn.map bk),.slice (bp.map db),.slice (bo.map bJ),.slice (bH.map aV),.slice (bG.map aV)],.slice (gB.map bD),.ag 4 (gR.map fI),.cj (.mp gC)]),.int .i64 J,.int .i64 a2,.slice (a3.map di),.slice (a4.map di)] (.tuple []) [.aM (.agg [.agg [.slice (r.1.map bk),.slice (r.2.1.map db),.slice (r.2.2.1.map bJ),.slice (r.2.2.2.1.map aV),.slice (r.2.2.2.2.1.map aV)],.slice (r.2.2.2.2.2.1.map bD),.ag 4 (r.2.2.2.2.2.2.1.map fI),.cj (.mp r.2.2.2.2.2.2.2)]),.hole,.hole,.hole,.hole]:=by
 refine bx [0,1,2,3,4] [] Tryz.func99 amp λbt ak bs=>aj ?_;refine bg ak λN1 _ bd fZ ae=>?_;have arM:∀n u9 u_ va vb vc vd ve vf tm,tn J a2 a3 a4 n u9 u_ va vb vc vd ve vf tm=some r->cL ah Y_ N1 (ar [(0,.aM (.agg [.agg [.slice (u9.map bk),.slice (u_.map db),.slice (va.map bJ),.slice (vb.map aV),.slice (vc.map aV)],.slice (vd.map bD),.ag 4 (ve.map fI),.cj (.mp vf)])),(1,.int .i64 J),(2,.int .i64 a2),(4,.slice (a4.map di)),(22,.slice (a3.map di)),(23,.int .i64 (a3.length:Int)),(24,.int .i64 tm)]):=by
  refine cZ λm3 arN u9 u_ va vb vc vd ve vf tm h=>cX bd λ_ eZ c_ az=>aj ?_;refine ax c_ λ_ dM _ aU=>aD h (λcP h=>?_) λcP h=>?_
  .refine aK (dM _ (inl (ax c_ λ_ dw ev bu=>bg ev λ_ ig h0 _ _=>?_)));obtain⟨R,iU,h⟩:=an h;refine c7 iU _ ?_;obtain⟨ae,dm,h⟩:=an h;refine cR (LZ R.Label _ dm) _ ?_;refine aj ?_;refine bg h0 λHo _ et iM _=>?_;have arO:∀n oD oE oF oG oH pF pG pH o4 o5,wJ (tn J a2 a3 a4 m3) J a2 a3 a4 R ae n oD oE oF oG oH pF pG pH o4 o5=some r->cL ah Y9 Ho (ar [(0,.aM (.agg [.agg [.slice (oD.map bk),.slice (oE.map db),.slice (oF.map bJ),.slice (oG.map aV),.slice (oH.map aV)],.slice (pF.map bD),.ag 4 (pG.map fI),.cj (.mp pH)])),(1,.int .i64 J),(2,.int .i64 a2),(4,.slice (a4.map di)),(11,.aM (di R)),(12,.str ae.1),(13,.slice (ae.2.1.map bb)),(22,.slice (a3.map di)),(23,.int .i64 (a3.length:Int)),(24,.int .i64 o4),(35,.slice (a4.map di)),(36,.int .i64 (a4.length:Int)),(37,.int .i64 o5)]):=by
    refine cZ λm19 arP oD oE oF oG oH pF pG pH o4 o5 h=>cX et λHI gb gJ hB=>aj ?_;refine ax gJ λ_ jU _ iK=>aD h (λij h=>?_) λij h=>?_
    .refine aK (jU _ (inl ?_));have SS:∀Dg Dh Di Dj Dk Dl Dm Dn Dp Dq,GP (tn J a2 a3 a4 m3) (wJ (tn J a2 a3 a4 m3) J a2 a3 a4 R ae m19) J a2 a3 a4 R ae Dg Dh Di Dj Dk Dl Dm Dn Dp Dq=some r->bm ah Y8 HI (ar [(0,.aM (.agg [.agg [.slice (Dg.map bk),.slice (Dh.map db),.slice (Di.map bJ),.slice (Dj.map aV),.slice (Dk.map aV)],.slice (Dl.map bD),.ag 4 (Dm.map fI),.cj (.mp Dn)])),(1,.int .i64 J),(2,.int .i64 a2),(4,.slice (a4.map di)),(11,.aM (di R)),(12,.str ae.1),(13,.slice (ae.2.1.map bb)),(22,.slice (a3.map di)),(23,.int .i64 (a3.length:Int)),(24,.int .i64 Dp),(35,.slice (a4.map di)),(36,.int .i64 (a4.length:Int)),(37,.int .i64 Dq)]):=by
      intro Dg Dh Di Dj Dk Dl Dm Dn Dp Dq h;refine dr ?_;exact gb _ (inr ⟨_,bE rfl,arP Dg Dh Di Dj Dk Dl Dm Dn Dp (i64.wrap (Dq+1)) h⟩)
     refine ax gJ λ_ r3 Hp _=>bg Hp λ_ tF _ _ _=>?_;obtain⟨az,iD,h⟩:=an h;refine c7 iD _ ?_;obtain⟨aY,iX,h⟩:=an h;refine cR (LZ az.Label _ iX) _ ?_;obtain⟨aU,pL,h⟩:=an h;refine cR (arJ (cY.mk oD oE oF oG oH) ae.1 aY.1 _ pL) _ ?_;rcases dO h with⟨ik,h⟩|⟨ik,h⟩
     .obtain⟨bB,HO,h⟩:=an h;refine dh (b7 [(0,.aM (.agg [.agg [.slice (oD.map bk),.slice (oE.map db),.slice (oF.map bJ),.slice (oG.map aV),.slice (oH.map aV)],.slice (pF.map bD),.ag 4 (pG.map fI),.cj (.mp pH)])),(1,.int .i64 J),(2,.int .i64 a2),(4,.slice (a4.map di)),(11,.aM (di R)),(12,.str ae.1),(13,.slice (ae.2.1.map bb)),(16,.aM (di az)),(20,.str aU.1),(22,.slice (a3.map di)),(23,.int .i64 (a3.length:Int)),(24,.int .i64 o4),(35,.slice (a4.map di)),(36,.int .i64 (a4.length:Int)),(37,.int .i64 o5),(63,.bool bB)] (λP bc=>?_) ?_)
      ·(try simp only[aE.down,simprocAttr,ik]);refine g_ (arK ae.2.1 aY.2.1 _ HO) rfl rfl (by simp only[aE.down,simprocAttr,ik,Lv.down]<;>rfl) rfl (inr (by rfl)) ?_;simp only[aE.down,simprocAttr,ik];exact bU ik
      refine aD h (λhj h=>?_) λhj h=>?_
      .obtain⟨bu,o7,h⟩:=an h;refine iy (b7 [(0,.aM (.agg [.agg [.slice (bu.1.map bk),.slice (bu.2.1.map db),.slice (bu.2.2.1.map bJ),.slice (bu.2.2.2.1.map aV),.slice (bu.2.2.2.2.1.map aV)],.slice (bu.2.2.2.2.2.1.map bD),.ag 4 (bu.2.2.2.2.2.2.1.map fI),.cj (.mp bu.2.2.2.2.2.2.2)])),(1,.int .i64 J),(2,.int .i64 a2),(4,.slice (a4.map di)),(11,.aM (di R)),(12,.str ae.1),(13,.slice (ae.2.1.map bb)),(22,.slice (a3.map di)),(23,.int .i64 (a3.length:Int)),(24,.int .i64 o4),(35,.slice (a4.map di)),(36,.int .i64 (a4.length:Int)),(37,.int .i64 o5)] (λP bc=>?_) ?_)
       ·(try simp only[aE.down,simprocAttr,(show∀s,eh ah s 31 2 [(0,.agg [.int .i64 R.Next.cJ,.int .i64 R.Next.Part,.slice (R.Next.b5.map bb)]),(1,.agg [.int .i64 az.Next.cJ,.int .i64 az.Next.Part,.slice (az.Next.b5.map bb)])]=some (.ag 3 [.agg [.int .i64 R.Next.cJ,.int .i64 R.Next.Part,.slice (R.Next.b5.map bb)],.agg [.int .i64 az.Next.cJ,.int .i64 az.Next.Part,.slice (az.Next.b5.map bb)]],s)from λs=>by kernel_rfl),Lz.down,I.shares]);refine k1 [⟨.h 0 [],true,_,_⟩,⟨.str aU.1,false,_,.hole⟩,⟨.slice (ae.2.1.map bb),false,_,.hole⟩,⟨.int .i64 J,false,_,.hole⟩,⟨.int .i64 a2,false,_,.hole⟩,⟨.slice ([R.Next,az.Next].map bD),false,_,.hole⟩] (aal oD oE oF oG oH pF pG pH aU.1 ae.2.1 J a2 [R.Next,az.Next] _ o7) rfl rfl rfl (by simp only[aE.down,simprocAttr,(show∀s,eh ah s 31 2 [(0,.agg [.int .i64 R.Next.cJ,.int .i64 R.Next.Part,.slice (R.Next.b5.map bb)]),(1,.agg [.int .i64 az.Next.cJ,.int .i64 az.Next.Part,.slice (az.Next.b5.map bb)])]=some (.ag 3 [.agg [.int .i64 R.Next.cJ,.int .i64 R.Next.Part,.slice (R.Next.b5.map bb)],.agg [.int .i64 az.Next.cJ,.int .i64 az.Next.Part,.slice (az.Next.b5.map bb)]],s)from λs=>by kernel_rfl),Zv.down,I.shares]) rfl rfl (inl rfl) ?_;simp only[aE.down,simprocAttr,(show∀s,eh ah s 31 2 [(0,.agg [.int .i64 R.Next.cJ,.int .i64 R.Next.Part,.slice (R.Next.b5.map bb)]),(1,.agg [.int .i64 az.Next.cJ,.int .i64 az.Next.Part,.slice (az.Next.b5.map bb)])]=some (.ag 3 [.agg [.int .i64 R.Next.cJ,.int .i64 R.Next.Part,.slice (R.Next.b5.map bb)],.agg [.int .i64 az.Next.cJ,.int .i64 az.Next.Part,.slice (az.Next.b5.map bb)]],s)from λs=>by kernel_rfl),Zw.down,I.shares];exact bU (U (show∀s,eh ah s 31 2 [(0,.agg [.int .i64 R.Next.cJ,.int .i64 R.Next.Part,.slice (R.Next.b5.map bb)]),(1,.agg [.int .i64 az.Next.cJ,.int .i64 az.Next.Part,.slice (az.Next.b5.map bb)])]=some (.ag 3 [.agg [.int .i64 R.Next.cJ,.int .i64 R.Next.Part,.slice (R.Next.b5.map bb)],.agg [.int .i64 az.Next.cJ,.int .i64 az.Next.Part,.slice (az.Next.b5.map bb)]],s)from λs=>by kernel_rfl) Lz.down)
       exact tF _ (r3 _ (inr ⟨_,bE rfl,SS bu.1 bu.2.1 bu.2.2.1 bu.2.2.2.1 bu.2.2.2.2.1 bu.2.2.2.2.2.1 bu.2.2.2.2.2.2.1 bu.2.2.2.2.2.2.2 o4 o5 h⟩))
      .exact aK (tF _ (r3 _ (inr ⟨_,bE rfl,SS oD oE oF oG oH pF pG pH o4 o5 h⟩)))
     .refine c7 ik _ ?_;refine ot rfl ?_;exact aK (tF _ (r3 _ (inr ⟨_,bE rfl,SS oD oE oF oG oH pF pG pH o4 o5 h⟩)))
    .refine cS (iK 2 _ (hB 2 _ (iM _ (ig _ (dw _ (inl (dr ?_)))))));exact eZ _ (inr ⟨_,bE rfl,arN oD oE oF oG oH pF pG pH (i64.wrap (o4+1)) h⟩)
   obtain⟨n,h⟩:=l_ h;exact p7 (inr ⟨_,hf [] rfl (cz (t:=0) (d:=.aM (.agg [.agg [.slice (u9.map bk),.slice (u_.map db),.slice (va.map bJ),.slice (vb.map aV),.slice (vc.map aV)],.slice (vd.map bD),.ag 4 (ve.map fI),.cj (.mp vf)])) rfl (cz (t:=1) (d:=.int .i64 J) rfl (cz (t:=2) (d:=.int .i64 a2) rfl (cz (t:=4) (d:=.slice (a4.map di)) rfl (cz (t:=11) (d:=.aM (di R)) rfl (cz (t:=12) (d:=.str ae.1) rfl (ha (t:=13) (d:=.ag 1 (ae.2.1.map bb)) (bT:=.slice (ae.2.1.map bb)) rfl rfl (WU rfl rfl (congrArg I.slice (b4 (λ_=>ko _) _))) (by decide) (cz (t:=22) (d:=.slice (a3.map di)) rfl (cz (t:=23) (d:=.int .i64 (a3.length:Int)) rfl (cz (t:=24) (d:=.int .i64 tm) rfl (cz (t:=35) (d:=.slice (a4.map di)) rfl (cz (t:=36) (d:=.int .i64 (a4.length:Int)) rfl (cz (t:=37) (d:=.int .i64 0) rfl (hh)))))))))))))),arO n u9 u_ va vb vc vd ve vf tm 0 h⟩)
  .exact cS (aU 0 _ (az 0 _ (fZ _ (bs _ (inl (hs [] rfl (by cases eE h;rfl) (by decide) (hH (js (by cases eE h;rfl) rfl rfl rfl (dy (dy (dy (dy (hI)))))))))))))
 exact dn h λn h=>arM n bn bp bo bH bG gB gR gC 0 h
theorem arQ (a0 J r) (h:KZ a0 J=some r):aZ ah 61 [fD a0,.slice (J.map bD)] (.tuple [.ag 4 (r.1.map fI),.bool r.2]) []:=by
 refine bx [0,1] [.tmp 4,.tmp 5] Tryz.func61 amt λbt ak bs=>aj ?_;refine c7 (U @Xl (U (@ng ah 150 [(38,0),(31,5),(96,6),(148,7)] [(.agg [.bf,.bf,.bf,.bf,.bf]),.bf,.bf,(.cj .kv)] rfl rfl (by kernel_rfl)) (U @lY (U @lZ (U @cW (U @gQ (U @List.nil_append.{0} @List.cons_append.{0}))))))) _ ?_;refine aj ?_;refine ax ak λ_ fj bR aY=>aj ?_;refine bg bR λjh _ cU cP bB=>?_;have AK:∀n lH qW qX qY gn n3,qh a0 J n lH qW qX qY gn n3=some r->cL ah Zb jh (ar [(1,.slice (J.map bD)),(2,.aM (fD a0)),(6,.aM (.agg [fD lH,.slice (qW.map bD),.ag 4 (qX.map fI),.cj (.mp qY)])),(7,.ag 1 (gn.map gu)),(24,.slice (J.map bD)),(25,.int .i64 (J.length:Int)),(26,.int .i64 n3)]):=by
  refine cZ λm10 AL lH qW qX qY gn n3 h=>cX cU λ_ dw ev bu=>aj ?_;refine ax ev λ_ cE _ dE=>aD h (λe3 h=>?_) λe3 h=>?_
  .refine aK (cE _ (inl (ax ev λ_ ez hN _=>bg hN λ_ gU ke _ _=>?_)));obtain⟨R,dU,h⟩:=an h;refine c7 dU _ ?_;obtain⟨ae,cB,h⟩:=an h;refine cR (arC a0.cI R _ cB) _ ?_;refine ax ke λ_ jU kq _=>aj ?_;refine aD h (λhb h=>?_) λhb h=>?_
   .refine aj ?_;exact gr (kq _ (inr ⟨[(4,.ag 4 []),(5,.bool false)],hf [] rfl (ha (t:=4) (d:=.bf) rfl rfl (.ix _) (by decide) (cz rfl (hh))),nZ [.ag 4 [],.bool false]⟩))
   .refine aK (jU _ (inr ⟨[(1,.slice (J.map bD)),(2,.aM (fD a0)),(6,.aM (.agg [fD lH,.slice (qW.map bD),.ag 4 (qX.map fI),.cj (.mp qY)])),(7,.ag 1 (gn.map gu)),(8,.int .i64 n3),(10,.slice (ae.1.map di)),(24,.slice (J.map bD)),(25,.int .i64 (J.length:Int)),(26,.int .i64 n3),(39,.bool (!ae.2))],hf [] rfl (cz rfl (cz rfl (cz rfl (cz rfl (cz rfl (ha (t:=10) (d:=.ag 4 (ae.1.map hZ)) (bT:=.slice (ae.1.map di)) rfl rfl (x6 rfl rfl (by simp only[cV,I.share,I.shares, @b4 _ hZ di (λ_=>Hh _)]<;>rfl)) (by decide) (cz rfl (cz rfl (cz rfl (cz rfl (hh))))))))))),?_⟩));obtain⟨aoK,fl,h⟩:=an h;(try simp only[fM.down,Nat.zero_add,Nat.add_zero,reduceAdd]at fl);refine c7 (U (show∀s,eh ah s 129 1 [(0,.slice (ae.1.map di))]=some (.ag 1 [.slice (ae.1.map di)],s)from λs=>by kernel_rfl) (U (@kD ah 129 129 130 rfl rfl) (U @kE (U @kF (U @gQ (U @all_cons (U @all_nil (U fl (@j6 _ gu 1 λ_=>rfl))))))))) [(1,.slice (J.map bD)),(2,.aM (fD a0)),(6,.aM (.agg [fD lH,.slice (qW.map bD),.ag 4 (qX.map fI),.cj (.mp qY)])),(7,.ag 1 ((gn++[ae.1]).map gu)),(8,.int .i64 n3),(10,.slice (ae.1.map di)),(24,.slice (J.map bD)),(25,.int .i64 (J.length:Int)),(26,.int .i64 n3)] ?_;refine ws [(1,.slice (J.map bD)),(2,.aM (fD a0)),(6,.aM (.agg [fD lH,.slice (qW.map bD),.ag 4 (qX.map fI),.cj (.mp qY)])),(7,.ag 1 ((gn++[ae.1]).map gu)),(8,.int .i64 n3),(24,.slice (J.map bD)),(25,.int .i64 (J.length:Int)),(26,.int .i64 n3),(44,.slice (ae.1.map di)),(45,.int .i64 (ae.1.length:Int)),(46,.int .i64 0)] ?_;refine bg ke λSq _ HE h7 _=>?_;have arR:∀n nk rS rT rU qQ qf qR qS,yr (qh a0 J m10) a0 J ae n nk rS rT rU qQ qf qR qS=some r->cL ah Za Sq (ar [(1,.slice (J.map bD)),(2,.aM (fD a0)),(6,.aM (.agg [fD nk,.slice (rS.map bD),.ag 4 (rT.map fI),.cj (.mp rU)])),(7,.ag 1 (qQ.map gu)),(8,.int .i64 qf),(24,.slice (J.map bD)),(25,.int .i64 (J.length:Int)),(26,.int .i64 qR),(44,.slice (ae.1.map di)),(45,.int .i64 (ae.1.length:Int)),(46,.int .i64 qS)]):=by
     refine cZ λ_ arS nk rS rT rU qQ qf qR qS h=>cX HE λ_ wX o6 wt=>aj ?_;refine ax o6 λ_ AE _ uQ=>aD h (λkr h=>?_) λkr h=>?_
     .refine aK (AE _ (inl (ax o6 λ_ r6 tv _=>bg tv λ_ tw _ _ _=>?_)));obtain⟨az,wV,h⟩:=an h;refine c7 wV _ ?_;obtain⟨aY,jI,h⟩:=an h;refine mq (b7 (K:=eV _) [(1,.slice (J.map bD)),(2,.aM (fD a0)),(6,.aM (.agg [fD nk,.slice (rS.map bD),.ag 4 (rT.map fI),.cj (.mp rU)])),(7,.ag 1 (qQ.map gu)),(8,.int .i64 qf),(13,.aM (di az)),(14,.str aY.1),(15,.ag 1 (aY.2.1.map bb)),(24,.slice (J.map bD)),(25,.int .i64 (J.length:Int)),(26,.int .i64 qR),(44,.slice (ae.1.map di)),(45,.int .i64 (ae.1.length:Int)),(46,.int .i64 qS)] (λP bc=>?_) (Jf [(1,.slice (J.map bD)),(2,.aM (fD a0)),(6,.aM (.agg [fD nk,.slice (rS.map bD),.ag 4 (rT.map fI),.cj (.mp rU)])),(7,.ag 1 (qQ.map gu)),(8,.int .i64 qf),(13,.aM (di az)),(14,.str aY.1),(15,.slice (aY.2.1.map bb)),(24,.slice (J.map bD)),(25,.int .i64 (J.length:Int)),(26,.int .i64 qR),(44,.slice (ae.1.map di)),(45,.int .i64 (ae.1.length:Int)),(46,.int .i64 qS)] (hf [] rfl (cz rfl (cz rfl (cz rfl (cz rfl (cz rfl (cz rfl (cz rfl (ha (t:=15) (d:=.ag 1 (aY.2.1.map bb)) (bT:=.slice (aY.2.1.map bb)) rfl rfl (x6 rfl rfl (by simp only[cV,I.share,I.shares, @b4 _ bb bb (λ_=>ko _)]<;>rfl)) (by decide) (cz rfl (cz rfl (cz rfl (cz rfl (cz rfl (cz rfl (hh)))))))))))))))) ?_))
      ·(try simp only[aE.down,simprocAttr]);refine dq (LZ az.Label _ jI) (hK:= ?_);simp only[aE.down,simprocAttr];exact bU trivial
      obtain⟨aU,pN,h⟩:=an h;refine iy (b7 [(1,.slice (J.map bD)),(2,.aM (fD a0)),(6,.aM (.agg [.agg [.slice (aU.1.map bk),.slice (aU.2.1.map db),.slice (aU.2.2.1.map bJ),.slice (aU.2.2.2.1.map aV),.slice (aU.2.2.2.2.1.map aV)],.slice (aU.2.2.2.2.2.1.map bD),.ag 4 (aU.2.2.2.2.2.2.1.map fI),.cj (.mp aU.2.2.2.2.2.2.2)])),(7,.ag 1 (qQ.map gu)),(8,.int .i64 qf),(24,.slice (J.map bD)),(25,.int .i64 (J.length:Int)),(26,.int .i64 qR),(44,.slice (ae.1.map di)),(45,.int .i64 (ae.1.length:Int)),(46,.int .i64 qS)] (λP bc=>?_) ?_)
      ·(try simp only[aE.down,simprocAttr,(show∀s,eh ah s 31 1 [(0,.agg [.int .i64 az.Next.cJ,.int .i64 az.Next.Part,.slice (az.Next.b5.map bb)])]=some (.ag 3 [.agg [.int .i64 az.Next.cJ,.int .i64 az.Next.Part,.slice (az.Next.b5.map bb)]],s)from λs=>by kernel_rfl),Lz.down,I.shares]);refine k1 [⟨.h 6 [],true,_,_⟩,⟨.str aY.1,false,_,.hole⟩,⟨.slice (aY.2.1.map bb),false,_,.hole⟩,⟨.int .i64 qf,false,_,.hole⟩,⟨.int .i64 (-1),false,_,.hole⟩,⟨.slice ([az.Next].map bD),false,_,.hole⟩] (aal nk.cI nk.b0 nk.cb nk.cD nk.cA rS rT rU aY.1 aY.2.1 qf (-1) [az.Next] _ pN) rfl rfl rfl (by simp only[aE.down,simprocAttr,(show∀s,eh ah s 31 1 [(0,.agg [.int .i64 az.Next.cJ,.int .i64 az.Next.Part,.slice (az.Next.b5.map bb)])]=some (.ag 3 [.agg [.int .i64 az.Next.cJ,.int .i64 az.Next.Part,.slice (az.Next.b5.map bb)]],s)from λs=>by kernel_rfl),Zv.down,I.shares]) rfl rfl (inl rfl) ?_;simp only[aE.down,simprocAttr,(show∀s,eh ah s 31 1 [(0,.agg [.int .i64 az.Next.cJ,.int .i64 az.Next.Part,.slice (az.Next.b5.map bb)])]=some (.ag 3 [.agg [.int .i64 az.Next.cJ,.int .i64 az.Next.Part,.slice (az.Next.b5.map bb)]],s)from λs=>by kernel_rfl),Zw.down,I.shares];exact bU (U (show∀s,eh ah s 31 1 [(0,.agg [.int .i64 az.Next.cJ,.int .i64 az.Next.Part,.slice (az.Next.b5.map bb)])]=some (.ag 3 [.agg [.int .i64 az.Next.cJ,.int .i64 az.Next.Part,.slice (az.Next.b5.map bb)]],s)from λs=>by kernel_rfl) Lz.down)
      refine tw _ (r6 _ (inl (dr ?_)));exact wX _ (inr ⟨_,bE rfl,arS (cY.mk aU.1 aU.2.1 aU.2.2.1 aU.2.2.2.1 aU.2.2.2.2.1) aU.2.2.2.2.2.1 aU.2.2.2.2.2.2.1 aU.2.2.2.2.2.2.2 qQ qf qR (i64.wrap (qS+1)) h⟩)
     .refine cS (uQ 2 _ (wt 2 _ (h7 _ (gU _ (ez _ (inl (dr ?_)))))));exact dw _ (inr ⟨_,bE rfl,AL nk rS rT rU qQ (i64.wrap (qR+1)) h⟩)
    exact dn h λn h=>arR n lH qW qX qY (gn++[ae.1]) n3 n3 0 h
  .refine cS (dE 0 _ (bu 0 _ (cP _ (fj _ (inl (ax ak λ_ wT yB _=>aj ?_))))));refine bg yB λHz _ vm tz _=>?_;have HA:∀n ys yt rV yu yv qV,wK J n ys yt rV yu yv qV=some r->cL ah Zd Hz (ar [(1,.slice (J.map bD)),(6,.aM (.agg [fD ys,.slice (yt.map bD),.ag 4 (rV.map fI),.cj (.mp yu)])),(7,.ag 1 (yv.map gu)),(68,.int .i64 (J.length:Int)),(69,.int .i64 qV)]):=by
    refine cZ λarT HB ys yt rV yu yv qV h=>cX vm λ_ AF yC AG=>aj ?_;refine ax yC λ_ yD _ HK=>aD h (λAH h=>?_) λAH h=>?_
    .refine aK (yD _ (inl (ax yC λ_ AJ wU _=>bg wU λ_ qk r7 _ _=>aj ?_)));refine aj ?_;refine bg r7 λarU _ arV qn _=>?_;have arW:∀n n2 vg vh vi qT qU qg tp,Am (wK J arT) J n n2 vg vh vi qT qU qg tp=some r->cL ah Zc arU (ar [(1,.slice (J.map bD)),(6,.aM (.agg [fD n2,.slice (vg.map bD),.ag 4 (vh.map fI),.cj (.mp vi)])),(7,.ag 1 (qT.map gu)),(17,.int .i64 qU),(18,.int .i64 qg),(68,.int .i64 (J.length:Int)),(69,.int .i64 tp)]):=by
      refine cZ λ_ arX n2 vg vh vi qT qU qg tp h=>cX arV λ_ Sy LN arY=>ax LN λ_ Sz _ arZ=>aj ?_;refine aD h (λSU h=>?_) λSU h=>?_
      .refine aK (Sz _ (inl (ax LN λ_ LJ ar0 _=>bg ar0 λ_ ar1 _ _ _=>?_)));obtain⟨bB,n9,h⟩:=an h;obtain⟨bu,r_,h⟩:=an h;obtain⟨cy,tC,h⟩:=an h;refine Ft rfl (jr [(1,.slice (J.map bD)),(6,.aM (.agg [.agg [.slice (cy.1.map bk),.slice (cy.2.1.map db),.slice (cy.2.2.1.map bJ),.slice (cy.2.2.2.1.map aV),.slice (cy.2.2.2.2.1.map aV)],.slice (cy.2.2.2.2.2.1.map bD),.ag 4 (cy.2.2.2.2.2.2.1.map fI),.cj (.mp cy.2.2.2.2.2.2.2)])),(7,.ag 1 (qT.map gu)),(17,.int .i64 qU),(18,.int .i64 qg),(68,.int .i64 (J.length:Int)),(69,.int .i64 tp)] (λP bc=>?_) ?_)
       ·(try simp only[dA.down,simprocAttr,n9,ca n9,r_,ca r_]);refine OA [⟨.h 6 [],true,_,_⟩,⟨.int .i64 qU,false,_,.hole⟩,⟨.int .i64 qg,false,_,.hole⟩,⟨.slice (bB.map di),false,_,.hole⟩,⟨.slice (bu.map di),false,_,.hole⟩] (arL n2.cI n2.b0 n2.cb n2.cD n2.cA vg vh vi qU qg bB bu _ tC) rfl rfl rfl (by simp only[dA.down,simprocAttr,n9,ca n9,r_,ca r_,mo,la,kG,ht,hv,hx,cV,or_true,true_or, @b4 _ bk bk (λ_=>tq _), @b4 _ db db (λ_=>Ap _), @b4 _ bJ bJ (λ_=>qi _), @b4 _ aV aV (λ_=>kM _), @b4 _ aV aV (λ_=>kM _), @b4 _ bD bD (λ_=>wM _), @b4 _ fI gD (λ_=>YA _)]) rfl rfl (inl rfl) ?_;simp only[dA.down,simprocAttr,n9,ca n9,r_,ca r_,kl];refine⟨iA (by kernel_rfl),?_⟩;exact bU (U n9 (U (ca n9) (U r_ (ca r_))))
       refine ar1 _ (LJ _ (inl (dr ?_)));exact Sy _ (inr ⟨_,bE rfl,arX (cY.mk cy.1 cy.2.1 cy.2.2.1 cy.2.2.2.1 cy.2.2.2.2.1) cy.2.2.2.2.2.1 cy.2.2.2.2.2.2.1 cy.2.2.2.2.2.2.2 qT qU (i64.wrap (qg+1)) tp h⟩)
      .refine cS (arZ 6 _ (arY 6 _ (qn _ (qk _ (AJ _ (inl (dr ?_)))))));exact AF _ (inr ⟨_,bE rfl,HB n2 vg vh vi qT (i64.wrap (tp+1)) h⟩)
     exact dn h λn h=>arW n ys yt rV yu yv qV (i64.wrap (qV+1)) qV h
    .refine cS (HK 4 _ (AG 4 _ (tz _ (wT _ (inl (pJ @Xk _ ?_))))));exact gr (ak _ (inl (WS 4 [.ag 4 (rV.map fI),.bool (decide ((rV.length:Int)<=200))])))
   exact dn h λn h=>HA n lH qW qX qY gn 0 h
 obtain⟨n,h⟩:=l_ h;exact p7 (inr ⟨_,hf [] rfl (cz (t:=1) (d:=.slice (J.map bD)) rfl (cz (t:=2) (d:=.aM (fD a0)) rfl (ha (t:=6) (d:=.aM (.agg [fD a0,.slice (J.map bD),.bf,.cj (.mp [])])) (bT:=.aM (.agg [fD a0,.slice (J.map bD),.ag 4 [],.cj (.mp [])])) rfl rfl (.aM (.agg (.cons (.refl _) (.cons (.refl _) (.cons (.ix _) (.cons (.refl _) (.nil))))))) (by decide) (ha (t:=7) (d:=.bf) (bT:=.ag 1 []) rfl rfl (.ix _) (by decide) (cz (t:=24) (d:=.slice (J.map bD)) rfl (cz (t:=25) (d:=.int .i64 (J.length:Int)) rfl (cz (t:=26) (d:=.int .i64 0) rfl (hh)))))))),AK n a0 J [] [] [] 0 h⟩)
theorem ar2 (a0 J r) (h:K0 a0 J=some r):aZ ah 32 [fD a0,.slice (J.map eY)] (.tuple [.ag 3 (r.1.map dT),.int .i64 r.2]) []:=by
 refine bx [0,1] [.tmp 4,.tmp 5] Tryz.func32 amu λbt ak bs=>aj ?_;obtain⟨R,aS,h⟩:=an h;refine cR (arc a0 _ aS) _ ?_;refine ax ak λ_ fj bR aY=>aj ?_;refine bg bR λjh _ cU cP _=>?_;show bm ah (.loop ?hd) _ _;have hL:∀n fT rW,wL a0 J n fT rW=some r->cL ah ?hd jh (ar [(2,.aM (fD a0)),(6,.ag 3 (fT.map dT)),(14,.slice (J.map eY)),(15,.int .i64 (J.length:Int)),(16,.int .i64 rW)]):=by
  refine cZ λ_ hM fT rW h=>cX cU λ_ dw ev bu=>aj ?_;refine ax ev λ_ cE _ dE=>aD h (λe3 h=>?_) λe3 h=>?_
  .refine aK (cE _ (inl (ax ev λ_ ez hN _=>bg hN λ_ gU ke _ _=>?_)));obtain⟨ae,dU,h⟩:=an h;refine c7 dU _ ?_;obtain⟨az,cB,h⟩:=an h;refine dh (b7 [(2,.aM (fD a0)),(8,.aM (eY ae)),(9,.ag 4 (az.1.map fI)),(10,.bool az.2),(14,.slice (J.map eY)),(15,.int .i64 (J.length:Int)),(16,.int .i64 rW)] (λP bc=>?_) ?_)
   ·(try simp only[aE.down,simprocAttr]);refine dq (arQ a0 fT _ cB) rfl rfl (by simp only[aE.down,simprocAttr,wP.down]<;>rfl) rfl (inr (by simp only[I.dc,I.gN, @j5 _ fI (λ_=>ajP _),Bool.and_self])) ?_;simp only[aE.down,simprocAttr];exact bU trivial
   refine ax ke λ_ jU kq _=>aj ?_;refine aD h (λhb h=>?_) λhb h=>?_
   .refine aj ?_;exact gr (kq _ (inr ⟨[(4,.ag 3 []),(5,.int .i64 5)],hf [] rfl (ha (t:=4) (d:=.bf) rfl rfl (.ix _) (by decide) (cz rfl (hh))),nZ [.ag 3 [],.int .i64 5]⟩))
   .refine aK (jU _ (inl (ax ke λ_ tF vo _=>?_)));obtain⟨aY,iD,h⟩:=an h;refine cR (DS ae.Choice (az.1.length:Int) _ iD) _ ?_;refine aD h (λh7 h=>?_) λh7 h=>?_
    .refine aj ?_;exact gr (vo _ (inr ⟨[(4,.ag 3 []),(5,.int .i64 9)],hf [] rfl (ha (t:=4) (d:=.bf) rfl rfl (.ix _) (by decide) (cz rfl (hh))),nZ [.ag 3 [],.int .i64 9]⟩))
    .refine aK (tF _ (inl ?_));obtain⟨aU,pL,h⟩:=an h;refine c7 (U pL (ca pL)) _ ?_;refine ax ke λ_ RR At _=>dh (b7 [(2,.aM (fD a0)),(11,.aM (fI aU)),(14,.slice (J.map eY)),(15,.int .i64 (J.length:Int)),(16,.int .i64 rW),(57,.bool (((aU.ef !=ae.ef)||(aU.Second !=ae.Second))||(!(aU.Label==ae.Label))))] (λP bc=>?_) ?_)
     ·(rcases Bool.eq_false_or_eq_true (aU.ef !=ae.ef)with AR|AR)<;>(rcases Bool.eq_false_or_eq_true (aU.Second !=ae.Second)with SV|SV)<;>
       (simp only[aE.down,simprocAttr,AR,SV]
        exact bU (U AR SV))
     refine aD h (λAy h=>?_) λAy h=>?_
     .refine aj ?_;exact gr (At _ (inr ⟨[(4,.ag 3 []),(5,.int .i64 9)],hf [] rfl (ha (t:=4) (d:=.bf) rfl rfl (.ix _) (by decide) (cz rfl (hh))),nZ [.ag 3 [],.int .i64 9]⟩))
     .refine aK (RR _ (inl (dr ?_)));refine gU _ (ez _ (inl (dr ?_)));exact dw _ (inr ⟨_,bE rfl,hM aU.State (i64.wrap (rW+1)) h⟩)
  .exact cS (dE 0 _ (bu 0 _ (cP _ (fj _ (inl (aN ak [.ag 3 (fT.map dT),.int .i64 0]))))))
 exact dn h λn h=>hL n R 0 h
theorem aan (a0 J r) (h:GS a0 J=some r):aZ ah 9 [fD a0,.slice (J.map eY)] (.tuple [.ag 3 (r.1.map dT),.int .i64 r.2]) []:=by
 refine bx [0,1] [.tmp 4,.tmp 5] Tryz.func9 c9 λbt ak bs=>aj ?_;refine ax ak λ_ bF bd ae=>bg bd λ_ eZ c_ _ az=>?_;obtain⟨R,cF,h⟩:=an h;refine cR (aqO a0 _ cF) _ ?_;refine aD h (λcP h=>?_) λcP h=>?_
 .refine aj ?_;exact gr (c_ _ (inr ⟨[(4,.ag 3 []),(5,.int .i64 1)],hf [] rfl (ha (t:=4) (d:=.bf) rfl rfl (.ix _) (by decide) (cz rfl (hh))),nZ [.ag 3 [],.int .i64 1]⟩))
 .obtain⟨ae,h_,h⟩:=an h;refine cR (arb J _ h_) _ ?_;refine aD h (λe3 h=>?_) λe3 h=>?_
  .refine aj ?_;exact gr (c_ _ (inr ⟨[(4,.ag 3 []),(5,.int .i64 7)],hf [] rfl (ha (t:=4) (d:=.bf) rfl rfl (.ix _) (by decide) (cz rfl (hh))),nZ [.ag 3 [],.int .i64 7]⟩))
  .refine aK (eZ _ (bF _ (inl ?_)));obtain⟨az,ed,h⟩:=an h;refine cR (ar2 a0 J _ ed) _ ?_;exact cM ak [.ag 3 (az.1.map dT),.int .i64 az.2]
theorem aao (a0 J r) (h:GU a0 J=some r):aZ ah 63 [.slice (a0.map bb),.slice (J.map bb)] (.bool r) []:=by
 refine bx [0,1] [.tmp 4] Tryz.func63 amv λbt ak bs=>aj ?_;refine ax ak λ_ bF bd ae=>aj ?_;refine aD h (λbw h=>?_) λbw h=>?_
 .exact aN bd [.bool false]
 .refine aK (bF _ (inl (ax ak λ_ cG cU _=>aj ?_)));refine bg cU λiN _ h0 b1 _=>?_;show bm ah (.loop ?gS) _ _;have gV:∀n cr,Q3 a0 J n cr=some r->cL ah ?gS iN (ar [(0,.slice (a0.map bb)),(1,.slice (J.map bb)),(5,.int .i64 cr)]):=by
   refine cZ λ_ gE cr h=>cX h0 λ_ cE b9 dE=>ax b9 λ_ b2 _ dN=>aj ?_;refine aD h (λfk h=>?_) λfk h=>?_
   .refine aK (b2 _ (inl (ax b9 λ_ fL fJ _=>bg fJ λ_ eO et _ _=>?_)));obtain⟨R,cB,h⟩:=an h;obtain⟨ae,dP,h⟩:=an h;refine pJ (U cB dP) _ ?_;refine aD h (λij h=>?_) λij h=>?_
    .exact aN et [.bool false]
    .refine aK (eO _ (fL _ (inl (dr ?_))));exact cE _ (inr ⟨_,bE rfl,gE (i64.wrap (cr+1)) h⟩)
   .exact cS (dN 0 _ (dE 0 _ (b1 _ (cG _ (inl (aN ak [.bool true]))))))
  exact dn h λn h=>gV n 0 h
theorem ar3 (a0 J r) (h:GV a0 J=some r):aZ ah 33 [bD a0,bD J] (.bool r) []:=by
 refine bx [0,1] [.tmp 4] Tryz.func33 amw λbt ak bs=>aj ?_;refine ax ak λ_ bF bd _=>aj ?_;refine aD h (λbw h=>?_) λbw h=>?_
 .exact aN bd [.bool false]
 .refine aK (bF _ (inl (ax ak λ_ cG cU _=>aj ?_)));refine aD h (λb1 h=>?_) λb1 h=>?_
  .exact aN cU [.bool false]
  .refine aK (cG _ (inl (ax ak λ_ b2 cN _=>?_)));obtain⟨R,dm,h⟩:=an h;refine cR (aao a0.b5 J.b5 _ dm) _ ?_;refine aD h (λfi h=>?_) λfi h=>?_
   .exact aN cN [.bool false]
   .exact aK (b2 _ (inl (aN ak [.bool true])))
theorem DV (a0 J r) (h:Ds a0 J=some r):aZ ah 10 [.slice (a0.map bD),.slice (J.map bD)] (.bool r) []:=by
 refine bx [0,1] [.tmp 4] Tryz.func10 Ar λbt ak bs=>aj ?_;refine ax ak λ_ bF bd ae=>aj ?_;refine aD h (λbw h=>?_) λbw h=>?_
 .exact aN bd [.bool false]
 .refine aK (bF _ (inl (ax ak λ_ cG cU _=>aj ?_)));refine bg cU λiN _ h0 b1 _=>?_;show bm ah (.loop ?gS) _ _;have gV:∀n cr,Q4 a0 J n cr=some r->cL ah ?gS iN (ar [(0,.slice (a0.map bD)),(1,.slice (J.map bD)),(5,.int .i64 cr)]):=by
   refine cZ λ_ gE cr h=>cX h0 λ_ cE b9 dE=>ax b9 λ_ b2 _ dN=>aj ?_;refine aD h (λfk h=>?_) λfk h=>?_
   .refine aK (b2 _ (inl (ax b9 λ_ fL fJ _=>bg fJ λ_ eO et _ _=>?_)));obtain⟨R,cB,h⟩:=an h;obtain⟨ae,dP,h⟩:=an h;obtain⟨az,eG,h⟩:=an h;refine oJ (U cB dP) (ar3 R ae _ eG) _ ?_;refine aD h (λhb h=>?_) λhb h=>?_
    .exact aN et [.bool false]
    .refine aK (eO _ (fL _ (inl (dr ?_))));exact cE _ (inr ⟨_,bE rfl,gE (i64.wrap (cr+1)) h⟩)
   .exact cS (dN 0 _ (dE 0 _ (b1 _ (cG _ (inl (aN ak [.bool true]))))))
  exact dn h λn h=>gV n 0 h
theorem ar4 (a0 J r) (h:GW a0 J=some r):aZ ah 244 [ea a0,ea J] (.bool r) []:=by
 refine bx [0,1] [.tmp 4] Tryz.func244 amx λbt ak bs=>aj ?_;refine ax ak λ_ bF bd _=>aj ?_;refine aD h (λbw h=>?_) λbw h=>?_
 .exact aN bd [.bool false]
 .refine aK (bF _ (inl (ax ak λ_ cG cU _=>aj ?_)));refine aD h (λb1 h=>?_) λb1 h=>?_
  .exact aN cU [.bool false]
  .exact aK (cG _ (inl (aN ak [.bool true])))
theorem ar5 (a0 J r) (h:GX a0 J=some r):aZ ah 213 [.slice (a0.map ea),.slice (J.map ea)] (.bool r) []:=by
 refine bx [0,1] [.tmp 4] Tryz.func213 c213 λbt ak bs=>aj ?_;refine ax ak λ_ bF bd ae=>aj ?_;refine aD h (λbw h=>?_) λbw h=>?_
 .exact aN bd [.bool false]
 .refine aK (bF _ (inl (ax ak λ_ cG cU _=>aj ?_)));refine bg cU λiN _ h0 b1 _=>?_;show bm ah (.loop ?gS) _ _;have gV:∀n cr,Q5 a0 J n cr=some r->cL ah ?gS iN (ar [(0,.slice (a0.map ea)),(1,.slice (J.map ea)),(5,.int .i64 cr)]):=by
   refine cZ λ_ gE cr h=>cX h0 λ_ cE b9 dE=>ax b9 λ_ b2 _ dN=>aj ?_;refine aD h (λfk h=>?_) λfk h=>?_
   .refine aK (b2 _ (inl (ax b9 λ_ fL fJ _=>bg fJ λ_ eO et _ _=>?_)));obtain⟨R,cB,h⟩:=an h;obtain⟨ae,dP,h⟩:=an h;obtain⟨az,eG,h⟩:=an h;refine oJ (U cB dP) (ar4 R ae _ eG) _ ?_;refine aD h (λhb h=>?_) λhb h=>?_
    .exact aN et [.bool false]
    .refine aK (eO _ (fL _ (inl (dr ?_))));exact cE _ (inr ⟨_,bE rfl,gE (i64.wrap (cr+1)) h⟩)
   .exact cS (dN 0 _ (dE 0 _ (b1 _ (cG _ (inl (aN ak [.bool true]))))))
  exact dn h λn h=>gV n 0 h
theorem ar6 (a0 J r) (h:K1 a0 J=some r):aZ ah 181 [.slice (a0.map jf),.slice (J.map jf)] (.bool r) []:=by
 refine bx [0,1] [.tmp 4] Tryz.func181 amy λbt ak bs=>aj ?_;refine ax ak λ_ bF bd ae=>aj ?_;refine aD h (λbw h=>?_) λbw h=>?_
 .exact aN bd [.bool false]
 .refine aK (bF _ (inl (ax ak λ_ cG cU _=>aj ?_)));refine bg cU λiN _ h0 b1 _=>?_;show bm ah (.loop ?gS) _ _;have gV:∀n cr,Q6 a0 J n cr=some r->cL ah ?gS iN (ar [(0,.slice (a0.map jf)),(1,.slice (J.map jf)),(5,.int .i64 cr)]):=by
   refine cZ λ_ gE cr h=>cX h0 λ_ cE b9 dE=>ax b9 λ_ b2 _ dN=>aj ?_;refine aD h (λfk h=>?_) λfk h=>?_
   .refine aK (b2 _ (inl (ax b9 λ_ fL fJ _=>bg fJ λ_ eO et _ _=>?_)));obtain⟨R,cB,h⟩:=an h;obtain⟨ae,dP,h⟩:=an h;obtain⟨az,eG,h⟩:=an h;refine oJ (U cB dP) (ar5 R ae _ eG) _ ?_;refine aD h (λhb h=>?_) λhb h=>?_
    .exact aN et [.bool false]
    .refine aK (eO _ (fL _ (inl (dr ?_))));exact cE _ (inr ⟨_,bE rfl,gE (i64.wrap (cr+1)) h⟩)
   .exact cS (dN 0 _ (dE 0 _ (b1 _ (cG _ (inl (aN ak [.bool true]))))))
  exact dn h λn h=>gV n 0 h
theorem ar7 (a0 J r) (h:GY a0 J=some r):aZ ah 139 [eH a0,eH J] (.bool r) []:=by
 refine bx [0,1] [.tmp 4] Tryz.func139 c139 λbt ak bs=>aj ?_;refine ax ak λ_ bF bd _=>aj ?_;refine aD h (λbw h=>?_) λbw h=>?_
 .exact aN bd [.bool false]
 .refine aK (bF _ (inl (ax ak λ_ cG cU _=>aj ?_)));refine aD h (λb1 h=>?_) λb1 h=>?_
  .exact aN cU [.bool false]
  .refine aK (cG _ (inl (ax ak λ_ b2 cN _=>aj ?_)));refine aD h (λfk h=>?_) λfk h=>?_
   .exact aN cN [.bool false]
   .refine aK (b2 _ (inl (ax ak λ_ eO et _=>?_)));obtain⟨R,cB,h⟩:=an h;refine cR (ar6 a0.ck J.ck _ cB) _ ?_;refine aD h (λmQ h=>?_) λmQ h=>?_
    .exact aN et [.bool false]
    .exact aK (eO _ (inl (aN ak [.bool true])))
theorem ar8 (a0 J r) (h:K2 a0 J=some r):aZ ah 100 [.slice (a0.map eH),.slice (J.map eH)] (.bool r) []:=by
 refine bx [0,1] [.tmp 4] Tryz.func100 amz λbt ak bs=>aj ?_;refine ax ak λ_ bF bd ae=>aj ?_;refine aD h (λbw h=>?_) λbw h=>?_
 .exact aN bd [.bool false]
 .refine aK (bF _ (inl (ax ak λ_ cG cU _=>aj ?_)));refine bg cU λiN _ h0 b1 _=>?_;show bm ah (.loop ?gS) _ _;have gV:∀n cr,Q7 a0 J n cr=some r->cL ah ?gS iN (ar [(0,.slice (a0.map eH)),(1,.slice (J.map eH)),(5,.int .i64 cr)]):=by
   refine cZ λ_ gE cr h=>cX h0 λ_ cE b9 dE=>ax b9 λ_ b2 _ dN=>aj ?_;refine aD h (λfk h=>?_) λfk h=>?_
   .refine aK (b2 _ (inl (ax b9 λ_ fL fJ _=>bg fJ λ_ eO et _ _=>?_)));obtain⟨R,cB,h⟩:=an h;obtain⟨ae,dP,h⟩:=an h;obtain⟨az,eG,h⟩:=an h;refine oJ (U cB dP) (ar7 R ae _ eG) _ ?_;refine aD h (λhb h=>?_) λhb h=>?_
    .exact aN et [.bool false]
    .refine aK (eO _ (fL _ (inl (dr ?_))));exact cE _ (inr ⟨_,bE rfl,gE (i64.wrap (cr+1)) h⟩)
   .exact cS (dN 0 _ (dE 0 _ (b1 _ (cG _ (inl (aN ak [.bool true]))))))
  exact dn h λn h=>gV n 0 h
theorem ar9 (a0 J r) (h:GZ a0 J=some r):aZ ah 64 [bk a0,bk J] (.bool r) []:=by
 refine bx [0,1] [.tmp 4] Tryz.func64 amA λbt ak bs=>aj ?_;refine ax ak λ_ bF bd _=>aj ?_;refine aD h (λbw h=>?_) λbw h=>?_
 .exact aN bd [.bool false]
 .refine aK (bF _ (inl (ax ak λ_ cG cU _=>aj ?_)));refine aD h (λb1 h=>?_) λb1 h=>?_
  .exact aN cU [.bool false]
  .refine aK (cG _ (inl (ax ak λ_ b2 cN _=>?_)));obtain⟨R,dm,h⟩:=an h;refine cR (ar8 a0.Body J.Body _ dm) _ ?_;refine aD h (λfi h=>?_) λfi h=>?_
   .exact aN cN [.bool false]
   .exact aK (b2 _ (inl (aN ak [.bool true])))
theorem ar_ (a0 J r) (h:K3 a0 J=some r):aZ ah 34 [.slice (a0.map bk),.slice (J.map bk)] (.bool r) []:=by
 refine bx [0,1] [.tmp 4] Tryz.func34 Hl λbt ak bs=>aj ?_;refine ax ak λ_ bF bd ae=>aj ?_;refine aD h (λbw h=>?_) λbw h=>?_
 .exact aN bd [.bool false]
 .refine aK (bF _ (inl (ax ak λ_ cG cU _=>aj ?_)));refine bg cU λiN _ h0 b1 _=>?_;show bm ah (.loop ?gS) _ _;have gV:∀n cr,Q8 a0 J n cr=some r->cL ah ?gS iN (ar [(0,.slice (a0.map bk)),(1,.slice (J.map bk)),(5,.int .i64 cr)]):=by
   refine cZ λ_ gE cr h=>cX h0 λ_ cE b9 dE=>ax b9 λ_ b2 _ dN=>aj ?_;refine aD h (λfk h=>?_) λfk h=>?_
   .refine aK (b2 _ (inl (ax b9 λ_ fL fJ _=>bg fJ λ_ eO et _ _=>?_)));obtain⟨R,cB,h⟩:=an h;obtain⟨ae,dP,h⟩:=an h;obtain⟨az,eG,h⟩:=an h;refine oJ (U cB dP) (ar9 R ae _ eG) _ ?_;refine aD h (λhb h=>?_) λhb h=>?_
    .exact aN et [.bool false]
    .refine aK (eO _ (fL _ (inl (dr ?_))));exact cE _ (inr ⟨_,bE rfl,gE (i64.wrap (cr+1)) h⟩)
   .exact cS (dN 0 _ (dE 0 _ (b1 _ (cG _ (inl (aN ak [.bool true]))))))
  exact dn h λn h=>gV n 0 h
theorem asa (a0 J r) (h:G0 a0 J=some r):aZ ah 65 [db a0,db J] (.bool r) []:=by
 refine bx [0,1] [.tmp 4] Tryz.func65 amB λbt ak bs=>aj ?_;refine ax ak λ_ bF bd _=>aj ?_;refine aD h (λbw h=>?_) λbw h=>?_
 .exact aN bd [.bool false]
 .refine aK (bF _ (inl (ax ak λ_ cG cU _=>?_)));obtain⟨R,gk,h⟩:=an h;refine cR (aao a0.b5 J.b5 _ gk) _ ?_;refine aD h (λe8 h=>?_) λe8 h=>?_
  .exact aN cU [.bool false]
  .exact aK (cG _ (inl (aN ak [.bool true])))
theorem asb (a0 J r) (h:K4 a0 J=some r):aZ ah 35 [.slice (a0.map db),.slice (J.map db)] (.bool r) []:=by
 refine bx [0,1] [.tmp 4] Tryz.func35 amC λbt ak bs=>aj ?_;refine ax ak λ_ bF bd ae=>aj ?_;refine aD h (λbw h=>?_) λbw h=>?_
 .exact aN bd [.bool false]
 .refine aK (bF _ (inl (ax ak λ_ cG cU _=>aj ?_)));refine bg cU λiN _ h0 b1 _=>?_;show bm ah (.loop ?gS) _ _;have gV:∀n cr,Q9 a0 J n cr=some r->cL ah ?gS iN (ar [(0,.slice (a0.map db)),(1,.slice (J.map db)),(5,.int .i64 cr)]):=by
   refine cZ λ_ gE cr h=>cX h0 λ_ cE b9 dE=>ax b9 λ_ b2 _ dN=>aj ?_;refine aD h (λfk h=>?_) λfk h=>?_
   .refine aK (b2 _ (inl (ax b9 λ_ fL fJ _=>bg fJ λ_ eO et _ _=>?_)));obtain⟨R,cB,h⟩:=an h;obtain⟨ae,dP,h⟩:=an h;obtain⟨az,eG,h⟩:=an h;refine oJ (U cB dP) (asa R ae _ eG) _ ?_;refine aD h (λhb h=>?_) λhb h=>?_
    .exact aN et [.bool false]
    .refine aK (eO _ (fL _ (inl (dr ?_))));exact cE _ (inr ⟨_,bE rfl,gE (i64.wrap (cr+1)) h⟩)
   .exact cS (dN 0 _ (dE 0 _ (b1 _ (cG _ (inl (aN ak [.bool true]))))))
  exact dn h λn h=>gV n 0 h
theorem asc (a0 J r) (h:G1 a0 J=some r):aZ ah 66 [bJ a0,bJ J] (.bool r) []:=by
 refine bx [0,1] [.tmp 4] Tryz.func66 amD λbt ak bs=>aj ?_;refine ax ak λ_ bF bd _=>aj ?_;refine aD h (λbw h=>?_) λbw h=>?_
 .exact aN bd [.bool false]
 .refine aK (bF _ (inl (ax ak λ_ cG cU _=>aj ?_)));refine aD h (λb1 h=>?_) λb1 h=>?_
  .exact aN cU [.bool false]
  .refine aK (cG _ (inl (ax ak λ_ b2 cN _=>aj ?_)));refine aD h (λfk h=>?_) λfk h=>?_
   .exact aN cN [.bool false]
   .exact aK (b2 _ (inl (aN ak [.bool true])))
theorem asd (a0 J r) (h:K5 a0 J=some r):aZ ah 36 [.slice (a0.map bJ),.slice (J.map bJ)] (.bool r) []:=by
 refine bx [0,1] [.tmp 4] Tryz.func36 amE λbt ak bs=>aj ?_;refine ax ak λ_ bF bd ae=>aj ?_;refine aD h (λbw h=>?_) λbw h=>?_
 .exact aN bd [.bool false]
 .refine aK (bF _ (inl (ax ak λ_ cG cU _=>aj ?_)));refine bg cU λiN _ h0 b1 _=>?_;show bm ah (.loop ?gS) _ _;have gV:∀n cr,Q_ a0 J n cr=some r->cL ah ?gS iN (ar [(0,.slice (a0.map bJ)),(1,.slice (J.map bJ)),(5,.int .i64 cr)]):=by
   refine cZ λ_ gE cr h=>cX h0 λ_ cE b9 dE=>ax b9 λ_ b2 _ dN=>aj ?_;refine aD h (λfk h=>?_) λfk h=>?_
   .refine aK (b2 _ (inl (ax b9 λ_ fL fJ _=>bg fJ λ_ eO et _ _=>?_)));obtain⟨R,cB,h⟩:=an h;obtain⟨ae,dP,h⟩:=an h;obtain⟨az,eG,h⟩:=an h;refine oJ (U cB dP) (asc R ae _ eG) _ ?_;refine aD h (λhb h=>?_) λhb h=>?_
    .exact aN et [.bool false]
    .refine aK (eO _ (fL _ (inl (dr ?_))));exact cE _ (inr ⟨_,bE rfl,gE (i64.wrap (cr+1)) h⟩)
   .exact cS (dN 0 _ (dE 0 _ (b1 _ (cG _ (inl (aN ak [.bool true]))))))
  exact dn h λn h=>gV n 0 h
theorem aap (a0 J r) (h:G2 a0 J=some r):aZ ah 37 [.slice (a0.map aV),.slice (J.map aV)] (.bool r) []:=by
 refine bx [0,1] [.tmp 4] Tryz.func37 c37 λbt ak bs=>aj ?_;refine ax ak λ_ bF bd ae=>aj ?_;refine aD h (λbw h=>?_) λbw h=>?_
 .exact aN bd [.bool false]
 .refine aK (bF _ (inl (ax ak λ_ cG cU _=>aj ?_)));refine bg cU λiN _ h0 b1 _=>?_;show bm ah (.loop ?gS) _ _;have gV:∀n cr,Ra a0 J n cr=some r->cL ah ?gS iN (ar [(0,.slice (a0.map aV)),(1,.slice (J.map aV)),(5,.int .i64 cr)]):=by
   refine cZ λ_ gE cr h=>cX h0 λ_ cE b9 dE=>ax b9 λ_ b2 _ dN=>aj ?_;refine aD h (λfk h=>?_) λfk h=>?_
   .refine aK (b2 _ (inl (ax b9 λ_ fL fJ _=>bg fJ λ_ eO et _ _=>?_)));obtain⟨R,cB,h⟩:=an h;obtain⟨ae,dP,h⟩:=an h;refine pJ (U cB dP) _ ?_;refine aD h (λij h=>?_) λij h=>?_
    .exact aN et [.bool false]
    .refine aK (eO _ (fL _ (inl (dr ?_))));exact cE _ (inr ⟨_,bE rfl,gE (i64.wrap (cr+1)) h⟩)
   .exact cS (dN 0 _ (dE 0 _ (b1 _ (cG _ (inl (aN ak [.bool true]))))))
  exact dn h λn h=>gV n 0 h
theorem ase (a0 J r) (h:G3 a0 J=some r):aZ ah 11 [fD a0,fD J] (.bool r) []:=by
 refine bx [0,1] [.tmp 4] Tryz.func11 amF λbt ak bs=>aj ?_;refine ax ak λ_ bF bd ae=>?_;obtain⟨R,cf,h⟩:=an h;refine cR (ar_ a0.cI J.cI _ cf) _ ?_;refine aD h (λdR h=>?_) λdR h=>?_
 .exact aN bd [.bool false]
 .refine aK (bF _ (inl (ax ak λ_ dw ev _=>?_)));obtain⟨ae,h_,h⟩:=an h;refine cR (asb a0.b0 J.b0 _ h_) _ ?_;refine aD h (λe3 h=>?_) λe3 h=>?_
  .exact aN ev [.bool false]
  .refine aK (dw _ (inl (ax ak λ_ gU ke _=>?_)));obtain⟨az,dU,h⟩:=an h;refine cR (asd a0.cb J.cb _ dU) _ ?_;refine aD h (λff h=>?_) λff h=>?_
   .exact aN ke [.bool false]
   .refine aK (gU _ (inl (ax ak λ_ jU kq _=>?_)));obtain⟨aY,fb,h⟩:=an h;refine cR (aap a0.cD J.cD _ fb) _ ?_;refine aD h (λgw h=>?_) λgw h=>?_
    .exact aN kq [.bool false]
    .refine aK (jU _ (inl (ax ak λ_ oK n7 _=>?_)));obtain⟨aU,lP,h⟩:=an h;refine cR (aap a0.cA J.cA _ lP) _ ?_;refine aD h (λpO h=>?_) λpO h=>?_
     .exact aN n7 [.bool false]
     .exact aK (oK _ (inl (aN ak [.bool true])))
theorem asf (a0 J r) (h:G4 a0 J=some r):aZ ah 38 [eY a0,eY J] (.bool r) []:=by
 refine bx [0,1] [.tmp 4] Tryz.func38 amG λbt ak bs=>aj ?_;refine ax ak λ_ bF bd _=>aj ?_;refine aD h (λbw h=>?_) λbw h=>?_
 .exact aN bd [.bool false]
 .refine aK (bF _ (inl (ax ak λ_ cG cU _=>aj ?_)));refine aD h (λb1 h=>?_) λb1 h=>?_
  .exact aN cU [.bool false]
  .refine aK (cG _ (inl (ax ak λ_ b2 cN _=>aj ?_)));refine aD h (λfk h=>?_) λfk h=>?_
   .exact aN cN [.bool false]
   .refine aK (b2 _ (inl (ax ak λ_ eO et _=>aj ?_)));refine aD h (λmR h=>?_) λmR h=>?_
    .exact aN et [.bool false]
    .exact aK (eO _ (inl (aN ak [.bool true])))
theorem asg (a0 J r) (h:K6 a0 J=some r):aZ ah 12 [.slice (a0.map eY),.slice (J.map eY)] (.bool r) []:=by
 refine bx [0,1] [.tmp 4] Tryz.func12 c12 λbt ak bs=>aj ?_;refine ax ak λ_ bF bd ae=>aj ?_;refine aD h (λbw h=>?_) λbw h=>?_
 .exact aN bd [.bool false]
 .refine aK (bF _ (inl (ax ak λ_ cG cU _=>aj ?_)));refine bg cU λiN _ h0 b1 _=>?_;show bm ah (.loop ?gS) _ _;have gV:∀n cr,Rb a0 J n cr=some r->cL ah ?gS iN (ar [(0,.slice (a0.map eY)),(1,.slice (J.map eY)),(5,.int .i64 cr)]):=by
   refine cZ λ_ gE cr h=>cX h0 λ_ cE b9 dE=>ax b9 λ_ b2 _ dN=>aj ?_;refine aD h (λfk h=>?_) λfk h=>?_
   .refine aK (b2 _ (inl (ax b9 λ_ fL fJ _=>bg fJ λ_ eO et _ _=>?_)));obtain⟨R,cB,h⟩:=an h;obtain⟨ae,dP,h⟩:=an h;obtain⟨az,eG,h⟩:=an h;refine oJ (U cB dP) (asf R ae _ eG) _ ?_;refine aD h (λhb h=>?_) λhb h=>?_
    .exact aN et [.bool false]
    .refine aK (eO _ (fL _ (inl (dr ?_))));exact cE _ (inr ⟨_,bE rfl,gE (i64.wrap (cr+1)) h⟩)
   .exact cS (dN 0 _ (dE 0 _ (b1 _ (cG _ (inl (aN ak [.bool true]))))))
  exact dn h λn h=>gV n 0 h
theorem AV (a0 r) (h:vj a0=some r):aZ ah 43 [.int .i64 a0] (.str r) []:=by
 refine bx [] [.tmp 2] Tryz.func43 amH λbt ak bs=>aj ?_;refine ax ak λ_ bF bd _=>aj ?_;refine aD h (λbw h=>?_) λbw h=>?_
 .exact aN bd [.str ([109,48]:azq)]
 .refine aK (bF _ (inl (aj ?_)));refine ax ak λ_ dw ev _=>bg ev λiN _ h0 b1 _=>?_;have gV:∀n oI dW,An n oI dW=some r->cL ah Ze iN (ar [(0,.int .i64 oI),(3,.str dW)]):=by
   refine cZ λ_ gE oI dW h=>cX h0 λ_ cE b9 dE=>ax b9 λ_ b2 _ dN=>aj ?_;refine aD h (λfk h=>?_) λfk h=>?_
   .refine aK (b2 _ (inl (bg b9 λ_ fL _ _ _=>?_)));obtain⟨u16,d_,h⟩:=an h;(try simp only[fM.down,Nat.zero_add,Nat.add_zero,reduceAdd]at d_);refine c7 (U (@x4 .i64 10 (by decide)) (U (@Ja ah 3 5 .u8 rfl rfl) (U (show∀s,eh ah s 121 1 [(0,.int .u8 (u8.wrap (i64.wrap (48+(Int.tmod oI 10)))))]=some (.ag 1 [.int .u8 (u8.wrap (i64.wrap (48+(Int.tmod oI 10))))],s)from λs=>by kernel_rfl) (U ((@WX ah 121 9 5 rfl rfl rfl).2.2) (U @W0 (U @WY (U d_ (U @vX @vY)))))))) [(0,.int .i64 oI),(3,.str ([(pe (i64.wrap (48+(Int.tmod oI 10))))]++dW))] ?_;refine rZ (@W1 .i64 10 (by decide)) [(0,.int .i64 (i64.wrap (Int.tdiv oI 10))),(3,.str ([(pe (i64.wrap (48+(Int.tmod oI 10))))]++dW))] ?_;exact fL _ (cE _ (inr ⟨_,bE rfl,gE (i64.wrap (Int.tdiv oI 10)) ([(pe (i64.wrap (48+(Int.tmod oI 10))))]++dW) h⟩))
   .refine cS (dN 0 _ (dE 0 _ (b1 _ (dw _ (inl ?_)))));obtain⟨Au,eG,h⟩:=an h;(try simp only[fM.down,Nat.zero_add,Nat.add_zero,reduceAdd]at eG);refine c7 (U eG (U @vX @vY)) [(2,.str (([109]:azq)++dW))] ?_;exact cM ak [.str (([109]:azq)++dW)]
  exact dn h λn h=>gV n a0 ([]:azq) h
theorem ash (a0 J r) (h:K8 a0 J=some r):aZ ah 140 [.ag 2 (a0.map ea),.int .i64 J] (.int .i64 r.1) [.ag 2 (r.2.map ea),.hole]:=by
 refine bx [0] [.tmp 4] Tryz.func140 amI λbt ak bs=>aj ?_;refine ax ak λ_ bF bd ae=>aj ?_;refine bg bd λeP _ bR bw _=>?_;show bm ah (.loop ?eN) _ _;have e4:∀n bV aT aC,Dt n bV aT aC=some r->cL ah ?eN eP (ar [(0,.ag 2 (bV.map ea)),(1,.int .i64 aT),(5,.int .i64 aC)]):=by
  refine cZ λ_ eL bV aT aC h=>cX bR λ_ dM cv aU=>ax cv λ_ cG _ bB=>aj ?_;refine aD h (λb1 h=>?_) λb1 h=>?_
  .refine aK (cG _ (inl (ax cv λ_ cE b9 _=>bg b9 λ_ b2 _ _ _=>?_)));obtain⟨R,dm,h⟩:=an h;refine dh (b7 [(0,.ag 2 ((List.set bV (Int.toNat aC) (bY.mk aT R.Value)).map ea)),(1,.int .i64 aT),(5,.int .i64 aC)] (λP bc=>?_) ?_)
   .simp only[aE.down,simprocAttr,dm,ca dm,cW,de];exact bU (U dm (U (ca dm) @cW))
   refine ws [(0,.ag 2 ((List.set bV (Int.toNat aC) (bY.mk aT R.Value)).map ea)),(1,.int .i64 (i64.wrap (aT+1))),(5,.int .i64 aC)] ?_;obtain⟨ae,d_,h⟩:=an h;refine dh (b7 [(0,.ag 2 ((List.set (List.set bV (Int.toNat aC) (bY.mk aT R.Value)) (Int.toNat aC) (bY.mk ae.Kind (i64.wrap (aT+1)))).map ea)),(1,.int .i64 (i64.wrap (aT+1))),(5,.int .i64 aC)] (λP bc=>?_) ?_)
   .simp only[aE.down,simprocAttr,d_,ca d_,cW,de];exact bU (U d_ (U (ca d_) @cW))
   refine wr [(0,.ag 2 ((List.set (List.set bV (Int.toNat aC) (bY.mk aT R.Value)) (Int.toNat aC) (bY.mk ae.Kind (i64.wrap (aT+1)))).map ea)),(1,.int .i64 (i64.wrap ((i64.wrap (aT+1))+1))),(5,.int .i64 aC)] ?_;refine b2 _ (cE _ (inl (wr [(0,.ag 2 ((List.set (List.set bV (Int.toNat aC) (bY.mk aT R.Value)) (Int.toNat aC) (bY.mk ae.Kind (i64.wrap (aT+1)))).map ea)),(1,.int .i64 (i64.wrap ((i64.wrap (aT+1))+1))),(5,.int .i64 (i64.wrap (aC+1)))] ?_)));exact dM _ (inr ⟨_,bE rfl,eL (List.set (List.set bV (Int.toNat aC) (bY.mk aT R.Value)) (Int.toNat aC) (bY.mk ae.Kind (i64.wrap (aT+1)))) (i64.wrap ((i64.wrap (aT+1))+1)) (i64.wrap (aC+1)) h⟩)
  .refine cS (bB 0 _ (aU 0 _ (bw _ (bF _ (inl (aj ?_))))));exact gr (ak _ (inl (hs [.int .i64 aT] rfl (by cases eE h;rfl) (by decide) (hH (js (by cases eE h;rfl) rfl rfl rfl (dy (hI)))))))
 exact dn h λn h=>e4 n a0 J 0 h
theorem asi (a0 J r) (h:K9 a0 J=some r):aZ ah 101 [.ag 1 (a0.map lN),.int .i64 J] (.int .i64 r.1) [.ag 1 (r.2.map lN),.hole]:=by
 refine bx [0] [.tmp 4] Tryz.func101 amJ λbt ak bs=>aj ?_;refine ax ak λ_ bF bd ae=>aj ?_;refine bg bd λeP _ bR bw _=>?_;show bm ah (.loop ?eN) _ _;have e4:∀n bV aT aC,Du n bV aT aC=some r->cL ah ?eN eP (ar [(0,.ag 1 (bV.map lN)),(1,.int .i64 aT),(5,.int .i64 aC)]):=by
  refine cZ λ_ eL bV aT aC h=>cX bR λ_ dM cv aU=>ax cv λ_ cG _ bB=>aj ?_;refine aD h (λb1 h=>?_) λb1 h=>?_
  .refine aK (cG _ (inl (ax cv λ_ cE b9 _=>bg b9 λ_ b2 _ _ _=>?_)));obtain⟨R,dm,h⟩:=an h;obtain⟨ae,ed,h⟩:=an h;refine iy (b7 [(0,.ag 1 ((List.set bV (Int.toNat aC) ae.2).map lN)),(1,.int .i64 ae.1),(5,.int .i64 aC)] (λP bc=>?_) ?_)
   ·(try simp only[aE.down,simprocAttr,dm,ca dm]);refine k1 [⟨.h 0 [Int.toNat aC],true,_,_⟩,⟨.int .i64 aT,false,_,.hole⟩] (ash R aT _ ed) rfl rfl rfl (by simp only[aE.down,simprocAttr,dm,ca dm,la,kG,ht,hv,hx,cV,or_true,true_or, @b4 _ ea ea (λ_=>G_ _)]) rfl rfl (inl rfl) ?_;simp only[aE.down,simprocAttr,dm,ca dm,kl,(Fz (ca dm)),FA];exact bU (U dm (ca dm))
   refine b2 _ (cE _ (inl (wr [(0,.ag 1 ((List.set bV (Int.toNat aC) ae.2).map lN)),(1,.int .i64 ae.1),(5,.int .i64 (i64.wrap (aC+1)))] ?_)));exact dM _ (inr ⟨_,bE rfl,eL (List.set bV (Int.toNat aC) ae.2) ae.1 (i64.wrap (aC+1)) h⟩)
  .refine cS (bB 0 _ (aU 0 _ (bw _ (bF _ (inl (aj ?_))))));exact gr (ak _ (inl (hs [.int .i64 aT] rfl (by cases eE h;rfl) (by decide) (hH (js (by cases eE h;rfl) rfl rfl rfl (dy (hI)))))))
 exact dn h λn h=>e4 n a0 J 0 h
theorem asj (a0 J r) (h:K_ a0 J=some r):aZ ah 67 [.ag 4 (a0.map jw),.int .i64 J] (.int .i64 r.1) [.ag 4 (r.2.map jw),.hole]:=by
 refine bx [0] [.tmp 4] Tryz.func67 amK λbt ak bs=>aj ?_;refine ax ak λ_ bF bd ae=>aj ?_;refine bg bd λeP _ bR bw aY=>?_;show bm ah (.loop ?eN) _ _;have e4:∀n bV aT aC,Dv n bV aT aC=some r->cL ah ?eN eP (ar [(0,.ag 4 (bV.map jw)),(1,.int .i64 aT),(5,.int .i64 aC)]):=by
  refine cZ λ_ eL bV aT aC h=>cX bR λ_ dM cv aU=>ax cv λ_ cG _ bB=>aj ?_;refine aD h (λb1 h=>?_) λb1 h=>?_
  .refine aK (cG _ (inl (ax cv λ_ cE b9 _=>bg b9 λ_ b2 _ _ _=>?_)));obtain⟨R,dm,h⟩:=an h;refine dh (b7 [(0,.ag 4 ((List.set bV (Int.toNat aC) (b_.mk aT R.Number R.Name R.ck)).map jw)),(1,.int .i64 aT),(5,.int .i64 aC)] (λP bc=>?_) ?_)
   .simp only[aE.down,simprocAttr,dm,ca dm,cW,de];exact bU (U dm (U (ca dm) @cW))
   refine ws [(0,.ag 4 ((List.set bV (Int.toNat aC) (b_.mk aT R.Number R.Name R.ck)).map jw)),(1,.int .i64 (i64.wrap (aT+1))),(5,.int .i64 aC)] ?_;obtain⟨ae,d_,h⟩:=an h;refine dh (b7 [(0,.ag 4 ((List.set (List.set bV (Int.toNat aC) (b_.mk aT R.Number R.Name R.ck)) (Int.toNat aC) (b_.mk ae.Kind (i64.wrap (aT+1)) ae.Name ae.ck)).map jw)),(1,.int .i64 (i64.wrap (aT+1))),(5,.int .i64 aC)] (λP bc=>?_) ?_)
   .simp only[aE.down,simprocAttr,d_,ca d_,cW,de];exact bU (U d_ (U (ca d_) @cW))
   refine ws [(0,.ag 4 ((List.set (List.set bV (Int.toNat aC) (b_.mk aT R.Number R.Name R.ck)) (Int.toNat aC) (b_.mk ae.Kind (i64.wrap (aT+1)) ae.Name ae.ck)).map jw)),(1,.int .i64 (i64.wrap ((i64.wrap (aT+1))+1))),(5,.int .i64 aC)] ?_;obtain⟨az,eG,h⟩:=an h;obtain⟨aY,fb,h⟩:=an h;refine dh (b7 [(0,.ag 4 ((List.set (List.set (List.set bV (Int.toNat aC) (b_.mk aT R.Number R.Name R.ck)) (Int.toNat aC) (b_.mk ae.Kind (i64.wrap (aT+1)) ae.Name ae.ck)) (Int.toNat aC) (b_.mk aY.Kind aY.Number az aY.ck)).map jw)),(1,.int .i64 (i64.wrap ((i64.wrap (aT+1))+1))),(5,.int .i64 aC)] (λP bc=>?_) ?_)
   ·(try simp only[aE.down,simprocAttr,fb,ca fb,cW,de]);refine dq (AV (i64.wrap ((i64.wrap (aT+1))+1)) _ eG) (hK:= ?_);simp only[aE.down,simprocAttr,fb,ca fb,cW,de];exact bU (U fb (U (ca fb) @cW))
   refine ws [(0,.ag 4 ((List.set (List.set (List.set bV (Int.toNat aC) (b_.mk aT R.Number R.Name R.ck)) (Int.toNat aC) (b_.mk ae.Kind (i64.wrap (aT+1)) ae.Name ae.ck)) (Int.toNat aC) (b_.mk aY.Kind aY.Number az aY.ck)).map jw)),(1,.int .i64 (i64.wrap ((i64.wrap ((i64.wrap (aT+1))+1))+1))),(5,.int .i64 aC)] ?_;obtain⟨aU,fl,h⟩:=an h;obtain⟨bB,iD,h⟩:=an h;refine iy (b7 [(0,.ag 4 ((List.set (List.set (List.set (List.set bV (Int.toNat aC) (b_.mk aT R.Number R.Name R.ck)) (Int.toNat aC) (b_.mk ae.Kind (i64.wrap (aT+1)) ae.Name ae.ck)) (Int.toNat aC) (b_.mk aY.Kind aY.Number az aY.ck)) (Int.toNat aC) (b_.mk aU.Kind aU.Number aU.Name bB.2)).map jw)),(1,.int .i64 bB.1),(5,.int .i64 aC)] (λP bc=>?_) ?_)
   ·(try simp only[aE.down,simprocAttr,fl,ca fl]);refine k1 [⟨.h 0 [Int.toNat aC,3],true,_,_⟩,⟨.int .i64 (i64.wrap ((i64.wrap ((i64.wrap (aT+1))+1))+1)),false,_,.hole⟩] (asi aU.ck (i64.wrap ((i64.wrap ((i64.wrap (aT+1))+1))+1)) _ iD) rfl rfl rfl (by simp only[aE.down,simprocAttr,fl,ca fl,la,kG,ht,hv,hx,cV,or_true,true_or, @b4 _ lN jf (λ_=>Rw _)]) rfl rfl (inl rfl) ?_;simp only[aE.down,simprocAttr,fl,ca fl,kl,(Fz (ca fl)),FA];exact bU (U fl (ca fl))
   refine b2 _ (cE _ (inl (wr [(0,.ag 4 ((List.set (List.set (List.set (List.set bV (Int.toNat aC) (b_.mk aT R.Number R.Name R.ck)) (Int.toNat aC) (b_.mk ae.Kind (i64.wrap (aT+1)) ae.Name ae.ck)) (Int.toNat aC) (b_.mk aY.Kind aY.Number az aY.ck)) (Int.toNat aC) (b_.mk aU.Kind aU.Number aU.Name bB.2)).map jw)),(1,.int .i64 bB.1),(5,.int .i64 (i64.wrap (aC+1)))] ?_)));exact dM _ (inr ⟨_,bE rfl,eL (List.set (List.set (List.set (List.set bV (Int.toNat aC) (b_.mk aT R.Number R.Name R.ck)) (Int.toNat aC) (b_.mk ae.Kind (i64.wrap (aT+1)) ae.Name ae.ck)) (Int.toNat aC) (b_.mk aY.Kind aY.Number az aY.ck)) (Int.toNat aC) (b_.mk aU.Kind aU.Number aU.Name bB.2)) bB.1 (i64.wrap (aC+1)) h⟩)
  .refine cS (bB 0 _ (aU 0 _ (bw _ (bF _ (inl (aj ?_))))));exact gr (ak _ (inl (hs [.int .i64 aT] rfl (by cases eE h;rfl) (by decide) (hH (js (by cases eE h;rfl) rfl rfl rfl (dy (hI)))))))
 exact dn h λn h=>e4 n a0 J 0 h
theorem asl (a0 J r) (h:La a0 J=some r):aZ ah 39 [.ag 3 (a0.map hC),.int .i64 J] (.int .i64 r.1) [.ag 3 (r.2.map hC),.hole]:=by
 refine bx [0] [.tmp 4] Tryz.func39 amL λbt ak bs=>aj ?_;refine ax ak λ_ bF bd ae=>aj ?_;refine bg bd λeP _ bR bw aY=>?_;show bm ah (.loop ?eN) _ _;have e4:∀n bV aT aC,Dw n bV aT aC=some r->cL ah ?eN eP (ar [(0,.ag 3 (bV.map hC)),(1,.int .i64 aT),(5,.int .i64 aC)]):=by
  refine cZ λ_ eL bV aT aC h=>cX bR λ_ dM cv aU=>ax cv λ_ cG _ bB=>aj ?_;refine aD h (λb1 h=>?_) λb1 h=>?_
  .refine aK (cG _ (inl (ax cv λ_ cE b9 _=>bg b9 λ_ b2 _ _ _=>?_)));obtain⟨R,dm,h⟩:=an h;obtain⟨ae,ed,h⟩:=an h;refine dh (b7 [(0,.ag 3 ((List.set bV (Int.toNat aC) (a1.mk R ae.dV ae.Body)).map hC)),(1,.int .i64 aT),(5,.int .i64 aC)] (λP bc=>?_) ?_)
   ·(try simp only[aE.down,simprocAttr,ed,ca ed,cW,de]);refine dq (AV aT _ dm) (hK:= ?_);simp only[aE.down,simprocAttr,ed,ca ed,cW,de];exact bU (U ed (U (ca ed) @cW))
   refine ws [(0,.ag 3 ((List.set bV (Int.toNat aC) (a1.mk R ae.dV ae.Body)).map hC)),(1,.int .i64 (i64.wrap (aT+1))),(5,.int .i64 aC)] ?_;obtain⟨az,cB,h⟩:=an h;refine dh (b7 [(0,.ag 3 ((List.set (List.set bV (Int.toNat aC) (a1.mk R ae.dV ae.Body)) (Int.toNat aC) (a1.mk az.Name (i64.wrap (aT+1)) az.Body)).map hC)),(1,.int .i64 (i64.wrap (aT+1))),(5,.int .i64 aC)] (λP bc=>?_) ?_)
   .simp only[aE.down,simprocAttr,cB,ca cB,cW,de];exact bU (U cB (U (ca cB) @cW))
   refine ws [(0,.ag 3 ((List.set (List.set bV (Int.toNat aC) (a1.mk R ae.dV ae.Body)) (Int.toNat aC) (a1.mk az.Name (i64.wrap (aT+1)) az.Body)).map hC)),(1,.int .i64 (i64.wrap ((i64.wrap (aT+1))+1))),(5,.int .i64 aC)] ?_;obtain⟨aY,fb,h⟩:=an h;obtain⟨aU,gp,h⟩:=an h;refine iy (b7 [(0,.ag 3 ((List.set (List.set (List.set bV (Int.toNat aC) (a1.mk R ae.dV ae.Body)) (Int.toNat aC) (a1.mk az.Name (i64.wrap (aT+1)) az.Body)) (Int.toNat aC) (a1.mk aY.Name aY.dV aU.2)).map hC)),(1,.int .i64 aU.1),(5,.int .i64 aC)] (λP bc=>?_) ?_)
   ·(try simp only[aE.down,simprocAttr,fb,ca fb]);refine k1 [⟨.h 0 [Int.toNat aC,2],true,_,_⟩,⟨.int .i64 (i64.wrap ((i64.wrap (aT+1))+1)),false,_,.hole⟩] (asj aY.Body (i64.wrap ((i64.wrap (aT+1))+1)) _ gp) rfl rfl rfl (by simp only[aE.down,simprocAttr,fb,ca fb,la,kG,ht,hv,hx,cV,or_true,true_or, @b4 _ jw eH (λ_=>Rx _)]) rfl rfl (inl rfl) ?_;simp only[aE.down,simprocAttr,fb,ca fb,kl,(Fz (ca fb)),FA];exact bU (U fb (ca fb))
   refine b2 _ (cE _ (inl (wr [(0,.ag 3 ((List.set (List.set (List.set bV (Int.toNat aC) (a1.mk R ae.dV ae.Body)) (Int.toNat aC) (a1.mk az.Name (i64.wrap (aT+1)) az.Body)) (Int.toNat aC) (a1.mk aY.Name aY.dV aU.2)).map hC)),(1,.int .i64 aU.1),(5,.int .i64 (i64.wrap (aC+1)))] ?_)));exact dM _ (inr ⟨_,bE rfl,eL (List.set (List.set (List.set bV (Int.toNat aC) (a1.mk R ae.dV ae.Body)) (Int.toNat aC) (a1.mk az.Name (i64.wrap (aT+1)) az.Body)) (Int.toNat aC) (a1.mk aY.Name aY.dV aU.2)) aU.1 (i64.wrap (aC+1)) h⟩)
  .refine cS (bB 0 _ (aU 0 _ (bw _ (bF _ (inl (aj ?_))))));exact gr (ak _ (inl (hs [.int .i64 aT] rfl (by cases eE h;rfl) (by decide) (hH (js (by cases eE h;rfl) rfl rfl rfl (dy (hI)))))))
 exact dn h λn h=>e4 n a0 J 0 h
theorem aaq (a0 J r) (h:G5 a0 J=some r):aZ ah 44 [.ag 1 (a0.map bb),.int .i64 J] (.int .i64 r.1) [.ag 1 (r.2.map bb),.hole]:=by
 refine bx [0] [.tmp 4] Tryz.func44 Hm λbt ak bs=>aj ?_;refine ax ak λ_ bF bd _=>aj ?_;refine bg bd λeP _ bR bw _=>?_;show bm ah (.loop ?eN) _ _;have e4:∀n bV aT aC,Dx n bV aT aC=some r->cL ah ?eN eP (ar [(0,.ag 1 (bV.map bb)),(1,.int .i64 aT),(5,.int .i64 aC)]):=by
  refine cZ λ_ eL bV aT aC h=>cX bR λ_ dM cv aU=>ax cv λ_ cG _ bB=>aj ?_;refine aD h (λb1 h=>?_) λb1 h=>?_
  .refine aK (cG _ (inl (ax cv λ_ cE b9 _=>bg b9 λ_ b2 _ _ _=>?_)));obtain⟨R,dm,h⟩:=an h;refine dh (b7 [(0,.ag 1 ((List.set bV (Int.toNat aC) aT).map bb)),(1,.int .i64 aT),(5,.int .i64 aC)] (λP bc=>?_) ?_)
   .simp only[aE.down,simprocAttr,dm,ca dm,cW,de];exact bU (U dm (U (ca dm) @cW))
   refine wr [(0,.ag 1 ((List.set bV (Int.toNat aC) aT).map bb)),(1,.int .i64 (i64.wrap (aT+1))),(5,.int .i64 aC)] ?_;refine b2 _ (cE _ (inl (wr [(0,.ag 1 ((List.set bV (Int.toNat aC) aT).map bb)),(1,.int .i64 (i64.wrap (aT+1))),(5,.int .i64 (i64.wrap (aC+1)))] ?_)));exact dM _ (inr ⟨_,bE rfl,eL (List.set bV (Int.toNat aC) aT) (i64.wrap (aT+1)) (i64.wrap (aC+1)) h⟩)
  .refine cS (bB 0 _ (aU 0 _ (bw _ (bF _ (inl (aj ?_))))));exact gr (ak _ (inl (hs [.int .i64 aT] rfl (by cases eE h;rfl) (by decide) (hH (js (by cases eE h;rfl) rfl rfl rfl (dy (hI)))))))
 exact dn h λn h=>e4 n a0 J 0 h
theorem asm (a0 J r) (h:Lb a0 J=some r):aZ ah 40 [.ag 2 (a0.map hT),.int .i64 J] (.int .i64 r.1) [.ag 2 (r.2.map hT),.hole]:=by
 refine bx [0] [.tmp 4] Tryz.func40 c40 λbt ak bs=>aj ?_;refine ax ak λ_ bF bd ae=>aj ?_;refine bg bd λeP _ bR bw _=>?_;show bm ah (.loop ?eN) _ _;have e4:∀n bV aT aC,Dy n bV aT aC=some r->cL ah ?eN eP (ar [(0,.ag 2 (bV.map hT)),(1,.int .i64 aT),(5,.int .i64 aC)]):=by
  refine cZ λ_ eL bV aT aC h=>cX bR λ_ dM cv aU=>ax cv λ_ cG _ bB=>aj ?_;refine aD h (λb1 h=>?_) λb1 h=>?_
  .refine aK (cG _ (inl (ax cv λ_ cE b9 _=>bg b9 λ_ b2 _ _ _=>?_)));obtain⟨R,dm,h⟩:=an h;refine dh (b7 [(0,.ag 2 ((List.set bV (Int.toNat aC) (cQ.mk aT R.b5)).map hT)),(1,.int .i64 aT),(5,.int .i64 aC)] (λP bc=>?_) ?_)
   .simp only[aE.down,simprocAttr,dm,ca dm,cW,de];exact bU (U dm (U (ca dm) @cW))
   refine ws [(0,.ag 2 ((List.set bV (Int.toNat aC) (cQ.mk aT R.b5)).map hT)),(1,.int .i64 (i64.wrap (aT+1))),(5,.int .i64 aC)] ?_;obtain⟨ae,d_,h⟩:=an h;obtain⟨az,cB,h⟩:=an h;refine iy (b7 [(0,.ag 2 ((List.set (List.set bV (Int.toNat aC) (cQ.mk aT R.b5)) (Int.toNat aC) (cQ.mk ae.cJ az.2)).map hT)),(1,.int .i64 az.1),(5,.int .i64 aC)] (λP bc=>?_) ?_)
   ·(try simp only[aE.down,simprocAttr,d_,ca d_]);refine k1 [⟨.h 0 [Int.toNat aC,1],true,_,_⟩,⟨.int .i64 (i64.wrap (aT+1)),false,_,.hole⟩] (aaq ae.b5 (i64.wrap (aT+1)) _ cB) rfl rfl rfl (by simp only[aE.down,simprocAttr,d_,ca d_,Zx.down]) rfl rfl (inl rfl) ?_;simp only[aE.down,simprocAttr,d_,ca d_,kl,(Fz (ca d_)),FA];exact bU (U d_ (ca d_))
   refine b2 _ (cE _ (inl (wr [(0,.ag 2 ((List.set (List.set bV (Int.toNat aC) (cQ.mk aT R.b5)) (Int.toNat aC) (cQ.mk ae.cJ az.2)).map hT)),(1,.int .i64 az.1),(5,.int .i64 (i64.wrap (aC+1)))] ?_)));exact dM _ (inr ⟨_,bE rfl,eL (List.set (List.set bV (Int.toNat aC) (cQ.mk aT R.b5)) (Int.toNat aC) (cQ.mk ae.cJ az.2)) az.1 (i64.wrap (aC+1)) h⟩)
  .refine cS (bB 0 _ (aU 0 _ (bw _ (bF _ (inl (aj ?_))))));exact gr (ak _ (inl (hs [.int .i64 aT] rfl (by cases eE h;rfl) (by decide) (hH (js (by cases eE h;rfl) rfl rfl rfl (dy (hI)))))))
 exact dn h λn h=>e4 n a0 J 0 h
theorem asn (a0 J r) (h:Lc a0 J=some r):aZ ah 41 [.ag 3 (a0.map bJ),.int .i64 J] (.int .i64 r.1) [.ag 3 (r.2.map bJ),.hole]:=by
 refine bx [0] [.tmp 4] Tryz.func41 amM λbt ak bs=>aj ?_;refine ax ak λ_ bF bd ae=>aj ?_;refine bg bd λeP _ bR bw aY=>?_;show bm ah (.loop ?eN) _ _;have e4:∀n bV aT aC,Dz n bV aT aC=some r->cL ah ?eN eP (ar [(0,.ag 3 (bV.map bJ)),(1,.int .i64 aT),(5,.int .i64 aC)]):=by
  refine cZ λ_ eL bV aT aC h=>cX bR λ_ dM cv aU=>ax cv λ_ cG _ bB=>aj ?_;refine aD h (λb1 h=>?_) λb1 h=>?_
  .refine aK (cG _ (inl (ax cv λ_ cE b9 _=>bg b9 λ_ b2 _ _ _=>?_)));obtain⟨R,dm,h⟩:=an h;obtain⟨ae,ed,h⟩:=an h;refine dh (b7 [(0,.ag 3 ((List.set bV (Int.toNat aC) (bX.mk R ae.cH ae.Result)).map bJ)),(1,.int .i64 aT),(5,.int .i64 aC)] (λP bc=>?_) ?_)
   ·(try simp only[aE.down,simprocAttr,ed,ca ed,cW,de]);refine dq (AV aT _ dm) (hK:= ?_);simp only[aE.down,simprocAttr,ed,ca ed,cW,de];exact bU (U ed (U (ca ed) @cW))
   refine ws [(0,.ag 3 ((List.set bV (Int.toNat aC) (bX.mk R ae.cH ae.Result)).map bJ)),(1,.int .i64 (i64.wrap (aT+1))),(5,.int .i64 aC)] ?_;obtain⟨az,cB,h⟩:=an h;obtain⟨aY,dP,h⟩:=an h;refine dh (b7 [(0,.ag 3 ((List.set (List.set bV (Int.toNat aC) (bX.mk R ae.cH ae.Result)) (Int.toNat aC) (bX.mk aY.Left az aY.Result)).map bJ)),(1,.int .i64 (i64.wrap (aT+1))),(5,.int .i64 aC)] (λP bc=>?_) ?_)
   ·(try simp only[aE.down,simprocAttr,dP,ca dP,cW,de]);refine dq (AV (i64.wrap (aT+1)) _ cB) (hK:= ?_);simp only[aE.down,simprocAttr,dP,ca dP,cW,de];exact bU (U dP (U (ca dP) @cW))
   refine ws [(0,.ag 3 ((List.set (List.set bV (Int.toNat aC) (bX.mk R ae.cH ae.Result)) (Int.toNat aC) (bX.mk aY.Left az aY.Result)).map bJ)),(1,.int .i64 (i64.wrap ((i64.wrap (aT+1))+1))),(5,.int .i64 aC)] ?_;obtain⟨aU,gp,h⟩:=an h;obtain⟨bB,gT,h⟩:=an h;refine dh (b7 [(0,.ag 3 ((List.set (List.set (List.set bV (Int.toNat aC) (bX.mk R ae.cH ae.Result)) (Int.toNat aC) (bX.mk aY.Left az aY.Result)) (Int.toNat aC) (bX.mk bB.Left bB.cH aU)).map bJ)),(1,.int .i64 (i64.wrap ((i64.wrap (aT+1))+1))),(5,.int .i64 aC)] (λP bc=>?_) ?_)
   ·(try simp only[aE.down,simprocAttr,gT,ca gT,cW,de]);refine dq (AV (i64.wrap ((i64.wrap (aT+1))+1)) _ gp) (hK:= ?_);simp only[aE.down,simprocAttr,gT,ca gT,cW,de];exact bU (U gT (U (ca gT) @cW))
   refine wr [(0,.ag 3 ((List.set (List.set (List.set bV (Int.toNat aC) (bX.mk R ae.cH ae.Result)) (Int.toNat aC) (bX.mk aY.Left az aY.Result)) (Int.toNat aC) (bX.mk bB.Left bB.cH aU)).map bJ)),(1,.int .i64 (i64.wrap ((i64.wrap ((i64.wrap (aT+1))+1))+1))),(5,.int .i64 aC)] ?_;refine b2 _ (cE _ (inl (wr [(0,.ag 3 ((List.set (List.set (List.set bV (Int.toNat aC) (bX.mk R ae.cH ae.Result)) (Int.toNat aC) (bX.mk aY.Left az aY.Result)) (Int.toNat aC) (bX.mk bB.Left bB.cH aU)).map bJ)),(1,.int .i64 (i64.wrap ((i64.wrap ((i64.wrap (aT+1))+1))+1))),(5,.int .i64 (i64.wrap (aC+1)))] ?_)));exact dM _ (inr ⟨_,bE rfl,eL (List.set (List.set (List.set bV (Int.toNat aC) (bX.mk R ae.cH ae.Result)) (Int.toNat aC) (bX.mk aY.Left az aY.Result)) (Int.toNat aC) (bX.mk bB.Left bB.cH aU)) (i64.wrap ((i64.wrap ((i64.wrap (aT+1))+1))+1)) (i64.wrap (aC+1)) h⟩)
  .refine cS (bB 0 _ (aU 0 _ (bw _ (bF _ (inl (aj ?_))))));exact gr (ak _ (inl (hs [.int .i64 aT] rfl (by cases eE h;rfl) (by decide) (hH (js (by cases eE h;rfl) rfl rfl rfl (dy (hI)))))))
 exact dn h λn h=>e4 n a0 J 0 h
theorem aar (a0 J r) (h:G6 a0 J=some r):aZ ah 42 [.ag 1 (a0.map aV),.int .i64 J] (.int .i64 r.1) [.ag 1 (r.2.map aV),.hole]:=by
 refine bx [0] [.tmp 4] Tryz.func42 amN λbt ak bs=>aj ?_;refine ax ak λ_ bF bd ae=>aj ?_;refine bg bd λeP _ bR bw _=>?_;show bm ah (.loop ?eN) _ _;have e4:∀n bV aT aC,DA n bV aT aC=some r->cL ah ?eN eP (ar [(0,.ag 1 (bV.map aV)),(1,.int .i64 aT),(5,.int .i64 aC)]):=by
  refine cZ λ_ eL bV aT aC h=>cX bR λ_ dM cv aU=>ax cv λ_ cG _ bB=>aj ?_;refine aD h (λb1 h=>?_) λb1 h=>?_
  .refine aK (cG _ (inl (ax cv λ_ cE b9 _=>bg b9 λ_ b2 _ _ _=>?_)));obtain⟨R,dm,h⟩:=an h;obtain⟨ae,ed,h⟩:=an h;refine dh (b7 [(0,.ag 1 ((List.set bV (Int.toNat aC) R).map aV)),(1,.int .i64 aT),(5,.int .i64 aC)] (λP bc=>?_) ?_)
   ·(try simp only[aE.down,simprocAttr,ed,ca ed,cW,de]);refine dq (AV aT _ dm) (hK:= ?_);simp only[aE.down,simprocAttr,ed,ca ed,cW,de];exact bU (U ed (U (ca ed) @cW))
   refine wr [(0,.ag 1 ((List.set bV (Int.toNat aC) R).map aV)),(1,.int .i64 (i64.wrap (aT+1))),(5,.int .i64 aC)] ?_;refine b2 _ (cE _ (inl (wr [(0,.ag 1 ((List.set bV (Int.toNat aC) R).map aV)),(1,.int .i64 (i64.wrap (aT+1))),(5,.int .i64 (i64.wrap (aC+1)))] ?_)));exact dM _ (inr ⟨_,bE rfl,eL (List.set bV (Int.toNat aC) R) (i64.wrap (aT+1)) (i64.wrap (aC+1)) h⟩)
  .refine cS (bB 0 _ (aU 0 _ (bw _ (bF _ (inl (aj ?_))))));exact gr (ak _ (inl (hs [.int .i64 aT] rfl (by cases eE h;rfl) (by decide) (hH (js (by cases eE h;rfl) rfl rfl rfl (dy (hI)))))))
 exact dn h λn h=>e4 n a0 J 0 h
theorem aso (bn bp bo bH bG J r) (h:Ld bn bp bo bH bG J=some r):aZ ah 13 [.agg [.ag 3 (bn.map hC),.ag 2 (bp.map hT),.ag 3 (bo.map bJ),.ag 1 (bH.map aV),.ag 1 (bG.map aV)],.int .i64 J] (.int .i64 r.1) [.agg [.ag 3 (r.2.1.map hC),.ag 2 (r.2.2.1.map hT),.ag 3 (r.2.2.2.1.map bJ),.ag 1 (r.2.2.2.2.1.map aV),.ag 1 (r.2.2.2.2.2.map aV)],.hole]:=by
 refine bx [0] [.tmp 4] Tryz.func13 amP λbt ak bs=>dh (b7 [(0,.agg [.ag 3 (bn.map hC),.ag 2 (bp.map hT),.ag 3 (bo.map bJ),.ag 1 (bH.map aV),.ag 1 (bG.map aV)]),(1,.int .i64 J),(2,.ab 0 0)] (λP bc=>?_) ?_)
 .simp only[aE.down,simprocAttr,r2.down,I.e_];exact bU r2.down
 obtain⟨R,aS,h⟩:=an h;refine dh (b7 [(0,.agg [.ag 3 (R.2.map hC),.ag 2 (bp.map hT),.ag 3 (bo.map bJ),.ag 1 (bH.map aV),.ag 1 (bG.map aV)]),(1,.int .i64 R.1),(2,.ab 0 0)] (λP bc=>?_) ?_)
 ·(try simp only[aE.down,simprocAttr,r2.down,I.e_]);refine Je [⟨.h 0 [0],true,_,_⟩,⟨.int .i64 J,false,_,.hole⟩] (asl bn J _ aS) rfl rfl rfl (by simp only[aE.down,simprocAttr,x8,x_,I.e_,x9,mo,la,kG,ht,hv,hx,cV,or_true,true_or, @b4 _ hC bk (λ_=>Ao _)]) rfl rfl (inl rfl) (by simp only[aE.down,simprocAttr,LA.down,I.e_,Bool.and_self,Bool.not_false,Bool.and_true]) ?_;simp only[aE.down,simprocAttr,LB.down,I.e_,eq_self,Bool.and_self];exact bU r2.down
 obtain⟨ae,cF,h⟩:=an h;refine dh (b7 [(0,.agg [.ag 3 (R.2.map hC),.ag 2 (ae.2.map hT),.ag 3 (bo.map bJ),.ag 1 (bH.map aV),.ag 1 (bG.map aV)]),(1,.int .i64 ae.1),(2,.ab 0 0)] (λP bc=>?_) ?_)
 ·(try simp only[aE.down,simprocAttr,r2.down,I.e_]);refine Je [⟨.h 0 [1],true,_,_⟩,⟨.int .i64 R.1,false,_,.hole⟩] (asm bp R.1 _ cF) rfl rfl rfl (by simp only[aE.down,simprocAttr,x8,x_,I.e_,x9,mo,la,kG,ht,hv,hx,cV,or_true,true_or, @b4 _ hT db (λ_=>Aq _)]) rfl rfl (inl rfl) (by simp only[aE.down,simprocAttr,LA.down,I.e_,Bool.and_self,Bool.not_false,Bool.and_true]) ?_;simp only[aE.down,simprocAttr,LB.down,I.e_,eq_self,Bool.and_self];exact bU r2.down
 obtain⟨az,cg,h⟩:=an h;refine dh (b7 [(0,.agg [.ag 3 (R.2.map hC),.ag 2 (ae.2.map hT),.ag 3 (az.2.map bJ),.ag 1 (bH.map aV),.ag 1 (bG.map aV)]),(1,.int .i64 az.1),(2,.ab 0 0)] (λP bc=>?_) ?_)
 ·(try simp only[aE.down,simprocAttr,r2.down,I.e_]);refine Je [⟨.h 0 [2],true,_,_⟩,⟨.int .i64 ae.1,false,_,.hole⟩] (asn bo ae.1 _ cg) rfl rfl rfl (by simp only[aE.down,simprocAttr,x8,x_,I.e_,x9,mo,la,kG,ht,hv,hx,cV,or_true,true_or, @b4 _ bJ bJ (λ_=>qi _)]) rfl rfl (inl rfl) (by simp only[aE.down,simprocAttr,LA.down,I.e_,Bool.and_self,Bool.not_false,Bool.and_true]) ?_;simp only[aE.down,simprocAttr,LB.down,I.e_,eq_self,Bool.and_self];exact bU r2.down
 obtain⟨aY,h_,h⟩:=an h;refine dh (b7 [(0,.agg [.ag 3 (R.2.map hC),.ag 2 (ae.2.map hT),.ag 3 (az.2.map bJ),.ag 1 (aY.2.map aV),.ag 1 (bG.map aV)]),(1,.int .i64 aY.1),(2,.ab 0 0)] (λP bc=>?_) ?_)
 ·(try simp only[aE.down,simprocAttr,r2.down,I.e_]);refine Je [⟨.h 0 [3],true,_,_⟩,⟨.int .i64 az.1,false,_,.hole⟩] (aar bH az.1 _ h_) rfl rfl rfl (by simp only[aE.down,simprocAttr,Zy.down,I.e_]) rfl rfl (inl rfl) (by simp only[aE.down,simprocAttr,LA.down,I.e_,Bool.and_self,Bool.not_false,Bool.and_true]) ?_;simp only[aE.down,simprocAttr,LB.down,I.e_,eq_self,Bool.and_self];exact bU r2.down
 obtain⟨aU,lz,h⟩:=an h;refine dh (b7 [(0,.agg [.ag 3 (R.2.map hC),.ag 2 (ae.2.map hT),.ag 3 (az.2.map bJ),.ag 1 (aY.2.map aV),.ag 1 (aU.2.map aV)]),(1,.int .i64 aU.1)] (λP bc=>?_) ?_)
 ·(try simp only[aE.down,simprocAttr,r2.down,I.e_]);refine k1 [⟨.h 0 [4],true,_,_⟩,⟨.int .i64 aY.1,false,_,.hole⟩] (aar bG aY.1 _ lz) rfl rfl rfl (by simp only[aE.down,simprocAttr,Zy.down,I.e_]) rfl rfl (inl rfl) ?_;simp only[aE.down,simprocAttr,x8,x_,I.e_,x9,kl];exact bU r2.down
 refine aj ?_;exact gr (ak _ (inl (hs [.int .i64 aU.1] rfl (by cases eE h;rfl) (by decide) (hH (js (by cases eE h;rfl) rfl rfl rfl (dy (hI)))))))
theorem asp (a0 J r) (h:Le a0 J=some r):aZ ah 14 [.ag 4 (a0.map eY),.int .i64 J] (.int .i64 r.1) [.ag 4 (r.2.map eY),.hole]:=by
 refine bx [0] [.tmp 4] Tryz.func14 gS λbt ak bs=>aj ?_;refine ax ak λ_ bF bd ae=>aj ?_;refine bg bd λeP _ bR bw aY=>?_;show bm ah (.loop ?eN) _ _;have e4:∀n bV aT aC,DB n bV aT aC=some r->cL ah ?eN eP (ar [(0,.ag 4 (bV.map eY)),(1,.int .i64 aT),(5,.int .i64 aC)]):=by
  refine cZ λ_ eL bV aT aC h=>cX bR λ_ dM cv aU=>ax cv λ_ cG _ bB=>aj ?_;refine aD h (λb1 h=>?_) λb1 h=>?_
  .refine aK (cG _ (inl (ax cv λ_ cE b9 _=>bg b9 λ_ b2 _ _ _=>?_)));obtain⟨R,dm,h⟩:=an h;refine dh (b7 [(0,.ag 4 ((List.set bV (Int.toNat aC) (dC.mk aT R.ef R.Second R.Label)).map eY)),(1,.int .i64 aT),(5,.int .i64 aC)] (λP bc=>?_) ?_)
   .simp only[aE.down,simprocAttr,dm,ca dm,cW,de];exact bU (U dm (U (ca dm) @cW))
   refine ws [(0,.ag 4 ((List.set bV (Int.toNat aC) (dC.mk aT R.ef R.Second R.Label)).map eY)),(1,.int .i64 (i64.wrap (aT+1))),(5,.int .i64 aC)] ?_;obtain⟨ae,d_,h⟩:=an h;refine dh (b7 [(0,.ag 4 ((List.set (List.set bV (Int.toNat aC) (dC.mk aT R.ef R.Second R.Label)) (Int.toNat aC) (dC.mk ae.Choice (i64.wrap (aT+1)) ae.Second ae.Label)).map eY)),(1,.int .i64 (i64.wrap (aT+1))),(5,.int .i64 aC)] (λP bc=>?_) ?_)
   .simp only[aE.down,simprocAttr,d_,ca d_,cW,de];exact bU (U d_ (U (ca d_) @cW))
   refine ws [(0,.ag 4 ((List.set (List.set bV (Int.toNat aC) (dC.mk aT R.ef R.Second R.Label)) (Int.toNat aC) (dC.mk ae.Choice (i64.wrap (aT+1)) ae.Second ae.Label)).map eY)),(1,.int .i64 (i64.wrap ((i64.wrap (aT+1))+1))),(5,.int .i64 aC)] ?_;obtain⟨az,eG,h⟩:=an h;refine dh (b7 [(0,.ag 4 ((List.set (List.set (List.set bV (Int.toNat aC) (dC.mk aT R.ef R.Second R.Label)) (Int.toNat aC) (dC.mk ae.Choice (i64.wrap (aT+1)) ae.Second ae.Label)) (Int.toNat aC) (dC.mk az.Choice az.ef (i64.wrap ((i64.wrap (aT+1))+1)) az.Label)).map eY)),(1,.int .i64 (i64.wrap ((i64.wrap (aT+1))+1))),(5,.int .i64 aC)] (λP bc=>?_) ?_)
   .simp only[aE.down,simprocAttr,eG,ca eG,cW,de];exact bU (U eG (U (ca eG) @cW))
   refine ws [(0,.ag 4 ((List.set (List.set (List.set bV (Int.toNat aC) (dC.mk aT R.ef R.Second R.Label)) (Int.toNat aC) (dC.mk ae.Choice (i64.wrap (aT+1)) ae.Second ae.Label)) (Int.toNat aC) (dC.mk az.Choice az.ef (i64.wrap ((i64.wrap (aT+1))+1)) az.Label)).map eY)),(1,.int .i64 (i64.wrap ((i64.wrap ((i64.wrap (aT+1))+1))+1))),(5,.int .i64 aC)] ?_;obtain⟨aY,gT,h⟩:=an h;obtain⟨aU,fl,h⟩:=an h;refine dh (b7 [(0,.ag 4 ((List.set (List.set (List.set (List.set bV (Int.toNat aC) (dC.mk aT R.ef R.Second R.Label)) (Int.toNat aC) (dC.mk ae.Choice (i64.wrap (aT+1)) ae.Second ae.Label)) (Int.toNat aC) (dC.mk az.Choice az.ef (i64.wrap ((i64.wrap (aT+1))+1)) az.Label)) (Int.toNat aC) (dC.mk aU.Choice aU.ef aU.Second aY)).map eY)),(1,.int .i64 (i64.wrap ((i64.wrap ((i64.wrap (aT+1))+1))+1))),(5,.int .i64 aC)] (λP bc=>?_) ?_)
   ·(try simp only[aE.down,simprocAttr,fl,ca fl,cW,de]);refine dq (AV (i64.wrap ((i64.wrap ((i64.wrap (aT+1))+1))+1)) _ gT) (hK:= ?_);simp only[aE.down,simprocAttr,fl,ca fl,cW,de];exact bU (U fl (U (ca fl) @cW))
   refine wr [(0,.ag 4 ((List.set (List.set (List.set (List.set bV (Int.toNat aC) (dC.mk aT R.ef R.Second R.Label)) (Int.toNat aC) (dC.mk ae.Choice (i64.wrap (aT+1)) ae.Second ae.Label)) (Int.toNat aC) (dC.mk az.Choice az.ef (i64.wrap ((i64.wrap (aT+1))+1)) az.Label)) (Int.toNat aC) (dC.mk aU.Choice aU.ef aU.Second aY)).map eY)),(1,.int .i64 (i64.wrap ((i64.wrap ((i64.wrap ((i64.wrap (aT+1))+1))+1))+1))),(5,.int .i64 aC)] ?_;refine b2 _ (cE _ (inl (wr [(0,.ag 4 ((List.set (List.set (List.set (List.set bV (Int.toNat aC) (dC.mk aT R.ef R.Second R.Label)) (Int.toNat aC) (dC.mk ae.Choice (i64.wrap (aT+1)) ae.Second ae.Label)) (Int.toNat aC) (dC.mk az.Choice az.ef (i64.wrap ((i64.wrap (aT+1))+1)) az.Label)) (Int.toNat aC) (dC.mk aU.Choice aU.ef aU.Second aY)).map eY)),(1,.int .i64 (i64.wrap ((i64.wrap ((i64.wrap ((i64.wrap (aT+1))+1))+1))+1))),(5,.int .i64 (i64.wrap (aC+1)))] ?_)));exact dM _ (inr ⟨_,bE rfl,eL (List.set (List.set (List.set (List.set bV (Int.toNat aC) (dC.mk aT R.ef R.Second R.Label)) (Int.toNat aC) (dC.mk ae.Choice (i64.wrap (aT+1)) ae.Second ae.Label)) (Int.toNat aC) (dC.mk az.Choice az.ef (i64.wrap ((i64.wrap (aT+1))+1)) az.Label)) (Int.toNat aC) (dC.mk aU.Choice aU.ef aU.Second aY)) (i64.wrap ((i64.wrap ((i64.wrap ((i64.wrap (aT+1))+1))+1))+1)) (i64.wrap (aC+1)) h⟩)
  .refine cS (bB 0 _ (aU 0 _ (bw _ (bF _ (inl (aj ?_))))));exact gr (ak _ (inl (hs [.int .i64 aT] rfl (by cases eE h;rfl) (by decide) (hH (js (by cases eE h;rfl) rfl rfl rfl (dy (hI)))))))
 exact dn h λn h=>e4 n a0 J 0 h
end Go.Proofs.YtmaepbgkcmjcjajGreatDoor
