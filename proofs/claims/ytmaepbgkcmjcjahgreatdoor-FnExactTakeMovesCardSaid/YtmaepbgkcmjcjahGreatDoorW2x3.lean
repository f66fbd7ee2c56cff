/- Part of a proof that a law returns true for every input. No condition. -/
import Derived.Test.YtmaepbgkcmjcjahGreatDoorW1x3
namespace Go.Proofs.YtmaepbgkcmjcjahGreatDoor
open Option Go.IntKind Nat Or
open Go Go.ei Go.k6
set_option maxRecDepth 100000
set_option maxHeartbeats 8800000
set_option linter.unusedSimpArgs false
set_option linter.unusedVariables false
theorem aqb (a0 r) (h:Qa a0=some r):aX ah 226 [ey a0] (.bool r) []:=by
 refine bC [0] [.tmp 2] Tryz.func226 c226 λbt aj br=>ak ?_;refine n7 (a0.Kind==4) [(1,.aM (ey a0)),(3,.bool ((a0.Kind==4)||(a0.Kind==5)))] ?_;refine dp (b6 [(1,.aM (ey a0)),(3,.bool ((a0.Kind==4)||(a0.Kind==5))),(4,.bool (((a0.Kind==1)||(a0.Kind==3))||(a0.Kind==5)))] (λP bg=>?_) ?_)
 ·(rcases Bool.eq_false_or_eq_true (a0.Kind==1)with mW|mW)<;>(rcases Bool.eq_false_or_eq_true (a0.Kind==3)with SS|SS)<;>
   (simp only[aB.down,simprocAttr,mW,SS]
    exact bP (R mW SS))
 obtain⟨U,cd,h⟩:=an h;refine dp (b6 [(2,.bool (((U&&(((a0.Kind==4)||(a0.Kind==5))||(a0.Number==0)))&&((a0.Kind==1)||(a0.Name==([]:azc))))&&((((a0.Kind==1)||(a0.Kind==3))||(a0.Kind==5))||((a0.cl.length:Int)==0))))] (λP bg=>?_) ?_)
 ·(rcases Bool.eq_false_or_eq_true (U)with yD|yD)<;>(rcases Bool.eq_false_or_eq_true (a0.Kind==4)with sj|sj)<;>(rcases Bool.eq_false_or_eq_true (a0.Kind==5)with yN|yN)<;>(rcases Bool.eq_false_or_eq_true (a0.Number==0)with LP|LP)<;>(rcases Bool.eq_false_or_eq_true (a0.Kind==1)with LQ|LQ)<;>(rcases Bool.eq_false_or_eq_true (a0.Name==([]:azc))with LR|LR)<;>(rcases Bool.eq_false_or_eq_true (a0.Kind==3)with LS|LS)<;>
   ((try simp only[aB.down,simprocAttr,yD,sj,yN,LP,LQ,LR,LS])
    refine dq (mr a0.Kind 0 5 _ cd) (hK:= ?_);simp only[aB.down,simprocAttr,yD,sj,yN,LP,LQ,LR,LS];exact bP (R yD (R sj (R yN (R LP (R LQ (R LR LS)))))))
 exact cP aj [.bool (((U&&(((a0.Kind==4)||(a0.Kind==5))||(a0.Number==0)))&&((a0.Kind==1)||(a0.Name==([]:azc))))&&((((a0.Kind==1)||(a0.Kind==3))||(a0.Kind==5))||((a0.cl.length:Int)==0)))]
theorem mu (a0 r) (h:u9 a0=some r):aX ah 144 [.str a0] (.bool r) []:=by
 refine bC [0] [.tmp 2] Tryz.func144 alc λbt aj br=>ak ?_;obtain⟨U,aU,h⟩:=an h;refine dp (b6 [(2,.bool (U&&(!(a0==([116,97,117]:azc)))))] (λP bg=>?_) ?_)
 .rcases Bool.eq_false_or_eq_true (U)with mW|mW
  ·(try simp only[aB.down,simprocAttr,mW]);refine dq (LN a0 _ aU) (hK:= ?_);simp only[aB.down,simprocAttr,mW];exact bP mW
  ·(try simp only[aB.down,simprocAttr,mW]);refine dq (LN a0 _ aU) (hK:= ?_);simp only[aB.down,simprocAttr,mW];exact bP mW
 exact cP aj [.bool (U&&(!(a0==([116,97,117]:azc))))]
theorem w2 (a0 J r) (h:ts a0 J=some r):aX ah 38 [.int .i64 a0,.int .i64 J] (.bool r) []:=by
 refine bC [0,1] [.tmp 4] Tryz.func38 ald λbt aj br=>ak ?_;obtain⟨U,aU,h⟩:=an h;refine cS (mr a0 0 (i64.wrap (J-1)) _ aU) _ ?_;exact cP aj [.bool U]
theorem aqc (a0 J r) (h:Qb a0 J=some r):aX ah 227 [ey a0,.slice (J.map bl)] (.bool r) []:=by
 refine bC [0,1] [.tmp 4] Tryz.func227 c227 λbt aj br=>ak ?_;refine ak ?_;refine ay aj λ_ fe dA _=>ak ?_;refine bk dA λ_ dP cG _ _=>ak ?_;refine aC h (λsV h=>?_) λsV h=>?_
 .refine dp (b6 [(4,.bool (((a0.cl.length:Int)==0)||((!(a0.Name==([116,97,117]:azc)))&&(decide ((a0.cl.length:Int)<=2)))))] (λP bg=>?_) ?_)
  ·(rcases Bool.eq_false_or_eq_true ((a0.cl.length:Int)==0)with sj|sj)<;>(rcases Bool.eq_false_or_eq_true (a0.Name==([116,97,117]:azc))with yN|yN)<;>
    (simp only[aB.down,simprocAttr,sj,yN]
     exact bP (R sj yN))
  exact cP cG [.bool (((a0.cl.length:Int)==0)||((!(a0.Name==([116,97,117]:azc)))&&(decide ((a0.cl.length:Int)<=2))))]
 .refine ak ?_;refine aC h (λfb h=>?_) λfb h=>?_
  .exact aO cG [.bool ((a0.cl.length:Int)==1)]
  .refine ak ?_;refine aC h (λe2 h=>?_) λe2 h=>?_
   .obtain⟨U,dV,h⟩:=an h;refine c8 dV _ ?_;exact cP cG [.bool ((a0.cl.length:Int)==U.dU)]
   .exact aL (dP _ (fe _ (inl (aO aj [.bool true]))))
theorem aal (a0 r) (h:GM a0=some r):aX ah 135 [.int .i64 a0] (.bool r) []:=by
 refine bC [0] [.tmp 2] Tryz.func135 alf λbt aj br=>ak ?_;obtain⟨U,aU,h⟩:=an h;refine cS (mr a0 0 63 _ aU) _ ?_;exact cP aj [.bool U]
theorem aqd (a0 J r) (h:Ku a0 J=some r):aX ah 253 [dY a0,.int .i64 J] (.bool r) []:=by
 refine bC [0,1] [.tmp 4] Tryz.func253 alg λbt aj br=>ak ?_;refine ay aj λ_ bD bf af=>ak ?_;refine bk bf λ_ fi bL _ _=>ak ?_;refine aC h (λdM h=>?_) λdM h=>?_
 .obtain⟨U,fC,h⟩:=an h;refine cS (aal a0.Value _ fC) _ ?_;exact cP bL [.bool U]
 .refine ak ?_;refine aC h (λfm h=>?_) λfm h=>?_
  .obtain⟨af,dB,h⟩:=an h;refine cS (mr a0.Value 0 (i64.wrap (J-1)) _ dB) _ ?_;exact cP bL [.bool af]
  .refine ak ?_;refine aC h (λhd h=>?_) λhd h=>?_
   .obtain⟨aI,cJ,h⟩:=an h;refine cS (mr a0.Value 0 8 _ cJ) _ ?_;exact cP bL [.bool aI]
   .refine ak ?_;refine aC h (λh7 h=>?_) λh7 h=>?_
    .exact aO bL [.bool (a0.Value==0)]
    .exact aL (fi _ (bD _ (inl (aO aj [.bool false]))))
theorem aam (a0 r) (h:Kv a0=some r):aX ah 232 [dY a0] (.int .i64 r) []:=by
 refine bC [0] [.tmp 2] Tryz.func232 c232 λbt aj br=>ak ?_;refine ay aj λ_ bD bf _=>ak ?_;refine bk bf λ_ fi bL _ _=>ak ?_;refine aC h (λdM h=>?_) λdM h=>?_
 .exact aO bL [.int .i64 2]
 .refine ak ?_;refine aC h (λe7 h=>?_) λe7 h=>?_
  .exact aO bL [.int .i64 1]
  .exact aL (fi _ (bD _ (inl (aO aj [.int .i64 0]))))
theorem aqe (a0 J a2 r) (h:Kw a0 J a2=some r):aX ah 230 [.slice (a0.map dY),.int .i64 J,.int .i64 a2] (.bool r) []:=by
 refine bC [0,1,2] [.tmp 6] Tryz.func230 alh λbt aj br=>ak ?_;refine ay aj λ_ bD bf af=>?_;obtain⟨U,cc,h⟩:=an h;rcases dH h with⟨da,h⟩|⟨da,h⟩
 .refine eQ (fM da) (mr J 0 29 _ cc) _ ?_;refine il rfl ?_;exact aO bf [.bool false]
 .obtain⟨af,cd,h⟩:=an h;rcases dH h with⟨cm,h⟩|⟨cm,h⟩
  .refine dp (b6 [(0,.slice (a0.map dY)),(1,.int .i64 J),(24,.bool true)] (λP bg=>?_) ?_)
   ·(try simp only[aB.down,simprocAttr,(bN da),(fM cm)]);refine dq (mr J 0 29 _ cc) (hK:= ?_);simp only[aB.down,simprocAttr,(bN da),(fM cm)];refine hz (mr a2 1 60 _ cd) (hK:= ?_);simp only[aB.down,simprocAttr,(bN da),(fM cm)];exact bP (R (bN da) (fM cm))
   refine il rfl ?_;exact aO bf [.bool false]
  .obtain⟨aI,jh,h⟩:=an h;refine dp (b6 [(0,.slice (a0.map dY)),(1,.int .i64 J),(24,.bool (!aI))] (λP bg=>?_) ?_)
   ·(try simp only[aB.down,simprocAttr,(bN da),(bN cm)]);refine dq (mr J 0 29 _ cc) (hK:= ?_);simp only[aB.down,simprocAttr,(bN da),(bN cm)];refine hz (mr a2 1 60 _ cd) (hK:= ?_);simp only[aB.down,simprocAttr,(bN da),(bN cm)];refine hz (mr (a0.length:Int) 1 a2 _ jh) (hK:= ?_);simp only[aB.down,simprocAttr,(bN da),(bN cm)];exact bP (R (bN da) (bN cm))
   refine aC h (λoL h=>?_) λoL h=>?_
   .exact aO bf [.bool false]
   .refine aL (bD _ (inl (ak ?_)));refine ay aj λ_ eT er _=>ak ?_;refine bk er λaqf _ n8 mM _=>?_;show bn ah (.loop ?kJ) _ _;have lb:∀n j6 u_,CX a0 J n j6 u_=some r->cN ah ?kJ aqf (ar [(1,.int .i64 J),(7,.int .i64 j6),(25,.slice (a0.map dY)),(26,.int .i64 (a0.length:Int)),(27,.int .i64 u_)]):=by
     refine c7 λ_ ld j6 u_ h=>c6 n8 λ_ jN kr mn=>ak ?_;refine ay kr λ_ qq _ kV=>aC h (λgr h=>?_) λgr h=>?_
     .refine aL (qq _ (inl (ay kr λ_ A0 D0 _=>bk D0 λ_ nL nm _ _=>?_)));obtain⟨a1,mq,h⟩:=an h;refine c8 mq _ ?_;refine ay nm λ_ AX qu _=>?_;rcases dH h with⟨oM,h⟩|⟨oM,h⟩
      .refine c8 oM _ ?_;refine il rfl ?_;exact aO qu [.bool false]
      .obtain⟨ba,oN,h⟩:=an h;refine eQ oM (aqd a1 J _ oN) _ ?_;refine aC h (λnM h=>?_) λnM h=>?_
       .exact aO qu [.bool false]
       .refine aL (AX _ (inl ?_));obtain⟨aZ,lI,h⟩:=an h;refine ZA (aam a1 _ lI) _ ?_;refine nL _ (A0 _ (inl (dD ?_)));exact jN _ (inr ⟨_,bE rfl,ld (i64.wrap (j6+(i64.wrap (aZ-1)))) (i64.wrap (u_+1)) h⟩)
     .exact cX (kV 0 _ (mn 0 _ (mM _ (eT _ (inl (aO aj [.bool (j6==0)]))))))
    exact dz h λn h=>lb n 1 0 h
theorem aqg (a0 J r) (h:Qd a0 J=some r):aX ah 229 [.slice (a0.map dY),.ref (fz J)] (.bool r) []:=by
 refine bC [0,1] [.tmp 3] Tryz.func229 c229 λbt aj br=>ak ?_;obtain⟨U,aU,h⟩:=an h;refine cS (aqe a0 J.scope 15 _ aU) _ ?_;exact cP aj [.bool (!U)]
theorem aqh (a0 J r) (h:Qf a0 J=some r):aX ah 252 [.slice (a0.map i_),.fn 229 [.ref (fz J)]] (.int .i64 r) []:=by
 refine bC [0,1] [.tmp 4] Tryz.func252 ali λbt aj br=>ak ?_;refine ay aj λ_ bD bf af=>ak ?_;refine bk bf λeM _ bL bT _=>?_;show bn ah (.loop ?eR) _ _;have eZ:∀n cI,GN a0 J n cI=some r->cN ah ?eR eM (ar [(0,.slice (a0.map i_)),(1,.fn 229 [.ref (fz J)]),(7,.int .i64 (a0.length:Int)),(8,.int .i64 cI)]):=by
  refine c7 λ_ eI cI h=>c6 bL λ_ dP cG ba=>ak ?_;refine ay cG λ_ dN _ bq=>aC h (λcm h=>?_) λcm h=>?_
  .refine aL (dN _ (inl (ay cG λ_ cF b8 _=>bk b8 λ_ b2 cM _ _=>ak ?_)));obtain⟨U,dZ,h⟩:=an h;obtain⟨af,dO,h⟩:=an h;refine eQ dZ (aqg U J _ dO) _ ?_;refine aC h (λe2 h=>?_) λe2 h=>?_
   .exact aO cM [.int .i64 cI]
   .refine aL (b2 _ (cF _ (inl (dD ?_))));exact dP _ (inr ⟨_,bE rfl,eI (i64.wrap (cI+1)) h⟩)
  .exact cX (bq 0 _ (ba 0 _ (bT _ (bD _ (inl (aO aj [.int .i64 (-1)]))))))
 exact dz h λn h=>eZ n 0 h
theorem aqi (a0 J r) (h:Kx a0 J=some r):aX ah 228 [.slice (a0.map i_),.fn 229 [.ref (fz J)]] (.bool r) []:=by
 refine bC [0,1] [.tmp 4] Tryz.func228 c228 λbt aj br=>ak ?_;obtain⟨U,aU,h⟩:=an h;refine cS (aqh a0 J _ aU) _ ?_;exact cP aj [.bool (decide (0<=U))]
theorem aqj (a0 J a2 r) (h:GR a0 J a2=some r):aX ah 199 [ey a0,.slice (J.map bl),fz a2] (.int .i64 r) []:=by
 refine bC [0,1,2] [.tmp 6] Tryz.func199 aln λbt aj br=>ak ?_;refine ay aj λ_ bD bf af=>bk bf λaan fe dA _ aI=>?_;obtain⟨U,cZ,h⟩:=an h;refine cS (aqb a0 _ cZ) _ ?_;refine aC h (λdM h=>?_) λdM h=>?_
 .exact aO dA [.int .i64 2]
 .skip;have si:∀GQ,GP a0 J a2 GQ=some r->bn ah Zi aan (ar [(1,.slice (J.map bl)),(3,.aM (ey a0)),(5,.aM (fz a2)),(11,.bool GQ)]):=by
   intro GQ h;refine aC h (λcm h=>?_) λcm h=>?_
   .exact aO dA [.int .i64 3]
   .skip;have HZ:∀GO,Ab a0 J a2 GO=some r->bn ah Zh aan (ar [(1,.slice (J.map bl)),(3,.aM (ey a0)),(5,.aM (fz a2)),(26,.bool GO)]):=by
     intro GO h;refine aC h (λfm h=>?_) λfm h=>?_
     .exact aO dA [.int .i64 4]
     .obtain⟨af,dZ,h⟩:=an h;refine cS (aqc a0 J _ dZ) _ ?_;refine aC h (λhd h=>?_) λhd h=>?_
      .exact aO dA [.int .i64 5]
      .refine n7 (a0.Kind==5) [(3,.aM (ey a0)),(5,.aM (fz a2)),(54,.bool ((a0.Kind==5)&&(!a2.behind)))] ?_;refine aC h (λjM h=>?_) λjM h=>?_
       .exact aO dA [.int .i64 6]
       .refine n7 (a0.Kind==4) [(3,.aM (ey a0)),(5,.aM (fz a2)),(63,.bool ((a0.Kind==4)&&(decide (6<=a2.scope))))] ?_;refine aC h (λgr h=>?_) λgr h=>?_
        .exact aO dA [.int .i64 7]
        .obtain⟨aI,iu,h⟩:=an h;refine dp (b6 [(72,.bool aI)] (λP bg=>?_) ?_)
         ·(try simp only[aB.down,simprocAttr]);refine dq (aqi a0.cl a2 _ iu) rfl rfl (by simp only[aB.down,simprocAttr,yB.down]<;>rfl) rfl (inr (by rfl)) ?_;simp only[aB.down,simprocAttr];exact bP trivial
         refine aC h (λh0 h=>?_) λh0 h=>?_
         .exact aO dA [.int .i64 8]
         .exact aL (fe _ (bD _ (inl (aO aj [.int .i64 0]))))
    rcases dH h with⟨ks,h⟩|⟨ks,h⟩
    .obtain⟨a1,oN,h⟩:=an h;rcases dH h with⟨nM,h⟩|⟨nM,h⟩
     .refine ml (b6 (K:=eS _) [(1,.slice (J.map bl)),(3,.aM (ey a0)),(5,.aM (fz a2)),(26,.bool true)] (λP bg=>?_) ?_)
      ·(try simp only[aB.down,simprocAttr,ks,(fM nM)]);refine hz (mr a0.Number 1 7 _ oN) (hK:= ?_);simp only[aB.down,simprocAttr,ks,(fM nM)];exact bP (R ks (fM nM))
      exact inr ⟨_,bE rfl,HZ true h⟩
     .rcases dH h with⟨hC,h⟩|⟨hC,h⟩
      .obtain⟨ba,wU,h⟩:=an h;refine ml (b6 (K:=eS _) [(1,.slice (J.map bl)),(3,.aM (ey a0)),(5,.aM (fz a2)),(26,.bool (!ba))] (λP bg=>?_) ?_)
       ·(try simp only[aB.down,simprocAttr,ks,(bN nM),hC]);refine hz (mr a0.Number 1 7 _ oN) (hK:= ?_);simp only[aB.down,simprocAttr,ks,(bN nM),hC];refine hz (w2 a0.Number (J.length:Int) _ wU) (hK:= ?_);simp only[aB.down,simprocAttr,ks,(bN nM),hC];exact bP (R ks (R (bN nM) hC))
       exact inr ⟨_,bE rfl,HZ (!ba) h⟩
      .refine ml (b6 (K:=eS _) [(1,.slice (J.map bl)),(3,.aM (ey a0)),(5,.aM (fz a2)),(26,.bool false)] (λP bg=>?_) ?_)
       ·(try simp only[aB.down,simprocAttr,ks,(bN nM),hC]);refine hz (mr a0.Number 1 7 _ oN) (hK:= ?_);simp only[aB.down,simprocAttr,ks,(bN nM),hC];exact bP (R ks (R (bN nM) hC))
       exact inr ⟨_,bE rfl,HZ false h⟩
    .rcases dH h with⟨jC,h⟩|⟨jC,h⟩
     .obtain⟨aZ,hU,h⟩:=an h;refine ml (b6 (K:=eS _) [(1,.slice (J.map bl)),(3,.aM (ey a0)),(5,.aM (fz a2)),(26,.bool (!aZ))] (λP bg=>?_) ?_)
      ·(try simp only[aB.down,simprocAttr,ks,jC]);refine hz (w2 a0.Number (J.length:Int) _ hU) (hK:= ?_);simp only[aB.down,simprocAttr,ks,jC];exact bP (R ks jC)
      exact inr ⟨_,bE rfl,HZ (!aZ) h⟩
     .refine ml (b6 (K:=eS _) [(1,.slice (J.map bl)),(3,.aM (ey a0)),(5,.aM (fz a2)),(26,.bool false)] (λP bg=>?_) ?_)
      .simp only[aB.down,simprocAttr,ks,jC];exact bP (R ks jC)
      exact inr ⟨_,bE rfl,HZ false h⟩
  rcases dH h with⟨pb,h⟩|⟨pb,h⟩
  .rcases dH h with⟨qv,h⟩|⟨qv,h⟩
   .obtain⟨bq,tJ,h⟩:=an h;refine ml (b6 (K:=eS _) [(1,.slice (J.map bl)),(3,.aM (ey a0)),(5,.aM (fz a2)),(11,.bool (!bq))] (λP bg=>?_) ?_)
    ·(try simp only[aB.down,simprocAttr,pb,qv]);refine hz (mu a0.Name _ tJ) (hK:= ?_);simp only[aB.down,simprocAttr,pb,qv];exact bP (R pb qv)
    exact inr ⟨_,bE rfl,si (!bq) h⟩
   .refine ml (b6 (K:=eS _) [(1,.slice (J.map bl)),(3,.aM (ey a0)),(5,.aM (fz a2)),(11,.bool false)] (λP bg=>?_) ?_)
    .simp only[aB.down,simprocAttr,pb,qv];exact bP (R pb qv)
    exact inr ⟨_,bE rfl,si false h⟩
  .refine ml (b6 (K:=eS _) [(1,.slice (J.map bl)),(3,.aM (ey a0)),(5,.aM (fz a2)),(11,.bool false)] (λP bg=>?_) ?_)
   .simp only[aB.down,simprocAttr,pb];exact bP pb
   exact inr ⟨_,bE rfl,si false h⟩
theorem aqk (a0 J r) (h:GS a0 J=some r):aX ah 166 [.slice (a0.map bl),bl J] (.tuple [.int .i64 r.1,.int .i64 r.2]) []:=by
 refine bC [0,1] [.tmp 4,.tmp 5] Tryz.func166 alo λbt aj br=>ak ?_;refine ay aj λ_ bD bf af=>?_;obtain⟨U,cc,h⟩:=an h;rcases dH h with⟨da,h⟩|⟨da,h⟩
 .refine mo (fM da) (mr (J.Body.length:Int) 1 20 _ cc) _ ?_;refine il rfl ?_;exact aO bf [.int .i64 0,.int .i64 1]
 .obtain⟨af,cd,h⟩:=an h;refine ju rfl (iP [(0,.slice (a0.map bl)),(3,.aM (bl J)),(22,.bool (af !=(J.Body.length:Int)))] (λP bg=>?_) ?_)
  ·(try simp only[dh.down,simprocAttr,(bN da)]);refine h4 (mr (J.Body.length:Int) 1 20 _ cc) (hK:= ?_);simp only[dh.down,simprocAttr,(bN da)];refine lU (aaj J 0 _ cd) (hK:= ?_);simp only[dh.down,simprocAttr,(bN da)];refine⟨hY (by kernel_rfl),?_⟩;exact bP (bN da)
  refine aC h (λcm h=>?_) λcm h=>?_
  .exact aO bf [.int .i64 0,.int .i64 1]
  .refine aL (bD _ (inl ?_));obtain⟨aI,kD,h⟩:=an h;refine cS (SR J _ kD) _ ?_;refine ay aj λ_ hB l4 _=>ak ?_;refine bk l4 λHG _ er hd _=>?_;show bn ah (.loop ?kJ) _ _;have lb:∀n qW,Ac a0 J aI n qW=some r->cN ah ?kJ HG (ar [(0,.slice (a0.map bl)),(6,.ae 2 (aI.map fz)),(26,.slice (J.Body.map ey)),(27,.int .i64 (J.Body.length:Int)),(28,.int .i64 qW)]):=by
    refine c7 λ_ ld qW h=>c6 er λ_ fJ gK gB=>ak ?_;refine ay gK λ_ jN _ mn=>aC h (λh7 h=>?_) λh7 h=>?_
    .refine aL (jN _ (inl (ay gK λ_ qq yC _=>bk yC λ_ LB RZ _ _=>?_)));obtain⟨a1,fE,h⟩:=an h;refine c8 fE _ ?_;obtain⟨ba,mq,h⟩:=an h;obtain⟨aZ,iv,h⟩:=an h;refine mo (R mq (cb mq)) (aqj a1 a0 ba _ iv) _ ?_;refine ak ?_;refine aC h (λoM h=>?_) λoM h=>?_
     .exact aO RZ [.int .i64 qW,.int .i64 aZ]
     .refine aL (LB _ (qq _ (inl (dD ?_))));exact fJ _ (inr ⟨_,bE rfl,ld (i64.wrap (qW+1)) h⟩)
    .exact cX (mn 0 _ (gB 0 _ (hd _ (hB _ (inl (aO aj [.int .i64 0,.int .i64 0]))))))
   exact dz h λn h=>lb n 0 h
theorem aql (a0 r) (h:Kz a0=some r):aX ah 125 [.slice (a0.map bl)] (.bool r) []:=by
 refine bC [0] [.tmp 2] Tryz.func125 alp λbt aj br=>ak ?_;refine ay aj λ_ bD bf af=>?_;obtain⟨U,cc,h⟩:=an h;rcases dH h with⟨da,h⟩|⟨da,h⟩
 .refine eQ (fM da) (mr (a0.length:Int) 1 4 _ cc) _ ?_;refine il rfl ?_;exact aO bf [.bool false]
 .obtain⟨af,cd,h⟩:=an h;refine dp (b6 [(0,.slice (a0.map bl)),(15,.bool (!af))] (λP bg=>?_) ?_)
  ·(try simp only[aB.down,simprocAttr,(bN da)]);refine dq (mr (a0.length:Int) 1 4 _ cc) (hK:= ?_);simp only[aB.down,simprocAttr,(bN da)];refine hz (ap3 a0 _ cd) (hK:= ?_);simp only[aB.down,simprocAttr,(bN da)];exact bP (bN da)
  refine aC h (λcm h=>?_) λcm h=>?_
  .exact aO bf [.bool false]
  .refine aL (bD _ (inl (ay aj λ_ b2 cM _=>ak ?_)));refine bk cM λAB _ l4 fb _=>?_;show bn ah (.loop ?hc) _ _;have hf:∀n r1,CY a0 n r1=some r->cN ah ?hc AB (ar [(0,.slice (a0.map bl)),(16,.slice (a0.map bl)),(17,.int .i64 (a0.length:Int)),(18,.int .i64 r1)]):=by
    refine c7 λ_ gU r1 h=>c6 l4 λ_ fG fu lY=>ak ?_;refine ay fu λ_ fJ _ gB=>aC h (λmM h=>?_) λmM h=>?_
    .refine aL (fJ _ (inl (ay fu λ_ jN kr _=>bk kr λ_ pa ri _ _=>?_)));obtain⟨aI,fY,h⟩:=an h;refine c8 fY _ ?_;refine ay ri λ_ A0 D0 _=>?_;obtain⟨a1,iu,h⟩:=an h;rcases dH h with⟨h0,h⟩|⟨h0,h⟩
     .refine mo (fM h0) (LN aI.Name _ iu) _ ?_;refine il rfl ?_;exact aO D0 [.bool false]
     .obtain⟨ba,tG,h⟩:=an h;obtain⟨aZ,tD,h⟩:=an h;refine ju rfl (iP [(0,.slice (a0.map bl)),(4,.aM (bl aI)),(16,.slice (a0.map bl)),(17,.int .i64 (a0.length:Int)),(18,.int .i64 r1),(35,.bool (decide (0<=aZ)))] (λP bg=>?_) ?_)
      ·(try simp only[dh.down,simprocAttr,(bN h0),tG, @jv _ bl 3 (λ_=>rfl)]);refine h4 (LN aI.Name _ iu) (hK:= ?_);simp only[dh.down,simprocAttr,(bN h0),tG, @jv _ bl 3 (λ_=>rfl)];refine lU (ap7 ba aI.Name _ tD) (hK:= ?_);simp only[dh.down,simprocAttr,(bN h0),tG, @jv _ bl 3 (λ_=>rfl)];refine⟨hY (by kernel_rfl),?_⟩;exact bP (R (bN h0) (R tG (@jv _ bl 3 λ_=>rfl)))
      refine aC h (λks h=>?_) λks h=>?_
      .exact aO D0 [.bool false]
      .refine aL (A0 _ (inl ?_));obtain⟨bq,HT,h⟩:=an h;refine cS (aqk a0 aI _ HT) _ ?_;refine ak ?_;refine aC h (λjC h=>?_) λjC h=>?_
       .exact aO ri [.bool false]
       .refine aL (pa _ (jN _ (inl (dD ?_))));exact fG _ (inr ⟨_,bE rfl,gU (i64.wrap (r1+1)) h⟩)
    .exact cX (gB 0 _ (lY 0 _ (fb _ (b2 _ (inl (aO aj [.bool true]))))))
   exact dz h λn h=>hf n 0 h
theorem aqm (a0 r) (h:Qh a0=some r):aX ah 134 [.int .i64 a0] (.bool r) []:=by
 refine bC [0] [.tmp 2] Tryz.func134 alq λbt aj br=>ak ?_;obtain⟨U,aU,h⟩:=an h;refine cS (aal a0 _ aU) _ ?_;exact cP aj [.bool (!U)]
theorem aqn (a0 r) (h:Qj a0=some r):aX ah 171 [.slice (a0.map aT),.fn 134 []] (.int .i64 r) []:=by
 refine bC [0,1] [.tmp 4] Tryz.func171 c171 λbt aj br=>ak ?_;refine ay aj λ_ bD bf af=>ak ?_;refine bk bf λeM _ bL bT _=>?_;show bn ah (.loop ?eR) _ _;have eZ:∀n cI,GU a0 n cI=some r->cN ah ?eR eM (ar [(0,.slice (a0.map aT)),(1,.fn 134 []),(7,.int .i64 (a0.length:Int)),(8,.int .i64 cI)]):=by
  refine c7 λ_ eI cI h=>c6 bL λ_ dP cG ba=>ak ?_;refine ay cG λ_ dN _ bq=>aC h (λcm h=>?_) λcm h=>?_
  .refine aL (dN _ (inl (ay cG λ_ cF b8 _=>bk b8 λ_ b2 cM _ _=>ak ?_)));obtain⟨U,dZ,h⟩:=an h;obtain⟨af,dO,h⟩:=an h;refine eQ dZ (aqm U _ dO) _ ?_;refine aC h (λe2 h=>?_) λe2 h=>?_
   .exact aO cM [.int .i64 cI]
   .refine aL (b2 _ (cF _ (inl (dD ?_))));exact dP _ (inr ⟨_,bE rfl,eI (i64.wrap (cI+1)) h⟩)
  .exact cX (bq 0 _ (ba 0 _ (bT _ (bD _ (inl (aO aj [.int .i64 (-1)]))))))
 exact dz h λn h=>eZ n 0 h
theorem aqo (a0 r) (h:Qk a0=some r):aX ah 133 [.slice (a0.map aT),.fn 134 []] (.bool r) []:=by
 refine bC [0,1] [.tmp 4] Tryz.func133 alr λbt aj br=>ak ?_;obtain⟨U,aU,h⟩:=an h;refine cS (aqn a0 _ aU) _ ?_;exact cP aj [.bool (decide (0<=U))]
theorem SU (a0 r) (h:CZ a0=some r):aX ah 92 [.slice (a0.map aT)] (.bool r) []:=by
 refine bC [0] [.tmp 2] Tryz.func92 als λbt aj br=>ak ?_;obtain⟨U,aU,h⟩:=an h;refine cS (aqo a0 _ aU) _ ?_;exact cP aj [.bool (!U)]
theorem aqp (a0 J r) (h:KA a0 J=some r):aX ah 128 [.slice (a0.map bl),dj J] (.bool r) []:=by
 refine bC [0,1] [.tmp 4] Tryz.func128 alu λbt aj br=>ak ?_;obtain⟨U,aU,h⟩:=an h;rcases dH h with⟨bT,h⟩|⟨bT,h⟩
 .obtain⟨af,cZ,h⟩:=an h;rcases dH h with⟨dM,h⟩|⟨dM,h⟩
  .obtain⟨aI,cd,h⟩:=an h;refine ju rfl (iP [(4,.bool aI)] (λP bg=>?_) ?_)
   ·(try simp only[dh.down,simprocAttr,bT,cZ,dM]);refine h4 (w2 J.cA (a0.length:Int) _ aU) (hK:= ?_);simp only[dh.down,simprocAttr,bT,cZ,dM];refine lU (SU J.bK _ cd) (hK:= ?_);simp only[dh.down,simprocAttr,bT,cZ,dM];refine⟨hY (by kernel_rfl),?_⟩;exact bP (R bT (R cZ dM))
   exact cP aj [.bool aI]
  .refine mo (R bT (R cZ dM)) (w2 J.cA (a0.length:Int) _ aU) _ ?_;exact cP aj [.bool false]
 .refine mo bT (w2 J.cA (a0.length:Int) _ aU) _ ?_;exact cP aj [.bool false]
theorem aqq (a0 J r) (h:Ql a0 J=some r):aX ah 127 [dj a0,.ref (e1 J)] (.bool r) []:=by
 refine bC [0,1] [.tmp 3] Tryz.func127 c127 λbt aj br=>ak ?_;obtain⟨U,aU,h⟩:=an h;refine cS (aqp J.cw a0 _ aU) _ ?_;exact cP aj [.bool (!U)]
theorem aqr (a0 J r) (h:Qn a0 J=some r):aX ah 167 [.slice (a0.map dj),.fn 127 [.ref (e1 J)]] (.int .i64 r) []:=by
 refine bC [0,1] [.tmp 4] Tryz.func167 c167 λbt aj br=>ak ?_;refine ay aj λ_ bD bf af=>ak ?_;refine bk bf λeM _ bL bT _=>?_;show bn ah (.loop ?eR) _ _;have eZ:∀n cI,GV a0 J n cI=some r->cN ah ?eR eM (ar [(0,.slice (a0.map dj)),(1,.fn 127 [.ref (e1 J)]),(7,.int .i64 (a0.length:Int)),(8,.int .i64 cI)]):=by
  refine c7 λ_ eI cI h=>c6 bL λ_ dP cG ba=>ak ?_;refine ay cG λ_ dN _ bq=>aC h (λcm h=>?_) λcm h=>?_
  .refine aL (dN _ (inl (ay cG λ_ cF b8 _=>bk b8 λ_ b2 cM _ _=>ak ?_)));obtain⟨U,dZ,h⟩:=an h;obtain⟨af,dO,h⟩:=an h;refine eQ dZ (aqq U J _ dO) _ ?_;refine aC h (λe2 h=>?_) λe2 h=>?_
   .exact aO cM [.int .i64 cI]
   .refine aL (b2 _ (cF _ (inl (dD ?_))));exact dP _ (inr ⟨_,bE rfl,eI (i64.wrap (cI+1)) h⟩)
  .exact cX (bq 0 _ (ba 0 _ (bT _ (bD _ (inl (aO aj [.int .i64 (-1)]))))))
 exact dz h λn h=>eZ n 0 h
theorem aqs (a0 J r) (h:KB a0 J=some r):aX ah 126 [.slice (a0.map dj),.fn 127 [.ref (e1 J)]] (.bool r) []:=by
 refine bC [0,1] [.tmp 4] Tryz.func126 alv λbt aj br=>ak ?_;obtain⟨U,aU,h⟩:=an h;refine cS (aqr a0 J _ aU) _ ?_;exact cP aj [.bool (decide (0<=U))]
theorem aao (a0 r) (h:KC a0=some r):aX ah 254 [.str a0] (.bool r) []:=by
 refine bC [0] [.tmp 2] Tryz.func254 alw λbt aj br=>ak ?_;exact aO aj [.bool false]
theorem aqt (a0 J r) (h:KD a0 J=some r):aX ah 231 [.str a0,.str J] (.int .i64 r) []:=by
 refine bC [0,1] [.tmp 4] Tryz.func231 alx λbt aj br=>ak ?_;obtain⟨U,aU,h⟩:=an h;refine cS (aao a0 _ aU) _ ?_;obtain⟨af,cZ,h⟩:=an h;refine cS (aao J _ cZ) _ ?_;refine ay aj λ_ cT dn _=>ak ?_;refine aC h (λcm h=>?_) λcm h=>?_
 .refine ay dn λ_ cF b8 _=>ak ?_;refine aC h (λoL h=>?_) λoL h=>?_
  .exact aO b8 [.int .i64 0]
  .exact aL (cF _ (inl (aO dn [.int .i64 (-1)])))
 .refine aL (cT _ (inl (ay aj λ_ eT er _=>ak ?_)));refine aC h (λmM h=>?_) λmM h=>?_
  .exact aO er [.int .i64 1]
  .refine aL (eT _ (inl (ay aj λ_ pa ri _=>ak ?_)));refine aC h (λgr h=>?_) λgr h=>?_
   .exact aO ri [.int .i64 (-1)]
   .refine aL (pa _ (inl (ay aj λ_ nL nm _=>ak ?_)));refine aC h (λh0 h=>?_) λh0 h=>?_
    .exact aO nm [.int .i64 1]
    .exact aL (nL _ (inl (aO aj [.int .i64 0])))
theorem aqu (a0 J r) (h:KF a0 J=some r):aX ah 200 [.slice (a0.map aN),.slice (J.map aN)] (.int .i64 r) []:=by
 refine bC [0,1] [.tmp 4] Tryz.func200 aly λbt aj br=>ak ?_;refine ay aj λ_ bD bf af=>ak ?_;refine bk bf λeM _ bL bT _=>?_;show bn ah (.loop ?eR) _ _;have eZ:∀n r2,KE a0 J n r2=some r->cN ah ?eR eM (ar [(0,.slice (a0.map aN)),(1,.slice (J.map aN)),(9,.slice (a0.map aN)),(10,.int .i64 (a0.length:Int)),(11,.int .i64 r2)]):=by
  refine c7 λ_ eI r2 h=>c6 bL λ_ dP cG ba=>ak ?_;refine ay cG λ_ dN _ bq=>aC h (λcm h=>?_) λcm h=>?_
  .refine aL (dN _ (inl (ay cG λ_ cF b8 _=>bk b8 λ_ b2 cM _ _=>?_)));obtain⟨U,dB,h⟩:=an h;refine c8 dB _ ?_;refine ay cM λ_ fG fu _=>ak ?_;refine aC h (λe2 h=>?_) λe2 h=>?_
   .exact aO fu [.int .i64 1]
   .refine aL (fG _ (inl ?_));obtain⟨af,eL,h⟩:=an h;refine c8 eL _ ?_;obtain⟨aI,fY,h⟩:=an h;refine cS (aqt U af _ fY) _ ?_;refine ak ?_;refine aC h (λAA h=>?_) λAA h=>?_
    .exact aO cM [.int .i64 aI]
    .refine aL (b2 _ (cF _ (inl (dD ?_))));exact dP _ (inr ⟨_,bE rfl,eI (i64.wrap (r2+1)) h⟩)
  .refine cX (bq 0 _ (ba 0 _ (bT _ (bD _ (inl (ay aj λ_ AX qu _=>ak ?_))))));refine aC h (λoM h=>?_) λoM h=>?_
   .exact aO qu [.int .i64 (-1)]
   .exact aL (AX _ (inl (aO aj [.int .i64 0])))
 exact dz h λn h=>eZ n 0 h
theorem aqv (a0 J r) (h:KG a0 J=some r):aX ah 168 [bI a0,bI J] (.int .i64 r) []:=by
 refine bC [0,1] [.tmp 4] Tryz.func168 c168 λbt aj br=>ak ?_;obtain⟨U,aU,h⟩:=an h;refine dp (b6 [(4,.int .i64 U)] (λP bg=>?_) ?_)
 ·(try simp only[aB.down,simprocAttr,(show∀s,d_ ah s 25 2 [(0,.str a0.Left),(1,.str a0.cH)]=some (.ae 1 [.str a0.Left,.str a0.cH],s)from λs=>by kernel_rfl),(show∀s,d_ ah s 25 2 [(0,.str J.Left),(1,.str J.cH)]=some (.ae 1 [.str J.Left,.str J.cH],s)from λs=>by kernel_rfl)]);refine dq (aqu [a0.Left,a0.cH] [J.Left,J.cH] _ aU) rfl rfl (by simp only[aB.down,simprocAttr,(show∀s,d_ ah s 25 2 [(0,.str a0.Left),(1,.str a0.cH)]=some (.ae 1 [.str a0.Left,.str a0.cH],s)from λs=>by kernel_rfl),(show∀s,d_ ah s 25 2 [(0,.str J.Left),(1,.str J.cH)]=some (.ae 1 [.str J.Left,.str J.cH],s)from λs=>by kernel_rfl),Ax.down,I.shares]<;>rfl) rfl (inr (by rfl)) ?_;simp only[aB.down,simprocAttr,(show∀s,d_ ah s 25 2 [(0,.str a0.Left),(1,.str a0.cH)]=some (.ae 1 [.str a0.Left,.str a0.cH],s)from λs=>by kernel_rfl),(show∀s,d_ ah s 25 2 [(0,.str J.Left),(1,.str J.cH)]=some (.ae 1 [.str J.Left,.str J.cH],s)from λs=>by kernel_rfl)];exact bP (R (show∀s,d_ ah s 25 2 [(0,.str a0.Left),(1,.str a0.cH)]=some (.ae 1 [.str a0.Left,.str a0.cH],s)from λs=>by kernel_rfl) (show∀s,d_ ah s 25 2 [(0,.str J.Left),(1,.str J.cH)]=some (.ae 1 [.str J.Left,.str J.cH],s)from λs=>by kernel_rfl))
 exact cP aj [.int .i64 U]
theorem aqw (a0 J r) (h:Qo a0 J=some r):aX ah 170 [bI a0,.ref (bI J)] (.bool r) []:=by
 refine bC [0,1] [.tmp 3] Tryz.func170 alz λbt aj br=>ak ?_;refine n7 (a0.Left==J.Result) [(3,.bool ((a0.Left==J.Result)||(a0.cH==J.Result)))] ?_;exact cP aj [.bool ((a0.Left==J.Result)||(a0.cH==J.Result))]
theorem aqx (a0 J r) (h:Qq a0 J=some r):aX ah 150 [.slice (a0.map bI),.fn 170 [.ref (bI J)]] (.int .i64 r) []:=by
 refine bC [0,1] [.tmp 4] Tryz.func150 alA λbt aj br=>ak ?_;refine ay aj λ_ bD bf af=>ak ?_;refine bk bf λeM _ bL bT _=>?_;show bn ah (.loop ?eR) _ _;have eZ:∀n cI,GW a0 J n cI=some r->cN ah ?eR eM (ar [(0,.slice (a0.map bI)),(1,.fn 170 [.ref (bI J)]),(7,.int .i64 (a0.length:Int)),(8,.int .i64 cI)]):=by
  refine c7 λ_ eI cI h=>c6 bL λ_ dP cG ba=>ak ?_;refine ay cG λ_ dN _ bq=>aC h (λcm h=>?_) λcm h=>?_
  .refine aL (dN _ (inl (ay cG λ_ cF b8 _=>bk b8 λ_ b2 cM _ _=>ak ?_)));obtain⟨U,dZ,h⟩:=an h;obtain⟨af,dO,h⟩:=an h;refine eQ dZ (aqw U J _ dO) _ ?_;refine aC h (λe2 h=>?_) λe2 h=>?_
   .exact aO cM [.int .i64 cI]
   .refine aL (b2 _ (cF _ (inl (dD ?_))));exact dP _ (inr ⟨_,bE rfl,eI (i64.wrap (cI+1)) h⟩)
  .exact cX (bq 0 _ (ba 0 _ (bT _ (bD _ (inl (aO aj [.int .i64 (-1)]))))))
 exact dz h λn h=>eZ n 0 h
theorem aap (a0 J r) (h:GX a0 J=some r):aX ah 169 [.slice (a0.map bI),.fn 170 [.ref (bI J)]] (.bool r) []:=by
 refine bC [0,1] [.tmp 4] Tryz.func169 alB λbt aj br=>ak ?_;obtain⟨U,aU,h⟩:=an h;refine cS (aqx a0 J _ aU) _ ?_;exact cP aj [.bool (decide (0<=U))]
theorem aqy (a0 r) (h:KH a0=some r):aX ah 129 [.slice (a0.map bI)] (.bool r) []:=by
 refine bC [0] [.tmp 2] Tryz.func129 alC λbt aj br=>ak ?_;refine ay aj λ_ bD bf _=>ak ?_;refine bk bf λeM _ bL bT _=>?_;show bn ah (.loop ?eR) _ _;have eZ:∀n fU,C0 a0 n fU=some r->cN ah ?eR eM (ar [(0,.slice (a0.map bI)),(5,.slice (a0.map bI)),(6,.int .i64 (a0.length:Int)),(7,.int .i64 fU)]):=by
  refine c7 λ_ eI fU h=>c6 bL λ_ dP cG ba=>ak ?_;refine ay cG λ_ dN _ bq=>aC h (λcm h=>?_) λcm h=>?_
  .refine aL (dN _ (inl (ay cG λ_ cF b8 dm=>bk b8 λ_ b2 cM _ cp=>?_)));obtain⟨U,dB,h⟩:=an h;refine c8 dB _ ?_;refine ay cM λ_ fG fu _=>?_;obtain⟨ba,fE,h⟩:=an h;rcases dH h with⟨gp,h⟩|⟨gp,h⟩
   .refine mo (fM gp) (mu U.Left _ fE) _ ?_;refine il rfl ?_;exact aO fu [.bool false]
   .obtain⟨aZ,iv,h⟩:=an h;rcases dH h with⟨jL,h⟩|⟨jL,h⟩
    .refine ju rfl (iP [(0,.slice (a0.map bI)),(4,.aM (bI U)),(5,.slice (a0.map bI)),(6,.int .i64 (a0.length:Int)),(7,.int .i64 fU),(48,.bool true)] (λP bg=>?_) ?_)
     ·(try simp only[dh.down,simprocAttr,(bN gp),(fM jL)]);refine h4 (mu U.Left _ fE) (hK:= ?_);simp only[dh.down,simprocAttr,(bN gp),(fM jL)];refine lU (mu U.cH _ iv) (hK:= ?_);simp only[dh.down,simprocAttr,(bN gp),(fM jL)];refine⟨hY (by kernel_rfl),?_⟩;exact bP (R (bN gp) (fM jL))
     refine il rfl ?_;exact aO fu [.bool false]
    .obtain⟨bq,ss,h⟩:=an h;rcases dH h with⟨iG,h⟩|⟨iG,h⟩
     .refine ju rfl (iP [(0,.slice (a0.map bI)),(4,.aM (bI U)),(5,.slice (a0.map bI)),(6,.int .i64 (a0.length:Int)),(7,.int .i64 fU),(48,.bool true)] (λP bg=>?_) ?_)
      ·(try simp only[dh.down,simprocAttr,(bN gp),(bN jL),(fM iG)]);refine h4 (mu U.Left _ fE) (hK:= ?_);simp only[dh.down,simprocAttr,(bN gp),(bN jL),(fM iG)];refine lU (mu U.cH _ iv) (hK:= ?_);simp only[dh.down,simprocAttr,(bN gp),(bN jL),(fM iG)];refine lU (mu U.Result _ ss) (hK:= ?_);simp only[dh.down,simprocAttr,(bN gp),(bN jL),(fM iG)];refine⟨hY (by kernel_rfl),?_⟩;exact bP (R (bN gp) (R (bN jL) (fM iG)))
      refine il rfl ?_;exact aO fu [.bool false]
     .rcases dH h with⟨hC,h⟩|⟨hC,h⟩
      .refine ju rfl (iP [(0,.slice (a0.map bI)),(4,.aM (bI U)),(5,.slice (a0.map bI)),(6,.int .i64 (a0.length:Int)),(7,.int .i64 fU),(48,.bool true)] (λP bg=>?_) ?_)
       ·(try simp only[dh.down,simprocAttr,(bN gp),(bN jL),(bN iG),hC]);refine h4 (mu U.Left _ fE) (hK:= ?_);simp only[dh.down,simprocAttr,(bN gp),(bN jL),(bN iG),hC];refine lU (mu U.cH _ iv) (hK:= ?_);simp only[dh.down,simprocAttr,(bN gp),(bN jL),(bN iG),hC];refine lU (mu U.Result _ ss) (hK:= ?_);simp only[dh.down,simprocAttr,(bN gp),(bN jL),(bN iG),hC];refine⟨hY (by kernel_rfl),?_⟩;exact bP (R (bN gp) (R (bN jL) (R (bN iG) hC)))
       refine il rfl ?_;exact aO fu [.bool false]
      .rcases dH h with⟨jC,h⟩|⟨jC,h⟩
       .obtain⟨cY,hU,h⟩:=an h;obtain⟨dm,AO,h⟩:=an h;refine ju rfl (iP [(0,.slice (a0.map bI)),(4,.aM (bI U)),(5,.slice (a0.map bI)),(6,.int .i64 (a0.length:Int)),(7,.int .i64 fU),(48,.bool (decide (0<=dm)))] (λP bg=>?_) ?_)
        ·(try simp only[dh.down,simprocAttr,(bN gp),(bN jL),(bN iG),hC,jC,hU]);refine h4 (mu U.Left _ fE) (hK:= ?_);simp only[dh.down,simprocAttr,(bN gp),(bN jL),(bN iG),hC,jC,hU];refine lU (mu U.cH _ iv) (hK:= ?_);simp only[dh.down,simprocAttr,(bN gp),(bN jL),(bN iG),hC,jC,hU];refine lU (mu U.Result _ ss) (hK:= ?_);simp only[dh.down,simprocAttr,(bN gp),(bN jL),(bN iG),hC,jC,hU];refine lU (aqv cY U _ AO) (hK:= ?_);simp only[dh.down,simprocAttr,(bN gp),(bN jL),(bN iG),hC,jC,hU];refine⟨hY (by kernel_rfl),?_⟩;exact bP (R (bN gp) (R (bN jL) (R (bN iG) (R hC (R jC hU)))))
        refine aC h (λpb h=>?_) λpb h=>?_
        .exact aO fu [.bool false]
        .refine aL (fG _ (inl ?_));obtain⟨cp,AP,h⟩:=an h;refine dp (b6 [(0,.slice (a0.map bI)),(5,.slice (a0.map bI)),(6,.int .i64 (a0.length:Int)),(7,.int .i64 fU),(51,.bool cp)] (λP bg=>?_) ?_)
         ·(try simp only[aB.down,simprocAttr]);refine dq (aap a0 U _ AP) rfl rfl (by simp only[aB.down,simprocAttr,yB.down]<;>rfl) rfl (inr (by rfl)) ?_;simp only[aB.down,simprocAttr];exact bP trivial
         refine aC h (λHU h=>?_) λHU h=>?_
         .exact aO cM [.bool false]
         .refine aL (b2 _ (cF _ (inl (dD ?_))));exact dP _ (inr ⟨_,bE rfl,eI (i64.wrap (fU+1)) h⟩)
       .refine ju rfl (iP [(0,.slice (a0.map bI)),(4,.aM (bI U)),(5,.slice (a0.map bI)),(6,.int .i64 (a0.length:Int)),(7,.int .i64 fU),(48,.bool false)] (λP bg=>?_) ?_)
        ·(try simp only[dh.down,simprocAttr,(bN gp),(bN jL),(bN iG),hC,jC]);refine h4 (mu U.Left _ fE) (hK:= ?_);simp only[dh.down,simprocAttr,(bN gp),(bN jL),(bN iG),hC,jC];refine lU (mu U.cH _ iv) (hK:= ?_);simp only[dh.down,simprocAttr,(bN gp),(bN jL),(bN iG),hC,jC];refine lU (mu U.Result _ ss) (hK:= ?_);simp only[dh.down,simprocAttr,(bN gp),(bN jL),(bN iG),hC,jC];refine⟨hY (by kernel_rfl),?_⟩;exact bP (R (bN gp) (R (bN jL) (R (bN iG) (R hC jC))))
        refine ot rfl ?_;refine aL (fG _ (inl ?_));obtain⟨fc,SV,h⟩:=an h;refine dp (b6 [(0,.slice (a0.map bI)),(5,.slice (a0.map bI)),(6,.int .i64 (a0.length:Int)),(7,.int .i64 fU),(51,.bool fc)] (λP bg=>?_) ?_)
        ·(try simp only[aB.down,simprocAttr]);refine dq (aap a0 U _ SV) rfl rfl (by simp only[aB.down,simprocAttr,yB.down]<;>rfl) rfl (inr (by rfl)) ?_;simp only[aB.down,simprocAttr];exact bP trivial
        refine aC h (λwS h=>?_) λwS h=>?_
        .exact aO cM [.bool false]
        .refine aL (b2 _ (cF _ (inl (dD ?_))));exact dP _ (inr ⟨_,bE rfl,eI (i64.wrap (fU+1)) h⟩)
  .exact cX (bq 0 _ (ba 0 _ (bT _ (bD _ (inl (aO aj [.bool (decide ((a0.length:Int)<=6))]))))))
 exact dz h λn h=>eZ n 0 h
theorem aaq (a0 r) (h:GY a0=some r):aX ah 130 [.slice (a0.map aN)] (.bool r) []:=by
 refine bC [0] [.tmp 2] Tryz.func130 c130 λbt aj br=>ak ?_;refine ay aj λ_ bD bf af=>ak ?_;refine bk bf λeM _ bL bT _=>?_;show bn ah (.loop ?eR) _ _;have eZ:∀n fU,C1 a0 n fU=some r->cN ah ?eR eM (ar [(0,.slice (a0.map aN)),(5,.slice (a0.map aN)),(6,.int .i64 (a0.length:Int)),(7,.int .i64 fU)]):=by
  refine c7 λ_ eI fU h=>c6 bL λ_ dP cG ba=>ak ?_;refine ay cG λ_ dN _ bq=>aC h (λcm h=>?_) λcm h=>?_
  .refine aL (dN _ (inl (ay cG λ_ cF b8 _=>bk b8 λ_ b2 cM _ _=>?_)));obtain⟨U,dB,h⟩:=an h;refine c8 dB _ ?_;obtain⟨af,dO,h⟩:=an h;rcases dH h with⟨e2,h⟩|⟨e2,h⟩
   .refine eQ (fM e2) (mu U _ dO) _ ?_;refine il rfl ?_;exact aO cM [.bool false]
   .rcases dH h with⟨jM,h⟩|⟨jM,h⟩
    .obtain⟨aI,eL,h⟩:=an h;refine eQ (R (bN e2) (R jM eL)) (mu U _ dO) _ ?_;refine aC h (λfX h=>?_) λfX h=>?_
     .exact aO cM [.bool false]
     .refine aL (b2 _ (cF _ (inl (dD ?_))));exact dP _ (inr ⟨_,bE rfl,eI (i64.wrap (fU+1)) h⟩)
    .refine eQ (R (bN e2) jM) (mu U _ dO) _ ?_;refine ot rfl ?_;refine aL (b2 _ (cF _ (inl (dD ?_))));exact dP _ (inr ⟨_,bE rfl,eI (i64.wrap (fU+1)) h⟩)
  .exact cX (bq 0 _ (ba 0 _ (bT _ (bD _ (inl (aO aj [.bool (decide ((a0.length:Int)<=12))]))))))
 exact dz h λn h=>eZ n 0 h
theorem aqz (a0 r) (h:KI a0=some r):aX ah 89 [e1 a0] (.int .i64 r) []:=by
 refine bC [0] [.tmp 2] Tryz.func89 alD λbt aj br=>ak ?_;refine ay aj λ_ bD bf af=>bk bf λ_ fe dA _ aI=>?_;obtain⟨U,cZ,h⟩:=an h;refine cS (aql a0.cw _ cZ) _ ?_;refine aC h (λdM h=>?_) λdM h=>?_
 .exact aO dA [.int .i64 1]
 .obtain⟨af,jt,h⟩:=an h;rcases dH h with⟨fm,h⟩|⟨fm,h⟩
  .refine eQ (fM fm) (mr (a0.ch.length:Int) 1 3 _ jt) _ ?_;refine il rfl ?_;exact aO dA [.int .i64 2]
  .obtain⟨aI,dB,h⟩:=an h;refine dp (b6 [(1,.aM (e1 a0)),(8,.bool aI)] (λP bg=>?_) ?_)
   ·(try simp only[aB.down,simprocAttr,(bN fm)]);refine dq (mr (a0.ch.length:Int) 1 3 _ jt) (hK:= ?_);simp only[aB.down,simprocAttr,(bN fm)];refine hz (aqs a0.ch a0 _ dB) rfl rfl (by simp only[aB.down,simprocAttr,(bN fm),RT.down]<;>rfl) rfl (inr (by rfl)) ?_;simp only[aB.down,simprocAttr,(bN fm)];exact bP (bN fm)
   refine aC h (λfh h=>?_) λfh h=>?_
   .exact aO dA [.int .i64 2]
   .obtain⟨a1,cJ,h⟩:=an h;refine cS (aqy a0.b_ _ cJ) _ ?_;refine aC h (λjM h=>?_) λjM h=>?_
    .exact aO dA [.int .i64 3]
    .obtain⟨ba,fY,h⟩:=an h;refine cS (aaq a0.cD _ fY) _ ?_;refine aC h (λvw h=>?_) λvw h=>?_
     .exact aO dA [.int .i64 4]
     .obtain⟨aZ,mq,h⟩:=an h;refine cS (aaq a0.cB _ mq) _ ?_;refine aC h (λpU h=>?_) λpU h=>?_
      .exact aO dA [.int .i64 5]
      .exact aL (fe _ (bD _ (inl (aO aj [.int .i64 0]))))
theorem SW (a0 r) (h:KJ a0=some r):aX ah 64 [e1 a0] (.bool r) []:=by
 refine bC [0] [.tmp 2] Tryz.func64 alE λbt aj br=>ak ?_;obtain⟨U,aU,h⟩:=an h;refine cS (aqz a0 _ aU) _ ?_;exact cP aj [.bool (U==0)]
theorem aqA (a0 J r) (h:GZ a0 J=some r):aX ah 67 [.slice (a0.map bl),bs J] (.bool r) []:=by
 refine bC [0,1] [.tmp 4] Tryz.func67 alF λbt aj br=>ak ?_;refine ay aj λ_ bD bf af=>?_;obtain⟨U,cc,h⟩:=an h;rcases dH h with⟨da,h⟩|⟨da,h⟩
 .refine mo (fM da) (w2 J.cA (a0.length:Int) _ cc) _ ?_;refine il rfl ?_;exact aO bf [.bool false]
 .obtain⟨af,cd,h⟩:=an h;obtain⟨aI,fC,h⟩:=an h;refine ju rfl (iP [(0,.slice (a0.map bl)),(3,.aM (bs J)),(24,.bool (!aI))] (λP bg=>?_) ?_)
  ·(try simp only[dh.down,simprocAttr,(bN da),cd]);refine h4 (w2 J.cA (a0.length:Int) _ cc) (hK:= ?_);simp only[dh.down,simprocAttr,(bN da),cd];refine lU (w2 J.Part (af.Body.length:Int) _ fC) (hK:= ?_);simp only[dh.down,simprocAttr,(bN da),cd];refine⟨hY (by kernel_rfl),?_⟩;exact bP (R (bN da) cd)
  refine aC h (λe7 h=>?_) λe7 h=>?_
  .exact aO bf [.bool false]
  .refine aL (bD _ (inl (c8 cd _ ?_)));obtain⟨a1,dZ,h⟩:=an h;rcases dH h with⟨hd,h⟩|⟨hd,h⟩
   .obtain⟨ba,ef,h⟩:=an h;obtain⟨aZ,cJ,h⟩:=an h;rcases dH h with⟨jM,h⟩|⟨jM,h⟩
    .obtain⟨bq,eL,h⟩:=an h;refine ju rfl (iP [(4,.bool bq)] (λP bg=>?_) ?_)
     ·(try simp only[dh.down,simprocAttr,dZ,hd,cJ,cb cJ,jM]);refine lU (SR af _ ef) (hK:= ?_);simp only[dh.down,simprocAttr,dZ,hd,cJ,cb cJ,jM];refine lU (SU J.bK _ eL) (hK:= ?_);simp only[dh.down,simprocAttr,dZ,hd,cJ,cb cJ,jM];refine⟨hY (by kernel_rfl),?_⟩;exact bP (R dZ (R hd (R cJ (R (cb cJ) jM))))
     exact cP aj [.bool bq]
    .refine mo (R dZ (R hd (R cJ (R (cb cJ) jM)))) (SR af _ ef) _ ?_;exact cP aj [.bool false]
   .refine o8 (R dZ hd) _ ?_;exact cP aj [.bool false]
theorem aqB (a0 J r) (h:Qt a0 J=some r):aX ah 66 [bs a0,.ref (e1 J)] (.bool r) []:=by
 refine bC [0,1] [.tmp 3] Tryz.func66 alG λbt aj br=>ak ?_;obtain⟨U,aU,h⟩:=an h;refine cS (aqA J.cw a0 _ aU) _ ?_;exact cP aj [.bool (!U)]
theorem aqC (a0 J r) (h:Qv a0 J=some r):aX ah 90 [.slice (a0.map bs),.fn 66 [.ref (e1 J)]] (.int .i64 r) []:=by
 refine bC [0,1] [.tmp 4] Tryz.func90 alH λbt aj br=>ak ?_;refine ay aj λ_ bD bf af=>ak ?_;refine bk bf λeM _ bL bT _=>?_;show bn ah (.loop ?eR) _ _;have eZ:∀n cI,G0 a0 J n cI=some r->cN ah ?eR eM (ar [(0,.slice (a0.map bs)),(1,.fn 66 [.ref (e1 J)]),(7,.int .i64 (a0.length:Int)),(8,.int .i64 cI)]):=by
  refine c7 λ_ eI cI h=>c6 bL λ_ dP cG ba=>ak ?_;refine ay cG λ_ dN _ bq=>aC h (λcm h=>?_) λcm h=>?_
  .refine aL (dN _ (inl (ay cG λ_ cF b8 _=>bk b8 λ_ b2 cM _ _=>ak ?_)));obtain⟨U,dZ,h⟩:=an h;obtain⟨af,dO,h⟩:=an h;refine eQ dZ (aqB U J _ dO) _ ?_;refine aC h (λe2 h=>?_) λe2 h=>?_
   .exact aO cM [.int .i64 cI]
   .refine aL (b2 _ (cF _ (inl (dD ?_))));exact dP _ (inr ⟨_,bE rfl,eI (i64.wrap (cI+1)) h⟩)
  .exact cX (bq 0 _ (ba 0 _ (bT _ (bD _ (inl (aO aj [.int .i64 (-1)]))))))
 exact dz h λn h=>eZ n 0 h
theorem aqD (a0 J r) (h:KK a0 J=some r):aX ah 65 [.slice (a0.map bs),.fn 66 [.ref (e1 J)]] (.bool r) []:=by
 refine bC [0,1] [.tmp 4] Tryz.func65 alI λbt aj br=>ak ?_;obtain⟨U,aU,h⟩:=an h;refine cS (aqC a0 J _ aU) _ ?_;exact cP aj [.bool (decide (0<=U))]
theorem aqE (a0 J r) (h:KL a0 J=some r):aX ah 35 [e1 a0,.slice (J.map bs)] (.bool r) []:=by
 refine bC [0,1] [.tmp 4] Tryz.func35 alJ λbt aj br=>ak ?_;obtain⟨af,cc,h⟩:=an h;rcases dH h with⟨da,h⟩|⟨da,h⟩
 .rcases dH h with⟨dM,h⟩|⟨dM,h⟩
  .obtain⟨aI,cd,h⟩:=an h;refine dp (b6 [(4,.bool (!aI))] (λP bg=>?_) ?_)
   ·(try simp only[aB.down,simprocAttr,da,dM]);refine dq (SW a0 _ cc) (hK:= ?_);simp only[aB.down,simprocAttr,da,dM];refine hz (aqD J a0 _ cd) rfl rfl (by simp only[aB.down,simprocAttr,da,dM,RT.down]<;>rfl) rfl (inr (by rfl)) ?_;simp only[aB.down,simprocAttr,da,dM];exact bP (R da dM)
   exact cP aj [.bool (!aI)]
  .refine eQ (R da dM) (SW a0 _ cc) _ ?_;exact cP aj [.bool false]
 .refine eQ da (SW a0 _ cc) _ ?_;exact cP aj [.bool false]
theorem SX (a0 r) (h:C2 a0=some r):aX ah 93 [.slice (a0.map aT)] (.ae 1 (r.map aT)) []:=by
 refine bC [0] [.tmp 2] Tryz.func93 c93 λbt aj br=>ak ?_;refine ay aj λ_ bD bf _=>?_;rcases dH h with⟨bT,h⟩|⟨bT,h⟩
 .refine dp (b6 [(0,.slice (a0.map aT)),(4,.gu)] (λP bg=>?_) ?_)
  .simp only[aB.down,simprocAttr,Jt,(XB bT),Ju];exact bP (R @Jt (R (XB bT) @Ju))
  obtain⟨b1,h⟩:=acZ h;refine agq rfl ?_ ?_
  .replace h:=b1;refine ak ?_;exact ha (bf _ (inr ⟨[(2,.ae 1 [])],hH [] rfl (gz (t:=2) (d:=.bd) rfl rfl (.hv _) (by decide) (hI)),qd [.ae 1 []]⟩))
  .refine aL (bD _ (inl ?_));obtain⟨u8,fC,h⟩:=an h;(try simp only[fI.down,Nat.zero_add,Nat.add_zero,reduceAdd]at fC);refine c8 (R (show∀s,d_ ah s 29 0 []=some (.ae 1 [],s)from λs=>by kernel_rfl) (R (@j0 ah 29 29 2 rfl rfl) (R @j1 (R @j2 (R @gA (R @all_cons (R @all_nil (R fC (@jv _ aT 1 λ_=>rfl))))))))) _ ?_;exact cP aj [.ae 1 (a0.map aT)]
 .refine dp (b6 [(0,.slice (a0.map aT)),(4,.bool false)] (λP bg=>?_) ?_)
  .simp only[aB.down,simprocAttr,Jt,(XC bT),Ju];exact bP (R @Jt (R (XC bT) @Ju))
  refine ot rfl ?_;refine aL (bD _ (inl ?_));obtain⟨DW,jh,h⟩:=an h;(try simp only[fI.down,Nat.zero_add,Nat.add_zero,reduceAdd]at jh);refine c8 (R (show∀s,d_ ah s 29 0 []=some (.ae 1 [],s)from λs=>by kernel_rfl) (R (@j0 ah 29 29 2 rfl rfl) (R @j1 (R @j2 (R @gA (R @all_cons (R @all_nil (R jh (@jv _ aT 1 λ_=>rfl))))))))) _ ?_;exact cP aj [.ae 1 (a0.map aT)]
theorem H0 (a0 r) (h:Ad a0=some r):aX ah 68 [bs a0] (cQ r) []:=by
 refine bC [0] [.cell 2 71] Tryz.func68 alK λbt aj br=>ak ?_;obtain⟨U,aU,h⟩:=an h;refine cS (SX a0.bK _ aU) _ ?_;exact aO aj [cQ (a8.mk a0.cA a0.Part U)]
theorem SY (a0 r) (h:G1 a0=some r):aX ah 36 [.slice (a0.map bs)] (.ae 3 (r.map cQ)) []:=by
 refine bC [0] [.tmp 2] Tryz.func36 alL λbt aj br=>ak ?_;refine ak ?_;refine ay aj λ_ fe dA _=>ak ?_;refine bk dA λra _ cG da _=>?_;show bn ah (.loop ?iA) _ _;have jb:∀n b4 k_,C3 a0 n b4 k_=some r->cN ah ?iA ra (ar [(3,.ae 3 (b4.map cQ)),(6,.slice (a0.map bs)),(7,.int .i64 (a0.length:Int)),(8,.int .i64 k_)]):=by
  refine c7 λ_ jc b4 k_ h=>c6 cG λ_ cT dn aZ=>ak ?_;refine ay dn λ_ ja _ cY=>aC h (λe7 h=>?_) λe7 h=>?_
  .refine aL (ja _ (inl (ay dn λ_ b2 cM _=>bk cM λ_ eH _ _ _=>?_)));obtain⟨U,dZ,h⟩:=an h;refine c8 dZ _ ?_;obtain⟨af,ef,h⟩:=an h;obtain⟨Ly,cJ,h⟩:=an h;(try simp only[fI.down,Nat.zero_add,Nat.add_zero,reduceAdd]at cJ);refine ik (b6 [(3,.ae 3 ((b4++[af]).map cQ)),(6,.slice (a0.map bs)),(7,.int .i64 (a0.length:Int)),(8,.int .i64 k_)] (λP bg=>?_) ?_)
   ·(try simp only[aB.down,simprocAttr,RU.down,ou,dQ,cJ]);refine dq (H0 U _ ef) (hK:= ?_);simp only[aB.down,simprocAttr,RU.down,ou,dQ,cJ];(try simp only[jB.down,simprocAttr,RU.down,ou,dQ,cJ]at bg⊢);exact bg
   refine eH _ (b2 _ (inl (wr [(3,.ae 3 ((b4++[af]).map cQ)),(6,.slice (a0.map bs)),(7,.int .i64 (a0.length:Int)),(8,.int .i64 (i64.wrap (k_+1)))] ?_)));exact cT _ (inr ⟨_,bE rfl,jc (b4++[af]) (i64.wrap (k_+1)) h⟩)
  .exact cX (cY 0 _ (aZ 0 _ (da _ (fe _ (inl (aO aj [.ae 3 (b4.map cQ)]))))))
 obtain⟨n,h⟩:=lO h;exact pH (inr ⟨_,hH [] rfl (gz (t:=3) (d:=.bd) (bM:=.ae 3 []) rfl rfl (.hv _) (by decide) (cz (t:=6) (d:=.slice (a0.map bs)) rfl (cz (t:=7) (d:=.int .i64 (a0.length:Int)) rfl (cz (t:=8) (d:=.int .i64 0) rfl (hI))))),jb n [] 0 h⟩)
theorem aqF (va:azu->Option (bV×(List dG)×azu)) (aqG:∀a0 r,va a0=some r->aX ah 201 [.slice (a0.map dY)] (.tuple [.aM (.agg [dY r.1,.ae 1 (r.2.1.map l3)]),.slice (r.2.2.map dY)]) []) (a0 r) (h:Qy va a0=some r):aX ah 201 [.slice (a0.map dY)] (.tuple [.aM (.agg [dY r.1,.ae 1 (r.2.1.map l3)]),.slice (r.2.2.map dY)]) []:=by
 refine bC [0] [.tmp 2,.tmp 3] Tryz.func201 c201 λbt aj br=>ak ?_;obtain⟨U,aU,h⟩:=an h;refine c8 (R aU (show∀s,gH ah s 263 [(0,.agg [.int .i64 U.Kind,.int .i64 U.Value])]=some (.agg [.agg [.int .i64 U.Kind,.int .i64 U.Value],.bd],s)from λs=>by kernel_rfl)) _ ?_;obtain⟨af,cZ,h⟩:=an h;refine c8 (R cZ (@jv _ dY 2 λ_=>rfl)) _ ?_;refine ay aj λ_ cT dn _=>?_;obtain⟨aI,fC,h⟩:=an h;refine eQ aU (aam U _ fC) _ ?_;refine bk dn λkb _ b8 e7 _=>?_;show bn ah (.loop ?Av) _ _;have AR:∀n iq kp tt,Ae va U aI n iq kp tt=some r->cN ah ?Av kb (ar [(4,.aM (.agg [dY U,.ae 1 (iq.map l3)])),(5,.slice (kp.map dY)),(17,.int .i64 aI),(18,.int .i64 tt)]):=by
  refine c7 λ_ AU iq kp tt h=>c6 b8 λ_ b2 cM cp=>ak ?_;refine ay cM λ_ hB _ ko=>aC h (λfh h=>?_) λfh h=>?_
  .refine aL (hB _ (inl (ay cM λ_ eT er _=>bk er λ_ fJ _ _ _=>ak ?_)));obtain⟨a1,eL,h⟩:=an h;refine cS (aqG kp _ eL) _ ?_;obtain⟨aoq,fY,h⟩:=an h;(try simp only[fI.down,Nat.zero_add,Nat.add_zero,reduceAdd]at fY);refine ik (b6 [(4,.aM (.agg [dY U,.ae 1 ((iq++[(dG.mk a1.1 a1.2.1)]).map l3)])),(5,.slice (a1.2.2.map dY)),(17,.int .i64 aI),(18,.int .i64 tt)] (λP bg=>?_) ?_)
   .simp only[aB.down,simprocAttr,ZG.down,ou,dQ,fY];(try simp only[jB.down,simprocAttr,ZG.down,ou,dQ,fY]at bg⊢);exact bg
   refine fJ _ (eT _ (inl (wr [(4,.aM (.agg [dY U,.ae 1 ((iq++[(dG.mk a1.1 a1.2.1)]).map l3)])),(5,.slice (a1.2.2.map dY)),(17,.int .i64 aI),(18,.int .i64 (i64.wrap (tt+1)))] ?_)));exact b2 _ (inr ⟨_,bE rfl,AU (iq++[(dG.mk a1.1 a1.2.1)]) a1.2.2 (i64.wrap (tt+1)) h⟩)
  .exact cX (ko 0 _ (cp 0 _ (e7 _ (cT _ (inl (aO aj [.aM (.agg [dY U,.ae 1 (iq.map l3)]),.slice (kp.map dY)]))))))
 obtain⟨n,h⟩:=lO h;exact pH (inr ⟨_,hH [] rfl (gz (t:=4) (d:=.aM (.agg [dY U,.bd])) (bM:=.aM (.agg [dY U,.ae 1 []])) rfl rfl (.aM (.agg (.cons (.refl _) (.cons (.hv _) (.nil))))) (by decide) (cz (t:=5) (d:=.slice (af.map dY)) rfl (cz (t:=17) (d:=.int .i64 aI) rfl (cz (t:=18) (d:=.int .i64 0) rfl (hI))))),AR n [] af 0 h⟩)
theorem aqH:∀n a0 r,C4 n a0=some r->aX ah 201 [.slice (a0.map dY)] (.tuple [.aM (.agg [dY r.1,.ae 1 (r.2.1.map l3)]),.slice (r.2.2.map dY)]) []:=by
 intro n;induction n with
 |zero=>intro a0 r h;cases(show none=some r from h)
 |succ n ih=>intro a0 r h;exact aqF (C4 n) ih a0 r h
theorem aqI (a0 r) (h:Qz a0=some r):aX ah 201 [.slice (a0.map dY)] (.tuple [.aM (.agg [dY r.1,.ae 1 (r.2.1.map l3)]),.slice (r.2.2.map dY)]) []:=by
 obtain⟨n,h⟩:=lO h;exact aqH n a0 r h
theorem aqJ (a0 r) (h:KM a0=some r):aX ah 172 [.slice (a0.map dY)] (.aM (.agg [dY r.1,.ae 1 (r.2.map l3)])) []:=by
 refine bC [0] [.tmp 2] Tryz.func172 alM λbt aj br=>ak ?_;obtain⟨U,aU,h⟩:=an h;refine cS (aqI a0 _ aU) _ ?_;exact aO aj [.aM (.agg [dY U.1,.ae 1 (U.2.1.map l3)])]
theorem w3 (a0 r) (h:r3 a0=some r):aX ah 202 [.bool a0] (.int .i64 r) []:=by
 refine bC [0] [.tmp 2] Tryz.func202 alN λbt aj br=>ak ?_;refine ay aj λ_ bD bf _=>ak ?_;refine aC h (λbT h=>?_) λbT h=>?_
 .exact aO bf [.int .i64 1]
 .exact aL (bD _ (inl (aO aj [.int .i64 0])))
theorem aqK (a0 J a2 r) (h:KN a0 J a2=some r):aX ah 203 [.int .i64 a0,.int .i64 J,.int .i64 a2] (.int .i64 r) []:=by
 refine bC [0,1,2] [.tmp 6] Tryz.func203 c203 λbt aj br=>ak ?_;refine ay aj λ_ bD bf af=>ak ?_;refine bk bf λ_ fi bL _ a1=>ak ?_;refine aC h (λdM h=>?_) λdM h=>?_
 .refine c8 (@x3 .i64 64 (by decide)) _ ?_;exact cP bL [.int .i64 (Int.tmod (i64.wrap (J+a2)) 64)]
 .refine ak ?_;refine aC h (λe7 h=>?_) λe7 h=>?_
  .refine c8 (@x3 .i64 64 (by decide)) _ ?_;exact cP bL [.int .i64 (Int.tmod (i64.wrap ((i64.wrap (J-a2))+64)) 64)]
  .refine ak ?_;refine aC h (λfb h=>?_) λfb h=>?_
   .refine c8 (@x3 .i64 64 (by decide)) _ ?_;exact cP bL [.int .i64 (Int.tmod (i64.wrap (J*a2)) 64)]
   .refine ak ?_;refine aC h (λe2 h=>?_) λe2 h=>?_
    .obtain⟨U,dV,h⟩:=an h;refine cS (w3 (J==a2) _ dV) _ ?_;exact cP bL [.int .i64 U]
    .refine ak ?_;refine aC h (λfX h=>?_) λfX h=>?_
     .obtain⟨af,gF,h⟩:=an h;refine cS (w3 (J !=a2) _ gF) _ ?_;exact cP bL [.int .i64 af]
     .refine ak ?_;refine aC h (λgp h=>?_) λgp h=>?_
      .obtain⟨aI,iv,h⟩:=an h;refine cS (w3 (decide (J<a2)) _ iv) _ ?_;exact cP bL [.int .i64 aI]
      .refine ak ?_;refine aC h (λoM h=>?_) λoM h=>?_
       .obtain⟨a1,oN,h⟩:=an h;refine cS (w3 (decide (J<=a2)) _ oN) _ ?_;exact cP bL [.int .i64 a1]
       .refine ak ?_;refine aC h (λhC h=>?_) λhC h=>?_
        .rcases dH h with⟨jC,h⟩|⟨jC,h⟩
         .obtain⟨ba,hU,h⟩:=an h;refine eQ jC (w3 (a2 !=0) _ hU) _ ?_;exact cP bL [.int .i64 ba]
         .obtain⟨aZ,AO,h⟩:=an h;refine eQ jC (w3 false _ AO) _ ?_;exact cP bL [.int .i64 aZ]
        .refine aL (fi _ (bD _ (inl ?_)));rcases dH h with⟨qv,h⟩|⟨qv,h⟩
         .obtain⟨bq,tJ,h⟩:=an h;refine eQ qv (w3 true _ tJ) _ ?_;exact cP aj [.int .i64 bq]
         .obtain⟨cY,AP,h⟩:=an h;refine eQ qv (w3 (a2 !=0) _ AP) _ ?_;exact cP aj [.int .i64 cY]
theorem aqL (C5:dG->aze->azh) (SZ:∀a0 J r,C5 a0 J=some r->aX ah 173 [.ref (q9 a0),.slice (J.map aT)] (.int .i64 r) []) (a0 J r) (h:QA C5 a0 J=some r):aX ah 173 [.ref (q9 a0),.slice (J.map aT)] (.int .i64 r) []:=by
 refine bC [0,1] [.tmp 4] Tryz.func173 c173 λbt aj br=>ak ?_;refine ay aj λ_ bD bf af=>ak ?_;refine bk bf λ_ fi bL _ a1=>ak ?_;refine aC h (λdM h=>?_) λdM h=>?_
 .exact aO bL [.int .i64 a0.term.Value]
 .refine ak ?_;refine aC h (λe7 h=>?_) λe7 h=>?_
  .obtain⟨U,kD,h⟩:=an h;refine c8 kD _ ?_;exact cP bL [.int .i64 U]
  .refine ak ?_;refine aC h (λfh h=>?_) λfh h=>?_
   .obtain⟨af,ef,h⟩:=an h;obtain⟨aI,cJ,h⟩:=an h;obtain⟨a1,dV,h⟩:=an h;refine dp (b6 [(4,.int .i64 a1)] (λP bg=>?_) ?_)
    ·(try simp only[aB.down,simprocAttr,ef]);refine dq (SZ af J _ cJ) rfl rfl (by simp only[aB.down,simprocAttr,ef,yB.down]<;>rfl) rfl (inl (by rfl)) ?_;simp only[aB.down,simprocAttr,ef];refine dq (w3 (aI==0) _ dV) (hK:= ?_);simp only[aB.down,simprocAttr,ef];exact bP ef
    exact cP bL [.int .i64 a1]
   .refine aL (fi _ (bD _ (inl ?_)));obtain⟨ba,e8,h⟩:=an h;obtain⟨aZ,fY,h⟩:=an h;obtain⟨bq,gF,h⟩:=an h;obtain⟨cY,fE,h⟩:=an h;obtain⟨dm,iu,h⟩:=an h;refine ju rfl (iP [(4,.int .i64 dm)] (λP bg=>?_) ?_)
    ·(try simp only[dh.down,simprocAttr,e8,gF]);refine h4 (SZ ba J _ fY) rfl rfl (by simp only[dh.down,simprocAttr,e8,gF,yB.down]<;>rfl) rfl (inl (by rfl)) ?_;simp only[dh.down,simprocAttr,e8,gF];refine h4 (SZ bq J _ fE) rfl rfl (by simp only[dh.down,simprocAttr,e8,gF,yB.down]<;>rfl) rfl (inl (by rfl)) ?_;simp only[dh.down,simprocAttr,e8,gF];refine h4 (aqK a0.term.Value aZ cY _ iu) (hK:= ?_);simp only[dh.down,simprocAttr,e8,gF];refine⟨hY (by kernel_rfl),?_⟩;exact bP (R e8 gF)
    exact cP aj [.int .i64 dm]
theorem aqM:∀n a0 J r,Af n a0 J=some r->aX ah 173 [.ref (q9 a0),.slice (J.map aT)] (.int .i64 r) []:=by
 intro n;induction n with
 |zero=>intro a0 J r h;cases(show none=some r from h)
 |succ n ih=>intro a0 J r h;exact aqL (Af n) ih a0 J r h
theorem aqN (a0 J r) (h:QB a0 J=some r):aX ah 173 [.ref (q9 a0),.slice (J.map aT)] (.int .i64 r) []:=by
 obtain⟨n,h⟩:=lO h;exact aqM n a0 J r h
theorem aar (a0 J r) (h:C6 a0 J=some r):aX ah 139 [.slice (a0.map dY),.slice (J.map aT)] (.int .i64 r) []:=by
 refine bC [0,1] [.tmp 4] Tryz.func139 c139 λbt aj br=>ak ?_;obtain⟨U,aU,h⟩:=an h;obtain⟨af,cc,h⟩:=an h;refine dp (b6 [(4,.int .i64 af)] (λP bg=>?_) ?_)
 ·(try simp only[aB.down,simprocAttr]);refine dq (aqJ a0 _ aU) (hK:= ?_);simp only[aB.down,simprocAttr];refine dq (aqN (dG.mk U.1 U.2) J _ cc) rfl rfl (by simp only[aB.down,simprocAttr,gQ,gR,gS,cR, @b0 _ l3 qo (λ_=>YP _)]<;>rfl) rfl (inr (by rfl)) ?_;simp only[aB.down,simprocAttr];exact bP trivial
 exact cP aj [.int .i64 af]
theorem aas (a0 J r) (h:G2 a0 J=some r):aX ah 136 [.slice (a0.map i_),.slice (J.map aT)] (.ae 1 (r.map aT)) []:=by
 refine bC [0,1] [.tmp 4] Tryz.func136 alO λbt aj br=>ak ?_;refine ak ?_;refine ay aj λ_ fe dA _=>ak ?_;refine bk dA λra _ cG da _=>?_;show bn ah (.loop ?iA) _ _;have jb:∀n fF r4,C7 a0 J n fF r4=some r->cN ah ?iA ra (ar [(1,.slice (J.map aT)),(5,.ae 1 (fF.map aT)),(8,.slice (a0.map i_)),(9,.int .i64 (a0.length:Int)),(10,.int .i64 r4)]):=by
  refine c7 λ_ jc fF r4 h=>c6 cG λ_ cT dn aZ=>ak ?_;refine ay dn λ_ ja _ cY=>aC h (λe7 h=>?_) λe7 h=>?_
  .refine aL (ja _ (inl (ay dn λ_ b2 cM _=>bk cM λ_ eH _ _ _=>?_)));obtain⟨U,dZ,h⟩:=an h;refine c8 dZ _ ?_;obtain⟨af,ef,h⟩:=an h;obtain⟨Ly,cJ,h⟩:=an h;(try simp only[fI.down,Nat.zero_add,Nat.add_zero,reduceAdd]at cJ);refine Aw (R (show∀s,d_ ah s 29 1 [(0,.int .i64 af)]=some (.ae 1 [.int .i64 af],s)from λs=>by kernel_rfl) (R (@j0 ah 29 29 2 rfl rfl) (R @j1 (R @j2 (R @gA (R @all_cons (R @all_nil (R cJ (@jv _ aT 1 λ_=>rfl))))))))) (aar U J _ ef) [(1,.slice (J.map aT)),(5,.ae 1 ((fF++[af]).map aT)),(8,.slice (a0.map i_)),(9,.int .i64 (a0.length:Int)),(10,.int .i64 r4)] ?_;refine eH _ (b2 _ (inl (wr [(1,.slice (J.map aT)),(5,.ae 1 ((fF++[af]).map aT)),(8,.slice (a0.map i_)),(9,.int .i64 (a0.length:Int)),(10,.int .i64 (i64.wrap (r4+1)))] ?_)));exact cT _ (inr ⟨_,bE rfl,jc (fF++[af]) (i64.wrap (r4+1)) h⟩)
  .exact cX (cY 0 _ (aZ 0 _ (da _ (fe _ (inl (aO aj [.ae 1 (fF.map aT)]))))))
 obtain⟨n,h⟩:=lO h;exact pH (inr ⟨_,hH [] rfl (cz (t:=1) (d:=.slice (J.map aT)) rfl (gz (t:=5) (d:=.bd) (bM:=.ae 1 []) rfl rfl (.hv _) (by decide) (cz (t:=8) (d:=.slice (a0.map i_)) rfl (cz (t:=9) (d:=.int .i64 (a0.length:Int)) rfl (cz (t:=10) (d:=.int .i64 0) rfl (hI)))))),jb n [] 0 h⟩)
theorem aqO (a0 J:Int) (r:azc) (h:C8 a0 J=some r):aX ah 147 [.int .i64 a0,.int .i64 J] (.str r) []:=am1 a0 J r h
theorem A1 (a0 r) (h:r5 a0=some r):aX ah 101 [.int .i64 a0] (.str r) []:=by
 refine bC [0] [.tmp 2] Tryz.func101 alP λbt aj br=>ak ?_;obtain⟨U,aU,h⟩:=an h;refine cS (aqO a0 10 _ aU) _ ?_;exact cP aj [.str U]
theorem aat (a0:azb) (J:azc) (r:azc) (h:strings_Join a0 J=some r):aX ah 149 [.slice (a0.map aN),.str J] (.str r) []:=am2 a0 J r h
theorem aau (a0 J r) (h:Ag a0 J=some r):aX ah 145 [.slice (a0.map aT),.str J] (.str r) []:=by
 refine bC [0,1] [.tmp 4] Tryz.func145 c145 λbt aj br=>ak ?_;obtain⟨Sr,aU,h⟩:=an h;refine se (R (rr aU) @List.map_replicate.{0,0}) [(0,.slice (a0.map aT)),(1,.str J),(5,.ae 1 ((List.replicate (Int.toNat (a0.length:Int)) ([]:azc)).map aN))] ?_;refine ay aj λ_ fi bL a1=>ws [(1,.str J),(5,.ae 1 ((List.replicate (Int.toNat (a0.length:Int)) ([]:azc)).map aN)),(11,.slice (a0.map aT)),(12,.int .i64 (a0.length:Int)),(13,.int .i64 0)] ?_;refine bk bL λkc _ dn dM _=>?_;show bn ah (.loop ?iA) _ _;have jb:∀n fF oD,C9 a0 J n fF oD=some r->cN ah ?iA kc (ar [(1,.str J),(5,.ae 1 (fF.map aN)),(11,.slice (a0.map aT)),(12,.int .i64 (a0.length:Int)),(13,.int .i64 oD)]):=by
  refine c7 λ_ jc fF oD h=>c6 dn λ_ dN eO bq=>ak ?_;refine ay eO λ_ cF _ dm=>aC h (λfm h=>?_) λfm h=>?_
  .refine aL (cF _ (inl (ay eO λ_ eH hT _=>bk hT λ_ hB _ _ _=>?_)));obtain⟨U,dO,h⟩:=an h;refine c8 dO _ ?_;obtain⟨af,cJ,h⟩:=an h;obtain⟨aI,dV,h⟩:=an h;refine ik (b6 [(1,.str J),(5,.ae 1 ((List.set fF (Int.toNat oD) af).map aN)),(11,.slice (a0.map aT)),(12,.int .i64 (a0.length:Int)),(13,.int .i64 oD)] (λP bg=>?_) ?_)
   ·(try simp only[aB.down,simprocAttr,dV,cb dV,db,dk]);refine dq (A1 U _ cJ) (hK:= ?_);simp only[aB.down,simprocAttr,dV,cb dV,db,dk];exact bP (R dV (R (cb dV) @db))
   refine hB _ (eH _ (inl (wr [(1,.str J),(5,.ae 1 ((List.set fF (Int.toNat oD) af).map aN)),(11,.slice (a0.map aT)),(12,.int .i64 (a0.length:Int)),(13,.int .i64 (i64.wrap (oD+1)))] ?_)));exact dN _ (inr ⟨_,bE rfl,jc (List.set fF (Int.toNat oD) af) (i64.wrap (oD+1)) h⟩)
  .refine cX (dm 0 _ (bq 0 _ (dM _ (fi _ (inl ?_)))));obtain⟨a1,fY,h⟩:=an h;refine dp (b6 [(4,.str a1)] (λP bg=>?_) ?_)
   ·(try simp only[aB.down,simprocAttr]);refine dq (aat fF J _ fY) rfl rfl (by simp only[aB.down,simprocAttr,HE.down]<;>rfl) rfl (inr (by rfl)) ?_;simp only[aB.down,simprocAttr];exact bP trivial
   exact cP aj [.str a1]
 exact dz h λn h=>jb n (List.replicate (Int.toNat (a0.length:Int)) ([]:azc)) 0 h
theorem LU (a0 J r) (h:Ah a0 J=some r):aX ah 99 [.str a0,.slice (J.map aT)] (.tuple [.str r.1,.bool r.2]) []:=by
 refine bC [0,1] [.tmp 4,.tmp 5] Tryz.func99 alR λbt aj br=>ak ?_;refine ay aj λ_ bD bf af=>bk bf λ_ fe dA _ aI=>ak ?_;refine aC h (λda h=>?_) λda h=>?_
 .exact aO dA [.str ([116,97,117]:azc),.bool ((J.length:Int)==0)]
 .obtain⟨af,jt,h⟩:=an h;rcases dH h with⟨fm,h⟩|⟨fm,h⟩
  .refine eQ (fM fm) (mu a0 _ jt) _ ?_;refine il rfl ?_;exact aO dA [.str ([]:azc),.bool false]
  .rcases dH h with⟨fb,h⟩|⟨fb,h⟩
   .refine eQ (R (bN fm) fb) (mu a0 _ jt) _ ?_;refine il rfl ?_;exact aO dA [.str ([]:azc),.bool false]
   .obtain⟨aI,dO,h⟩:=an h;refine dp (b6 [(0,.str a0),(1,.slice (J.map aT)),(12,.bool (!aI))] (λP bg=>?_) ?_)
    ·(try simp only[aB.down,simprocAttr,(bN fm),fb]);refine dq (mu a0 _ jt) (hK:= ?_);simp only[aB.down,simprocAttr,(bN fm),fb];refine hz (SU J _ dO) (hK:= ?_);simp only[aB.down,simprocAttr,(bN fm),fb];exact bP (R (bN fm) fb)
    refine aC h (λe2 h=>?_) λe2 h=>?_
    .exact aO dA [.str ([]:azc),.bool false]
    .refine ak ?_;refine aC h (λh7 h=>?_) λh7 h=>?_
     .exact aO dA [.str a0,.bool true]
     .refine aL (fe _ (bD _ (inl ?_)));obtain⟨aav,gF,h⟩:=an h;(try simp only[fI.down,Nat.zero_add,Nat.add_zero,reduceAdd]at gF);obtain⟨a1,fE,h⟩:=an h;obtain⟨aav,iu,h⟩:=an h;(try simp only[fI.down,Nat.zero_add,Nat.add_zero,reduceAdd]at iu);obtain⟨aav,mq,h⟩:=an h;(try simp only[fI.down,Nat.zero_add,Nat.add_zero,reduceAdd]at mq);refine eQ (R gF (R @wa (R @wb (R iu mq)))) (aau J ([44]:azc) _ fE) [(4,.str (((a0++([40]:azc))++a1)++([41]:azc))),(5,.bool true)] ?_;exact cP aj [.str (((a0++([40]:azc))++a1)++([41]:azc)),.bool true]
theorem aqP (a0 r) (h:QE a0=some r):aX ah 262 [.int .i64 a0] (.bool r) []:=by
 refine bC [0] [.tmp 2] Tryz.func262 alS λbt aj br=>ak ?_;obtain⟨U,aU,h⟩:=an h;refine cS (mr a0 (-1000000000000) 1000000000000 _ aU) _ ?_;exact cP aj [.bool (!U)]
theorem aqQ (a0 r) (h:QG a0=some r):aX ah 171 [.slice (a0.map aT),.fn 262 []] (.int .i64 r) []:=by
 refine bC [0,1] [.tmp 4] Tryz.func171 alT λbt aj br=>ak ?_;refine ay aj λ_ bD bf af=>ak ?_;refine bk bf λeM _ bL bT _=>?_;show bn ah (.loop ?eR) _ _;have eZ:∀n cI,C_ a0 n cI=some r->cN ah ?eR eM (ar [(0,.slice (a0.map aT)),(1,.fn 262 []),(7,.int .i64 (a0.length:Int)),(8,.int .i64 cI)]):=by
  refine c7 λ_ eI cI h=>c6 bL λ_ dP cG ba=>ak ?_;refine ay cG λ_ dN _ bq=>aC h (λcm h=>?_) λcm h=>?_
  .refine aL (dN _ (inl (ay cG λ_ cF b8 _=>bk b8 λ_ b2 cM _ _=>ak ?_)));obtain⟨U,dZ,h⟩:=an h;obtain⟨af,dO,h⟩:=an h;refine eQ dZ (aqP U _ dO) _ ?_;refine aC h (λe2 h=>?_) λe2 h=>?_
   .exact aO cM [.int .i64 cI]
   .refine aL (b2 _ (cF _ (inl (dD ?_))));exact dP _ (inr ⟨_,bE rfl,eI (i64.wrap (cI+1)) h⟩)
  .exact cX (bq 0 _ (ba 0 _ (bT _ (bD _ (inl (aO aj [.int .i64 (-1)]))))))
 exact dz h λn h=>eZ n 0 h
theorem aqR (a0 r) (h:QH a0=some r):aX ah 133 [.slice (a0.map aT),.fn 262 []] (.bool r) []:=by
 refine bC [0,1] [.tmp 4] Tryz.func133 alU λbt aj br=>ak ?_;obtain⟨U,aU,h⟩:=an h;refine cS (aqQ a0 _ aU) _ ?_;exact cP aj [.bool (decide (0<=U))]
theorem aqS (a0 r) (h:KO a0=some r):aX ah 247 [.slice (a0.map aT)] (.bool r) []:=by
 refine bC [0] [.tmp 2] Tryz.func247 alV λbt aj br=>ak ?_;rcases dH h with⟨gj,h⟩|⟨gj,h⟩
 .obtain⟨U,cc,h⟩:=an h;refine eQ gj (aqR a0 _ cc) _ ?_;exact cP aj [.bool (!U)]
 .refine c8 gj _ ?_;exact cP aj [.bool false]
theorem aqT (a0 r) (h:G4 a0=some r):aX ah 218 [.slice (a0.map aT)] (.str r) []:=by
 refine bC [0] [.tmp 2] Tryz.func218 c218 λbt aj br=>ak ?_;refine ay aj λ_ bD bf af=>bk bf λ_ fe dA _ _=>?_;obtain⟨U,cZ,h⟩:=an h;refine cS (aqS a0 _ cZ) _ ?_;refine aC h (λdM h=>?_) λdM h=>?_
 .exact aO dA [.str ([]:azc)]
 .refine ak ?_;refine aC h (λe7 h=>?_) λe7 h=>?_
  .exact aO dA [.str ([45]:azc)]
  .refine aL (fe _ (bD _ (inl ?_)));obtain⟨af,dB,h⟩:=an h;refine cS (aau a0 ([44]:azc) _ dB) _ ?_;exact cP aj [.str af]
theorem aqU (a0 r) (h:KP a0=some r):aX ah 182 [bs a0] (.str r) []:=by
 refine bC [0] [.tmp 2] Tryz.func182 c182 λbt aj br=>ak ?_;obtain⟨U,aU,h⟩:=an h;obtain⟨LO,cc,h⟩:=an h;(try simp only[fI.down,Nat.zero_add,Nat.add_zero,reduceAdd]at cc);obtain⟨af,cZ,h⟩:=an h;obtain⟨LO,cv,h⟩:=an h;(try simp only[fI.down,Nat.zero_add,Nat.add_zero,reduceAdd]at cv);refine ju rfl (iP [(2,.str ((U++([58]:azc))++af))] (λP bg=>?_) ?_)
 ·(try simp only[dh.down,simprocAttr,cc,mL.down,cv]);refine h4 (A1 a0.Part _ aU) (hK:= ?_);simp only[dh.down,simprocAttr,cc,mL.down,cv];refine h4 (aqT a0.bK _ cZ) (hK:= ?_);simp only[dh.down,simprocAttr,cc,mL.down,cv];refine⟨hY (by kernel_rfl),?_⟩;exact bP (R cc (R mL.down cv))
 exact cP aj [.str ((U++([58]:azc))++af)]
theorem aaw (a0 r) (h:Ai a0=some r):aX ah 148 [bs a0] (.str r) []:=by
 refine bC [0] [.tmp 2] Tryz.func148 c148 λbt aj br=>ak ?_;obtain⟨U,aU,h⟩:=an h;obtain⟨LO,cc,h⟩:=an h;(try simp only[fI.down,Nat.zero_add,Nat.add_zero,reduceAdd]at cc);obtain⟨af,cZ,h⟩:=an h;obtain⟨LO,cv,h⟩:=an h;(try simp only[fI.down,Nat.zero_add,Nat.add_zero,reduceAdd]at cv);refine ju rfl (iP [(2,.str ((U++([58]:azc))++af))] (λP bg=>?_) ?_)
 ·(try simp only[dh.down,simprocAttr,cc,mL.down,cv]);refine h4 (A1 a0.cA _ aU) (hK:= ?_);simp only[dh.down,simprocAttr,cc,mL.down,cv];refine h4 (aqU a0 _ cZ) (hK:= ?_);simp only[dh.down,simprocAttr,cc,mL.down,cv];refine⟨hY (by kernel_rfl),?_⟩;exact bP (R cc (R mL.down cv))
 exact cP aj [.str ((U++([58]:azc))++af)]
theorem aqV (bu bz bw iR kH qi vb r) (h:KQ bu bz bw iR kH qi vb=some r):aX ah 137 [.aM (.agg [.slice (bu.map bl),.ae 4 (bz.map hS),.ck (.mp bw)]),.agg [.str iR,.agg [.int .i64 kH,.int .i64 qi,.ae 1 (vb.map aT)]]] (.tuple []) [.aM (.agg [.slice (r.1.map bl),.ae 4 (r.2.1.map hS),.ck (.mp r.2.2)]),.hole]:=by
 refine bC [0,1] [] Tryz.func137 alX λbt aj br=>ak ?_;obtain⟨DW,aU,h⟩:=an h;(try simp only[fI.down,Nat.zero_add,Nat.add_zero,reduceAdd]at aU);obtain⟨U,cc,h⟩:=an h;obtain⟨DW,cZ,h⟩:=an h;(try simp only[fI.down,Nat.zero_add,Nat.add_zero,reduceAdd]at cZ);refine ju rfl (iP [(0,.aM (.agg [.slice (bu.map bl),.ae 4 (bz.map hS),.ck (.mp bw)])),(1,.agg [.str iR,.agg [.int .i64 kH,.int .i64 qi,.hole]]),(3,.aM (.agg [.str iR,.agg [.int .i64 kH,.int .i64 qi,.ae 1 (vb.map aT)]])),(4,.str ((iR++([32]:azc))++U))] (λP bg=>?_) ?_)
 ·(try simp only[dh.down,simprocAttr,aU,mL.down,cZ]);refine h4 (aaw (a8.mk kH qi vb) _ cc) rfl rfl (by simp only[dh.down,simprocAttr,aU,wa,wb,cZ,gQ,gR,gS,cR, @b0 _ aT aT (λ_=>jA _)]<;>rfl) rfl (inr (by rfl)) ?_;simp only[dh.down,simprocAttr,aU,mL.down,cZ];refine⟨hY (by kernel_rfl),?_⟩;exact bP (R aU (R mL.down cZ))
 refine c8 (R @OB (R @B7 (show rG ah 122=true from by kernel_rfl))) [(0,.aM (.agg [.slice (bu.map bl),.ae 4 (bz.map hS),.ck (.mp bw)])),(1,.agg [.str iR,.agg [.int .i64 kH,.int .i64 qi,.hole]]),(3,.aM (.agg [.str iR,.agg [.int .i64 kH,.int .i64 qi,.ae 1 (vb.map aT)]])),(4,.str ((iR++([32]:azc))++U)),(18,.bool (!(kg ((iR++([32]:azc))++U) bw)))] ?_;refine aC h (λsV h=>?_) λsV h=>?_
 .refine c8 (R @OC (R @B7 (show rG ah 122=true from by kernel_rfl))) [(0,.aM (.agg [.slice (bu.map bl),.ae 4 (bz.map hS),.ck (.mp (kx ((iR++([32]:azc))++U) true bw))])),(1,.agg [.str iR,.agg [.int .i64 kH,.int .i64 qi,.hole]]),(3,.aM (.agg [.str iR,.agg [.int .i64 kH,.int .i64 qi,.ae 1 (vb.map aT)]]))] ?_;obtain⟨DW,jh,h⟩:=an h;(try simp only[fI.down,Nat.zero_add,Nat.add_zero,reduceAdd]at jh);refine ah1 0 7 [1,2,3,4,5,6,7,0,8,9,10] rfl rfl [(0,.aM (.agg [.slice (bu.map bl),.ae 4 ((bz++[(bm.mk iR (a8.mk kH qi vb))]).map hS),.ck (.mp (kx ((iR++([32]:azc))++U) true bw))])),(1,.agg [.str iR,.agg [.int .i64 kH,.int .i64 qi,.hole]])] (λP bg=>?_) (λP bg=>?_) ?_
  .simp only[dh.down,simprocAttr,Lt.down,ou,dQ,jh];refine⟨hY (by kernel_rfl),?_⟩;(try simp only[jB.down,simprocAttr,Lt.down,ou,dQ,jh]at bg⊢);exact bg
  .simp only[wg,List.map_cons,List.map_nil,List.getD_cons_zero,List.getD_cons_succ,simprocAttr];simp only[dh.down,simprocAttr,Lt.down,ou,dQ,jh];refine⟨hY (by kernel_rfl),?_⟩;(try simp only[jB.down,simprocAttr,Lt.down,ou,dQ,jh]at bg⊢);exact bg
  exact br _ (inl (hx [] rfl (by cases eC h;rfl) (by decide) (hJ (jw (by cases eC h;rfl) rfl rfl rfl (dt (hL))))))
 .exact aL (br _ (inl (hx [] rfl (by cases eC h;rfl) (by decide) (hJ (jw (by cases eC h;rfl) rfl rfl rfl (dt (hL)))))))
theorem aqW (oE:azw->azB->aza->Int->Int->aze->Option (azw×azB×aza)) (LV:∀bu bz bw J a2 a3 r,oE bu bz bw J a2 a3=some r->aX ah 94 [.aM (.agg [.slice (bu.map bl),.ae 4 (bz.map hS),.ck (.mp bw)]),.int .i64 J,.int .i64 a2,.slice (a3.map aT)] (.tuple []) [.aM (.agg [.slice (r.1.map bl),.ae 4 (r.2.1.map hS),.ck (.mp r.2.2)]),.hole,.hole,.hole]) (bu bz bw J a2 a3 r) (h:yr oE bu bz bw J a2 a3=some r):aX ah 94 [.aM (.agg [.slice (bu.map bl),.ae 4 (bz.map hS),.ck (.mp bw)]),.int .i64 J,.int .i64 a2,.slice (a3.map aT)] (.tuple []) [.aM (.agg [.slice (r.1.map bl),.ae 4 (r.2.1.map hS),.ck (.mp r.2.2)]),.hole,.hole,.hole]:=by
 refine bC [0,1,2,3] [] Tryz.func94 al1 λbt aj br=>?_;obtain⟨U,aW,h⟩:=an h;refine c8 aW _ ?_;obtain⟨af,cc,h⟩:=an h;refine c8 cc _ ?_;refine ak ?_;refine bk aj λkc cT dn _ aZ=>ak ?_;refine aC h (λcm h=>?_) λcm h=>?_
 .obtain⟨aI,jh,h⟩:=an h;obtain⟨a1,kD,h⟩:=an h;refine ju rfl (iP [(0,.aM (.agg [.slice (bu.map bl),.ae 4 (bz.map hS),.ck (.mp bw)])),(1,.int .i64 J),(2,.int .i64 a2),(3,.slice (a3.map aT)),(8,.aM (bl U)),(10,.str a1.1)] (λP bg=>?_) ?_)
  ·(try simp only[dh.down,simprocAttr]);refine h4 (aas af.cl a3 _ jh) (hK:= ?_);simp only[dh.down,simprocAttr];refine h4 (LU af.Name aI _ kD) rfl rfl (by simp only[dh.down,simprocAttr,Ls.down]<;>rfl) rfl (inr (by rfl)) ?_;simp only[dh.down,simprocAttr];refine⟨hY (by kernel_rfl),?_⟩;exact bP trivial
  obtain⟨ba,dZ,h⟩:=an h;refine eQ (R (@mZ ah 71 [(2,0),(2,1),(29,2)] [(.int .i64 0),(.int .i64 0),.bd] rfl rfl (by kernel_rfl)) (R @lV (R @lW (R @db (R @gA (R @List.nil_append.{0} @List.cons_append.{0})))))) (SX a3 _ dZ) _ ?_;have wO:∀Da Db Dc,KR oE bu bz bw a1 Da Db Dc=some r->bn ah Zj kc (ar [(0,.aM (.agg [.slice (bu.map bl),.ae 4 (bz.map hS),.ck (.mp bw)])),(10,.str a1.1),(12,.aM (.agg [.int .i64 Da,.int .i64 Db,.ae 1 (Dc.map aT)]))]):=by
   intro Da Db Dc h;obtain⟨aZ,cJ,h⟩:=an h;refine ik (b6 [(0,.aM (.agg [.slice (aZ.1.map bl),.ae 4 (aZ.2.1.map hS),.ck (.mp aZ.2.2)]))] (λP bg=>?_) ?_)
   ·(try simp only[aB.down,simprocAttr,ZH.down,ed,dQ]);refine km [⟨.h 0 [],true,_,_⟩,⟨.h 66 [],true,_,.hole⟩] (aqV bu bz bw a1.1 Da Db Dc _ cJ) rfl rfl rfl (by simp only[aB.down,simprocAttr, @mZ ah 102 [(9,0),(71,1)] [(.str []),(.agg [(.int .i64 0),(.int .i64 0),.bd])] rfl rfl (by kernel_rfl),ed,lV,dQ,lW,db,gA,List.nil_append,List.cons_append,lX,kT,kn,gQ,gR,gS,cR,or_true,true_or, @b0 _ bl bl (λ_=>sb _), @b0 _ hS df (λ_=>Hx _), @b0 _ aT aT (λ_=>jA _)]) rfl rfl (inl rfl) ?_;simp only[aB.down,simprocAttr, @mZ ah 102 [(9,0),(71,1)] [(.str []),(.agg [(.int .i64 0),(.int .i64 0),.bd])] rfl rfl (by kernel_rfl),ed,lV,dQ,lW,db,gA,List.nil_append,List.cons_append,jI];exact bP ZH.down
   exact cT _ (br _ (inl (hx [] rfl (by cases eC h;rfl) (by decide) (hJ (jw (by cases eC h;rfl) rfl rfl rfl (dt (dt (dt (hL)))))))))
  refine ay dn λ_ eT _ i7=>?_;obtain⟨bq,eL,h⟩:=an h;refine c8 eL _ ?_;refine ak ?_;refine aC h (λgr h=>?_) λgr h=>?_
  .obtain⟨cY,fE,h⟩:=an h;refine ZB (R (@mZ ah 71 [(2,0),(2,1),(29,2)] [(.int .i64 0),(.int .i64 0),.bd] rfl rfl (by kernel_rfl)) (R @lV (R @lW (R @db (R @gA (R @List.nil_append.{0} @List.cons_append.{0})))))) (aas bq.cl a3 _ fE) _ ?_;exact eT _ (inr ⟨_,bE rfl,wO bq.Number 0 cY h⟩)
  .exact aL (eT _ (inr ⟨_,bE rfl,wO J (i64.wrap (a2+1)) ba h⟩))
 .refine ak ?_;refine aC h (λh0 h=>?_) λh0 h=>?_
  .obtain⟨dm,tG,h⟩:=an h;refine dp (b6 [(0,.aM (.agg [.slice (dm.1.map bl),.ae 4 (dm.2.1.map hS),.ck (.mp dm.2.2)])),(1,.int .i64 J),(2,.int .i64 a2),(3,.slice (a3.map aT)),(8,.aM (bl U))] (λP bg=>?_) ?_)
   ·(try simp only[aB.down,simprocAttr]);refine km [⟨.h 0 [],true,_,_⟩,⟨.int .i64 J,false,_,.hole⟩,⟨.int .i64 (i64.wrap (a2+1)),false,_,.hole⟩,⟨.slice (a3.map aT),false,_,.hole⟩] (LV bu bz bw J (i64.wrap (a2+1)) a3 _ tG) rfl rfl rfl (by simp only[aB.down,simprocAttr,RV.down]) rfl rfl (inl rfl) ?_;simp only[aB.down,simprocAttr,jI];exact bP trivial
   obtain⟨cp,ss,h⟩:=an h;obtain⟨fc,oN,h⟩:=an h;refine ik (b6 [(0,.aM (.agg [.slice (fc.1.map bl),.ae 4 (fc.2.1.map hS),.ck (.mp fc.2.2)]))] (λP bg=>?_) ?_)
   ·(try simp only[aB.down,simprocAttr]);refine dq (aaj U (i64.wrap (a2+1)) _ ss) (hK:= ?_);simp only[aB.down,simprocAttr];refine km [⟨.h 0 [],true,_,_⟩,⟨.int .i64 J,false,_,.hole⟩,⟨.int .i64 cp,false,_,.hole⟩,⟨.slice (a3.map aT),false,_,.hole⟩] (LV dm.1 dm.2.1 dm.2.2 J cp a3 _ oN) rfl rfl rfl (by simp only[aB.down,simprocAttr,RV.down]) rfl rfl (inl rfl) ?_;simp only[aB.down,simprocAttr,jI];exact bP trivial
   exact cT _ (br _ (inl (hx [] rfl (by cases eC h;rfl) (by decide) (hJ (jw (by cases eC h;rfl) rfl rfl rfl (dt (dt (dt (hL)))))))))
  .refine ak ?_;refine aC h (λhC h=>?_) λhC h=>?_
   .obtain⟨ko,lI,h⟩:=an h;obtain⟨lY,hU,h⟩:=an h;refine eQ lI (aar ko a3 _ hU) _ ?_;refine aC h (λlf h=>?_) λlf h=>?_
    .obtain⟨i7,qs,h⟩:=an h;refine ik (b6 [(0,.aM (.agg [.slice (i7.1.map bl),.ae 4 (i7.2.1.map hS),.ck (.mp i7.2.2)]))] (λP bg=>?_) ?_)
     ·(try simp only[aB.down,simprocAttr]);refine km [⟨.h 0 [],true,_,_⟩,⟨.int .i64 J,false,_,.hole⟩,⟨.int .i64 (i64.wrap (a2+1)),false,_,.hole⟩,⟨.slice (a3.map aT),false,_,.hole⟩] (LV bu bz bw J (i64.wrap (a2+1)) a3 _ qs) rfl rfl rfl (by simp only[aB.down,simprocAttr,RV.down]) rfl rfl (inl rfl) ?_;simp only[aB.down,simprocAttr,jI];exact bP trivial
     exact cT _ (br _ (inl (hx [] rfl (by cases eC h;rfl) (by decide) (hJ (jw (by cases eC h;rfl) rfl rfl rfl (dt (dt (dt (hL)))))))))
    .exact aL (cT _ (br _ (inl (hx [] rfl (by cases eC h;rfl) (by decide) (hJ (jw (by cases eC h;rfl) rfl rfl rfl (dt (dt (dt (hL))))))))))
   .refine ak ?_;refine aC h (λwY h=>?_) λwY h=>?_
    .refine ak ?_;refine bk dn λHO _ sl wR _=>?_;have aqX:∀n wF wG wH la,Dd oE J a2 a3 af n wF wG wH la=some r->cN ah Zk HO (ar [(0,.aM (.agg [.slice (wF.map bl),.ae 4 (wG.map hS),.ck (.mp wH)])),(1,.int .i64 J),(2,.int .i64 a2),(3,.slice (a3.map aT)),(103,.int .i64 (i64.wrap (af.Number+1))),(104,.int .i64 la)]):=by
      refine c7 λ_ aqY wF wG wH la h=>c6 sl λ_ AJ yI AK=>ak ?_;refine ay yI λ_ yJ _ HX=>aC h (λwS h=>?_) λwS h=>?_
      .refine aL (yJ _ (inl (ay yI λ_ AL wT _=>bk wT λ_ o_ _ _ _=>ak ?_)));obtain⟨gB,AM,h⟩:=an h;obtain⟨ayH,wZ,h⟩:=an h;(try simp only[fI.down,Nat.zero_add,Nat.add_zero,reduceAdd]at wZ);obtain⟨jz,w4,h⟩:=an h;refine ik (b6 [(0,.aM (.agg [.slice (jz.1.map bl),.ae 4 (jz.2.1.map hS),.ck (.mp jz.2.2)])),(1,.int .i64 J),(2,.int .i64 a2),(3,.slice (a3.map aT)),(103,.int .i64 (i64.wrap (af.Number+1))),(104,.int .i64 la)] (λP bg=>?_) ?_)
       ·(try simp only[aB.down,simprocAttr,(show∀s,d_ ah s 29 1 [(0,.int .i64 la)]=some (.ae 1 [.int .i64 la],s)from λs=>by kernel_rfl),DP.down,wZ,I.shares]);refine dq (SX a3 _ AM) (hK:= ?_);simp only[aB.down,simprocAttr,(show∀s,d_ ah s 29 1 [(0,.int .i64 la)]=some (.ae 1 [.int .i64 la],s)from λs=>by kernel_rfl),DP.down,wZ,I.shares];refine km [⟨.h 0 [],true,_,_⟩,⟨.int .i64 J,false,_,.hole⟩,⟨.int .i64 (i64.wrap (a2+1)),false,_,.hole⟩,⟨.slice ((gB++[la]).map aT),false,_,.hole⟩] (LV wF wG wH J (i64.wrap (a2+1)) (gB++[la]) _ w4) rfl rfl (by simp only[aB.down,simprocAttr,(show∀s,d_ ah s 29 1 [(0,.int .i64 la)]=some (.ae 1 [.int .i64 la],s)from λs=>by kernel_rfl),ZE.down,wZ,I.shares]) (by simp only[aB.down,simprocAttr,(show∀s,d_ ah s 29 1 [(0,.int .i64 la)]=some (.ae 1 [.int .i64 la],s)from λs=>by kernel_rfl), @j0 ah 29 29 2 rfl rfl,j1,j2,gA,all_cons,all_nil,wZ, @jv _ aT 1 (λ_=>rfl),ox,ow,I.shares,cR,ov, @b0 _ aT aT (λ_=>jA _),lX,kT,kn,gQ,gR,gS,cR,or_true,true_or, @b0 _ bl bl (λ_=>sb _), @b0 _ hS df (λ_=>Hx _)]) rfl rfl (inl rfl) ?_;simp only[aB.down,simprocAttr,(show∀s,d_ ah s 29 1 [(0,.int .i64 la)]=some (.ae 1 [.int .i64 la],s)from λs=>by kernel_rfl),ZF.down,wZ,I.shares];exact bP (R (show∀s,d_ ah s 29 1 [(0,.int .i64 la)]=some (.ae 1 [.int .i64 la],s)from λs=>by kernel_rfl) (R DP.down wZ))
       refine o_ _ (AL _ (inl (dD ?_)));exact AJ _ (inr ⟨_,bE rfl,aqY jz.1 jz.2.1 jz.2.2 (i64.wrap (la+1)) h⟩)
      .exact cX (HX 1 _ (AK 1 _ (wR _ (cT _ (br _ (inl (hx [] rfl (by cases eC h;rfl) (by decide) (hJ (jw (by cases eC h;rfl) rfl rfl rfl (dt (dt (dt (hL)))))))))))))
     exact dz h λn h=>aqX n bu bz bw 0 h
    .exact aL (cT _ (br _ (inl (hx [] rfl (by cases eC h;rfl) (by decide) (hJ (jw (by cases eC h;rfl) rfl rfl rfl (dt (dt (dt (hL))))))))))
theorem aqZ:∀n bu bz bw J a2 a3 r,r6 n bu bz bw J a2 a3=some r->aX ah 94 [.aM (.agg [.slice (bu.map bl),.ae 4 (bz.map hS),.ck (.mp bw)]),.int .i64 J,.int .i64 a2,.slice (a3.map aT)] (.tuple []) [.aM (.agg [.slice (r.1.map bl),.ae 4 (r.2.1.map hS),.ck (.mp r.2.2)]),.hole,.hole,.hole]:=by
 intro n;induction n with
 |zero=>intro bu bz bw J a2 a3 r h;cases(show none=some r from h)
 |succ n ih=>intro bu bz bw J a2 a3 r h;exact aqW (r6 n) ih bu bz bw J a2 a3 r h
theorem aq0 (bu bz bw J a2 a3 r) (h:KS bu bz bw J a2 a3=some r):aX ah 94 [.aM (.agg [.slice (bu.map bl),.ae 4 (bz.map hS),.ck (.mp bw)]),.int .i64 J,.int .i64 a2,.slice (a3.map aT)] (.tuple []) [.aM (.agg [.slice (r.1.map bl),.ae 4 (r.2.1.map hS),.ck (.mp r.2.2)]),.hole,.hole,.hole]:=by
 obtain⟨n,h⟩:=lO h;exact aqZ n bu bz bw J a2 a3 r h
theorem aq1 (a0 J r) (h:vc a0 J=some r):aX ah 69 [.slice (a0.map bl),bs J] (.tuple [.ae 4 (r.1.map hS),.bool r.2]) []:=by
 refine bC [0,1] [.tmp 4,.tmp 5] Tryz.func69 al3 λbt aj br=>ak ?_;refine c8 (R @XF (R (@mZ ah 157 [(35,0),(97,1),(122,2)] [.bd,.bd,(.ck .ky)] rfl rfl (by kernel_rfl)) (R @lV (R @lW (R @db (R @gA (R @List.nil_append.{0} @List.cons_append.{0}))))))) _ ?_;obtain⟨U,cc,h⟩:=an h;refine dp (b6 [(6,.aM (.agg [.slice (U.1.map bl),.ae 4 (U.2.1.map hS),.ck (.mp U.2.2)]))] (λP bg=>?_) ?_)
 ·(try simp only[aB.down,simprocAttr]);refine km [⟨.h 6 [],true,_,_⟩,⟨.int .i64 J.cA,false,_,.hole⟩,⟨.int .i64 J.Part,false,_,.hole⟩,⟨.slice (J.bK.map aT),false,_,.hole⟩] (aX.agP (aq0 a0 [] [] J.cA J.Part J.bK _ cc) (.wd (.aM (.agg (.cons (.refl _) (.cons (.hv _) (.cons (.refl _) (.nil)))))) rfl rfl (.eq rfl (.eq rfl (.eq rfl (.nil)))))) rfl rfl rfl (by simp only[aB.down,simprocAttr,lX,kT,kn,gQ,gR,gS,cR,or_true,true_or, @b0 _ bl bl (λ_=>sb _)]) rfl rfl (inl rfl) ?_;simp only[aB.down,simprocAttr,jI];exact bP trivial
 refine o8 @XE _ ?_;exact ha (aj _ (inl (Xa 4 [.ae 4 (U.2.1.map hS),.bool (decide ((U.2.1.length:Int)<=200))])))
theorem aax:∀a c,tu a c=Lib.indexByte a c
 |[],_=>rfl
 |a::x,c=>by simp only[tu,Lib.indexByte,aax x c]
theorem aq2 (a0:azc) (J:UInt8) (r:Int) (h:QJ a0 J=some r):aX ah 233 [.str a0,.int .u8 J.toNat] (.int .i64 r) []:=by
 rw[show r=Lib.indexByte a0 J from(eC h).trans (aax _ _)];exact Xy Tryz.func233 (by kernel_rfl) (by kernel_rfl) (by kernel_rfl) (E:=Extern.BytealgIndexByte.indexByte) (by kernel_rfl) a0 J _ λw=>by
  rw[Lib.run_indexByteString,show((J.toNat:Int).toNat).toUInt8=J from by simp]
theorem aq3 (a0 J r) (h:QK a0 J=some r):aX ah 204 [.str a0,.int .u8 (J.toNat:Int)] (.int .i64 r) []:=by
 refine bC [0,1] [.tmp 4] Tryz.func204 al4 λbt aj br=>ak ?_;obtain⟨U,aU,h⟩:=an h;refine cS (aq2 a0 J _ aU) _ ?_;exact cP aj [.int .i64 U]
theorem aay (a0 J r) (h:wI a0 J=some r):aX ah 174 [.str a0,.str J] (.int .i64 r) []:=by
 refine bC [0,1] [.tmp 4] Tryz.func174 al5 λbt aj br=>ak ?_;refine ak ?_;refine ay aj λ_ _ dA _=>bk dA λ_ _ bL _ _=>n7 ((J.length:Int)==0) [(0,.str a0),(1,.str J),(5,.int .i64 (J.length:Int)),(16,.bool (((J.length:Int)==0)||(J==a0)))] ?_;refine aC h (λdM h=>?_) λdM h=>?_
 .exact aO bL [.int .i64 0]
 .refine ak ?_;refine aC h (λe7 h=>?_) λe7 h=>?_
  .obtain⟨U,kD,h⟩:=an h;obtain⟨af,dB,h⟩:=an h;refine eQ kD (aq3 a0 U _ dB) _ ?_;exact cP bL [.int .i64 af]
  .refine ak ?_;refine aC h (λhd h=>?_) λhd h=>?_
   .exact aO bL [.int .i64 (-1)]
   .cases h
theorem aq4 (a0 J r) (h:KT a0 J=some r):aX ah 140 [.str a0,.str J] (.tuple [.str r.1,.str r.2.1,.bool r.2.2]) []:=by
 refine bC [0,1] [.tmp 4,.tmp 5,.tmp 6] Tryz.func140 al6 λbt aj br=>ak ?_;refine ay aj λ_ bD bf af=>?_;obtain⟨U,cc,h⟩:=an h;refine cS (aay a0 J _ cc) _ ?_;refine ak ?_;refine aC h (λdM h=>?_) λdM h=>?_
 .obtain⟨af,fC,h⟩:=an h;obtain⟨aI,jt,h⟩:=an h;refine o8 (R fC jt) _ ?_;exact cP bf [.str af,.str aI,.bool true]
 .exact aL (bD _ (inl (aO aj [.str a0,.str ([]:azc),.bool false])))
theorem aq5 (a0 J r) (h:De a0 J=some r):aX ah 95 [.str a0,.str J] (.tuple [.str r.1,.str r.2.1,.bool r.2.2]) []:=by
 refine bC [0,1] [.tmp 4,.tmp 5,.tmp 6] Tryz.func95 al7 λbt aj br=>ak ?_;obtain⟨U,aU,h⟩:=an h;refine cS (aq4 a0 J _ aU) _ ?_;exact cP aj [.str U.1,.str U.2.1,.bool U.2.2]
theorem aq6 (a0 J r) (h:QL a0 J=some r):aX ah 180 [.str a0,.str J] (.bool r) []:=by
 refine bC [0,1] [.tmp 4] Tryz.func180 al8 λbt aj br=>ak ?_;rcases dH h with⟨gj,h⟩|⟨gj,h⟩
 .obtain⟨U,cc,h⟩:=an h;refine c8 (R gj cc) _ ?_;exact cP aj [.bool (U==J)]
 .refine c8 gj _ ?_;exact cP aj [.bool false]
theorem aq7 (a0 J r) (h:QM a0 J=some r):aX ah 143 [.str a0,.str J] (.str r) []:=by
 refine bC [0,1] [.tmp 4] Tryz.func143 c143 λbt aj br=>ak ?_;refine ay aj λ_ bD bf af=>?_;obtain⟨U,cc,h⟩:=an h;refine cS (aq6 a0 J _ cc) _ ?_;refine aC h (λda h=>?_) λda h=>?_
 .obtain⟨af,cd,h⟩:=an h;refine c8 cd _ ?_;exact cP bf [.str af]
 .exact aL (bD _ (inl (aO aj [.str a0])))
theorem aq8 (a0 J r) (h:strings_TrimSuffix a0 J=some r):aX ah 98 [.str a0,.str J] (.str r) []:=by
 refine bC [0,1] [.tmp 4] Tryz.func98 al9 λbt aj br=>ak ?_;obtain⟨U,aU,h⟩:=an h;refine cS (aq7 a0 J _ aU) _ ?_;exact cP aj [.str U]
theorem aq9 (a0:azc) (J:UInt8) (r:Int) (h:QN a0 J=some r):aX ah 213 [.str a0,.int .u8 J.toNat] (.int .i64 r) []:=by
 rw[show r=((Lib.countByte a0 J:Nat):Int)from eC h];exact Xy Tryz.func213 (by kernel_rfl) (by kernel_rfl) (by kernel_rfl) (E:=Extern.BytealgCount.count) (by kernel_rfl) a0 J _ λw=>by
  rw[Lib.run_countString,show((J.toNat:Int).toNat).toUInt8=J from by simp]
theorem aaz (a0 J r) (h:G5 a0 J=some r):aX ah 179 [.str a0,.str J] (.int .i64 r) []:=by
 refine bC [0,1] [.tmp 4] Tryz.func179 al_ λbt aj br=>ak ?_;obtain⟨U,aU,h⟩:=an h;refine cS (aay a0 J _ aU) _ ?_;exact cP aj [.int .i64 U]
theorem aq_ (a0 J r) (h:QP a0 J=some r):aX ah 178 [.str a0,.str J] (.int .i64 r) []:=by
 refine bC [1] [.tmp 4] Tryz.func178 ama λbt aj br=>ak ?_;refine ay aj λ_ bD _ af=>ak ?_;refine aC h (λbT h=>?_) λbT h=>?_
 .cases h
 .refine aL (bD _ (inl (ay aj λ_ cT dn _=>ak ?_)));refine aC h (λcm h=>?_) λcm h=>?_
  .obtain⟨U,jh,h⟩:=an h;obtain⟨af,kD,h⟩:=an h;refine eQ jh (aq9 a0 U _ kD) _ ?_;exact cP dn [.int .i64 af]
  .refine aL (cT _ (inl (ak ?_)));refine bk aj λHS _ fu _ _=>?_;show bn ah (.loop ?c21) _ _;have ara:∀n vd ve,QO J n vd ve=some r->cN ah ?c21 HS (ar [(0,.str vd),(1,.str J),(5,.int .i64 ve)]):=by
    refine c7 λ_ arb vd ve h=>c6 fu λ_ eT er _=>bk er λ_ fJ gK _ _=>?_;obtain⟨aI,dV,h⟩:=an h;refine cS (aaz vd J _ dV) _ ?_;refine ay gK λ_ pa ri _=>ak ?_;refine aC h (λgr h=>?_) λgr h=>?_
    .exact aO ri [.int .i64 ve]
    .refine aL (pa _ (inl (ak ?_)));obtain⟨a1,mq,h⟩:=an h;refine qp mq _ ?_;exact fJ _ (eT _ (inr ⟨_,bE rfl,arb a1 (i64.wrap (ve+1)) h⟩))
   exact dz h λn h=>ara n a0 0 h
theorem arc (a0 J a2 a3 r) (h:QR a0 J a2 a3=some r):aX ah 142 [.str a0,.str J,.int .i64 a2,.int .i64 a3] (.ae 1 (r.map aN)) []:=by
 refine bC [1,2] [.tmp 8] Tryz.func142 amb λbt aj br=>ak ?_;refine ay aj λ_ bD bf af=>ak ?_;refine aC h (λbT h=>?_) λbT h=>?_
 .refine ak ?_;exact ha (bf _ (inr ⟨[(8,.ae 1 [])],hH [] rfl (gz (t:=8) (d:=.bd) rfl rfl (.hv _) (by decide) (hI)),qd [.ae 1 []]⟩))
 .refine aL (bD _ (inl (ay aj λ_ cT _ aZ=>ak ?_)));refine aC h (λcm h=>?_) λcm h=>?_
  .cases h
  .refine aL (cT _ (inl ?_));show bn ah (.seq _ ?c24) _ _;have yO:∀j9,KU a0 J a2 j9=some r->bn ah ?c24 bt (ar [(0,.str a0),(1,.str J),(2,.int .i64 a2),(3,.int .i64 j9)]):=by
    intro j9 h;refine c8 (R @XJ @agN) _ ?_;obtain⟨ayI,dZ,h⟩:=an h;refine se (R (rr dZ) @List.map_replicate.{0,0}) [(0,.str a0),(1,.str J),(2,.int .i64 a2),(3,.int .i64 (kZ false j9 (i64.wrap ((a0.length:Int)+1)))),(9,.ae 1 ((List.replicate (Int.toNat (kZ false j9 (i64.wrap ((a0.length:Int)+1)))) ([]:azc)).map aN))] ?_;refine ws [(0,.str a0),(1,.str J),(2,.int .i64 a2),(3,.int .i64 (i64.wrap ((kZ false j9 (i64.wrap ((a0.length:Int)+1)))-1))),(9,.ae 1 ((List.replicate (Int.toNat (kZ false j9 (i64.wrap ((a0.length:Int)+1)))) ([]:azc)).map aN))] ?_;refine ws [(0,.str a0),(1,.str J),(2,.int .i64 a2),(3,.int .i64 (i64.wrap ((kZ false j9 (i64.wrap ((a0.length:Int)+1)))-1))),(9,.ae 1 ((List.replicate (Int.toNat (kZ false j9 (i64.wrap ((a0.length:Int)+1)))) ([]:azc)).map aN)),(10,.int .i64 0)] ?_;show bn ah (.seq _ ?RC) _ _;have aaA:∀Df Aj wJ,G6 a0 J a2 j9 Df Aj wJ=some r->bn ah ?RC bt (ar [(0,.str Df),(1,.str J),(2,.int .i64 a2),(3,.int .i64 (i64.wrap ((kZ false j9 (i64.wrap ((a0.length:Int)+1)))-1))),(9,.ae 1 (Aj.map aN)),(10,.int .i64 wJ)]):=by
     intro Df Aj wJ h;obtain⟨U,eL,h⟩:=an h;refine dp (b6 [(9,.ae 1 ((List.set Aj (Int.toNat wJ) Df).map aN)),(10,.int .i64 wJ)] (λP bg=>?_) ?_)
     .simp only[aB.down,simprocAttr,eL,cb eL,db,dk];exact bP (R eL (R (cb eL) @db))
     obtain⟨af,fY,h⟩:=an h;refine dp (b6 [(8,.ae 1 (af.map aN))] (λP bg=>?_) ?_)
     .simp only[aB.down,simprocAttr,fY,ZI.down,x6];(try simp only[jB.down,simprocAttr,fY,ZI.down,x6]at bg⊢);exact bg
     exact cP aj [.ae 1 (af.map aN)]
    refine ay aj λ_ lH n8 _=>bk n8 λard _ D0 vw _=>?_;show bn ah (.loop ?HB) _ _;have Sc:∀n o5 n4 lD,Ak a0 J a2 j9 n o5 n4 lD=some r->cN ah ?HB ard (ar [(0,.str o5),(1,.str J),(2,.int .i64 a2),(3,.int .i64 (i64.wrap ((kZ false j9 (i64.wrap ((a0.length:Int)+1)))-1))),(9,.ae 1 (n4.map aN)),(10,.int .i64 lD)]):=by
     refine c7 λ_ Sd o5 n4 lD h=>c6 D0 λ_ nL nm nJ=>ay nm λ_ AV _ lC=>ak ?_;refine aC h (λpU h=>?_) λpU h=>?_
     .refine aL (AV _ (inl (bk nm λ_ rb re _ n3=>?_)));obtain⟨aI,ss,h⟩:=an h;refine cS (aaz o5 J _ ss) _ ?_;refine ay re λ_ sk _ wM=>ak ?_;refine aC h (λhC h=>?_) λhC h=>?_
      .exact cX (wM 0 _ (n3 0 _ (by decide) (nJ 0 _ (vw _ (lH _ (inr ⟨_,bE rfl,aaA o5 n4 lD h⟩))))))
      .refine aL (sk _ (inl ?_));obtain⟨a1,lI,h⟩:=an h;obtain⟨ba,hU,h⟩:=an h;refine dp (b6 [(0,.str o5),(1,.str J),(2,.int .i64 a2),(3,.int .i64 (i64.wrap ((kZ false j9 (i64.wrap ((a0.length:Int)+1)))-1))),(9,.ae 1 ((List.set n4 (Int.toNat lD) a1).map aN)),(10,.int .i64 lD),(11,.int .i64 aI)] (λP bg=>?_) ?_)
       .simp only[aB.down,simprocAttr,lI,hU,cb hU,db,dk,(show(List.map aN n4).set (Int.toNat lD) (.str a1)=List.map aN (List.set n4 (Int.toNat lD) a1)from(List.map_set ..).symm)];exact bP (R lI (R hU (R (cb hU) @db)))
       obtain⟨aZ,pT,h⟩:=an h;refine c8 pT [(0,.str aZ),(1,.str J),(2,.int .i64 a2),(3,.int .i64 (i64.wrap ((kZ false j9 (i64.wrap ((a0.length:Int)+1)))-1))),(9,.ae 1 ((List.set n4 (Int.toNat lD) a1).map aN)),(10,.int .i64 lD)] ?_;refine wr [(0,.str aZ),(1,.str J),(2,.int .i64 a2),(3,.int .i64 (i64.wrap ((kZ false j9 (i64.wrap ((a0.length:Int)+1)))-1))),(9,.ae 1 ((List.set n4 (Int.toNat lD) a1).map aN)),(10,.int .i64 (i64.wrap (lD+1)))] ?_;exact rb _ (nL _ (inr ⟨_,bE rfl,Sd aZ (List.set n4 (Int.toNat lD) a1) (i64.wrap (lD+1)) h⟩))
     .exact cX (lC 0 _ (nJ 0 _ (vw _ (lH _ (inr ⟨_,bE rfl,aaA o5 n4 lD h⟩)))))
    exact dz h λn h=>Sc n a0 (List.replicate (Int.toNat (kZ false j9 (i64.wrap ((a0.length:Int)+1)))) ([]:azc)) 0 h
   refine ay aj λ_ b2 _ _=>ak ?_;refine aC h (λwY h=>?_) λwY h=>?_
   .obtain⟨bq,arf,h⟩:=an h;refine ZA (aq_ a0 J _ arf) _ ?_;exact b2 _ (inr ⟨_,bE rfl,yO (i64.wrap (bq+1)) h⟩)
   .exact aL (b2 _ (inr ⟨_,bE rfl,yO a3 h⟩))
theorem arh (a0 J r) (h:KV a0 J=some r):aX ah 97 [.str a0,.str J] (.ae 1 (r.map aN)) []:=by
 refine bC [0,1] [.tmp 4] Tryz.func97 amc λbt aj br=>ak ?_;obtain⟨U,aU,h⟩:=an h;refine cS (arc a0 J 0 (-1) _ aU) _ ?_;exact cP aj [.ae 1 (U.map aN)]
theorem ari (a0:azc) (r:Int×Bool) (h:KW a0=some r):aX ah 141 [.str a0] (.tuple [.int .i64 r.1,.bool r.2]) []:=anc a0 r h
theorem arj (a0 r) (h:KX a0=some r):aX ah 96 [.slice (a0.map aN)] (.tuple [.ae 1 (r.1.map aT),.bool r.2]) []:=by
 refine bC [0] [.tmp 2,.tmp 3] Tryz.func96 amd λbt aj br=>ak ?_;refine ak ?_;refine ay aj λ_ fe dA _=>ak ?_;refine bk dA λra _ cG da _=>?_;show bn ah (.loop ?iA) _ _;have jb:∀n bS r7,Dg a0 n bS r7=some r->cN ah ?iA ra (ar [(4,.ae 1 (bS.map aT)),(9,.slice (a0.map aN)),(10,.int .i64 (a0.length:Int)),(11,.int .i64 r7)]):=by
  refine c7 λ_ jc bS r7 h=>c6 cG λ_ cT dn aZ=>ak ?_;refine ay dn λ_ ja _ cY=>aC h (λe7 h=>?_) λe7 h=>?_
  .refine aL (ja _ (inl (ay dn λ_ b2 cM _=>bk cM λ_ eH hT _ _=>?_)));obtain⟨U,dZ,h⟩:=an h;refine c8 dZ _ ?_;obtain⟨af,ef,h⟩:=an h;refine cS (ari U _ ef) _ ?_;refine ay hT λ_ lH n8 _=>ak ?_;refine aC h (λh7 h=>?_) λh7 h=>?_
   .refine ak ?_;exact ha (n8 _ (inr ⟨[(2,.ae 1 []),(3,.bool false)],hH [] rfl (gz (t:=2) (d:=.bd) rfl rfl (.hv _) (by decide) (cz rfl (hI))),qd [.ae 1 [],.bool false]⟩))
   .refine aL (lH _ (inl ?_));obtain⟨aoT,gF,h⟩:=an h;(try simp only[fI.down,Nat.zero_add,Nat.add_zero,reduceAdd]at gF);refine qp (R (show∀s,d_ ah s 29 1 [(0,.int .i64 af.1)]=some (.ae 1 [.int .i64 af.1],s)from λs=>by kernel_rfl) (R (@j0 ah 29 29 2 rfl rfl) (R @j1 (R @j2 (R @gA (R @all_cons (R @all_nil (R gF (@jv _ aT 1 λ_=>rfl))))))))) [(4,.ae 1 ((bS++[af.1]).map aT)),(9,.slice (a0.map aN)),(10,.int .i64 (a0.length:Int)),(11,.int .i64 r7)] ?_;refine eH _ (b2 _ (inl (wr [(4,.ae 1 ((bS++[af.1]).map aT)),(9,.slice (a0.map aN)),(10,.int .i64 (a0.length:Int)),(11,.int .i64 (i64.wrap (r7+1)))] ?_)));exact cT _ (inr ⟨_,bE rfl,jc (bS++[af.1]) (i64.wrap (r7+1)) h⟩)
  .exact cX (cY 0 _ (aZ 0 _ (da _ (fe _ (inl (aO aj [.ae 1 (bS.map aT),.bool true]))))))
 obtain⟨n,h⟩:=lO h;exact pH (inr ⟨_,hH [] rfl (gz (t:=4) (d:=.bd) (bM:=.ae 1 []) rfl rfl (.hv _) (by decide) (cz (t:=9) (d:=.slice (a0.map aN)) rfl (cz (t:=10) (d:=.int .i64 (a0.length:Int)) rfl (cz (t:=11) (d:=.int .i64 0) rfl (hI))))),jb n [] 0 h⟩)
theorem S0 (a0 r) (h:Al a0=some r):aX ah 70 [.str a0] (.tuple [.str r.1,.ae 1 (r.2.1.map aT),.bool r.2.2]) []:=by
 refine bC [0] [.tmp 2,.tmp 3,.tmp 4] Tryz.func70 c70 λbt aj br=>ak ?_;obtain⟨U,aU,h⟩:=an h;refine cS (aq5 a0 ([40]:azc) _ aU) _ ?_;refine ak ?_;have wO:∀vf,G7 a0 U vf=some r->bn ah Zl bt (ar [(0,.str a0),(5,.str U.1),(8,.ae 1 (vf.map aT))]):=by
  intro vf h;refine ay aj λ_ cT dn _=>?_;obtain⟨af,fC,h⟩:=an h;refine dp (b6 [(0,.str a0),(5,.str U.1),(8,.ae 1 (vf.map aT)),(10,.str af.1),(11,.bool af.2)] (λP bg=>?_) ?_)
  ·(try simp only[aB.down,simprocAttr]);refine dq (LU U.1 vf _ fC) rfl rfl (by simp only[aB.down,simprocAttr,Ls.down]<;>rfl) rfl (inr (by rfl)) ?_;simp only[aB.down,simprocAttr];exact bP trivial
  refine n7 (af.2) [(5,.str U.1),(8,.ae 1 (vf.map aT)),(40,.bool ((!af.2)||(!(af.1==a0))))] ?_;refine aC h (λfm h=>?_) λfm h=>?_
  .refine ak ?_;exact ha (dn _ (inr ⟨[(2,.str ([]:azc)),(3,.ae 1 []),(4,.bool false)],hH [] rfl (cz rfl (gz (t:=3) (d:=.bd) rfl rfl (.hv _) (by decide) (cz rfl (hI)))),qd [.str ([]:azc),.ae 1 [],.bool false]⟩))
  .exact aL (cT _ (inl (aO aj [.str U.1,.ae 1 (vf.map aT),.bool true])))
 refine ay aj λ_ dP cG ba=>ak ?_;refine aC h (λhd h=>?_) λhd h=>?_
 .refine ak ?_;obtain⟨aI,dV,h⟩:=an h;obtain⟨a1,eL,h⟩:=an h;obtain⟨ba,e8,h⟩:=an h;refine dp (b6 [(0,.str a0),(5,.str U.1),(8,.ae 1 (ba.1.map aT)),(9,.bool ba.2)] (λP bg=>?_) ?_)
  ·(try simp only[aB.down,simprocAttr]);refine dq (aq8 U.2.1 ([41]:azc) _ dV) (hK:= ?_);simp only[aB.down,simprocAttr];refine dq (arh aI ([44]:azc) _ eL) (hK:= ?_);simp only[aB.down,simprocAttr];refine dq (arj a1 _ e8) rfl rfl (by simp only[aB.down,simprocAttr,HE.down]<;>rfl) rfl (inr (by simp only[I.dc,I.g_, @jZ _ aT (λ_=>Le _),Bool.and_self])) ?_;simp only[aB.down,simprocAttr];exact bP trivial
  refine ak ?_;refine aC h (λvw h=>?_) λvw h=>?_
  .refine ak ?_;exact ha (cG _ (inr ⟨[(2,.str ([]:azc)),(3,.ae 1 []),(4,.bool false)],hH [] rfl (cz rfl (gz (t:=3) (d:=.bd) rfl rfl (.hv _) (by decide) (cz rfl (hI)))),qd [.str ([]:azc),.ae 1 [],.bool false]⟩))
  .exact aL (dP _ (inr ⟨_,bE rfl,wO ba.1 h⟩))
 .exact aL (dP _ (inr ⟨_,hH [] rfl (cz (t:=0) (d:=.str a0) rfl (cz (t:=5) (d:=.str U.1) rfl (gz (t:=8) (d:=.bd) (bM:=.ae 1 []) rfl rfl (.hv _) (by decide) (hI)))),wO [] h⟩))
theorem ark (a0 J r) (h:QU a0 J=some r):aX ah 146 [.slice (a0.map aN),.str J] (.int .i64 r) []:=by
 refine bC [0,1] [.tmp 4] Tryz.func146 c146 λbt aj br=>ak ?_;refine ay aj λ_ bD bf _=>ak ?_;refine bk bf λeM _ bL bT _=>?_;show bn ah (.loop ?eR) _ _;have eZ:∀n cI,Am a0 J n cI=some r->cN ah ?eR eM (ar [(0,.slice (a0.map aN)),(1,.str J),(7,.int .i64 (a0.length:Int)),(8,.int .i64 cI)]):=by
  refine c7 λ_ eI cI h=>c6 bL λ_ dP cG ba=>ak ?_;refine ay cG λ_ dN _ bq=>aC h (λcm h=>?_) λcm h=>?_
  .refine aL (dN _ (inl (ay cG λ_ cF b8 _=>bk b8 λ_ b2 cM _ _=>ak ?_)));obtain⟨U,dZ,h⟩:=an h;refine c8 dZ _ ?_;refine aC h (λhd h=>?_) λhd h=>?_
   .exact aO cM [.int .i64 cI]
   .refine aL (b2 _ (cF _ (inl (dD ?_))));exact dP _ (inr ⟨_,bE rfl,eI (i64.wrap (cI+1)) h⟩)
  .exact cX (bq 0 _ (ba 0 _ (bT _ (bD _ (inl (aO aj [.int .i64 (-1)]))))))
 exact dz h λn h=>eZ n 0 h
theorem S1 (a0 J r) (h:Dh a0 J=some r):aX ah 100 [.slice (a0.map aN),.str J] (.bool r) []:=by
 refine bC [0,1] [.tmp 4] Tryz.func100 amf λbt aj br=>ak ?_;obtain⟨U,aU,h⟩:=an h;refine cS (ark a0 J _ aU) _ ?_;exact cP aj [.bool (decide (0<=U))]
theorem aaB (a0 r) (h:KY a0=some r):aX ah 102 [.slice (a0.map bs)] (.str r) []:=by
 refine bC [0] [.tmp 2] Tryz.func102 amg λbt aj br=>ak ?_;refine ak ?_;refine ay aj λ_ fe dA aI=>ak ?_;refine bk dA λra _ cG da _=>?_;have jb:∀n b4 k_,Di a0 n b4 k_=some r->cN ah Zm ra (ar [(3,.ae 1 (b4.map aN)),(6,.slice (a0.map bs)),(7,.int .i64 (a0.length:Int)),(8,.int .i64 k_)]):=by
  refine c7 λ_ jc b4 k_ h=>c6 cG λ_ cT dn aZ=>ak ?_;refine ay dn λ_ ja _ cY=>aC h (λe7 h=>?_) λe7 h=>?_
  .refine aL (ja _ (inl (ay dn λ_ b2 cM _=>bk cM λ_ eH _ _ _=>?_)));obtain⟨U,dZ,h⟩:=an h;refine c8 dZ _ ?_;obtain⟨af,ef,h⟩:=an h;obtain⟨Ly,cJ,h⟩:=an h;(try simp only[fI.down,Nat.zero_add,Nat.add_zero,reduceAdd]at cJ);refine Aw (R (show∀s,d_ ah s 25 1 [(0,.str af)]=some (.ae 1 [.str af],s)from λs=>by kernel_rfl) (R (@j0 ah 25 25 9 rfl rfl) (R @j1 (R @j2 (R @gA (R @all_cons (R @all_nil (R cJ (@jv _ aN 1 λ_=>rfl))))))))) (aaw U _ ef) [(3,.ae 1 ((b4++[af]).map aN)),(6,.slice (a0.map bs)),(7,.int .i64 (a0.length:Int)),(8,.int .i64 k_)] ?_;refine eH _ (b2 _ (inl (wr [(3,.ae 1 ((b4++[af]).map aN)),(6,.slice (a0.map bs)),(7,.int .i64 (a0.length:Int)),(8,.int .i64 (i64.wrap (k_+1)))] ?_)));exact cT _ (inr ⟨_,bE rfl,jc (b4++[af]) (i64.wrap (k_+1)) h⟩)
  .refine cX (cY 0 _ (aZ 0 _ (da _ (fe _ (inl ?_)))));obtain⟨aI,e8,h⟩:=an h;refine dp (b6 [(2,.str aI)] (λP bg=>?_) ?_)
   ·(try simp only[aB.down,simprocAttr]);refine dq (aat b4 ([32]:azc) _ e8) rfl rfl (by simp only[aB.down,simprocAttr,HE.down]<;>rfl) rfl (inr (by rfl)) ?_;simp only[aB.down,simprocAttr];exact bP trivial
   exact cP aj [.str aI]
 obtain⟨n,h⟩:=lO h;exact pH (inr ⟨_,hH [] rfl (gz (t:=3) (d:=.bd) (bM:=.ae 1 []) rfl rfl (.hv _) (by decide) (cz (t:=6) (d:=.slice (a0.map bs)) rfl (cz (t:=7) (d:=.int .i64 (a0.length:Int)) rfl (cz (t:=8) (d:=.int .i64 0) rfl (hI))))),jb n [] 0 h⟩)
theorem aaC (bu bz bw bY bW gC gT gD J a2 a3 a4 a5 r) (h:Dk bu bz bw bY bW gC gT gD J a2 a3 a4 a5=some r):aX ah 71 [.aM (.agg [.agg [.slice (bu.map bl),.slice (bz.map dj),.slice (bw.map bI),.slice (bY.map aN),.slice (bW.map aN)],.slice (gC.map bs),.ae 4 (gT.map fN),.ck (.mp gD)]),.str J,.slice (a2.map aT),.int .i64 a3,.int .i64 a4,.slice (a5.map bs)] (.tuple []) [.aM (.agg [.agg [.slice (r.1.map bl),.slice (r.2.1.map dj),.slice (r.2.2.1.map bI),.slice (r.2.2.2.1.map aN),.slice (r.2.2.2.2.1.map aN)],.slice (r.2.2.2.2.2.1.map bs),.ae 4 (r.2.2.2.2.2.2.1.map fN),.ck (.mp r.2.2.2.2.2.2.2)]),.hole,.hole,.hole,.hole,.hole]:=by
 refine bC [0,3,4,5] [] Tryz.func71 amj λbt aj br=>ay aj λ_ mi ek U=>?_;rcases dH h with⟨gj,h⟩|⟨gj,h⟩
 .obtain⟨U,cc,h⟩:=an h;refine eQ gj (S1 bY J _ cc) _ ?_;refine aC h (λda h=>?_) λda h=>?_
  .exact ha (ek _ (inl (hx [] rfl (by cases eC h;rfl) (by decide) (hJ (jw (by cases eC h;rfl) rfl rfl rfl (dt (dt (dt (dt (dt (hL)))))))))))
  .refine aL (mi _ (inl ?_));have si:∀tv tw,qX a3 a4 a5 bu bz bw bY bW gC gT gD tv tw=some r->bn ah RG bt (ar [(0,.aM (.agg [.agg [.slice (bu.map bl),.slice (bz.map dj),.slice (bw.map bI),.slice (bY.map aN),.slice (bW.map aN)],.slice (gC.map bs),.ae 4 (gT.map fN),.ck (.mp gD)])),(1,.str tv),(2,.slice (tw.map aT)),(3,.int .i64 a3),(4,.int .i64 a4),(5,.slice (a5.map bs))]):=by
    intro tv tw h;obtain⟨af,fC,h⟩:=an h;refine cS (LU tv tw _ fC) _ ?_;obtain⟨aI,jh,h⟩:=an h;refine cS (SY gC _ jh) _ ?_;obtain⟨a1,dB,h⟩:=an h;obtain⟨ba,dZ,h⟩:=an h;obtain⟨aZ,dO,h⟩:=an h;refine dp (b6 [(0,.aM (.agg [.agg [.slice (bu.map bl),.slice (bz.map dj),.slice (bw.map bI),.slice (bY.map aN),.slice (bW.map aN)],.slice (gC.map bs),.ae 4 (gT.map fN),.ck (.mp gD)])),(3,.int .i64 a3),(4,.int .i64 a4),(5,.slice (a5.map bs)),(12,.str af.1),(14,.ae 3 ((List.set aI (Int.toNat a3) ba).map cQ))] (λP bg=>?_) ?_)
    ·(try simp only[aB.down,simprocAttr,dB,dO,cb dO,db,dk]);refine dq (H0 a1 _ dZ) (hK:= ?_);simp only[aB.down,simprocAttr,dB,dO,cb dO,db,dk];exact bP (R dB (R dO (R (cb dO) @db)))
    have yO:∀iF nh,Dj a3 a4 bu bz bw bY bW gC gT gD iF nh=some r->bn ah RF bt (ar [(0,.aM (.agg [.agg [.slice (bu.map bl),.slice (bz.map dj),.slice (bw.map bI),.slice (bY.map aN),.slice (bW.map aN)],.slice (gC.map bs),.ae 4 (gT.map fN),.ck (.mp gD)])),(3,.int .i64 a3),(4,.int .i64 a4),(12,.str iF),(14,.ae 3 (nh.map cQ))]):=by
     intro iF nh h;obtain⟨D1,dV,h⟩:=an h;(try simp only[fI.down,Nat.zero_add,Nat.add_zero,reduceAdd]at dV);obtain⟨bq,eL,h⟩:=an h;obtain⟨D1,e8,h⟩:=an h;(try simp only[fI.down,Nat.zero_add,Nat.add_zero,reduceAdd]at e8);obtain⟨D1,fY,h⟩:=an h;(try simp only[fI.down,Nat.zero_add,Nat.add_zero,reduceAdd]at fY);obtain⟨cY,gF,h⟩:=an h;obtain⟨D1,fE,h⟩:=an h;(try simp only[fI.down,Nat.zero_add,Nat.add_zero,reduceAdd]at fE);obtain⟨D1,iu,h⟩:=an h;(try simp only[fI.down,Nat.zero_add,Nat.add_zero,reduceAdd]at iu);obtain⟨dm,mq,h⟩:=an h;obtain⟨D1,iv,h⟩:=an h;(try simp only[fI.down,Nat.zero_add,Nat.add_zero,reduceAdd]at iv);refine dp (b6 [(0,.aM (.agg [.agg [.slice (bu.map bl),.slice (bz.map dj),.slice (bw.map bI),.slice (bY.map aN),.slice (bW.map aN)],.slice (gC.map bs),.ae 4 (gT.map fN),.ck (.mp gD)])),(3,.int .i64 a3),(4,.int .i64 a4),(12,.str iF),(14,.ae 3 (nh.map cQ)),(15,.str ((((((iF++([32]:azc))++bq)++([32]:azc))++cY)++([32]:azc))++dm))] (λP bg=>?_) ?_)
     ·(try simp only[aB.down,simprocAttr,dV,mL.down,e8,fY,fE,iu,iv]);refine dq (A1 a3 _ eL) (hK:= ?_);simp only[aB.down,simprocAttr,dV,mL.down,e8,fY,fE,iu,iv];refine dq (A1 a4 _ gF) (hK:= ?_);simp only[aB.down,simprocAttr,dV,mL.down,e8,fY,fE,iu,iv];refine dq (aaB nh _ mq) rfl rfl (by simp only[aB.down,simprocAttr,dV,ZJ.down,e8,fY,fE,iu,iv]<;>rfl) rfl (inr (by rfl)) ?_;simp only[aB.down,simprocAttr,dV,mL.down,e8,fY,fE,iu,iv];exact bP (R dV (R mL.down (R e8 (R fY (R fE (R iu iv))))))
     refine c8 (R @OB (R @B7 (show rG ah 122=true from by kernel_rfl))) [(0,.aM (.agg [.agg [.slice (bu.map bl),.slice (bz.map dj),.slice (bw.map bI),.slice (bY.map aN),.slice (bW.map aN)],.slice (gC.map bs),.ae 4 (gT.map fN),.ck (.mp gD)])),(3,.int .i64 a3),(4,.int .i64 a4),(12,.str iF),(14,.ae 3 (nh.map cQ)),(15,.str ((((((iF++([32]:azc))++bq)++([32]:azc))++cY)++([32]:azc))++dm)),(81,.bool (!(kg ((((((iF++([32]:azc))++bq)++([32]:azc))++cY)++([32]:azc))++dm) gD)))] ?_;refine aC h (λoM h=>?_) λoM h=>?_
     .refine c8 (R @OC (R @B7 (show rG ah 122=true from by kernel_rfl))) [(0,.aM (.agg [.agg [.slice (bu.map bl),.slice (bz.map dj),.slice (bw.map bI),.slice (bY.map aN),.slice (bW.map aN)],.slice (gC.map bs),.ae 4 (gT.map fN),.ck (.mp (kx ((((((iF++([32]:azc))++bq)++([32]:azc))++cY)++([32]:azc))++dm) true gD))])),(3,.int .i64 a3),(4,.int .i64 a4),(12,.str iF),(14,.ae 3 (nh.map cQ))] ?_;obtain⟨D1,H2,h⟩:=an h;(try simp only[fI.down,Nat.zero_add,Nat.add_zero,reduceAdd]at H2);refine ik (b6 [(0,.aM (.agg [.agg [.slice (bu.map bl),.slice (bz.map dj),.slice (bw.map bI),.slice (bY.map aN),.slice (bW.map aN)],.slice (gC.map bs),.ae 4 ((gT++[(bp.mk iF a3 a4 nh)]).map fN),.ck (.mp (kx ((((((iF++([32]:azc))++bq)++([32]:azc))++cY)++([32]:azc))++dm) true gD))]))] (λP bg=>?_) ?_)
      .simp only[aB.down,simprocAttr,Lu.down,ed,dQ,ou,H2];(try simp only[jB.down,simprocAttr,Lu.down,ed,dQ,ou,H2]at bg⊢);exact bg
      exact br _ (inl (hx [] rfl (by cases eC h;rfl) (by decide) (hJ (jw (by cases eC h;rfl) rfl rfl rfl (dt (dt (dt (dt (dt (hL))))))))))
     .exact aL (br _ (inl (hx [] rfl (by cases eC h;rfl) (by decide) (hJ (jw (by cases eC h;rfl) rfl rfl rfl (dt (dt (dt (dt (dt (hL)))))))))))
    refine ay aj λ_ fJ _ gB=>ws [(0,.aM (.agg [.agg [.slice (bu.map bl),.slice (bz.map dj),.slice (bw.map bI),.slice (bY.map aN),.slice (bW.map aN)],.slice (gC.map bs),.ae 4 (gT.map fN),.ck (.mp gD)])),(3,.int .i64 a3),(4,.int .i64 a4),(5,.slice (a5.map bs)),(12,.str af.1),(14,.ae 3 ((List.set aI (Int.toNat a3) ba).map cQ)),(54,.bool (decide (0<=a4)))] ?_;refine aC h (λHI h=>?_) λHI h=>?_
    .obtain⟨cp,hU,h⟩:=an h;obtain⟨fc,AO,h⟩:=an h;obtain⟨ko,pT,h⟩:=an h;refine ik (b6 [(0,.aM (.agg [.agg [.slice (bu.map bl),.slice (bz.map dj),.slice (bw.map bI),.slice (bY.map aN),.slice (bW.map aN)],.slice (gC.map bs),.ae 4 (gT.map fN),.ck (.mp gD)])),(3,.int .i64 a3),(4,.int .i64 a4),(12,.str af.1),(14,.ae 3 ((List.set (List.set aI (Int.toNat a3) ba) (Int.toNat a4) fc).map cQ))] (λP bg=>?_) ?_)
     ·(try simp only[aB.down,simprocAttr,hU,pT,cb pT,db,dk]);refine dq (H0 cp _ AO) (hK:= ?_);simp only[aB.down,simprocAttr,hU,pT,cb pT,db,dk];exact bP (R hU (R pT (R (cb pT) @db)))
     exact fJ _ (inr ⟨_,bE rfl,yO af.1 (List.set (List.set aI (Int.toNat a3) ba) (Int.toNat a4) fc) h⟩)
    .exact aL (fJ _ (inr ⟨_,bE rfl,yO af.1 (List.set aI (Int.toNat a3) ba) h⟩))
   refine ay aj λ_ cT _ aZ=>?_;obtain⟨lY,tJ,h⟩:=an h;refine cS (S1 bW J _ tJ) _ ?_;refine aC h (λwY h=>?_) λwY h=>?_
   .refine dD ?_;exact cT _ (inr ⟨_,hH [] rfl (cz (t:=0) (d:=.aM (.agg [.agg [.slice (bu.map bl),.slice (bz.map dj),.slice (bw.map bI),.slice (bY.map aN),.slice (bW.map aN)],.slice (gC.map bs),.ae 4 (gT.map fN),.ck (.mp gD)])) rfl (cz (t:=1) (d:=.str ([116,97,117]:azc)) rfl (gz (t:=2) (d:=.bd) (bM:=.slice []) rfl rfl (.ta) (by decide) (cz (t:=3) (d:=.int .i64 a3) rfl (cz (t:=4) (d:=.int .i64 a4) rfl (cz (t:=5) (d:=.slice (a5.map bs)) rfl (hI))))))),si ([116,97,117]:azc) [] h⟩)
   .exact aL (cT _ (inr ⟨_,bE rfl,si J a2 h⟩))
 .refine c8 gj _ ?_;refine ot rfl ?_;refine aL (mi _ (inl ?_));have si:∀tv tw,qX a3 a4 a5 bu bz bw bY bW gC gT gD tv tw=some r->bn ah RG bt (ar [(0,.aM (.agg [.agg [.slice (bu.map bl),.slice (bz.map dj),.slice (bw.map bI),.slice (bY.map aN),.slice (bW.map aN)],.slice (gC.map bs),.ae 4 (gT.map fN),.ck (.mp gD)])),(1,.str tv),(2,.slice (tw.map aT)),(3,.int .i64 a3),(4,.int .i64 a4),(5,.slice (a5.map bs))]):=by
   intro tv tw h;obtain⟨i7,yK,h⟩:=an h;refine cS (LU tv tw _ yK) _ ?_;obtain⟨gB,DS,h⟩:=an h;refine cS (SY gC _ DS) _ ?_;obtain⟨jz,HY,h⟩:=an h;obtain⟨mn,SJ,h⟩:=an h;obtain⟨qV,rh,h⟩:=an h;refine dp (b6 [(0,.aM (.agg [.agg [.slice (bu.map bl),.slice (bz.map dj),.slice (bw.map bI),.slice (bY.map aN),.slice (bW.map aN)],.slice (gC.map bs),.ae 4 (gT.map fN),.ck (.mp gD)])),(3,.int .i64 a3),(4,.int .i64 a4),(5,.slice (a5.map bs)),(12,.str i7.1),(14,.ae 3 ((List.set gB (Int.toNat a3) mn).map cQ))] (λP bg=>?_) ?_)
   ·(try simp only[aB.down,simprocAttr,HY,rh,cb rh,db,dk]);refine dq (H0 jz _ SJ) (hK:= ?_);simp only[aB.down,simprocAttr,HY,rh,cb rh,db,dk];exact bP (R HY (R rh (R (cb rh) @db)))
   have yO:∀iF nh,Dj a3 a4 bu bz bw bY bW gC gT gD iF nh=some r->bn ah RF bt (ar [(0,.aM (.agg [.agg [.slice (bu.map bl),.slice (bz.map dj),.slice (bw.map bI),.slice (bY.map aN),.slice (bW.map aN)],.slice (gC.map bs),.ae 4 (gT.map fN),.ck (.mp gD)])),(3,.int .i64 a3),(4,.int .i64 a4),(12,.str iF),(14,.ae 3 (nh.map cQ))]):=by
    intro iF nh h;obtain⟨D2,w4,h⟩:=an h;(try simp only[fI.down,Nat.zero_add,Nat.add_zero,reduceAdd]at w4);obtain⟨kV,DX,h⟩:=an h;obtain⟨D2,wW,h⟩:=an h;(try simp only[fI.down,Nat.zero_add,Nat.add_zero,reduceAdd]at wW);obtain⟨D2,nN,h⟩:=an h;(try simp only[fI.down,Nat.zero_add,Nat.add_zero,reduceAdd]at nN);obtain⟨kW,AQ,h⟩:=an h;obtain⟨D2,w1,h⟩:=an h;(try simp only[fI.down,Nat.zero_add,Nat.add_zero,reduceAdd]at w1);obtain⟨D2,pc,h⟩:=an h;(try simp only[fI.down,Nat.zero_add,Nat.add_zero,reduceAdd]at pc);obtain⟨nd,sq,h⟩:=an h;obtain⟨D2,tI,h⟩:=an h;(try simp only[fI.down,Nat.zero_add,Nat.add_zero,reduceAdd]at tI);refine dp (b6 [(0,.aM (.agg [.agg [.slice (bu.map bl),.slice (bz.map dj),.slice (bw.map bI),.slice (bY.map aN),.slice (bW.map aN)],.slice (gC.map bs),.ae 4 (gT.map fN),.ck (.mp gD)])),(3,.int .i64 a3),(4,.int .i64 a4),(12,.str iF),(14,.ae 3 (nh.map cQ)),(15,.str ((((((iF++([32]:azc))++kV)++([32]:azc))++kW)++([32]:azc))++nd))] (λP bg=>?_) ?_)
    ·(try simp only[aB.down,simprocAttr,w4,mL.down,wW,nN,w1,pc,tI]);refine dq (A1 a3 _ DX) (hK:= ?_);simp only[aB.down,simprocAttr,w4,mL.down,wW,nN,w1,pc,tI];refine dq (A1 a4 _ AQ) (hK:= ?_);simp only[aB.down,simprocAttr,w4,mL.down,wW,nN,w1,pc,tI];refine dq (aaB nh _ sq) rfl rfl (by simp only[aB.down,simprocAttr,w4,ZJ.down,wW,nN,w1,pc,tI]<;>rfl) rfl (inr (by rfl)) ?_;simp only[aB.down,simprocAttr,w4,mL.down,wW,nN,w1,pc,tI];exact bP (R w4 (R mL.down (R wW (R nN (R w1 (R pc tI))))))
    refine c8 (R @OB (R @B7 (show rG ah 122=true from by kernel_rfl))) [(0,.aM (.agg [.agg [.slice (bu.map bl),.slice (bz.map dj),.slice (bw.map bI),.slice (bY.map aN),.slice (bW.map aN)],.slice (gC.map bs),.ae 4 (gT.map fN),.ck (.mp gD)])),(3,.int .i64 a3),(4,.int .i64 a4),(12,.str iF),(14,.ae 3 (nh.map cQ)),(15,.str ((((((iF++([32]:azc))++kV)++([32]:azc))++kW)++([32]:azc))++nd)),(81,.bool (!(kg ((((((iF++([32]:azc))++kV)++([32]:azc))++kW)++([32]:azc))++nd) gD)))] ?_;refine aC h (λarl h=>?_) λarl h=>?_
    .refine c8 (R @OC (R @B7 (show rG ah 122=true from by kernel_rfl))) [(0,.aM (.agg [.agg [.slice (bu.map bl),.slice (bz.map dj),.slice (bw.map bI),.slice (bY.map aN),.slice (bW.map aN)],.slice (gC.map bs),.ae 4 (gT.map fN),.ck (.mp (kx ((((((iF++([32]:azc))++kV)++([32]:azc))++kW)++([32]:azc))++nd) true gD))])),(3,.int .i64 a3),(4,.int .i64 a4),(12,.str iF),(14,.ae 3 (nh.map cQ))] ?_;obtain⟨D2,AY,h⟩:=an h;(try simp only[fI.down,Nat.zero_add,Nat.add_zero,reduceAdd]at AY);refine ik (b6 [(0,.aM (.agg [.agg [.slice (bu.map bl),.slice (bz.map dj),.slice (bw.map bI),.slice (bY.map aN),.slice (bW.map aN)],.slice (gC.map bs),.ae 4 ((gT++[(bp.mk iF a3 a4 nh)]).map fN),.ck (.mp (kx ((((((iF++([32]:azc))++kV)++([32]:azc))++kW)++([32]:azc))++nd) true gD))]))] (λP bg=>?_) ?_)
     .simp only[aB.down,simprocAttr,Lu.down,ed,dQ,ou,AY];(try simp only[jB.down,simprocAttr,Lu.down,ed,dQ,ou,AY]at bg⊢);exact bg
     exact br _ (inl (hx [] rfl (by cases eC h;rfl) (by decide) (hJ (jw (by cases eC h;rfl) rfl rfl rfl (dt (dt (dt (dt (dt (hL))))))))))
    .exact aL (br _ (inl (hx [] rfl (by cases eC h;rfl) (by decide) (hJ (jw (by cases eC h;rfl) rfl rfl rfl (dt (dt (dt (dt (dt (hL)))))))))))
   refine ay aj λ_ aaD _ _=>ws [(0,.aM (.agg [.agg [.slice (bu.map bl),.slice (bz.map dj),.slice (bw.map bI),.slice (bY.map aN),.slice (bW.map aN)],.slice (gC.map bs),.ae 4 (gT.map fN),.ck (.mp gD)])),(3,.int .i64 a3),(4,.int .i64 a4),(5,.slice (a5.map bs)),(12,.str i7.1),(14,.ae 3 ((List.set gB (Int.toNat a3) mn).map cQ)),(54,.bool (decide (0<=a4)))] ?_;refine aC h (λn9 h=>?_) λn9 h=>?_
   .obtain⟨nJ,S2,h⟩:=an h;obtain⟨lC,H3,h⟩:=an h;obtain⟨nf,yF,h⟩:=an h;refine ik (b6 [(0,.aM (.agg [.agg [.slice (bu.map bl),.slice (bz.map dj),.slice (bw.map bI),.slice (bY.map aN),.slice (bW.map aN)],.slice (gC.map bs),.ae 4 (gT.map fN),.ck (.mp gD)])),(3,.int .i64 a3),(4,.int .i64 a4),(12,.str i7.1),(14,.ae 3 ((List.set (List.set gB (Int.toNat a3) mn) (Int.toNat a4) lC).map cQ))] (λP bg=>?_) ?_)
    ·(try simp only[aB.down,simprocAttr,S2,yF,cb yF,db,dk]);refine dq (H0 nJ _ H3) (hK:= ?_);simp only[aB.down,simprocAttr,S2,yF,cb yF,db,dk];exact bP (R S2 (R yF (R (cb yF) @db)))
    exact aaD _ (inr ⟨_,bE rfl,yO i7.1 (List.set (List.set gB (Int.toNat a3) mn) (Int.toNat a4) lC) h⟩)
   .exact aL (aaD _ (inr ⟨_,bE rfl,yO i7.1 (List.set gB (Int.toNat a3) mn) h⟩))
  refine ay aj λ_ wX _ _=>?_;obtain⟨jl,DU,h⟩:=an h;refine cS (S1 bW J _ DU) _ ?_;refine aC h (λarn h=>?_) λarn h=>?_
  .refine dD ?_;exact wX _ (inr ⟨_,hH [] rfl (cz (t:=0) (d:=.aM (.agg [.agg [.slice (bu.map bl),.slice (bz.map dj),.slice (bw.map bI),.slice (bY.map aN),.slice (bW.map aN)],.slice (gC.map bs),.ae 4 (gT.map fN),.ck (.mp gD)])) rfl (cz (t:=1) (d:=.str ([116,97,117]:azc)) rfl (gz (t:=2) (d:=.bd) (bM:=.slice []) rfl rfl (.ta) (by decide) (cz (t:=3) (d:=.int .i64 a3) rfl (cz (t:=4) (d:=.int .i64 a4) rfl (cz (t:=5) (d:=.slice (a5.map bs)) rfl (hI))))))),si ([116,97,117]:azc) [] h⟩)
  .exact aL (wX _ (inr ⟨_,bE rfl,si J a2 h⟩))
theorem aro (a0 J a2 r) (h:Yx a0 J a2=some r):aX ah 151 [bI a0,.ref (.str J),.ref (.str a2)] (.bool r) []:=by
 refine bC [0,1,2] [.tmp 4] Tryz.func151 amk λbt aj br=>ak ?_;refine Lq (a0.Left==(h1 false J a2)) (R @XJ @agO) [(4,.bool ((a0.Left==(h1 false J a2))&&(a0.cH==(h1 true J a2))))] ?_;exact cP aj [.bool ((a0.Left==(h1 false J a2))&&(a0.cH==(h1 true J a2)))]
theorem arp (a0 iR kH r) (h:QX a0 iR kH=some r):aX ah 150 [.slice (a0.map bI),.fn 151 [.ref (.str iR),.ref (.str kH)]] (.int .i64 r) []:=by
 refine bC [0,1] [.tmp 4] Tryz.func150 aml λbt aj br=>ak ?_;refine ay aj λ_ bD bf af=>ak ?_;refine bk bf λeM _ bL bT _=>?_;show bn ah (.loop ?eR) _ _;have eZ:∀n cI,Dl a0 iR kH n cI=some r->cN ah ?eR eM (ar [(0,.slice (a0.map bI)),(1,.fn 151 [.ref (.str iR),.ref (.str kH)]),(7,.int .i64 (a0.length:Int)),(8,.int .i64 cI)]):=by
  refine c7 λ_ eI cI h=>c6 bL λ_ dP cG ba=>ak ?_;refine ay cG λ_ dN _ bq=>aC h (λcm h=>?_) λcm h=>?_
  .refine aL (dN _ (inl (ay cG λ_ cF b8 _=>bk b8 λ_ b2 cM _ _=>ak ?_)));obtain⟨U,dZ,h⟩:=an h;obtain⟨af,dO,h⟩:=an h;refine eQ dZ (aro U iR kH _ dO) _ ?_;refine aC h (λe2 h=>?_) λe2 h=>?_
   .exact aO cM [.int .i64 cI]
   .refine aL (b2 _ (cF _ (inl (dD ?_))));exact dP _ (inr ⟨_,bE rfl,eI (i64.wrap (cI+1)) h⟩)
  .exact cX (bq 0 _ (ba 0 _ (bT _ (bD _ (inl (aO aj [.int .i64 (-1)]))))))
 exact dz h λn h=>eZ n 0 h
theorem arq (a0 J a2 r) (h:An a0 J a2=some r):aX ah 103 [e1 a0,.str J,.str a2] (.tuple [.str r.1,.bool r.2]) []:=by
 refine bC [0,1,2] [.tmp 6,.tmp 7] Tryz.func103 amm λbt aj br=>ak ?_;obtain⟨U,aU,h⟩:=an h;refine dp (b6 [(3,.aM (e1 a0)),(8,.int .i64 U)] (λP bg=>?_) ?_)
 ·(try simp only[aB.down,simprocAttr]);refine dq (arp a0.b_ J a2 _ aU) rfl rfl (by simp only[aB.down,simprocAttr,yB.down]<;>rfl) rfl (inr (by rfl)) ?_;simp only[aB.down,simprocAttr];exact bP trivial
 refine ay aj λ_ fi bL _=>ak ?_;refine aC h (λdM h=>?_) λdM h=>?_
 .exact aO bL [.str ([]:azc),.bool false]
 .refine aL (fi _ (inl ?_));obtain⟨af,jt,h⟩:=an h;refine c8 jt _ ?_;exact cP aj [.str af.Result,.bool true]
theorem ars (a0 J r) (h:G8 a0 J=some r):aX ah 104 [.slice (a0.map aT),.slice (J.map aT)] (.bool r) []:=by
 refine bC [0,1] [.tmp 4] Tryz.func104 amn λbt aj br=>ak ?_;refine ay aj λ_ bD bf af=>ak ?_;refine aC h (λbT h=>?_) λbT h=>?_
 .exact aO bf [.bool false]
 .refine aL (bD _ (inl (ay aj λ_ cT dn _=>ak ?_)));refine bk dn λjd _ h6 cm _=>?_;show bn ah (.loop ?hc) _ _;have hf:∀n tx,Dm a0 J n tx=some r->cN ah ?hc jd (ar [(0,.slice (a0.map aT)),(1,.slice (J.map aT)),(12,.int .i64 (a0.length:Int)),(13,.int .i64 tx)]):=by
   refine c7 λ_ gU tx h=>c6 h6 λ_ cF b8 dm=>ak ?_;refine ay b8 λ_ eH _ fc=>aC h (λfb h=>?_) λfb h=>?_
   .refine aL (eH _ (inl (ay b8 λ_ fG fu _=>bk fu λ_ eT er _ _=>ak ?_)));obtain⟨U,dV,h⟩:=an h;obtain⟨af,eL,h⟩:=an h;refine o8 (R dV eL) _ ?_;refine aC h (λfX h=>?_) λfX h=>?_
    .exact aO er [.bool false]
    .refine aL (eT _ (fG _ (inl (dD ?_))));exact cF _ (inr ⟨_,bE rfl,gU (i64.wrap (tx+1)) h⟩)
   .exact cX (fc 0 _ (dm 0 _ (cm _ (cT _ (inl (aO aj [.bool true]))))))
  exact dz h λn h=>hf n 0 h
theorem art (bu bz bw bY bW gC gT gD J a2 a3 a4 r) (h:Q1 bu bz bw bY bW gC gT gD J a2 a3 a4=some r):aX ah 72 [.aM (.agg [.agg [.slice (bu.map bl),.slice (bz.map dj),.slice (bw.map bI),.slice (bY.map aN),.slice (bW.map aN)],.slice (gC.map bs),.ae 4 (gT.map fN),.ck (.mp gD)]),.int .i64 J,.int .i64 a2,.slice (a3.map df),.slice (a4.map df)] (.tuple []) [.aM (.agg [.agg [.slice (r.1.map bl),.slice (r.2.1.map dj),.slice (r.2.2.1.map bI),.slice (r.2.2.2.1.map aN),.slice (r.2.2.2.2.1.map aN)],.slice (r.2.2.2.2.2.1.map bs),.ae 4 (r.2.2.2.2.2.2.1.map fN),.ck (.mp r.2.2.2.2.2.2.2)]),.hole,.hole,.hole,.hole]:=by
 refine bC [0,1,2,3,4] [] Tryz.func72 c72 λbt aj br=>ak ?_;refine bk aj λN0 _ bf fP af=>?_;have aru:∀n vg vh vi vj vk vl vm vn tz,tA J a2 a3 a4 n vg vh vi vj vk vl vm vn tz=some r->cN ah Zp N0 (ar [(0,.aM (.agg [.agg [.slice (vg.map bl),.slice (vh.map dj),.slice (vi.map bI),.slice (vj.map aN),.slice (vk.map aN)],.slice (vl.map bs),.ae 4 (vm.map fN),.ck (.mp vn)])),(1,.int .i64 J),(2,.int .i64 a2),(4,.slice (a4.map df)),(22,.slice (a3.map df)),(23,.int .i64 (a3.length:Int)),(24,.int .i64 tz)]):=by
  refine c7 λm3 arv vg vh vi vj vk vl vm vn tz h=>c6 bf λ_ fe dA aI=>ak ?_;refine ay dA λ_ dP _ ba=>aC h (λdM h=>?_) λdM h=>?_
  .refine aL (dP _ (inl (ay dA λ_ dN eO bq=>bk eO λ_ ja h6 _ _=>?_)));obtain⟨U,jh,h⟩:=an h;refine c8 jh _ ?_;obtain⟨af,dB,h⟩:=an h;refine cS (S0 U.Label _ dB) _ ?_;refine ak ?_;refine bk h6 λHG _ er hd _=>?_;have arw:∀n oF oG oH oI oJ pO pP pQ o6 o7,wK (tA J a2 a3 a4 m3) J a2 a3 a4 U af n oF oG oH oI oJ pO pP pQ o6 o7=some r->cN ah Zo HG (ar [(0,.aM (.agg [.agg [.slice (oF.map bl),.slice (oG.map dj),.slice (oH.map bI),.slice (oI.map aN),.slice (oJ.map aN)],.slice (pO.map bs),.ae 4 (pP.map fN),.ck (.mp pQ)])),(1,.int .i64 J),(2,.int .i64 a2),(4,.slice (a4.map df)),(11,.aM (df U)),(12,.str af.1),(13,.slice (af.2.1.map aT)),(22,.slice (a3.map df)),(23,.int .i64 (a3.length:Int)),(24,.int .i64 o6),(35,.slice (a4.map df)),(36,.int .i64 (a4.length:Int)),(37,.int .i64 o7)]):=by
    refine c7 λm19 arx oF oG oH oI oJ pO pP pQ o6 o7 h=>c6 er λHR fJ gK gB=>ak ?_;refine ay gK λ_ jN _ mn=>aC h (λh7 h=>?_) λh7 h=>?_
    .refine aL (jN _ (inl ?_));have S3:∀Dn Dp Dq Dr Ds Dt Du Dv Dw Dx,G9 (tA J a2 a3 a4 m3) (wK (tA J a2 a3 a4 m3) J a2 a3 a4 U af m19) J a2 a3 a4 U af Dn Dp Dq Dr Ds Dt Du Dv Dw Dx=some r->bn ah Zn HR (ar [(0,.aM (.agg [.agg [.slice (Dn.map bl),.slice (Dp.map dj),.slice (Dq.map bI),.slice (Dr.map aN),.slice (Ds.map aN)],.slice (Dt.map bs),.ae 4 (Du.map fN),.ck (.mp Dv)])),(1,.int .i64 J),(2,.int .i64 a2),(4,.slice (a4.map df)),(11,.aM (df U)),(12,.str af.1),(13,.slice (af.2.1.map aT)),(22,.slice (a3.map df)),(23,.int .i64 (a3.length:Int)),(24,.int .i64 Dw),(35,.slice (a4.map df)),(36,.int .i64 (a4.length:Int)),(37,.int .i64 Dx)]):=by
      intro Dn Dp Dq Dr Ds Dt Du Dv Dw Dx h;refine dD ?_;exact fJ _ (inr ⟨_,bE rfl,arx Dn Dp Dq Dr Ds Dt Du Dv Dw (i64.wrap (Dx+1)) h⟩)
     refine ay gK λ_ qq yC _=>bk yC λ_ A0 _ _ _=>?_;obtain⟨aI,iu,h⟩:=an h;refine c8 iu _ ?_;obtain⟨a1,iv,h⟩:=an h;refine cS (S0 aI.Label _ iv) _ ?_;obtain⟨ba,tD,h⟩:=an h;refine cS (arq (cL.mk oF oG oH oI oJ) af.1 a1.1 _ tD) _ ?_;rcases dH h with⟨iG,h⟩|⟨iG,h⟩
     .obtain⟨aZ,H2,h⟩:=an h;refine dp (b6 [(0,.aM (.agg [.agg [.slice (oF.map bl),.slice (oG.map dj),.slice (oH.map bI),.slice (oI.map aN),.slice (oJ.map aN)],.slice (pO.map bs),.ae 4 (pP.map fN),.ck (.mp pQ)])),(1,.int .i64 J),(2,.int .i64 a2),(4,.slice (a4.map df)),(11,.aM (df U)),(12,.str af.1),(13,.slice (af.2.1.map aT)),(16,.aM (df aI)),(20,.str ba.1),(22,.slice (a3.map df)),(23,.int .i64 (a3.length:Int)),(24,.int .i64 o6),(35,.slice (a4.map df)),(36,.int .i64 (a4.length:Int)),(37,.int .i64 o7),(63,.bool aZ)] (λP bg=>?_) ?_)
      ·(try simp only[aB.down,simprocAttr,iG]);refine hz (ars af.2.1 a1.2.1 _ H2) rfl rfl (by simp only[aB.down,simprocAttr,iG,Ls.down]<;>rfl) rfl (inr (by rfl)) ?_;simp only[aB.down,simprocAttr,iG];exact bP iG
      refine aC h (λhC h=>?_) λhC h=>?_
      .obtain⟨bq,lI,h⟩:=an h;refine ik (b6 [(0,.aM (.agg [.agg [.slice (bq.1.map bl),.slice (bq.2.1.map dj),.slice (bq.2.2.1.map bI),.slice (bq.2.2.2.1.map aN),.slice (bq.2.2.2.2.1.map aN)],.slice (bq.2.2.2.2.2.1.map bs),.ae 4 (bq.2.2.2.2.2.2.1.map fN),.ck (.mp bq.2.2.2.2.2.2.2)])),(1,.int .i64 J),(2,.int .i64 a2),(4,.slice (a4.map df)),(11,.aM (df U)),(12,.str af.1),(13,.slice (af.2.1.map aT)),(22,.slice (a3.map df)),(23,.int .i64 (a3.length:Int)),(24,.int .i64 o6),(35,.slice (a4.map df)),(36,.int .i64 (a4.length:Int)),(37,.int .i64 o7)] (λP bg=>?_) ?_)
       ·(try simp only[aB.down,simprocAttr,(show∀s,d_ ah s 32 2 [(0,.agg [.int .i64 U.Next.cA,.int .i64 U.Next.Part,.slice (U.Next.bK.map aT)]),(1,.agg [.int .i64 aI.Next.cA,.int .i64 aI.Next.Part,.slice (aI.Next.bK.map aT)])]=some (.ae 3 [.agg [.int .i64 U.Next.cA,.int .i64 U.Next.Part,.slice (U.Next.bK.map aT)],.agg [.int .i64 aI.Next.cA,.int .i64 aI.Next.Part,.slice (aI.Next.bK.map aT)]],s)from λs=>by kernel_rfl),Lv.down,I.shares]);refine km [⟨.h 0 [],true,_,_⟩,⟨.str ba.1,false,_,.hole⟩,⟨.slice (af.2.1.map aT),false,_,.hole⟩,⟨.int .i64 J,false,_,.hole⟩,⟨.int .i64 a2,false,_,.hole⟩,⟨.slice ([U.Next,aI.Next].map bs),false,_,.hole⟩] (aaC oF oG oH oI oJ pO pP pQ ba.1 af.2.1 J a2 [U.Next,aI.Next] _ lI) rfl rfl rfl (by simp only[aB.down,simprocAttr,(show∀s,d_ ah s 32 2 [(0,.agg [.int .i64 U.Next.cA,.int .i64 U.Next.Part,.slice (U.Next.bK.map aT)]),(1,.agg [.int .i64 aI.Next.cA,.int .i64 aI.Next.Part,.slice (aI.Next.bK.map aT)])]=some (.ae 3 [.agg [.int .i64 U.Next.cA,.int .i64 U.Next.Part,.slice (U.Next.bK.map aT)],.agg [.int .i64 aI.Next.cA,.int .i64 aI.Next.Part,.slice (aI.Next.bK.map aT)]],s)from λs=>by kernel_rfl),ZK.down,I.shares]) rfl rfl (inl rfl) ?_;simp only[aB.down,simprocAttr,(show∀s,d_ ah s 32 2 [(0,.agg [.int .i64 U.Next.cA,.int .i64 U.Next.Part,.slice (U.Next.bK.map aT)]),(1,.agg [.int .i64 aI.Next.cA,.int .i64 aI.Next.Part,.slice (aI.Next.bK.map aT)])]=some (.ae 3 [.agg [.int .i64 U.Next.cA,.int .i64 U.Next.Part,.slice (U.Next.bK.map aT)],.agg [.int .i64 aI.Next.cA,.int .i64 aI.Next.Part,.slice (aI.Next.bK.map aT)]],s)from λs=>by kernel_rfl),ZL.down,I.shares];exact bP (R (show∀s,d_ ah s 32 2 [(0,.agg [.int .i64 U.Next.cA,.int .i64 U.Next.Part,.slice (U.Next.bK.map aT)]),(1,.agg [.int .i64 aI.Next.cA,.int .i64 aI.Next.Part,.slice (aI.Next.bK.map aT)])]=some (.ae 3 [.agg [.int .i64 U.Next.cA,.int .i64 U.Next.Part,.slice (U.Next.bK.map aT)],.agg [.int .i64 aI.Next.cA,.int .i64 aI.Next.Part,.slice (aI.Next.bK.map aT)]],s)from λs=>by kernel_rfl) Lv.down)
       exact A0 _ (qq _ (inr ⟨_,bE rfl,S3 bq.1 bq.2.1 bq.2.2.1 bq.2.2.2.1 bq.2.2.2.2.1 bq.2.2.2.2.2.1 bq.2.2.2.2.2.2.1 bq.2.2.2.2.2.2.2 o6 o7 h⟩))
      .exact aL (A0 _ (qq _ (inr ⟨_,bE rfl,S3 oF oG oH oI oJ pO pP pQ o6 o7 h⟩)))
     .refine c8 iG _ ?_;refine ot rfl ?_;exact aL (A0 _ (qq _ (inr ⟨_,bE rfl,S3 oF oG oH oI oJ pO pP pQ o6 o7 h⟩)))
    .refine cX (mn 2 _ (gB 2 _ (hd _ (ja _ (dN _ (inl (dD ?_)))))));exact fe _ (inr ⟨_,bE rfl,arv oF oG oH oI oJ pO pP pQ (i64.wrap (o6+1)) h⟩)
   obtain⟨n,h⟩:=lO h;exact pH (inr ⟨_,hH [] rfl (cz (t:=0) (d:=.aM (.agg [.agg [.slice (vg.map bl),.slice (vh.map dj),.slice (vi.map bI),.slice (vj.map aN),.slice (vk.map aN)],.slice (vl.map bs),.ae 4 (vm.map fN),.ck (.mp vn)])) rfl (cz (t:=1) (d:=.int .i64 J) rfl (cz (t:=2) (d:=.int .i64 a2) rfl (cz (t:=4) (d:=.slice (a4.map df)) rfl (cz (t:=11) (d:=.aM (df U)) rfl (cz (t:=12) (d:=.str af.1) rfl (gz (t:=13) (d:=.ae 1 (af.2.1.map aT)) (bM:=.slice (af.2.1.map aT)) rfl rfl (Xc rfl rfl (congrArg I.slice (b0 (λ_=>jA _) _))) (by decide) (cz (t:=22) (d:=.slice (a3.map df)) rfl (cz (t:=23) (d:=.int .i64 (a3.length:Int)) rfl (cz (t:=24) (d:=.int .i64 tz) rfl (cz (t:=35) (d:=.slice (a4.map df)) rfl (cz (t:=36) (d:=.int .i64 (a4.length:Int)) rfl (cz (t:=37) (d:=.int .i64 0) rfl (hI)))))))))))))),arw n vg vh vi vj vk vl vm vn tz 0 h⟩)
  .exact cX (ba 0 _ (aI 0 _ (fP _ (br _ (inl (hx [] rfl (by cases eC h;rfl) (by decide) (hJ (jw (by cases eC h;rfl) rfl rfl rfl (dt (dt (dt (dt (hL)))))))))))))
 exact dz h λn h=>aru n bu bz bw bY bW gC gT gD 0 h
theorem ary (a0 J r) (h:KZ a0 J=some r):aX ah 37 [e1 a0,.slice (J.map bs)] (.tuple [.ae 4 (r.1.map fN),.bool r.2]) []:=by
 refine bC [0,1] [.tmp 4,.tmp 5] Tryz.func37 c37 λbt aj br=>ak ?_;refine c8 (R @XF (R (@mZ ah 124 [(39,0),(32,5),(61,6),(122,7)] [(.agg [.bd,.bd,.bd,.bd,.bd]),.bd,.bd,(.ck .ky)] rfl rfl (by kernel_rfl)) (R @lV (R @lW (R @db (R @gA (R @List.nil_append.{0} @List.cons_append.{0}))))))) _ ?_;refine ak ?_;refine ay aj λ_ fi bL a1=>ak ?_;refine bk bL λkc _ dn dM aZ=>?_;have AR:∀n lB q4 q5 q6 gn n6,qm a0 J n lB q4 q5 q6 gn n6=some r->cN ah Zr kc (ar [(1,.slice (J.map bs)),(2,.aM (e1 a0)),(6,.aM (.agg [e1 lB,.slice (q4.map bs),.ae 4 (q5.map fN),.ck (.mp q6)])),(7,.ae 1 (gn.map gq)),(24,.slice (J.map bs)),(25,.int .i64 (J.length:Int)),(26,.int .i64 n6)]):=by
  refine c7 λm10 AU lB q4 q5 q6 gn n6 h=>c6 dn λ_ dN eO bq=>ak ?_;refine ay eO λ_ cF _ dm=>aC h (λfm h=>?_) λfm h=>?_
  .refine aL (cF _ (inl (ay eO λ_ eH hT _=>bk hT λ_ hB l4 _ _=>?_)));obtain⟨U,dO,h⟩:=an h;refine c8 dO _ ?_;obtain⟨af,cJ,h⟩:=an h;refine cS (aq1 a0.cw U _ cJ) _ ?_;refine ay l4 λ_ jN kr _=>ak ?_;refine aC h (λfX h=>?_) λfX h=>?_
   .refine ak ?_;exact ha (kr _ (inr ⟨[(4,.ae 4 []),(5,.bool false)],hH [] rfl (gz (t:=4) (d:=.bd) rfl rfl (.hv _) (by decide) (cz rfl (hI))),qd [.ae 4 [],.bool false]⟩))
   .refine aL (jN _ (inr ⟨[(1,.slice (J.map bs)),(2,.aM (e1 a0)),(6,.aM (.agg [e1 lB,.slice (q4.map bs),.ae 4 (q5.map fN),.ck (.mp q6)])),(7,.ae 1 (gn.map gq)),(8,.int .i64 n6),(10,.slice (af.1.map df)),(24,.slice (J.map bs)),(25,.int .i64 (J.length:Int)),(26,.int .i64 n6),(39,.bool (!af.2))],hH [] rfl (cz rfl (cz rfl (cz rfl (cz rfl (cz rfl (gz (t:=10) (d:=.ae 4 (af.1.map hS)) (bM:=.slice (af.1.map df)) rfl rfl (x5 rfl rfl (by simp only[cR,I.share,I.shares, @b0 _ hS df (λ_=>Hx _)]<;>rfl)) (by decide) (cz rfl (cz rfl (cz rfl (cz rfl (hI))))))))))),?_⟩));obtain⟨aon,fE,h⟩:=an h;(try simp only[fI.down,Nat.zero_add,Nat.add_zero,reduceAdd]at fE);refine c8 (R (show∀s,d_ ah s 96 1 [(0,.slice (af.1.map df))]=some (.ae 1 [.slice (af.1.map df)],s)from λs=>by kernel_rfl) (R (@j0 ah 96 96 97 rfl rfl) (R @j1 (R @j2 (R @gA (R @all_cons (R @all_nil (R fE (@jv _ gq 1 λ_=>rfl))))))))) [(1,.slice (J.map bs)),(2,.aM (e1 a0)),(6,.aM (.agg [e1 lB,.slice (q4.map bs),.ae 4 (q5.map fN),.ck (.mp q6)])),(7,.ae 1 ((gn++[af.1]).map gq)),(8,.int .i64 n6),(10,.slice (af.1.map df)),(24,.slice (J.map bs)),(25,.int .i64 (J.length:Int)),(26,.int .i64 n6)] ?_;refine ws [(1,.slice (J.map bs)),(2,.aM (e1 a0)),(6,.aM (.agg [e1 lB,.slice (q4.map bs),.ae 4 (q5.map fN),.ck (.mp q6)])),(7,.ae 1 ((gn++[af.1]).map gq)),(8,.int .i64 n6),(24,.slice (J.map bs)),(25,.int .i64 (J.length:Int)),(26,.int .i64 n6),(44,.slice (af.1.map df)),(45,.int .i64 (af.1.length:Int)),(46,.int .i64 0)] ?_;refine bk l4 λSG _ yM h0 _=>?_;have arz:∀n ni r8 r9 r_ qY qk qZ q0,ys (qm a0 J m10) a0 J af n ni r8 r9 r_ qY qk qZ q0=some r->cN ah Zq SG (ar [(1,.slice (J.map bs)),(2,.aM (e1 a0)),(6,.aM (.agg [e1 ni,.slice (r8.map bs),.ae 4 (r9.map fN),.ck (.mp r_)])),(7,.ae 1 (qY.map gq)),(8,.int .i64 qk),(24,.slice (J.map bs)),(25,.int .i64 (J.length:Int)),(26,.int .i64 qZ),(44,.slice (af.1.map df)),(45,.int .i64 (af.1.length:Int)),(46,.int .i64 q0)]):=by
     refine c7 λ_ arA ni r8 r9 r_ qY qk qZ q0 h=>c6 yM λ_ AX qu jl=>ak ?_;refine ay qu λ_ HM _ pM=>aC h (λks h=>?_) λks h=>?_
     .refine aL (HM _ (inl (ay qu λ_ sk tE _=>bk tE λ_ tF _ _ _=>?_)));obtain⟨aI,wU,h⟩:=an h;refine c8 wU _ ?_;obtain⟨a1,hU,h⟩:=an h;refine ml (b6 (K:=eS _) [(1,.slice (J.map bs)),(2,.aM (e1 a0)),(6,.aM (.agg [e1 ni,.slice (r8.map bs),.ae 4 (r9.map fN),.ck (.mp r_)])),(7,.ae 1 (qY.map gq)),(8,.int .i64 qk),(13,.aM (df aI)),(14,.str a1.1),(15,.ae 1 (a1.2.1.map aT)),(24,.slice (J.map bs)),(25,.int .i64 (J.length:Int)),(26,.int .i64 qZ),(44,.slice (af.1.map df)),(45,.int .i64 (af.1.length:Int)),(46,.int .i64 q0)] (λP bg=>?_) (Js [(1,.slice (J.map bs)),(2,.aM (e1 a0)),(6,.aM (.agg [e1 ni,.slice (r8.map bs),.ae 4 (r9.map fN),.ck (.mp r_)])),(7,.ae 1 (qY.map gq)),(8,.int .i64 qk),(13,.aM (df aI)),(14,.str a1.1),(15,.slice (a1.2.1.map aT)),(24,.slice (J.map bs)),(25,.int .i64 (J.length:Int)),(26,.int .i64 qZ),(44,.slice (af.1.map df)),(45,.int .i64 (af.1.length:Int)),(46,.int .i64 q0)] (hH [] rfl (cz rfl (cz rfl (cz rfl (cz rfl (cz rfl (cz rfl (cz rfl (gz (t:=15) (d:=.ae 1 (a1.2.1.map aT)) (bM:=.slice (a1.2.1.map aT)) rfl rfl (x5 rfl rfl (by simp only[ZM.down,I.share,I.shares]<;>rfl)) (by decide) (cz rfl (cz rfl (cz rfl (cz rfl (cz rfl (cz rfl (hI)))))))))))))))) ?_))
      ·(try simp only[aB.down,simprocAttr]);refine dq (S0 aI.Label _ hU) (hK:= ?_);simp only[aB.down,simprocAttr];exact bP trivial
      obtain⟨ba,pT,h⟩:=an h;refine ik (b6 [(1,.slice (J.map bs)),(2,.aM (e1 a0)),(6,.aM (.agg [.agg [.slice (ba.1.map bl),.slice (ba.2.1.map dj),.slice (ba.2.2.1.map bI),.slice (ba.2.2.2.1.map aN),.slice (ba.2.2.2.2.1.map aN)],.slice (ba.2.2.2.2.2.1.map bs),.ae 4 (ba.2.2.2.2.2.2.1.map fN),.ck (.mp ba.2.2.2.2.2.2.2)])),(7,.ae 1 (qY.map gq)),(8,.int .i64 qk),(24,.slice (J.map bs)),(25,.int .i64 (J.length:Int)),(26,.int .i64 qZ),(44,.slice (af.1.map df)),(45,.int .i64 (af.1.length:Int)),(46,.int .i64 q0)] (λP bg=>?_) ?_)
      ·(try simp only[aB.down,simprocAttr,(show∀s,d_ ah s 32 1 [(0,.agg [.int .i64 aI.Next.cA,.int .i64 aI.Next.Part,.slice (aI.Next.bK.map aT)])]=some (.ae 3 [.agg [.int .i64 aI.Next.cA,.int .i64 aI.Next.Part,.slice (aI.Next.bK.map aT)]],s)from λs=>by kernel_rfl),Lv.down,I.shares]);refine km [⟨.h 6 [],true,_,_⟩,⟨.str a1.1,false,_,.hole⟩,⟨.slice (a1.2.1.map aT),false,_,.hole⟩,⟨.int .i64 qk,false,_,.hole⟩,⟨.int .i64 (-1),false,_,.hole⟩,⟨.slice ([aI.Next].map bs),false,_,.hole⟩] (aaC ni.cw ni.ch ni.b_ ni.cD ni.cB r8 r9 r_ a1.1 a1.2.1 qk (-1) [aI.Next] _ pT) rfl rfl rfl (by simp only[aB.down,simprocAttr,(show∀s,d_ ah s 32 1 [(0,.agg [.int .i64 aI.Next.cA,.int .i64 aI.Next.Part,.slice (aI.Next.bK.map aT)])]=some (.ae 3 [.agg [.int .i64 aI.Next.cA,.int .i64 aI.Next.Part,.slice (aI.Next.bK.map aT)]],s)from λs=>by kernel_rfl),ZK.down,I.shares]) rfl rfl (inl rfl) ?_;simp only[aB.down,simprocAttr,(show∀s,d_ ah s 32 1 [(0,.agg [.int .i64 aI.Next.cA,.int .i64 aI.Next.Part,.slice (aI.Next.bK.map aT)])]=some (.ae 3 [.agg [.int .i64 aI.Next.cA,.int .i64 aI.Next.Part,.slice (aI.Next.bK.map aT)]],s)from λs=>by kernel_rfl),ZL.down,I.shares];exact bP (R (show∀s,d_ ah s 32 1 [(0,.agg [.int .i64 aI.Next.cA,.int .i64 aI.Next.Part,.slice (aI.Next.bK.map aT)])]=some (.ae 3 [.agg [.int .i64 aI.Next.cA,.int .i64 aI.Next.Part,.slice (aI.Next.bK.map aT)]],s)from λs=>by kernel_rfl) Lv.down)
      refine tF _ (sk _ (inl (dD ?_)));exact AX _ (inr ⟨_,bE rfl,arA (cL.mk ba.1 ba.2.1 ba.2.2.1 ba.2.2.2.1 ba.2.2.2.2.1) ba.2.2.2.2.2.1 ba.2.2.2.2.2.2.1 ba.2.2.2.2.2.2.2 qY qk qZ (i64.wrap (q0+1)) h⟩)
     .refine cX (pM 2 _ (jl 2 _ (h0 _ (hB _ (eH _ (inl (dD ?_)))))));exact dN _ (inr ⟨_,bE rfl,AU ni r8 r9 r_ qY (i64.wrap (qZ+1)) h⟩)
    exact dz h λn h=>arz n lB q4 q5 q6 (gn++[af.1]) n6 n6 0 h
  .refine cX (dm 0 _ (bq 0 _ (dM _ (fi _ (inl (ay aj λ_ wQ yH _=>ak ?_))))));refine bk yH λHO _ sl wR _=>?_;have HP:∀n yt yu sa yv yw q3,wL J n yt yu sa yv yw q3=some r->cN ah Zt HO (ar [(1,.slice (J.map bs)),(6,.aM (.agg [e1 yt,.slice (yu.map bs),.ae 4 (sa.map fN),.ck (.mp yv)])),(7,.ae 1 (yw.map gq)),(68,.int .i64 (J.length:Int)),(69,.int .i64 q3)]):=by
    refine c7 λarB HQ yt yu sa yv yw q3 h=>c6 sl λ_ AJ yI AK=>ak ?_;refine ay yI λ_ yJ _ HX=>aC h (λwS h=>?_) λwS h=>?_
    .refine aL (yJ _ (inl (ay yI λ_ AL wT _=>bk wT λ_ o_ qt _ _=>ak ?_)));refine ak ?_;refine bk qt λarC _ arD Su _=>?_;have arE:∀n n5 vo vp vq q1 q2 ql tB,Ao (wL J arB) J n n5 vo vp vq q1 q2 ql tB=some r->cN ah Zs arC (ar [(1,.slice (J.map bs)),(6,.aM (.agg [e1 n5,.slice (vo.map bs),.ae 4 (vp.map fN),.ck (.mp vq)])),(7,.ae 1 (q1.map gq)),(17,.int .i64 q2),(18,.int .i64 ql),(68,.int .i64 (J.length:Int)),(69,.int .i64 tB)]):=by
      refine c7 λ_ arF n5 vo vp vq q1 q2 ql tB h=>c6 arD λ_ Sv LH arG=>ay LH λ_ Sw _ arH=>ak ?_;refine aC h (λarI h=>?_) λarI h=>?_
      .refine aL (Sw _ (inl (ay LH λ_ LJ arJ _=>bk arJ λ_ arK _ _ _=>?_)));obtain⟨aZ,pc,h⟩:=an h;obtain⟨bq,sq,h⟩:=an h;obtain⟨cY,tI,h⟩:=an h;refine Oq rfl (iP [(1,.slice (J.map bs)),(6,.aM (.agg [.agg [.slice (cY.1.map bl),.slice (cY.2.1.map dj),.slice (cY.2.2.1.map bI),.slice (cY.2.2.2.1.map aN),.slice (cY.2.2.2.2.1.map aN)],.slice (cY.2.2.2.2.2.1.map bs),.ae 4 (cY.2.2.2.2.2.2.1.map fN),.ck (.mp cY.2.2.2.2.2.2.2)])),(7,.ae 1 (q1.map gq)),(17,.int .i64 q2),(18,.int .i64 ql),(68,.int .i64 (J.length:Int)),(69,.int .i64 tB)] (λP bg=>?_) ?_)
       ·(try simp only[dh.down,simprocAttr,pc,cb pc,sq,cb sq]);refine Oz [⟨.h 6 [],true,_,_⟩,⟨.int .i64 q2,false,_,.hole⟩,⟨.int .i64 ql,false,_,.hole⟩,⟨.slice (aZ.map df),false,_,.hole⟩,⟨.slice (bq.map df),false,_,.hole⟩] (art n5.cw n5.ch n5.b_ n5.cD n5.cB vo vp vq q2 ql aZ bq _ tI) rfl rfl rfl (by simp only[dh.down,simprocAttr,pc,cb pc,sq,cb sq,lX,kT,kn,gQ,gR,gS,cR,or_true,true_or, @b0 _ bl bl (λ_=>sb _), @b0 _ dj dj (λ_=>yy _), @b0 _ bI bI (λ_=>pS _), @b0 _ aN aN (λ_=>jK _), @b0 _ aN aN (λ_=>jK _), @b0 _ bs bs (λ_=>wN _), @b0 _ fN gE (λ_=>YS _)]) rfl rfl (inl rfl) ?_;simp only[dh.down,simprocAttr,pc,cb pc,sq,cb sq,jI];refine⟨hY (by kernel_rfl),?_⟩;exact bP (R pc (R (cb pc) (R sq (cb sq))))
       refine arK _ (LJ _ (inl (dD ?_)));exact Sv _ (inr ⟨_,bE rfl,arF (cL.mk cY.1 cY.2.1 cY.2.2.1 cY.2.2.2.1 cY.2.2.2.2.1) cY.2.2.2.2.2.1 cY.2.2.2.2.2.2.1 cY.2.2.2.2.2.2.2 q1 q2 (i64.wrap (ql+1)) tB h⟩)
      .refine cX (arH 6 _ (arG 6 _ (Su _ (o_ _ (AL _ (inl (dD ?_)))))));exact AJ _ (inr ⟨_,bE rfl,HQ n5 vo vp vq q1 (i64.wrap (tB+1)) h⟩)
     exact dz h λn h=>arE n yt yu sa yv yw q3 (i64.wrap (q3+1)) q3 h
    .refine cX (HX 4 _ (AK 4 _ (wR _ (wQ _ (inl (o8 @XE _ ?_))))));exact ha (aj _ (inl (Xa 4 [.ae 4 (sa.map fN),.bool (decide ((sa.length:Int)<=200))])))
   exact dz h λn h=>HP n lB q4 q5 q6 gn 0 h
 obtain⟨n,h⟩:=lO h;exact pH (inr ⟨_,hH [] rfl (cz (t:=1) (d:=.slice (J.map bs)) rfl (cz (t:=2) (d:=.aM (e1 a0)) rfl (gz (t:=6) (d:=.aM (.agg [e1 a0,.slice (J.map bs),.bd,.ck (.mp [])])) (bM:=.aM (.agg [e1 a0,.slice (J.map bs),.ae 4 [],.ck (.mp [])])) rfl rfl (.aM (.agg (.cons (.refl _) (.cons (.refl _) (.cons (.hv _) (.cons (.refl _) (.nil))))))) (by decide) (gz (t:=7) (d:=.bd) (bM:=.ae 1 []) rfl rfl (.hv _) (by decide) (cz (t:=24) (d:=.slice (J.map bs)) rfl (cz (t:=25) (d:=.int .i64 (J.length:Int)) rfl (cz (t:=26) (d:=.int .i64 0) rfl (hI)))))))),AR n a0 J [] [] [] 0 h⟩)
theorem aaE (a0 J a2 r) (h:Hc a0 J a2=some r):aX ah 10 [e1 a0,.slice (J.map bs),.slice (a2.map aT)] (.tuple [.ae 3 (r.1.map cQ),.ae 1 (r.2.1.map aN),.int .i64 r.2.2]) []:=by
 refine bC [0,2] [.tmp 6,.tmp 7,.tmp 8] Tryz.func10 Av λbt aj br=>ak ?_;refine ay aj λ_ bD bf af=>?_;obtain⟨U,cc,h⟩:=an h;refine cS (aqE a0 J _ cc) _ ?_;refine aC h (λda h=>?_) λda h=>?_
 .refine ak ?_;exact ha (bf _ (inr ⟨[(6,.ae 3 []),(7,.ae 1 []),(8,.int .i64 1)],hH [] rfl (gz (t:=6) (d:=.bd) rfl rfl (.hv _) (by decide) (gz (t:=7) (d:=.bd) rfl rfl (.hv _) (by decide) (cz rfl (hI)))),qd [.ae 3 [],.ae 1 [],.int .i64 1]⟩))
 .refine aL (bD _ (inl ?_));obtain⟨af,fC,h⟩:=an h;refine cS (SY J _ fC) _ ?_;refine ak ?_;refine ay aj λ_ b2 cM _=>ak ?_;refine bk cM λAB _ l4 fb _=>?_;show bn ah (.loop ?RH) _ _;have arL:∀n vr pR qn,yx a0 a2 n vr pR qn=some r->cN ah ?RH AB (ar [(1,.ae 3 (vr.map cQ)),(3,.aM (e1 a0)),(9,.ae 1 (pR.map aN)),(20,.slice (a2.map aT)),(21,.int .i64 (a2.length:Int)),(22,.int .i64 qn)]):=by
   refine c7 λ_ arM vr pR qn h=>c6 l4 λ_ fG fu lY=>ak ?_;refine ay fu λ_ fJ _ gB=>aC h (λmM h=>?_) λmM h=>?_
   .refine aL (fJ _ (inl (ay fu λ_ jN kr _=>bk kr λ_ pa ri _ _=>?_)));obtain⟨aI,fY,h⟩:=an h;refine c8 fY _ ?_;obtain⟨a1,fE,h⟩:=an h;refine dp (b6 [(3,.aM (e1 a0)),(9,.ae 1 (pR.map aN)),(11,.int .i64 aI),(12,.ae 4 (a1.1.map fN)),(13,.bool a1.2),(20,.slice (a2.map aT)),(21,.int .i64 (a2.length:Int)),(22,.int .i64 qn)] (λP bg=>?_) ?_)
    ·(try simp only[aB.down,simprocAttr]);refine dq (ary a0 vr _ fE) rfl rfl (by simp only[aB.down,simprocAttr,q_.down]<;>rfl) rfl (inr (by simp only[I.dc,I.g_, @jZ _ fN (λ_=>ajM _),Bool.and_self])) ?_;simp only[aB.down,simprocAttr];exact bP trivial
    refine ay ri λ_ AV HV _=>bk HV λ_ DV yM _ _=>ak ?_;refine aC h (λjL h=>?_) λjL h=>?_
    .refine ak ?_;exact ha (yM _ (inr ⟨[(6,.ae 3 []),(7,.ae 1 []),(8,.int .i64 5)],hH [] rfl (gz (t:=6) (d:=.bd) rfl rfl (.hv _) (by decide) (gz (t:=7) (d:=.bd) rfl rfl (.hv _) (by decide) (cz rfl (hI)))),qd [.ae 3 [],.ae 1 [],.int .i64 5]⟩))
    .obtain⟨ba,oN,h⟩:=an h;refine cS (w2 aI (a1.1.length:Int) _ oN) _ ?_;refine aC h (λnM h=>?_) λnM h=>?_
     .refine ak ?_;exact ha (yM _ (inr ⟨[(6,.ae 3 []),(7,.ae 1 []),(8,.int .i64 2)],hH [] rfl (gz (t:=6) (d:=.bd) rfl rfl (.hv _) (by decide) (gz (t:=7) (d:=.bd) rfl rfl (.hv _) (by decide) (cz rfl (hI)))),qd [.ae 3 [],.ae 1 [],.int .i64 2]⟩))
     .refine aL (DV _ (AV _ (inl ?_)));obtain⟨aZ,lI,h⟩:=an h;obtain⟨apZ,hU,h⟩:=an h;(try simp only[fI.down,Nat.zero_add,Nat.add_zero,reduceAdd]at hU);refine c8 (R lI (R (cb lI) (R (show∀s,d_ ah s 25 1 [(0,.str aZ.Label)]=some (.ae 1 [.str aZ.Label],s)from λs=>by kernel_rfl) (R (@j0 ah 25 25 9 rfl rfl) (R @j1 (R @j2 (R @gA (R @all_cons (R @all_nil (R hU (@jv _ aN 1 λ_=>rfl))))))))))) [(3,.aM (e1 a0)),(9,.ae 1 ((pR++[aZ.Label]).map aN)),(11,.int .i64 aI),(12,.ae 4 (a1.1.map fN)),(20,.slice (a2.map aT)),(21,.int .i64 (a2.length:Int)),(22,.int .i64 qn)] ?_;refine qp (R lI (cb lI)) [(1,.ae 3 (aZ.State.map cQ)),(3,.aM (e1 a0)),(9,.ae 1 ((pR++[aZ.Label]).map aN)),(20,.slice (a2.map aT)),(21,.int .i64 (a2.length:Int)),(22,.int .i64 qn)] ?_;refine pa _ (jN _ (inl (wr [(1,.ae 3 (aZ.State.map cQ)),(3,.aM (e1 a0)),(9,.ae 1 ((pR++[aZ.Label]).map aN)),(20,.slice (a2.map aT)),(21,.int .i64 (a2.length:Int)),(22,.int .i64 (i64.wrap (qn+1)))] ?_)));exact fG _ (inr ⟨_,bE rfl,arM aZ.State (pR++[aZ.Label]) (i64.wrap (qn+1)) h⟩)
   .exact cX (gB 0 _ (lY 0 _ (fb _ (b2 _ (inl (aO aj [.ae 3 (vr.map cQ),.ae 1 (pR.map aN),.int .i64 0]))))))
  obtain⟨n,h⟩:=lO h;exact pH (inr ⟨_,hH [] rfl (cz (t:=1) (d:=.ae 3 (af.map cQ)) rfl (cz (t:=3) (d:=.aM (e1 a0)) rfl (gz (t:=9) (d:=.bd) (bM:=.ae 1 []) rfl rfl (.hv _) (by decide) (cz (t:=20) (d:=.slice (a2.map aT)) rfl (cz (t:=21) (d:=.int .i64 (a2.length:Int)) rfl (cz (t:=22) (d:=.int .i64 0) rfl (hI))))))),arL n af [] 0 h⟩)
theorem S4 (a0 J r) (h:Dy a0 J=some r):aX ah 14 [.slice (a0.map aT),.slice (J.map aT)] (.bool r) []:=by
 refine bC [0,1] [.tmp 4] Tryz.func14 hc λbt aj br=>ak ?_;refine ay aj λ_ bD bf af=>ak ?_;refine aC h (λbT h=>?_) λbT h=>?_
 .exact aO bf [.bool false]
 .refine aL (bD _ (inl (ay aj λ_ cT dn _=>ak ?_)));refine bk dn λjd _ h6 cm _=>?_;show bn ah (.loop ?hc) _ _;have hf:∀n ct,Q5 a0 J n ct=some r->cN ah ?hc jd (ar [(0,.slice (a0.map aT)),(1,.slice (J.map aT)),(5,.int .i64 ct)]):=by
   refine c7 λ_ gU ct h=>c6 h6 λ_ cF b8 dm=>ay b8 λ_ b2 _ cp=>ak ?_;refine aC h (λfb h=>?_) λfb h=>?_
   .refine aL (b2 _ (inl (ay b8 λ_ fG fu _=>bk fu λ_ eT er _ _=>?_)));obtain⟨U,cJ,h⟩:=an h;obtain⟨af,dV,h⟩:=an h;refine o8 (R cJ dV) _ ?_;refine aC h (λh7 h=>?_) λh7 h=>?_
    .exact aO er [.bool false]
    .refine aL (eT _ (fG _ (inl (dD ?_))));exact cF _ (inr ⟨_,bE rfl,gU (i64.wrap (ct+1)) h⟩)
   .exact cX (cp 0 _ (dm 0 _ (cm _ (cT _ (inl (aO aj [.bool true]))))))
  exact dz h λn h=>hf n 0 h
theorem arN (a0 J r) (h:Hd a0 J=some r):aX ah 39 [bs a0,bs J] (.bool r) []:=by
 refine bC [0,1] [.tmp 4] Tryz.func39 ams λbt aj br=>ak ?_;refine ay aj λ_ bD bf _=>ak ?_;refine aC h (λbT h=>?_) λbT h=>?_
 .exact aO bf [.bool false]
 .refine aL (bD _ (inl (ay aj λ_ cT dn _=>ak ?_)));refine aC h (λcm h=>?_) λcm h=>?_
  .exact aO dn [.bool false]
  .refine aL (cT _ (inl (ay aj λ_ b2 cM _=>?_)));obtain⟨U,dB,h⟩:=an h;refine cS (S4 a0.bK J.bK _ dB) _ ?_;refine aC h (λfh h=>?_) λfh h=>?_
   .exact aO cM [.bool false]
   .exact aL (b2 _ (inl (aO aj [.bool true])))
theorem vy (a0 J r) (h:Ap a0 J=some r):aX ah 11 [.slice (a0.map bs),.slice (J.map bs)] (.bool r) []:=by
 refine bC [0,1] [.tmp 4] Tryz.func11 amt λbt aj br=>ak ?_;refine ay aj λ_ bD bf af=>ak ?_;refine aC h (λbT h=>?_) λbT h=>?_
 .exact aO bf [.bool false]
 .refine aL (bD _ (inl (ay aj λ_ cT dn _=>ak ?_)));refine bk dn λjd _ h6 cm _=>?_;show bn ah (.loop ?hc) _ _;have hf:∀n ct,Q6 a0 J n ct=some r->cN ah ?hc jd (ar [(0,.slice (a0.map bs)),(1,.slice (J.map bs)),(5,.int .i64 ct)]):=by
   refine c7 λ_ gU ct h=>c6 h6 λ_ cF b8 dm=>ay b8 λ_ b2 _ cp=>ak ?_;refine aC h (λfb h=>?_) λfb h=>?_
   .refine aL (b2 _ (inl (ay b8 λ_ fG fu _=>bk fu λ_ eT er _ _=>?_)));obtain⟨U,cJ,h⟩:=an h;obtain⟨af,dV,h⟩:=an h;obtain⟨aI,eL,h⟩:=an h;refine mo (R cJ dV) (arN U af _ eL) _ ?_;refine aC h (λfX h=>?_) λfX h=>?_
    .exact aO er [.bool false]
    .refine aL (eT _ (fG _ (inl (dD ?_))));exact cF _ (inr ⟨_,bE rfl,gU (i64.wrap (ct+1)) h⟩)
   .exact cX (cp 0 _ (dm 0 _ (cm _ (cT _ (inl (aO aj [.bool true]))))))
  exact dz h λn h=>hf n 0 h
theorem yP (a0 J r) (h:vt a0 J=some r):aX ah 12 [.slice (a0.map aN),.slice (J.map aN)] (.bool r) []:=by
 refine bC [0,1] [.tmp 4] Tryz.func12 c12 λbt aj br=>ak ?_;refine ay aj λ_ bD bf af=>ak ?_;refine aC h (λbT h=>?_) λbT h=>?_
 .exact aO bf [.bool false]
 .refine aL (bD _ (inl (ay aj λ_ cT dn _=>ak ?_)));refine bk dn λjd _ h6 cm _=>?_;show bn ah (.loop ?hc) _ _;have hf:∀n ct,Q7 a0 J n ct=some r->cN ah ?hc jd (ar [(0,.slice (a0.map aN)),(1,.slice (J.map aN)),(5,.int .i64 ct)]):=by
   refine c7 λ_ gU ct h=>c6 h6 λ_ cF b8 dm=>ay b8 λ_ b2 _ cp=>ak ?_;refine aC h (λfb h=>?_) λfb h=>?_
   .refine aL (b2 _ (inl (ay b8 λ_ fG fu _=>bk fu λ_ eT er _ _=>?_)));obtain⟨U,cJ,h⟩:=an h;obtain⟨af,dV,h⟩:=an h;refine o8 (R cJ dV) _ ?_;refine aC h (λh7 h=>?_) λh7 h=>?_
    .exact aO er [.bool false]
    .refine aL (eT _ (fG _ (inl (dD ?_))));exact cF _ (inr ⟨_,bE rfl,gU (i64.wrap (ct+1)) h⟩)
   .exact cX (cp 0 _ (dm 0 _ (cm _ (cT _ (inl (aO aj [.bool true]))))))
  exact dz h λn h=>hf n 0 h
theorem arO (a0 J r) (h:He a0 J=some r):aX ah 250 [dY a0,dY J] (.bool r) []:=by
 refine bC [0,1] [.tmp 4] Tryz.func250 amu λbt aj br=>ak ?_;refine ay aj λ_ bD bf _=>ak ?_;refine aC h (λbT h=>?_) λbT h=>?_
 .exact aO bf [.bool false]
 .refine aL (bD _ (inl (ay aj λ_ cT dn _=>ak ?_)));refine aC h (λcm h=>?_) λcm h=>?_
  .exact aO dn [.bool false]
  .exact aL (cT _ (inl (aO aj [.bool true])))
theorem arP (a0 J r) (h:Hf a0 J=some r):aX ah 221 [.slice (a0.map dY),.slice (J.map dY)] (.bool r) []:=by
 refine bC [0,1] [.tmp 4] Tryz.func221 amv λbt aj br=>ak ?_;refine ay aj λ_ bD bf af=>ak ?_;refine aC h (λbT h=>?_) λbT h=>?_
 .exact aO bf [.bool false]
 .refine aL (bD _ (inl (ay aj λ_ cT dn _=>ak ?_)));refine bk dn λjd _ h6 cm _=>?_;show bn ah (.loop ?hc) _ _;have hf:∀n ct,Q8 a0 J n ct=some r->cN ah ?hc jd (ar [(0,.slice (a0.map dY)),(1,.slice (J.map dY)),(5,.int .i64 ct)]):=by
   refine c7 λ_ gU ct h=>c6 h6 λ_ cF b8 dm=>ay b8 λ_ b2 _ cp=>ak ?_;refine aC h (λfb h=>?_) λfb h=>?_
   .refine aL (b2 _ (inl (ay b8 λ_ fG fu _=>bk fu λ_ eT er _ _=>?_)));obtain⟨U,cJ,h⟩:=an h;obtain⟨af,dV,h⟩:=an h;obtain⟨aI,eL,h⟩:=an h;refine mo (R cJ dV) (arO U af _ eL) _ ?_;refine aC h (λfX h=>?_) λfX h=>?_
    .exact aO er [.bool false]
    .refine aL (eT _ (fG _ (inl (dD ?_))));exact cF _ (inr ⟨_,bE rfl,gU (i64.wrap (ct+1)) h⟩)
   .exact cX (cp 0 _ (dm 0 _ (cm _ (cT _ (inl (aO aj [.bool true]))))))
  exact dz h λn h=>hf n 0 h
theorem arQ (a0 J r) (h:K0 a0 J=some r):aX ah 186 [.slice (a0.map i_),.slice (J.map i_)] (.bool r) []:=by
 refine bC [0,1] [.tmp 4] Tryz.func186 amw λbt aj br=>ak ?_;refine ay aj λ_ bD bf af=>ak ?_;refine aC h (λbT h=>?_) λbT h=>?_
 .exact aO bf [.bool false]
 .refine aL (bD _ (inl (ay aj λ_ cT dn _=>ak ?_)));refine bk dn λjd _ h6 cm _=>?_;show bn ah (.loop ?hc) _ _;have hf:∀n ct,Q9 a0 J n ct=some r->cN ah ?hc jd (ar [(0,.slice (a0.map i_)),(1,.slice (J.map i_)),(5,.int .i64 ct)]):=by
   refine c7 λ_ gU ct h=>c6 h6 λ_ cF b8 dm=>ay b8 λ_ b2 _ cp=>ak ?_;refine aC h (λfb h=>?_) λfb h=>?_
   .refine aL (b2 _ (inl (ay b8 λ_ fG fu _=>bk fu λ_ eT er _ _=>?_)));obtain⟨U,cJ,h⟩:=an h;obtain⟨af,dV,h⟩:=an h;obtain⟨aI,eL,h⟩:=an h;refine mo (R cJ dV) (arP U af _ eL) _ ?_;refine aC h (λfX h=>?_) λfX h=>?_
    .exact aO er [.bool false]
    .refine aL (eT _ (fG _ (inl (dD ?_))));exact cF _ (inr ⟨_,bE rfl,gU (i64.wrap (ct+1)) h⟩)
   .exact cX (cp 0 _ (dm 0 _ (cm _ (cT _ (inl (aO aj [.bool true]))))))
  exact dz h λn h=>hf n 0 h
theorem arR (a0 J r) (h:Hg a0 J=some r):aX ah 152 [ey a0,ey J] (.bool r) []:=by
 refine bC [0,1] [.tmp 4] Tryz.func152 c152 λbt aj br=>ak ?_;refine ay aj λ_ bD bf _=>ak ?_;refine aC h (λbT h=>?_) λbT h=>?_
 .exact aO bf [.bool false]
 .refine aL (bD _ (inl (ay aj λ_ cT dn _=>ak ?_)));refine aC h (λcm h=>?_) λcm h=>?_
  .exact aO dn [.bool false]
  .refine aL (cT _ (inl (ay aj λ_ b2 cM _=>ak ?_)));refine aC h (λfb h=>?_) λfb h=>?_
   .exact aO cM [.bool false]
   .refine aL (b2 _ (inl (ay aj λ_ eT er _=>?_)));obtain⟨U,cJ,h⟩:=an h;refine cS (arQ a0.cl J.cl _ cJ) _ ?_;refine aC h (λjM h=>?_) λjM h=>?_
    .exact aO er [.bool false]
    .exact aL (eT _ (inl (aO aj [.bool true])))
theorem arS (a0 J r) (h:K1 a0 J=some r):aX ah 105 [.slice (a0.map ey),.slice (J.map ey)] (.bool r) []:=by
 refine bC [0,1] [.tmp 4] Tryz.func105 c105 λbt aj br=>ak ?_;refine ay aj λ_ bD bf af=>ak ?_;refine aC h (λbT h=>?_) λbT h=>?_
 .exact aO bf [.bool false]
 .refine aL (bD _ (inl (ay aj λ_ cT dn _=>ak ?_)));refine bk dn λjd _ h6 cm _=>?_;show bn ah (.loop ?hc) _ _;have hf:∀n ct,Q_ a0 J n ct=some r->cN ah ?hc jd (ar [(0,.slice (a0.map ey)),(1,.slice (J.map ey)),(5,.int .i64 ct)]):=by
   refine c7 λ_ gU ct h=>c6 h6 λ_ cF b8 dm=>ay b8 λ_ b2 _ cp=>ak ?_;refine aC h (λfb h=>?_) λfb h=>?_
   .refine aL (b2 _ (inl (ay b8 λ_ fG fu _=>bk fu λ_ eT er _ _=>?_)));obtain⟨U,cJ,h⟩:=an h;obtain⟨af,dV,h⟩:=an h;obtain⟨aI,eL,h⟩:=an h;refine mo (R cJ dV) (arR U af _ eL) _ ?_;refine aC h (λfX h=>?_) λfX h=>?_
    .exact aO er [.bool false]
    .refine aL (eT _ (fG _ (inl (dD ?_))));exact cF _ (inr ⟨_,bE rfl,gU (i64.wrap (ct+1)) h⟩)
   .exact cX (cp 0 _ (dm 0 _ (cm _ (cT _ (inl (aO aj [.bool true]))))))
  exact dz h λn h=>hf n 0 h
theorem arT (a0 J r) (h:Hh a0 J=some r):aX ah 74 [bl a0,bl J] (.bool r) []:=by
 refine bC [0,1] [.tmp 4] Tryz.func74 amx λbt aj br=>ak ?_;refine ay aj λ_ bD bf _=>ak ?_;refine aC h (λbT h=>?_) λbT h=>?_
 .exact aO bf [.bool false]
 .refine aL (bD _ (inl (ay aj λ_ cT dn _=>ak ?_)));refine aC h (λcm h=>?_) λcm h=>?_
  .exact aO dn [.bool false]
  .refine aL (cT _ (inl (ay aj λ_ b2 cM _=>?_)));obtain⟨U,dB,h⟩:=an h;refine cS (arS a0.Body J.Body _ dB) _ ?_;refine aC h (λfh h=>?_) λfh h=>?_
   .exact aO cM [.bool false]
   .exact aL (b2 _ (inl (aO aj [.bool true])))
theorem arU (a0 J r) (h:K2 a0 J=some r):aX ah 40 [.slice (a0.map bl),.slice (J.map bl)] (.bool r) []:=by
 refine bC [0,1] [.tmp 4] Tryz.func40 c40 λbt aj br=>ak ?_;refine ay aj λ_ bD bf af=>ak ?_;refine aC h (λbT h=>?_) λbT h=>?_
 .exact aO bf [.bool false]
 .refine aL (bD _ (inl (ay aj λ_ cT dn _=>ak ?_)));refine bk dn λjd _ h6 cm _=>?_;show bn ah (.loop ?hc) _ _;have hf:∀n ct,Ra a0 J n ct=some r->cN ah ?hc jd (ar [(0,.slice (a0.map bl)),(1,.slice (J.map bl)),(5,.int .i64 ct)]):=by
   refine c7 λ_ gU ct h=>c6 h6 λ_ cF b8 dm=>ay b8 λ_ b2 _ cp=>ak ?_;refine aC h (λfb h=>?_) λfb h=>?_
   .refine aL (b2 _ (inl (ay b8 λ_ fG fu _=>bk fu λ_ eT er _ _=>?_)));obtain⟨U,cJ,h⟩:=an h;obtain⟨af,dV,h⟩:=an h;obtain⟨aI,eL,h⟩:=an h;refine mo (R cJ dV) (arT U af _ eL) _ ?_;refine aC h (λfX h=>?_) λfX h=>?_
    .exact aO er [.bool false]
    .refine aL (eT _ (fG _ (inl (dD ?_))));exact cF _ (inr ⟨_,bE rfl,gU (i64.wrap (ct+1)) h⟩)
   .exact cX (cp 0 _ (dm 0 _ (cm _ (cT _ (inl (aO aj [.bool true]))))))
  exact dz h λn h=>hf n 0 h
theorem arV (a0 J r) (h:Hi a0 J=some r):aX ah 75 [dj a0,dj J] (.bool r) []:=by
 refine bC [0,1] [.tmp 4] Tryz.func75 c75 λbt aj br=>ak ?_;refine ay aj λ_ bD bf _=>ak ?_;refine aC h (λbT h=>?_) λbT h=>?_
 .exact aO bf [.bool false]
 .refine aL (bD _ (inl (ay aj λ_ cT dn _=>?_)));obtain⟨U,fC,h⟩:=an h;refine cS (S4 a0.bK J.bK _ fC) _ ?_;refine aC h (λe7 h=>?_) λe7 h=>?_
  .exact aO dn [.bool false]
  .exact aL (cT _ (inl (aO aj [.bool true])))
theorem arW (a0 J r) (h:K3 a0 J=some r):aX ah 41 [.slice (a0.map dj),.slice (J.map dj)] (.bool r) []:=by
 refine bC [0,1] [.tmp 4] Tryz.func41 amy λbt aj br=>ak ?_;refine ay aj λ_ bD bf af=>ak ?_;refine aC h (λbT h=>?_) λbT h=>?_
 .exact aO bf [.bool false]
 .refine aL (bD _ (inl (ay aj λ_ cT dn _=>ak ?_)));refine bk dn λjd _ h6 cm _=>?_;show bn ah (.loop ?hc) _ _;have hf:∀n ct,Rb a0 J n ct=some r->cN ah ?hc jd (ar [(0,.slice (a0.map dj)),(1,.slice (J.map dj)),(5,.int .i64 ct)]):=by
   refine c7 λ_ gU ct h=>c6 h6 λ_ cF b8 dm=>ay b8 λ_ b2 _ cp=>ak ?_;refine aC h (λfb h=>?_) λfb h=>?_
   .refine aL (b2 _ (inl (ay b8 λ_ fG fu _=>bk fu λ_ eT er _ _=>?_)));obtain⟨U,cJ,h⟩:=an h;obtain⟨af,dV,h⟩:=an h;obtain⟨aI,eL,h⟩:=an h;refine mo (R cJ dV) (arV U af _ eL) _ ?_;refine aC h (λfX h=>?_) λfX h=>?_
    .exact aO er [.bool false]
    .refine aL (eT _ (fG _ (inl (dD ?_))));exact cF _ (inr ⟨_,bE rfl,gU (i64.wrap (ct+1)) h⟩)
   .exact cX (cp 0 _ (dm 0 _ (cm _ (cT _ (inl (aO aj [.bool true]))))))
  exact dz h λn h=>hf n 0 h
theorem arX (a0 J r) (h:Hj a0 J=some r):aX ah 76 [bI a0,bI J] (.bool r) []:=by
 refine bC [0,1] [.tmp 4] Tryz.func76 c76 λbt aj br=>ak ?_;refine ay aj λ_ bD bf _=>ak ?_;refine aC h (λbT h=>?_) λbT h=>?_
 .exact aO bf [.bool false]
 .refine aL (bD _ (inl (ay aj λ_ cT dn _=>ak ?_)));refine aC h (λcm h=>?_) λcm h=>?_
  .exact aO dn [.bool false]
  .refine aL (cT _ (inl (ay aj λ_ b2 cM _=>ak ?_)));refine aC h (λfb h=>?_) λfb h=>?_
   .exact aO cM [.bool false]
   .exact aL (b2 _ (inl (aO aj [.bool true])))
theorem arY (a0 J r) (h:K4 a0 J=some r):aX ah 42 [.slice (a0.map bI),.slice (J.map bI)] (.bool r) []:=by
 refine bC [0,1] [.tmp 4] Tryz.func42 amz λbt aj br=>ak ?_;refine ay aj λ_ bD bf af=>ak ?_;refine aC h (λbT h=>?_) λbT h=>?_
 .exact aO bf [.bool false]
 .refine aL (bD _ (inl (ay aj λ_ cT dn _=>ak ?_)));refine bk dn λjd _ h6 cm _=>?_;show bn ah (.loop ?hc) _ _;have hf:∀n ct,Rc a0 J n ct=some r->cN ah ?hc jd (ar [(0,.slice (a0.map bI)),(1,.slice (J.map bI)),(5,.int .i64 ct)]):=by
   refine c7 λ_ gU ct h=>c6 h6 λ_ cF b8 dm=>ay b8 λ_ b2 _ cp=>ak ?_;refine aC h (λfb h=>?_) λfb h=>?_
   .refine aL (b2 _ (inl (ay b8 λ_ fG fu _=>bk fu λ_ eT er _ _=>?_)));obtain⟨U,cJ,h⟩:=an h;obtain⟨af,dV,h⟩:=an h;obtain⟨aI,eL,h⟩:=an h;refine mo (R cJ dV) (arX U af _ eL) _ ?_;refine aC h (λfX h=>?_) λfX h=>?_
    .exact aO er [.bool false]
    .refine aL (eT _ (fG _ (inl (dD ?_))));exact cF _ (inr ⟨_,bE rfl,gU (i64.wrap (ct+1)) h⟩)
   .exact cX (cp 0 _ (dm 0 _ (cm _ (cT _ (inl (aO aj [.bool true]))))))
  exact dz h λn h=>hf n 0 h
theorem arZ (a0 J r) (h:Hk a0 J=some r):aX ah 13 [e1 a0,e1 J] (.bool r) []:=by
 refine bC [0,1] [.tmp 4] Tryz.func13 amA λbt aj br=>ak ?_;refine ay aj λ_ bD bf af=>?_;obtain⟨U,cc,h⟩:=an h;refine cS (arU a0.cw J.cw _ cc) _ ?_;refine aC h (λda h=>?_) λda h=>?_
 .exact aO bf [.bool false]
 .refine aL (bD _ (inl (ay aj λ_ dN eO _=>?_)));obtain⟨af,jt,h⟩:=an h;refine cS (arW a0.ch J.ch _ jt) _ ?_;refine aC h (λfm h=>?_) λfm h=>?_
  .exact aO eO [.bool false]
  .refine aL (dN _ (inl (ay aj λ_ hB l4 _=>?_)));obtain⟨aI,dO,h⟩:=an h;refine cS (arY a0.b_ J.b_ _ dO) _ ?_;refine aC h (λe2 h=>?_) λe2 h=>?_
   .exact aO l4 [.bool false]
   .refine aL (hB _ (inl (ay aj λ_ jN kr _=>?_)));obtain⟨a1,e8,h⟩:=an h;refine cS (yP a0.cD J.cD _ e8) _ ?_;refine aC h (λgr h=>?_) λgr h=>?_
    .exact aO kr [.bool false]
    .refine aL (jN _ (inl (ay aj λ_ nL nm _=>?_)));obtain⟨ba,mq,h⟩:=an h;refine cS (yP a0.cB J.cB _ mq) _ ?_;refine aC h (λpU h=>?_) λpU h=>?_
     .exact aO nm [.bool false]
     .exact aL (nL _ (inl (aO aj [.bool true])))
theorem A2 (a0 r) (h:vu a0=some r):aX ah 46 [.int .i64 a0] (.str r) []:=by
 refine bC [] [.tmp 2] Tryz.func46 c46 λbt aj br=>ak ?_;refine ay aj λ_ bD bf _=>ak ?_;refine aC h (λbT h=>?_) λbT h=>?_
 .exact aO bf [.str ([109,48]:azc)]
 .refine aL (bD _ (inl (ak ?_)));refine ay aj λ_ dN eO _=>bk eO λjd _ h6 cm _=>?_;have hf:∀n oK ep,Aq n oK ep=some r->cN ah Zu jd (ar [(0,.int .i64 oK),(3,.str ep)]):=by
   refine c7 λ_ gU oK ep h=>c6 h6 λ_ cF b8 dm=>ay b8 λ_ b2 _ cp=>ak ?_;refine aC h (λfb h=>?_) λfb h=>?_
   .refine aL (b2 _ (inl (bk b8 λ_ fG _ _ _=>?_)));obtain⟨u16,ef,h⟩:=an h;(try simp only[fI.down,Nat.zero_add,Nat.add_zero,reduceAdd]at ef);refine c8 (R (@x3 .i64 10 (by decide)) (R (@Jn ah 3 5 .u8 rfl rfl) (R (show∀s,d_ ah s 134 1 [(0,.int .u8 (u8.wrap (i64.wrap (48+(Int.tmod oK 10)))))]=some (.ae 1 [.int .u8 (u8.wrap (i64.wrap (48+(Int.tmod oK 10))))],s)from λs=>by kernel_rfl) (R ((@Xf ah 134 9 5 rfl rfl rfl).2.2) (R @Xi (R @Xg (R ef (R @wa @wb)))))))) [(0,.int .i64 oK),(3,.str ([(pk (i64.wrap (48+(Int.tmod oK 10))))]++ep))] ?_;refine qp (@Xj .i64 10 (by decide)) [(0,.int .i64 (i64.wrap (Int.tdiv oK 10))),(3,.str ([(pk (i64.wrap (48+(Int.tmod oK 10))))]++ep))] ?_;exact fG _ (cF _ (inr ⟨_,bE rfl,gU (i64.wrap (Int.tdiv oK 10)) ([(pk (i64.wrap (48+(Int.tmod oK 10))))]++ep) h⟩))
   .refine cX (cp 0 _ (dm 0 _ (cm _ (dN _ (inl ?_)))));obtain⟨Ay,eL,h⟩:=an h;(try simp only[fI.down,Nat.zero_add,Nat.add_zero,reduceAdd]at eL);refine c8 (R eL (R @wa @wb)) [(2,.str (([109]:azc)++ep))] ?_;exact cP aj [.str (([109]:azc)++ep)]
  exact dz h λn h=>hf n a0 ([]:azc) h
theorem ar0 (a0 J r) (h:K6 a0 J=some r):aX ah 153 [.ae 2 (a0.map dY),.int .i64 J] (.int .i64 r.1) [.ae 2 (r.2.map dY),.hole]:=by
 refine bC [0] [.tmp 4] Tryz.func153 amB λbt aj br=>ak ?_;refine ay aj λ_ bD bf af=>ak ?_;refine bk bf λeM _ bL bT _=>?_;show bn ah (.loop ?eR) _ _;have eZ:∀n b9 a7 aK,Dz n b9 a7 aK=some r->cN ah ?eR eM (ar [(0,.ae 2 (b9.map dY)),(1,.int .i64 a7),(5,.int .i64 aK)]):=by
  refine c7 λ_ eI b9 a7 aK h=>c6 bL λ_ dP cG ba=>ay cG λ_ cT _ aZ=>ak ?_;refine aC h (λcm h=>?_) λcm h=>?_
  .refine aL (cT _ (inl (ay cG λ_ cF b8 _=>bk b8 λ_ b2 _ _ _=>?_)));obtain⟨U,dB,h⟩:=an h;refine dp (b6 [(0,.ae 2 ((List.set b9 (Int.toNat aK) (bV.mk a7 U.Value)).map dY)),(1,.int .i64 a7),(5,.int .i64 aK)] (λP bg=>?_) ?_)
   .simp only[aB.down,simprocAttr,dB,cb dB,db,dk];exact bP (R dB (R (cb dB) @db))
   refine ws [(0,.ae 2 ((List.set b9 (Int.toNat aK) (bV.mk a7 U.Value)).map dY)),(1,.int .i64 (i64.wrap (a7+1))),(5,.int .i64 aK)] ?_;obtain⟨af,ef,h⟩:=an h;refine dp (b6 [(0,.ae 2 ((List.set (List.set b9 (Int.toNat aK) (bV.mk a7 U.Value)) (Int.toNat aK) (bV.mk af.Kind (i64.wrap (a7+1)))).map dY)),(1,.int .i64 (i64.wrap (a7+1))),(5,.int .i64 aK)] (λP bg=>?_) ?_)
   .simp only[aB.down,simprocAttr,ef,cb ef,db,dk];exact bP (R ef (R (cb ef) @db))
   refine wr [(0,.ae 2 ((List.set (List.set b9 (Int.toNat aK) (bV.mk a7 U.Value)) (Int.toNat aK) (bV.mk af.Kind (i64.wrap (a7+1)))).map dY)),(1,.int .i64 (i64.wrap ((i64.wrap (a7+1))+1))),(5,.int .i64 aK)] ?_;refine b2 _ (cF _ (inl (wr [(0,.ae 2 ((List.set (List.set b9 (Int.toNat aK) (bV.mk a7 U.Value)) (Int.toNat aK) (bV.mk af.Kind (i64.wrap (a7+1)))).map dY)),(1,.int .i64 (i64.wrap ((i64.wrap (a7+1))+1))),(5,.int .i64 (i64.wrap (aK+1)))] ?_)));exact dP _ (inr ⟨_,bE rfl,eI (List.set (List.set b9 (Int.toNat aK) (bV.mk a7 U.Value)) (Int.toNat aK) (bV.mk af.Kind (i64.wrap (a7+1)))) (i64.wrap ((i64.wrap (a7+1))+1)) (i64.wrap (aK+1)) h⟩)
  .refine cX (aZ 0 _ (ba 0 _ (bT _ (bD _ (inl (ak ?_))))));exact ha (aj _ (inl (hx [.int .i64 a7] rfl (by cases eC h;rfl) (by decide) (hJ (jw (by cases eC h;rfl) rfl rfl rfl (dt (hL)))))))
 exact dz h λn h=>eZ n a0 J 0 h
theorem ar1 (a0 J r) (h:K7 a0 J=some r):aX ah 106 [.ae 1 (a0.map lG),.int .i64 J] (.int .i64 r.1) [.ae 1 (r.2.map lG),.hole]:=by
 refine bC [0] [.tmp 4] Tryz.func106 amC λbt aj br=>ak ?_;refine ay aj λ_ bD bf af=>ak ?_;refine bk bf λeM _ bL bT _=>?_;show bn ah (.loop ?eR) _ _;have eZ:∀n b9 a7 aK,DA n b9 a7 aK=some r->cN ah ?eR eM (ar [(0,.ae 1 (b9.map lG)),(1,.int .i64 a7),(5,.int .i64 aK)]):=by
  refine c7 λ_ eI b9 a7 aK h=>c6 bL λ_ dP cG ba=>ay cG λ_ cT _ aZ=>ak ?_;refine aC h (λcm h=>?_) λcm h=>?_
  .refine aL (cT _ (inl (ay cG λ_ cF b8 _=>bk b8 λ_ b2 _ _ _=>?_)));obtain⟨U,dB,h⟩:=an h;obtain⟨af,dZ,h⟩:=an h;refine ik (b6 [(0,.ae 1 ((List.set b9 (Int.toNat aK) af.2).map lG)),(1,.int .i64 af.1),(5,.int .i64 aK)] (λP bg=>?_) ?_)
   ·(try simp only[aB.down,simprocAttr,dB,cb dB]);refine km [⟨.h 0 [Int.toNat aK],true,_,_⟩,⟨.int .i64 a7,false,_,.hole⟩] (ar0 U a7 _ dZ) rfl rfl rfl (by simp only[aB.down,simprocAttr,dB,cb dB,kT,kn,gQ,gR,gS,cR,or_true,true_or, @b0 _ dY dY (λ_=>Hq _)]) rfl rfl (inl rfl) ?_;simp only[aB.down,simprocAttr,dB,cb dB,jI,(FJ (cb dB)),FK];exact bP (R dB (cb dB))
   refine b2 _ (cF _ (inl (wr [(0,.ae 1 ((List.set b9 (Int.toNat aK) af.2).map lG)),(1,.int .i64 af.1),(5,.int .i64 (i64.wrap (aK+1)))] ?_)));exact dP _ (inr ⟨_,bE rfl,eI (List.set b9 (Int.toNat aK) af.2) af.1 (i64.wrap (aK+1)) h⟩)
  .refine cX (aZ 0 _ (ba 0 _ (bT _ (bD _ (inl (ak ?_))))));exact ha (aj _ (inl (hx [.int .i64 a7] rfl (by cases eC h;rfl) (by decide) (hJ (jw (by cases eC h;rfl) rfl rfl rfl (dt (hL)))))))
 exact dz h λn h=>eZ n a0 J 0 h
theorem ar2 (a0 J r) (h:K8 a0 J=some r):aX ah 77 [.ae 4 (a0.map jm),.int .i64 J] (.int .i64 r.1) [.ae 4 (r.2.map jm),.hole]:=by
 refine bC [0] [.tmp 4] Tryz.func77 amD λbt aj br=>ak ?_;refine ay aj λ_ bD bf af=>ak ?_;refine bk bf λeM _ bL bT a1=>?_;show bn ah (.loop ?eR) _ _;have eZ:∀n b9 a7 aK,DB n b9 a7 aK=some r->cN ah ?eR eM (ar [(0,.ae 4 (b9.map jm)),(1,.int .i64 a7),(5,.int .i64 aK)]):=by
  refine c7 λ_ eI b9 a7 aK h=>c6 bL λ_ dP cG ba=>ay cG λ_ cT _ aZ=>ak ?_;refine aC h (λcm h=>?_) λcm h=>?_
  .refine aL (cT _ (inl (ay cG λ_ cF b8 _=>bk b8 λ_ b2 _ _ _=>?_)));obtain⟨U,dB,h⟩:=an h;refine dp (b6 [(0,.ae 4 ((List.set b9 (Int.toNat aK) (ca.mk a7 U.Number U.Name U.cl)).map jm)),(1,.int .i64 a7),(5,.int .i64 aK)] (λP bg=>?_) ?_)
   .simp only[aB.down,simprocAttr,dB,cb dB,db,dk];exact bP (R dB (R (cb dB) @db))
   refine ws [(0,.ae 4 ((List.set b9 (Int.toNat aK) (ca.mk a7 U.Number U.Name U.cl)).map jm)),(1,.int .i64 (i64.wrap (a7+1))),(5,.int .i64 aK)] ?_;obtain⟨af,ef,h⟩:=an h;refine dp (b6 [(0,.ae 4 ((List.set (List.set b9 (Int.toNat aK) (ca.mk a7 U.Number U.Name U.cl)) (Int.toNat aK) (ca.mk af.Kind (i64.wrap (a7+1)) af.Name af.cl)).map jm)),(1,.int .i64 (i64.wrap (a7+1))),(5,.int .i64 aK)] (λP bg=>?_) ?_)
   .simp only[aB.down,simprocAttr,ef,cb ef,db,dk];exact bP (R ef (R (cb ef) @db))
   refine ws [(0,.ae 4 ((List.set (List.set b9 (Int.toNat aK) (ca.mk a7 U.Number U.Name U.cl)) (Int.toNat aK) (ca.mk af.Kind (i64.wrap (a7+1)) af.Name af.cl)).map jm)),(1,.int .i64 (i64.wrap ((i64.wrap (a7+1))+1))),(5,.int .i64 aK)] ?_;obtain⟨aI,eL,h⟩:=an h;obtain⟨a1,e8,h⟩:=an h;refine dp (b6 [(0,.ae 4 ((List.set (List.set (List.set b9 (Int.toNat aK) (ca.mk a7 U.Number U.Name U.cl)) (Int.toNat aK) (ca.mk af.Kind (i64.wrap (a7+1)) af.Name af.cl)) (Int.toNat aK) (ca.mk a1.Kind a1.Number aI a1.cl)).map jm)),(1,.int .i64 (i64.wrap ((i64.wrap (a7+1))+1))),(5,.int .i64 aK)] (λP bg=>?_) ?_)
   ·(try simp only[aB.down,simprocAttr,e8,cb e8,db,dk]);refine dq (A2 (i64.wrap ((i64.wrap (a7+1))+1)) _ eL) (hK:= ?_);simp only[aB.down,simprocAttr,e8,cb e8,db,dk];exact bP (R e8 (R (cb e8) @db))
   refine ws [(0,.ae 4 ((List.set (List.set (List.set b9 (Int.toNat aK) (ca.mk a7 U.Number U.Name U.cl)) (Int.toNat aK) (ca.mk af.Kind (i64.wrap (a7+1)) af.Name af.cl)) (Int.toNat aK) (ca.mk a1.Kind a1.Number aI a1.cl)).map jm)),(1,.int .i64 (i64.wrap ((i64.wrap ((i64.wrap (a7+1))+1))+1))),(5,.int .i64 aK)] ?_;obtain⟨ba,fE,h⟩:=an h;obtain⟨aZ,iu,h⟩:=an h;refine ik (b6 [(0,.ae 4 ((List.set (List.set (List.set (List.set b9 (Int.toNat aK) (ca.mk a7 U.Number U.Name U.cl)) (Int.toNat aK) (ca.mk af.Kind (i64.wrap (a7+1)) af.Name af.cl)) (Int.toNat aK) (ca.mk a1.Kind a1.Number aI a1.cl)) (Int.toNat aK) (ca.mk ba.Kind ba.Number ba.Name aZ.2)).map jm)),(1,.int .i64 aZ.1),(5,.int .i64 aK)] (λP bg=>?_) ?_)
   ·(try simp only[aB.down,simprocAttr,fE,cb fE]);refine km [⟨.h 0 [Int.toNat aK,3],true,_,_⟩,⟨.int .i64 (i64.wrap ((i64.wrap ((i64.wrap (a7+1))+1))+1)),false,_,.hole⟩] (ar1 ba.cl (i64.wrap ((i64.wrap ((i64.wrap (a7+1))+1))+1)) _ iu) rfl rfl rfl (by simp only[aB.down,simprocAttr,fE,cb fE,kT,kn,gQ,gR,gS,cR,or_true,true_or, @b0 _ lG i_ (λ_=>Ry _)]) rfl rfl (inl rfl) ?_;simp only[aB.down,simprocAttr,fE,cb fE,jI,(FJ (cb fE)),FK];exact bP (R fE (cb fE))
   refine b2 _ (cF _ (inl (wr [(0,.ae 4 ((List.set (List.set (List.set (List.set b9 (Int.toNat aK) (ca.mk a7 U.Number U.Name U.cl)) (Int.toNat aK) (ca.mk af.Kind (i64.wrap (a7+1)) af.Name af.cl)) (Int.toNat aK) (ca.mk a1.Kind a1.Number aI a1.cl)) (Int.toNat aK) (ca.mk ba.Kind ba.Number ba.Name aZ.2)).map jm)),(1,.int .i64 aZ.1),(5,.int .i64 (i64.wrap (aK+1)))] ?_)));exact dP _ (inr ⟨_,bE rfl,eI (List.set (List.set (List.set (List.set b9 (Int.toNat aK) (ca.mk a7 U.Number U.Name U.cl)) (Int.toNat aK) (ca.mk af.Kind (i64.wrap (a7+1)) af.Name af.cl)) (Int.toNat aK) (ca.mk a1.Kind a1.Number aI a1.cl)) (Int.toNat aK) (ca.mk ba.Kind ba.Number ba.Name aZ.2)) aZ.1 (i64.wrap (aK+1)) h⟩)
  .refine cX (aZ 0 _ (ba 0 _ (bT _ (bD _ (inl (ak ?_))))));exact ha (aj _ (inl (hx [.int .i64 a7] rfl (by cases eC h;rfl) (by decide) (hJ (jw (by cases eC h;rfl) rfl rfl rfl (dt (hL)))))))
 exact dz h λn h=>eZ n a0 J 0 h
theorem ar3 (a0 J r) (h:K9 a0 J=some r):aX ah 43 [.ae 3 (a0.map hq),.int .i64 J] (.int .i64 r.1) [.ae 3 (r.2.map hq),.hole]:=by
 refine bC [0] [.tmp 4] Tryz.func43 amE λbt aj br=>ak ?_;refine ay aj λ_ bD bf af=>ak ?_;refine bk bf λeM _ bL bT a1=>?_;show bn ah (.loop ?eR) _ _;have eZ:∀n b9 a7 aK,DC n b9 a7 aK=some r->cN ah ?eR eM (ar [(0,.ae 3 (b9.map hq)),(1,.int .i64 a7),(5,.int .i64 aK)]):=by
  refine c7 λ_ eI b9 a7 aK h=>c6 bL λ_ dP cG ba=>ay cG λ_ cT _ aZ=>ak ?_;refine aC h (λcm h=>?_) λcm h=>?_
  .refine aL (cT _ (inl (ay cG λ_ cF b8 _=>bk b8 λ_ b2 _ _ _=>?_)));obtain⟨U,dB,h⟩:=an h;obtain⟨af,dZ,h⟩:=an h;refine dp (b6 [(0,.ae 3 ((List.set b9 (Int.toNat aK) (a6.mk U af.dU af.Body)).map hq)),(1,.int .i64 a7),(5,.int .i64 aK)] (λP bg=>?_) ?_)
   ·(try simp only[aB.down,simprocAttr,dZ,cb dZ,db,dk]);refine dq (A2 a7 _ dB) (hK:= ?_);simp only[aB.down,simprocAttr,dZ,cb dZ,db,dk];exact bP (R dZ (R (cb dZ) @db))
   refine ws [(0,.ae 3 ((List.set b9 (Int.toNat aK) (a6.mk U af.dU af.Body)).map hq)),(1,.int .i64 (i64.wrap (a7+1))),(5,.int .i64 aK)] ?_;obtain⟨aI,cJ,h⟩:=an h;refine dp (b6 [(0,.ae 3 ((List.set (List.set b9 (Int.toNat aK) (a6.mk U af.dU af.Body)) (Int.toNat aK) (a6.mk aI.Name (i64.wrap (a7+1)) aI.Body)).map hq)),(1,.int .i64 (i64.wrap (a7+1))),(5,.int .i64 aK)] (λP bg=>?_) ?_)
   .simp only[aB.down,simprocAttr,cJ,cb cJ,db,dk];exact bP (R cJ (R (cb cJ) @db))
   refine ws [(0,.ae 3 ((List.set (List.set b9 (Int.toNat aK) (a6.mk U af.dU af.Body)) (Int.toNat aK) (a6.mk aI.Name (i64.wrap (a7+1)) aI.Body)).map hq)),(1,.int .i64 (i64.wrap ((i64.wrap (a7+1))+1))),(5,.int .i64 aK)] ?_;obtain⟨a1,e8,h⟩:=an h;obtain⟨ba,fY,h⟩:=an h;refine ik (b6 [(0,.ae 3 ((List.set (List.set (List.set b9 (Int.toNat aK) (a6.mk U af.dU af.Body)) (Int.toNat aK) (a6.mk aI.Name (i64.wrap (a7+1)) aI.Body)) (Int.toNat aK) (a6.mk a1.Name a1.dU ba.2)).map hq)),(1,.int .i64 ba.1),(5,.int .i64 aK)] (λP bg=>?_) ?_)
   ·(try simp only[aB.down,simprocAttr,e8,cb e8]);refine km [⟨.h 0 [Int.toNat aK,2],true,_,_⟩,⟨.int .i64 (i64.wrap ((i64.wrap (a7+1))+1)),false,_,.hole⟩] (ar2 a1.Body (i64.wrap ((i64.wrap (a7+1))+1)) _ fY) rfl rfl rfl (by simp only[aB.down,simprocAttr,e8,cb e8,kT,kn,gQ,gR,gS,cR,or_true,true_or, @b0 _ jm ey (λ_=>Rz _)]) rfl rfl (inl rfl) ?_;simp only[aB.down,simprocAttr,e8,cb e8,jI,(FJ (cb e8)),FK];exact bP (R e8 (cb e8))
   refine b2 _ (cF _ (inl (wr [(0,.ae 3 ((List.set (List.set (List.set b9 (Int.toNat aK) (a6.mk U af.dU af.Body)) (Int.toNat aK) (a6.mk aI.Name (i64.wrap (a7+1)) aI.Body)) (Int.toNat aK) (a6.mk a1.Name a1.dU ba.2)).map hq)),(1,.int .i64 ba.1),(5,.int .i64 (i64.wrap (aK+1)))] ?_)));exact dP _ (inr ⟨_,bE rfl,eI (List.set (List.set (List.set b9 (Int.toNat aK) (a6.mk U af.dU af.Body)) (Int.toNat aK) (a6.mk aI.Name (i64.wrap (a7+1)) aI.Body)) (Int.toNat aK) (a6.mk a1.Name a1.dU ba.2)) ba.1 (i64.wrap (aK+1)) h⟩)
  .refine cX (aZ 0 _ (ba 0 _ (bT _ (bD _ (inl (ak ?_))))));exact ha (aj _ (inl (hx [.int .i64 a7] rfl (by cases eC h;rfl) (by decide) (hJ (jw (by cases eC h;rfl) rfl rfl rfl (dt (hL)))))))
 exact dz h λn h=>eZ n a0 J 0 h
theorem S5 (a0 J r) (h:DE a0 J=some r):aX ah 17 [.ae 1 (a0.map aT),.int .i64 J] (.int .i64 r.1) [.ae 1 (r.2.map aT),.hole]:=by
 refine bC [0] [.tmp 4] Tryz.func17 amF λbt aj br=>ak ?_;refine ay aj λ_ bD bf _=>ak ?_;refine bk bf λeM _ bL bT _=>?_;show bn ah (.loop ?eR) _ _;have eZ:∀n b9 a7 aK,DD n b9 a7 aK=some r->cN ah ?eR eM (ar [(0,.ae 1 (b9.map aT)),(1,.int .i64 a7),(5,.int .i64 aK)]):=by
  refine c7 λ_ eI b9 a7 aK h=>c6 bL λ_ dP cG ba=>ay cG λ_ cT _ aZ=>ak ?_;refine aC h (λcm h=>?_) λcm h=>?_
  .refine aL (cT _ (inl (ay cG λ_ cF b8 _=>bk b8 λ_ b2 _ _ _=>?_)));obtain⟨U,dB,h⟩:=an h;refine dp (b6 [(0,.ae 1 ((List.set b9 (Int.toNat aK) a7).map aT)),(1,.int .i64 a7),(5,.int .i64 aK)] (λP bg=>?_) ?_)
   .simp only[aB.down,simprocAttr,dB,cb dB,db,dk];exact bP (R dB (R (cb dB) @db))
   refine wr [(0,.ae 1 ((List.set b9 (Int.toNat aK) a7).map aT)),(1,.int .i64 (i64.wrap (a7+1))),(5,.int .i64 aK)] ?_;refine b2 _ (cF _ (inl (wr [(0,.ae 1 ((List.set b9 (Int.toNat aK) a7).map aT)),(1,.int .i64 (i64.wrap (a7+1))),(5,.int .i64 (i64.wrap (aK+1)))] ?_)));exact dP _ (inr ⟨_,bE rfl,eI (List.set b9 (Int.toNat aK) a7) (i64.wrap (a7+1)) (i64.wrap (aK+1)) h⟩)
  .refine cX (aZ 0 _ (ba 0 _ (bT _ (bD _ (inl (ak ?_))))));exact ha (aj _ (inl (hx [.int .i64 a7] rfl (by cases eC h;rfl) (by decide) (hJ (jw (by cases eC h;rfl) rfl rfl rfl (dt (hL)))))))
 exact dz h λn h=>eZ n a0 J 0 h
theorem ar4 (a0 J r) (h:K_ a0 J=some r):aX ah 44 [.ae 2 (a0.map hM),.int .i64 J] (.int .i64 r.1) [.ae 2 (r.2.map hM),.hole]:=by
 refine bC [0] [.tmp 4] Tryz.func44 HC λbt aj br=>ak ?_;refine ay aj λ_ bD bf af=>ak ?_;refine bk bf λeM _ bL bT _=>?_;show bn ah (.loop ?eR) _ _;have eZ:∀n b9 a7 aK,DF n b9 a7 aK=some r->cN ah ?eR eM (ar [(0,.ae 2 (b9.map hM)),(1,.int .i64 a7),(5,.int .i64 aK)]):=by
  refine c7 λ_ eI b9 a7 aK h=>c6 bL λ_ dP cG ba=>ay cG λ_ cT _ aZ=>ak ?_;refine aC h (λcm h=>?_) λcm h=>?_
  .refine aL (cT _ (inl (ay cG λ_ cF b8 _=>bk b8 λ_ b2 _ _ _=>?_)));obtain⟨U,dB,h⟩:=an h;refine dp (b6 [(0,.ae 2 ((List.set b9 (Int.toNat aK) (cV.mk a7 U.bK)).map hM)),(1,.int .i64 a7),(5,.int .i64 aK)] (λP bg=>?_) ?_)
   .simp only[aB.down,simprocAttr,dB,cb dB,db,dk];exact bP (R dB (R (cb dB) @db))
   refine ws [(0,.ae 2 ((List.set b9 (Int.toNat aK) (cV.mk a7 U.bK)).map hM)),(1,.int .i64 (i64.wrap (a7+1))),(5,.int .i64 aK)] ?_;obtain⟨af,ef,h⟩:=an h;obtain⟨aI,cJ,h⟩:=an h;refine ik (b6 [(0,.ae 2 ((List.set (List.set b9 (Int.toNat aK) (cV.mk a7 U.bK)) (Int.toNat aK) (cV.mk af.cA aI.2)).map hM)),(1,.int .i64 aI.1),(5,.int .i64 aK)] (λP bg=>?_) ?_)
   ·(try simp only[aB.down,simprocAttr,ef,cb ef]);refine km [⟨.h 0 [Int.toNat aK,1],true,_,_⟩,⟨.int .i64 (i64.wrap (a7+1)),false,_,.hole⟩] (S5 af.bK (i64.wrap (a7+1)) _ cJ) rfl rfl rfl (by simp only[aB.down,simprocAttr,ef,cb ef,ZN.down]) rfl rfl (inl rfl) ?_;simp only[aB.down,simprocAttr,ef,cb ef,jI,(FJ (cb ef)),FK];exact bP (R ef (cb ef))
   refine b2 _ (cF _ (inl (wr [(0,.ae 2 ((List.set (List.set b9 (Int.toNat aK) (cV.mk a7 U.bK)) (Int.toNat aK) (cV.mk af.cA aI.2)).map hM)),(1,.int .i64 aI.1),(5,.int .i64 (i64.wrap (aK+1)))] ?_)));exact dP _ (inr ⟨_,bE rfl,eI (List.set (List.set b9 (Int.toNat aK) (cV.mk a7 U.bK)) (Int.toNat aK) (cV.mk af.cA aI.2)) aI.1 (i64.wrap (aK+1)) h⟩)
  .refine cX (aZ 0 _ (ba 0 _ (bT _ (bD _ (inl (ak ?_))))));exact ha (aj _ (inl (hx [.int .i64 a7] rfl (by cases eC h;rfl) (by decide) (hJ (jw (by cases eC h;rfl) rfl rfl rfl (dt (hL)))))))
 exact dz h λn h=>eZ n a0 J 0 h
theorem ar5 (a0 J r) (h:La a0 J=some r):aX ah 45 [.ae 3 (a0.map bI),.int .i64 J] (.int .i64 r.1) [.ae 3 (r.2.map bI),.hole]:=by
 refine bC [0] [.tmp 4] Tryz.func45 amG λbt aj br=>ak ?_;refine ay aj λ_ bD bf af=>ak ?_;refine bk bf λeM _ bL bT a1=>?_;show bn ah (.loop ?eR) _ _;have eZ:∀n b9 a7 aK,DG n b9 a7 aK=some r->cN ah ?eR eM (ar [(0,.ae 3 (b9.map bI)),(1,.int .i64 a7),(5,.int .i64 aK)]):=by
  refine c7 λ_ eI b9 a7 aK h=>c6 bL λ_ dP cG ba=>ay cG λ_ cT _ aZ=>ak ?_;refine aC h (λcm h=>?_) λcm h=>?_
  .refine aL (cT _ (inl (ay cG λ_ cF b8 _=>bk b8 λ_ b2 _ _ _=>?_)));obtain⟨U,dB,h⟩:=an h;obtain⟨af,dZ,h⟩:=an h;refine dp (b6 [(0,.ae 3 ((List.set b9 (Int.toNat aK) (bZ.mk U af.cH af.Result)).map bI)),(1,.int .i64 a7),(5,.int .i64 aK)] (λP bg=>?_) ?_)
   ·(try simp only[aB.down,simprocAttr,dZ,cb dZ,db,dk]);refine dq (A2 a7 _ dB) (hK:= ?_);simp only[aB.down,simprocAttr,dZ,cb dZ,db,dk];exact bP (R dZ (R (cb dZ) @db))
   refine ws [(0,.ae 3 ((List.set b9 (Int.toNat aK) (bZ.mk U af.cH af.Result)).map bI)),(1,.int .i64 (i64.wrap (a7+1))),(5,.int .i64 aK)] ?_;obtain⟨aI,cJ,h⟩:=an h;obtain⟨a1,dV,h⟩:=an h;refine dp (b6 [(0,.ae 3 ((List.set (List.set b9 (Int.toNat aK) (bZ.mk U af.cH af.Result)) (Int.toNat aK) (bZ.mk a1.Left aI a1.Result)).map bI)),(1,.int .i64 (i64.wrap (a7+1))),(5,.int .i64 aK)] (λP bg=>?_) ?_)
   ·(try simp only[aB.down,simprocAttr,dV,cb dV,db,dk]);refine dq (A2 (i64.wrap (a7+1)) _ cJ) (hK:= ?_);simp only[aB.down,simprocAttr,dV,cb dV,db,dk];exact bP (R dV (R (cb dV) @db))
   refine ws [(0,.ae 3 ((List.set (List.set b9 (Int.toNat aK) (bZ.mk U af.cH af.Result)) (Int.toNat aK) (bZ.mk a1.Left aI a1.Result)).map bI)),(1,.int .i64 (i64.wrap ((i64.wrap (a7+1))+1))),(5,.int .i64 aK)] ?_;obtain⟨ba,fY,h⟩:=an h;obtain⟨aZ,gF,h⟩:=an h;refine dp (b6 [(0,.ae 3 ((List.set (List.set (List.set b9 (Int.toNat aK) (bZ.mk U af.cH af.Result)) (Int.toNat aK) (bZ.mk a1.Left aI a1.Result)) (Int.toNat aK) (bZ.mk aZ.Left aZ.cH ba)).map bI)),(1,.int .i64 (i64.wrap ((i64.wrap (a7+1))+1))),(5,.int .i64 aK)] (λP bg=>?_) ?_)
   ·(try simp only[aB.down,simprocAttr,gF,cb gF,db,dk]);refine dq (A2 (i64.wrap ((i64.wrap (a7+1))+1)) _ fY) (hK:= ?_);simp only[aB.down,simprocAttr,gF,cb gF,db,dk];exact bP (R gF (R (cb gF) @db))
   refine wr [(0,.ae 3 ((List.set (List.set (List.set b9 (Int.toNat aK) (bZ.mk U af.cH af.Result)) (Int.toNat aK) (bZ.mk a1.Left aI a1.Result)) (Int.toNat aK) (bZ.mk aZ.Left aZ.cH ba)).map bI)),(1,.int .i64 (i64.wrap ((i64.wrap ((i64.wrap (a7+1))+1))+1))),(5,.int .i64 aK)] ?_;refine b2 _ (cF _ (inl (wr [(0,.ae 3 ((List.set (List.set (List.set b9 (Int.toNat aK) (bZ.mk U af.cH af.Result)) (Int.toNat aK) (bZ.mk a1.Left aI a1.Result)) (Int.toNat aK) (bZ.mk aZ.Left aZ.cH ba)).map bI)),(1,.int .i64 (i64.wrap ((i64.wrap ((i64.wrap (a7+1))+1))+1))),(5,.int .i64 (i64.wrap (aK+1)))] ?_)));exact dP _ (inr ⟨_,bE rfl,eI (List.set (List.set (List.set b9 (Int.toNat aK) (bZ.mk U af.cH af.Result)) (Int.toNat aK) (bZ.mk a1.Left aI a1.Result)) (Int.toNat aK) (bZ.mk aZ.Left aZ.cH ba)) (i64.wrap ((i64.wrap ((i64.wrap (a7+1))+1))+1)) (i64.wrap (aK+1)) h⟩)
  .refine cX (aZ 0 _ (ba 0 _ (bT _ (bD _ (inl (ak ?_))))));exact ha (aj _ (inl (hx [.int .i64 a7] rfl (by cases eC h;rfl) (by decide) (hJ (jw (by cases eC h;rfl) rfl rfl rfl (dt (hL)))))))
 exact dz h λn h=>eZ n a0 J 0 h
theorem S6 (a0 J r) (h:DI a0 J=some r):aX ah 18 [.ae 1 (a0.map aN),.int .i64 J] (.int .i64 r.1) [.ae 1 (r.2.map aN),.hole]:=by
 refine bC [0] [.tmp 4] Tryz.func18 RH λbt aj br=>ak ?_;refine ay aj λ_ bD bf af=>ak ?_;refine bk bf λeM _ bL bT _=>?_;show bn ah (.loop ?eR) _ _;have eZ:∀n b9 a7 aK,DH n b9 a7 aK=some r->cN ah ?eR eM (ar [(0,.ae 1 (b9.map aN)),(1,.int .i64 a7),(5,.int .i64 aK)]):=by
  refine c7 λ_ eI b9 a7 aK h=>c6 bL λ_ dP cG ba=>ay cG λ_ cT _ aZ=>ak ?_;refine aC h (λcm h=>?_) λcm h=>?_
  .refine aL (cT _ (inl (ay cG λ_ cF b8 _=>bk b8 λ_ b2 _ _ _=>?_)));obtain⟨U,dB,h⟩:=an h;obtain⟨af,dZ,h⟩:=an h;refine dp (b6 [(0,.ae 1 ((List.set b9 (Int.toNat aK) U).map aN)),(1,.int .i64 a7),(5,.int .i64 aK)] (λP bg=>?_) ?_)
   ·(try simp only[aB.down,simprocAttr,dZ,cb dZ,db,dk]);refine dq (A2 a7 _ dB) (hK:= ?_);simp only[aB.down,simprocAttr,dZ,cb dZ,db,dk];exact bP (R dZ (R (cb dZ) @db))
   refine wr [(0,.ae 1 ((List.set b9 (Int.toNat aK) U).map aN)),(1,.int .i64 (i64.wrap (a7+1))),(5,.int .i64 aK)] ?_;refine b2 _ (cF _ (inl (wr [(0,.ae 1 ((List.set b9 (Int.toNat aK) U).map aN)),(1,.int .i64 (i64.wrap (a7+1))),(5,.int .i64 (i64.wrap (aK+1)))] ?_)));exact dP _ (inr ⟨_,bE rfl,eI (List.set b9 (Int.toNat aK) U) (i64.wrap (a7+1)) (i64.wrap (aK+1)) h⟩)
  .refine cX (aZ 0 _ (ba 0 _ (bT _ (bD _ (inl (ak ?_))))));exact ha (aj _ (inl (hx [.int .i64 a7] rfl (by cases eC h;rfl) (by decide) (hJ (jw (by cases eC h;rfl) rfl rfl rfl (dt (hL)))))))
 exact dz h λn h=>eZ n a0 J 0 h
theorem ar6 (bu bz bw bY bW J r) (h:Lb bu bz bw bY bW J=some r):aX ah 15 [.agg [.ae 3 (bu.map hq),.ae 2 (bz.map hM),.ae 3 (bw.map bI),.ae 1 (bY.map aN),.ae 1 (bW.map aN)],.int .i64 J] (.int .i64 r.1) [.agg [.ae 3 (r.2.1.map hq),.ae 2 (r.2.2.1.map hM),.ae 3 (r.2.2.2.1.map bI),.ae 1 (r.2.2.2.2.1.map aN),.ae 1 (r.2.2.2.2.2.map aN)],.hole]:=by
 refine bC [0] [.tmp 4] Tryz.func15 amI λbt aj br=>dp (b6 [(0,.agg [.ae 3 (bu.map hq),.ae 2 (bz.map hM),.ae 3 (bw.map bI),.ae 1 (bY.map aN),.ae 1 (bW.map aN)]),(1,.int .i64 J),(2,.ab 0 0)] (λP bg=>?_) ?_)
 .simp only[aB.down,simprocAttr,sg.down,I.e6];exact bP sg.down
 obtain⟨U,aU,h⟩:=an h;refine dp (b6 [(0,.agg [.ae 3 (U.2.map hq),.ae 2 (bz.map hM),.ae 3 (bw.map bI),.ae 1 (bY.map aN),.ae 1 (bW.map aN)]),(1,.int .i64 U.1),(2,.ab 0 0)] (λP bg=>?_) ?_)
 ·(try simp only[aB.down,simprocAttr,sg.down,I.e6]);refine Jr [⟨.h 0 [0],true,_,_⟩,⟨.int .i64 J,false,_,.hole⟩] (ar3 bu J _ aU) rfl rfl rfl (by simp only[aB.down,simprocAttr,x7,x9,I.e6,x8,lX,kT,kn,gQ,gR,gS,cR,or_true,true_or, @b0 _ hq bl (λ_=>At _)]) rfl rfl (inl rfl) (by simp only[aB.down,simprocAttr,Lw.down,I.e6,Bool.and_self,Bool.not_false,Bool.and_true]) ?_;simp only[aB.down,simprocAttr,Lx.down,I.e6,eq_self,Bool.and_self];exact bP sg.down
 obtain⟨af,cZ,h⟩:=an h;refine dp (b6 [(0,.agg [.ae 3 (U.2.map hq),.ae 2 (af.2.map hM),.ae 3 (bw.map bI),.ae 1 (bY.map aN),.ae 1 (bW.map aN)]),(1,.int .i64 af.1),(2,.ab 0 0)] (λP bg=>?_) ?_)
 ·(try simp only[aB.down,simprocAttr,sg.down,I.e6]);refine Jr [⟨.h 0 [1],true,_,_⟩,⟨.int .i64 U.1,false,_,.hole⟩] (ar4 bz U.1 _ cZ) rfl rfl rfl (by simp only[aB.down,simprocAttr,x7,x9,I.e6,x8,lX,kT,kn,gQ,gR,gS,cR,or_true,true_or, @b0 _ hM dj (λ_=>Au _)]) rfl rfl (inl rfl) (by simp only[aB.down,simprocAttr,Lw.down,I.e6,Bool.and_self,Bool.not_false,Bool.and_true]) ?_;simp only[aB.down,simprocAttr,Lx.down,I.e6,eq_self,Bool.and_self];exact bP sg.down
 obtain⟨aI,cd,h⟩:=an h;refine dp (b6 [(0,.agg [.ae 3 (U.2.map hq),.ae 2 (af.2.map hM),.ae 3 (aI.2.map bI),.ae 1 (bY.map aN),.ae 1 (bW.map aN)]),(1,.int .i64 aI.1),(2,.ab 0 0)] (λP bg=>?_) ?_)
 ·(try simp only[aB.down,simprocAttr,sg.down,I.e6]);refine Jr [⟨.h 0 [2],true,_,_⟩,⟨.int .i64 af.1,false,_,.hole⟩] (ar5 bw af.1 _ cd) rfl rfl rfl (by simp only[aB.down,simprocAttr,x7,x9,I.e6,x8,lX,kT,kn,gQ,gR,gS,cR,or_true,true_or, @b0 _ bI bI (λ_=>pS _)]) rfl rfl (inl rfl) (by simp only[aB.down,simprocAttr,Lw.down,I.e6,Bool.and_self,Bool.not_false,Bool.and_true]) ?_;simp only[aB.down,simprocAttr,Lx.down,I.e6,eq_self,Bool.and_self];exact bP sg.down
 obtain⟨a1,jt,h⟩:=an h;refine dp (b6 [(0,.agg [.ae 3 (U.2.map hq),.ae 2 (af.2.map hM),.ae 3 (aI.2.map bI),.ae 1 (a1.2.map aN),.ae 1 (bW.map aN)]),(1,.int .i64 a1.1),(2,.ab 0 0)] (λP bg=>?_) ?_)
 ·(try simp only[aB.down,simprocAttr,sg.down,I.e6]);refine Jr [⟨.h 0 [3],true,_,_⟩,⟨.int .i64 aI.1,false,_,.hole⟩] (S6 bY aI.1 _ jt) rfl rfl rfl (by simp only[aB.down,simprocAttr,ZO.down,I.e6]) rfl rfl (inl rfl) (by simp only[aB.down,simprocAttr,Lw.down,I.e6,Bool.and_self,Bool.not_false,Bool.and_true]) ?_;simp only[aB.down,simprocAttr,Lx.down,I.e6,eq_self,Bool.and_self];exact bP sg.down
 obtain⟨ba,kD,h⟩:=an h;refine dp (b6 [(0,.agg [.ae 3 (U.2.map hq),.ae 2 (af.2.map hM),.ae 3 (aI.2.map bI),.ae 1 (a1.2.map aN),.ae 1 (ba.2.map aN)]),(1,.int .i64 ba.1)] (λP bg=>?_) ?_)
 ·(try simp only[aB.down,simprocAttr,sg.down,I.e6]);refine km [⟨.h 0 [4],true,_,_⟩,⟨.int .i64 a1.1,false,_,.hole⟩] (S6 bW a1.1 _ kD) rfl rfl rfl (by simp only[aB.down,simprocAttr,ZO.down,I.e6]) rfl rfl (inl rfl) ?_;simp only[aB.down,simprocAttr,x7,x9,I.e6,x8,jI];exact bP sg.down
 refine ak ?_;exact ha (aj _ (inl (hx [.int .i64 ba.1] rfl (by cases eC h;rfl) (by decide) (hJ (jw (by cases eC h;rfl) rfl rfl rfl (dt (hL)))))))
theorem aaF (a0 J r) (h:Hl a0 J=some r):aX ah 16 [.ae 3 (a0.map cQ),.int .i64 J] (.int .i64 r.1) [.ae 3 (r.2.map cQ),.hole]:=by
 refine bC [0] [.tmp 4] Tryz.func16 kJ λbt aj br=>ak ?_;refine ay aj λ_ bD bf af=>ak ?_;refine bk bf λeM _ bL bT a1=>?_;show bn ah (.loop ?eR) _ _;have eZ:∀n b9 a7 aK,DJ n b9 a7 aK=some r->cN ah ?eR eM (ar [(0,.ae 3 (b9.map cQ)),(1,.int .i64 a7),(5,.int .i64 aK)]):=by
  refine c7 λ_ eI b9 a7 aK h=>c6 bL λ_ dP cG ba=>ay cG λ_ cT _ aZ=>ak ?_;refine aC h (λcm h=>?_) λcm h=>?_
  .refine aL (cT _ (inl (ay cG λ_ cF b8 _=>bk b8 λ_ b2 _ _ _=>?_)));obtain⟨U,dB,h⟩:=an h;refine dp (b6 [(0,.ae 3 ((List.set b9 (Int.toNat aK) (a8.mk a7 U.Part U.bK)).map cQ)),(1,.int .i64 a7),(5,.int .i64 aK)] (λP bg=>?_) ?_)
   .simp only[aB.down,simprocAttr,dB,cb dB,db,dk];exact bP (R dB (R (cb dB) @db))
   refine ws [(0,.ae 3 ((List.set b9 (Int.toNat aK) (a8.mk a7 U.Part U.bK)).map cQ)),(1,.int .i64 (i64.wrap (a7+1))),(5,.int .i64 aK)] ?_;obtain⟨af,ef,h⟩:=an h;refine dp (b6 [(0,.ae 3 ((List.set (List.set b9 (Int.toNat aK) (a8.mk a7 U.Part U.bK)) (Int.toNat aK) (a8.mk af.cA (i64.wrap (a7+1)) af.bK)).map cQ)),(1,.int .i64 (i64.wrap (a7+1))),(5,.int .i64 aK)] (λP bg=>?_) ?_)
   .simp only[aB.down,simprocAttr,ef,cb ef,db,dk];exact bP (R ef (R (cb ef) @db))
   refine ws [(0,.ae 3 ((List.set (List.set b9 (Int.toNat aK) (a8.mk a7 U.Part U.bK)) (Int.toNat aK) (a8.mk af.cA (i64.wrap (a7+1)) af.bK)).map cQ)),(1,.int .i64 (i64.wrap ((i64.wrap (a7+1))+1))),(5,.int .i64 aK)] ?_;obtain⟨aI,eL,h⟩:=an h;obtain⟨a1,e8,h⟩:=an h;refine ik (b6 [(0,.ae 3 ((List.set (List.set (List.set b9 (Int.toNat aK) (a8.mk a7 U.Part U.bK)) (Int.toNat aK) (a8.mk af.cA (i64.wrap (a7+1)) af.bK)) (Int.toNat aK) (a8.mk aI.cA aI.Part a1.2)).map cQ)),(1,.int .i64 a1.1),(5,.int .i64 aK)] (λP bg=>?_) ?_)
   ·(try simp only[aB.down,simprocAttr,eL,cb eL]);refine km [⟨.h 0 [Int.toNat aK,2],true,_,_⟩,⟨.int .i64 (i64.wrap ((i64.wrap (a7+1))+1)),false,_,.hole⟩] (S5 aI.bK (i64.wrap ((i64.wrap (a7+1))+1)) _ e8) rfl rfl rfl (by simp only[aB.down,simprocAttr,eL,cb eL,ZN.down]) rfl rfl (inl rfl) ?_;simp only[aB.down,simprocAttr,eL,cb eL,jI,(FJ (cb eL)),FK];exact bP (R eL (cb eL))
   refine b2 _ (cF _ (inl (wr [(0,.ae 3 ((List.set (List.set (List.set b9 (Int.toNat aK) (a8.mk a7 U.Part U.bK)) (Int.toNat aK) (a8.mk af.cA (i64.wrap (a7+1)) af.bK)) (Int.toNat aK) (a8.mk aI.cA aI.Part a1.2)).map cQ)),(1,.int .i64 a1.1),(5,.int .i64 (i64.wrap (aK+1)))] ?_)));exact dP _ (inr ⟨_,bE rfl,eI (List.set (List.set (List.set b9 (Int.toNat aK) (a8.mk a7 U.Part U.bK)) (Int.toNat aK) (a8.mk af.cA (i64.wrap (a7+1)) af.bK)) (Int.toNat aK) (a8.mk aI.cA aI.Part a1.2)) a1.1 (i64.wrap (aK+1)) h⟩)
  .refine cX (aZ 0 _ (ba 0 _ (bT _ (bD _ (inl (ak ?_))))));exact ha (aj _ (inl (hx [.int .i64 a7] rfl (by cases eC h;rfl) (by decide) (hJ (jw (by cases eC h;rfl) rfl rfl rfl (dt (hL)))))))
 exact dz h λn h=>eZ n a0 J 0 h
theorem ar7 (a0 J r) (h:Lc a0 J=some r):aX ah 47 [.slice (a0.map aT),.int .i64 J] (.int .i64 r) []:=by
 refine bC [0] [.tmp 4] Tryz.func47 amJ λbt aj br=>ak ?_;refine ay aj λ_ bD bf _=>ak ?_;refine bk bf λeM _ bL bT _=>?_;show bn ah (.loop ?eR) _ _;have eZ:∀n a7 aK,DK a0 n a7 aK=some r->cN ah ?eR eM (ar [(0,.slice (a0.map aT)),(1,.int .i64 a7),(5,.int .i64 aK)]):=by
  refine c7 λ_ eI a7 aK h=>c6 bL λ_ dP cG ba=>ay cG λ_ cT _ aZ=>ak ?_;refine aC h (λcm h=>?_) λcm h=>?_
  .refine aL (cT _ (inl (ay cG λ_ cF b8 _=>bk b8 λ_ b2 cM _ _=>ay cM λ_ eH hT _=>?_)));obtain⟨U,dZ,h⟩:=an h;refine c8 dZ _ ?_;refine aC h (λhd h=>?_) λhd h=>?_
   .exact aO hT [.int .i64 (-1)]
   .refine aL (eH _ (inl (dD ?_)));refine b2 _ (cF _ (inl (dD ?_)));exact dP _ (inr ⟨_,bE rfl,eI (i64.wrap (a7+1)) (i64.wrap (aK+1)) h⟩)
  .exact cX (aZ 0 _ (ba 0 _ (bT _ (bD _ (inl (aO aj [.int .i64 a7]))))))
 exact dz h λn h=>eZ n J 0 h
theorem aaG (a0 J r) (h:Hm a0 J=some r):aX ah 19 [.slice (a0.map bs),.int .i64 J] (.int .i64 r) []:=by
 refine bC [0] [.tmp 4] Tryz.func19 amK λbt aj br=>ak ?_;refine ay aj λ_ bD bf af=>ak ?_;refine bk bf λeM _ bL bT _=>?_;show bn ah (.loop ?eR) _ _;have eZ:∀n a7 aK,DL a0 n a7 aK=some r->cN ah ?eR eM (ar [(0,.slice (a0.map bs)),(1,.int .i64 a7),(5,.int .i64 aK)]):=by
  refine c7 λ_ eI a7 aK h=>c6 bL λ_ dP cG ba=>ay cG λ_ cT _ aZ=>ak ?_;refine aC h (λcm h=>?_) λcm h=>?_
  .refine aL (cT _ (inl (ay cG λ_ cF b8 _=>bk b8 λ_ b2 cM _ _=>ay cM λ_ eH hT _=>?_)));obtain⟨U,dZ,h⟩:=an h;refine c8 dZ _ ?_;refine aC h (λhd h=>?_) λhd h=>?_
   .exact aO hT [.int .i64 (-1)]
   .refine aL (eH _ (inl (ak ?_)));refine ay cM λ_ jN kr _=>c8 dZ _ ?_;refine aC h (λfX h=>?_) λfX h=>?_
    .exact aO kr [.int .i64 (-1)]
    .refine aL (jN _ (inl (ak ?_)));obtain⟨af,iu,h⟩:=an h;refine eQ dZ (ar7 U.bK (i64.wrap ((i64.wrap (a7+1))+1)) _ iu) _ ?_;refine ak ?_;refine aC h (λpU h=>?_) λpU h=>?_
     .exact aO cM [.int .i64 (-1)]
     .refine aL (b2 _ (cF _ (inl (dD ?_))));exact dP _ (inr ⟨_,bE rfl,eI af (i64.wrap (aK+1)) h⟩)
  .exact cX (aZ 0 _ (ba 0 _ (bT _ (bD _ (inl (aO aj [.int .i64 a7]))))))
 exact dz h λn h=>eZ n J 0 h
theorem aaH (a0 J r) (h:Hn a0 J=some r):aX ah 20 [.slice (a0.map aN),.int .i64 J] (.int .i64 r) []:=by
 refine bC [0] [.tmp 4] Tryz.func20 c20 λbt aj br=>ak ?_;refine ay aj λ_ bD bf af=>ak ?_;refine bk bf λeM _ bL bT _=>?_;show bn ah (.loop ?eR) _ _;have eZ:∀n a7 aK,DM a0 n a7 aK=some r->cN ah ?eR eM (ar [(0,.slice (a0.map aN)),(1,.int .i64 a7),(5,.int .i64 aK)]):=by
  refine c7 λ_ eI a7 aK h=>c6 bL λ_ dP cG ba=>ay cG λ_ cT _ aZ=>ak ?_;refine aC h (λcm h=>?_) λcm h=>?_
  .refine aL (cT _ (inl (ay cG λ_ cF b8 _=>bk b8 λ_ b2 cM _ _=>ay cM λ_ eH hT _=>?_)));obtain⟨U,dZ,h⟩:=an h;obtain⟨af,dO,h⟩:=an h;refine mo dZ (A2 a7 _ dO) _ ?_;refine aC h (λe2 h=>?_) λe2 h=>?_
   .exact aO hT [.int .i64 (-1)]
   .refine aL (eH _ (inl (dD ?_)));refine b2 _ (cF _ (inl (dD ?_)));exact dP _ (inr ⟨_,bE rfl,eI (i64.wrap (a7+1)) (i64.wrap (aK+1)) h⟩)
  .exact cX (aZ 0 _ (ba 0 _ (bT _ (bD _ (inl (aO aj [.int .i64 a7]))))))
 exact dz h λn h=>eZ n J 0 h
end Go.Proofs.YtmaepbgkcmjcjahGreatDoor
