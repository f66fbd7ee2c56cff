/- Part of a proof that a law returns true for every input. No condition. -/
import Derived.Test.YtmaepbgkcmjcjafGreatDoorW1x3
namespace Go.Proofs.YtmaepbgkcmjcjafGreatDoor
open Option Go.IntKind Nat
open Go Go.eg Go.kX
set_option maxRecDepth 100000
set_option maxHeartbeats 3600000
set_option linter.unusedSimpArgs false
set_option linter.unusedVariables false
theorem apI (a0 J a2 r) (h:F2 a0 J a2=some r):aW ah 202 [ep a0,.slice (J.map bx),fv a2] (.int .i64 r) []:=by
 refine bw [0,1,2] [.tmp 6] Tryz.func202 akL (λbq ai bo=>?_);refine ws _ ?_;refine ay ai (λ_ bA bc ae=>?_);refine bj bc (λZz fg dm _ aD=>?_);obtain⟨R,cM,h⟩:=al h;refine cH (apA a0 _ cM) _ ?_;refine aE h (λdA h=>?_) (λdA h=>?_)
 .refine ws _ ?_;exact aw (dm _ (.inl (az [.int .i64 2])))
 .skip;have rN:∀F1,FZ a0 J a2 F1=some r->bn ah Yp Zz (aq [(1,.slice (J.map bx)),(3,.aS (ep a0)),(5,.aS (fv a2)),(11,.bool F1)]):=by
   intro F1 h;refine aE h (λb7 h=>?_) (λb7 h=>?_)
   .refine ws _ ?_;exact aw (dm _ (.inl (az [.int .i64 3])))
   .skip;have Hl:∀FY,zt a0 J a2 FY=some r->bn ah Yo Zz (aq [(1,.slice (J.map bx)),(3,.aS (ep a0)),(5,.aS (fv a2)),(26,.bool FY)]):=by
     intro FY h;refine aE h (λfl h=>?_) (λfl h=>?_)
     .refine ws _ ?_;exact aw (dm _ (.inl (az [.int .i64 4])))
     .obtain⟨ae,dz,h⟩:=al h;refine cH (apB a0 J _ dz) _ ?_;refine aE h (λgX h=>?_) (λgX h=>?_)
      .refine ws _ ?_;exact aw (dm _ (.inl (az [.int .i64 5])))
      .refine nP (a0.Kind==5) [(3,.aS (ep a0)),(5,.aS (fv a2)),(54,.bool ((a0.Kind==5)&&(!a2.behind)))] ?_;refine aE h (λkb h=>?_) (λkb h=>?_)
       .refine ws _ ?_;exact aw (dm _ (.inl (az [.int .i64 6])))
       .refine nP (a0.Kind==4) [(3,.aS (ep a0)),(5,.aS (fv a2)),(63,.bool ((a0.Kind==4)&&(decide (6<=a2.scope))))] ?_;refine aE h (λfY h=>?_) (λfY h=>?_)
        .refine ws _ ?_;exact aw (dm _ (.inl (az [.int .i64 7])))
        .obtain⟨aD,ie,h⟩:=al h;refine dC (b6 [(72,.bool aD)] (λP bl=>?_) ?_)
         ·(try simp only[aK.down,simprocAttr]);refine dD (apH a0.cd a2 _ ie) rfl rfl (by simp only[aK.down,simprocAttr,x0.down]<;>rfl) rfl (.inr (by rfl)) ?_;simp only[aK.down,simprocAttr];exact bR trivial
         refine aE h (λic h=>?_) (λic h=>?_)
         .refine ws _ ?_;exact aw (dm _ (.inl (az [.int .i64 8])))
         .refine aL (fg _ (bA _ (.inl ?_)));refine ws _ ?_;exact aw (ai _ (.inl (az [.int .i64 0])))
    rcases dH h with⟨kd,h⟩|⟨kd,h⟩
    .obtain⟨aX,qL,h⟩:=al h;rcases dH h with⟨px,h⟩|⟨px,h⟩
     .refine l9 (b6 (K:=eS _) [(1,.slice (J.map bx)),(3,.aS (ep a0)),(5,.aS (fv a2)),(26,.bool true)] (λP bl=>?_) ?_)
      ·(try simp only[aK.down,simprocAttr,kd,(hj px)]);refine iF (mb a0.Number 1 7 _ qL) rfl rfl rfl rfl (.inl (by rfl)) ?_;simp only[aK.down,simprocAttr,kd,(hj px)];exact bR (U kd (hj px))
      exact .inr ⟨_,aZ rfl,Hl true h⟩
     .rcases dH h with⟨gY,h⟩|⟨gY,h⟩
      .obtain⟨aT,wa,h⟩:=al h;refine l9 (b6 (K:=eS _) [(1,.slice (J.map bx)),(3,.aS (ep a0)),(5,.aS (fv a2)),(26,.bool (!aT))] (λP bl=>?_) ?_)
       ·(try simp only[aK.down,simprocAttr,kd,(b_ px),gY]);refine iF (mb a0.Number 1 7 _ qL) rfl rfl rfl rfl (.inl (by rfl)) ?_;simp only[aK.down,simprocAttr,kd,(b_ px),gY];refine iF (x_ a0.Number (J.length:Int) _ wa) rfl rfl rfl rfl (.inl (by rfl)) ?_;simp only[aK.down,simprocAttr,kd,(b_ px),gY];exact bR (U kd (U (b_ px) gY))
       exact .inr ⟨_,aZ rfl,Hl (!aT) h⟩
      .refine l9 (b6 (K:=eS _) [(1,.slice (J.map bx)),(3,.aS (ep a0)),(5,.aS (fv a2)),(26,.bool false)] (λP bl=>?_) ?_)
       ·(try simp only[aK.down,simprocAttr,kd,(b_ px),gY]);refine iF (mb a0.Number 1 7 _ qL) rfl rfl rfl rfl (.inl (by rfl)) ?_;simp only[aK.down,simprocAttr,kd,(b_ px),gY];exact bR (U kd (U (b_ px) gY))
       exact .inr ⟨_,aZ rfl,Hl false h⟩
    .rcases dH h with⟨jt,h⟩|⟨jt,h⟩
     .obtain⟨bp,js,h⟩:=al h;refine l9 (b6 (K:=eS _) [(1,.slice (J.map bx)),(3,.aS (ep a0)),(5,.aS (fv a2)),(26,.bool (!bp))] (λP bl=>?_) ?_)
      ·(try simp only[aK.down,simprocAttr,kd,jt]);refine iF (x_ a0.Number (J.length:Int) _ js) rfl rfl rfl rfl (.inl (by rfl)) ?_;simp only[aK.down,simprocAttr,kd,jt];exact bR (U kd jt)
      exact .inr ⟨_,aZ rfl,Hl (!bp) h⟩
     .refine l9 (b6 (K:=eS _) [(1,.slice (J.map bx)),(3,.aS (ep a0)),(5,.aS (fv a2)),(26,.bool false)] (λP bl=>?_) ?_)
      .simp only[aK.down,simprocAttr,kd,jt];exact bR (U kd jt)
      exact .inr ⟨_,aZ rfl,Hl false h⟩
  rcases dH h with⟨oW,h⟩|⟨oW,h⟩
  .rcases dH h with⟨p4,h⟩|⟨p4,h⟩
   .obtain⟨bs,tc,h⟩:=al h;refine l9 (b6 (K:=eS _) [(1,.slice (J.map bx)),(3,.aS (ep a0)),(5,.aS (fv a2)),(11,.bool (!bs))] (λP bl=>?_) ?_)
    ·(try simp only[aK.down,simprocAttr,oW,p4]);refine iF (mc a0.Name _ tc) rfl rfl rfl rfl (.inl (by rfl)) ?_;simp only[aK.down,simprocAttr,oW,p4];exact bR (U oW p4)
    exact .inr ⟨_,aZ rfl,rN (!bs) h⟩
   .refine l9 (b6 (K:=eS _) [(1,.slice (J.map bx)),(3,.aS (ep a0)),(5,.aS (fv a2)),(11,.bool false)] (λP bl=>?_) ?_)
    .simp only[aK.down,simprocAttr,oW,p4];exact bR (U oW p4)
    exact .inr ⟨_,aZ rfl,rN false h⟩
  .refine l9 (b6 (K:=eS _) [(1,.slice (J.map bx)),(3,.aS (ep a0)),(5,.aS (fv a2)),(11,.bool false)] (λP bl=>?_) ?_)
   .simp only[aK.down,simprocAttr,oW];exact bR oW
   exact .inr ⟨_,aZ rfl,rN false h⟩
theorem apJ (a0 J r) (h:F3 a0 J=some r):aW ah 169 [.slice (a0.map bx),bx J] (.tuple [.int .i64 r.1,.int .i64 r.2]) []:=by
 refine bw [0,1] [.tmp 4,.tmp 5] Tryz.func169 akM (λbq ai bo=>?_);refine ws _ ?_;refine ay ai (λ_ bA bc ae=>?_);obtain⟨R,b4,h⟩:=al h;rcases dH h with⟨cV,h⟩|⟨cV,h⟩
 .refine lA (hj cV) (mb (J.Body.length:Int) 1 20 _ b4) _ ?_;refine iT rfl ?_;refine ws _ ?_;exact aw (bc _ (.inl (az [.int .i64 0,.int .i64 1])))
 .obtain⟨ae,b9,h⟩:=al h;refine jz rfl (iU [(0,.slice (a0.map bx)),(3,.aS (bx J)),(22,.bool (ae !=(J.Body.length:Int)))] (λP bl=>?_) ?_)
  ·(try simp only[c_.down,simprocAttr,(b_ cV)]);refine h_ (mb (J.Body.length:Int) 1 20 _ b4) rfl rfl rfl rfl (.inl (by rfl)) ?_;simp only[c_.down,simprocAttr,(b_ cV)];refine lN (Zv J 0 _ b9) rfl rfl rfl rfl (.inl (by rfl)) ?_;simp only[c_.down,simprocAttr,(b_ cV)];refine⟨hY (by kernel_rfl),?_⟩;exact bR (b_ cV)
  refine aE h (λb7 h=>?_) (λb7 h=>?_)
  .refine ws _ ?_;exact aw (bc _ (.inl (az [.int .i64 0,.int .i64 1])))
  .refine aL (bA _ (.inl ?_));obtain⟨aD,kn,h⟩:=al h;refine cH (R_ J _ kn) _ ?_;refine ay ai (λ_ hv mA _=>?_);refine ws _ ?_;refine bj mA (λGW _ ef gX _=>?_);show bn ah (.loop ?kz) _ _;have k6:∀n qw,zu a0 J aD n qw=some r->cD ah ?kz GW (aq [(0,.slice (a0.map bx)),(6,.ag 2 (aD.map fv)),(26,.slice (J.Body.map ep)),(27,.int .i64 (J.Body.length:Int)),(28,.int .i64 qw)]):=by
    refine cS (λ_ k7 qw h=>cR ef (λ_ gi gS hk=>?_));refine ws _ ?_;refine ay gS (λ_ kc _ iv=>?_);refine aE h (λh0 h=>?_) (λh0 h=>?_)
    .refine aL (kc _ (.inl ?_));refine ay gS (λ_ rM GX _=>?_);refine bj GX (λ_ KY Rg _ _=>?_);obtain⟨aX,e8,h⟩:=al h;refine cU e8 _ ?_;obtain⟨aT,lC,h⟩:=al h;obtain⟨bp,iI,h⟩:=al h;refine lA (U lC (b2 lC)) (apI aX a0 aT _ iI) _ ?_;refine ws _ ?_;refine aE h (λov h=>?_) (λov h=>?_)
     .refine ws _ ?_;exact aw (Rg _ (.inl (az [.int .i64 qw,.int .i64 bp])))
     .refine aL (KY _ (rM _ (.inl ?_)));refine wr _ ?_;exact gi _ (.inr ⟨_,aZ rfl,k7 (i64.wrap (qw+1)) h⟩)
    .refine cK (iv 0 _ (hk 0 _ (gX _ (hv _ (.inl ?_)))));refine ws _ ?_;exact aw (ai _ (.inl (az [.int .i64 0,.int .i64 0])))
   obtain⟨n,h⟩:=cC h;exact cQ (.inr ⟨_,aZ rfl,k6 n 0 h⟩)
theorem apK (a0 r) (h:JU a0=some r):aW ah 126 [.slice (a0.map bx)] (.bool r) []:=by
 refine bw [0] [.tmp 2] Tryz.func126 akN (λbq ai bo=>?_);refine ws _ ?_;refine ay ai (λ_ bA bc ae=>?_);obtain⟨R,b4,h⟩:=al h;rcases dH h with⟨cV,h⟩|⟨cV,h⟩
 .refine eO (hj cV) (mb (a0.length:Int) 1 4 _ b4) _ ?_;refine iT rfl ?_;refine ws _ ?_;exact aw (bc _ (.inl (az [.bool false])))
 .obtain⟨ae,b9,h⟩:=al h;refine dC (b6 [(0,.slice (a0.map bx)),(15,.bool (!ae))] (λP bl=>?_) ?_)
  ·(try simp only[aK.down,simprocAttr,(b_ cV)]);refine dD (mb (a0.length:Int) 1 4 _ b4) rfl rfl rfl rfl (.inl (by rfl)) ?_;simp only[aK.down,simprocAttr,(b_ cV)];refine iF (apo a0 _ b9) rfl rfl rfl rfl (.inl (by rfl)) ?_;simp only[aK.down,simprocAttr,(b_ cV)];exact bR (b_ cV)
  refine aE h (λb7 h=>?_) (λb7 h=>?_)
  .refine ws _ ?_;exact aw (bc _ (.inl (az [.bool false])))
  .refine aL (bA _ (.inl ?_));refine ay ai (λ_ bT cw _=>?_);refine ws _ ?_;refine bj cw (λGY _ mA e1 _=>?_);show bn ah (.loop ?gJ) _ _;have gK:∀n rq,Ce a0 n rq=some r->cD ah ?gJ GY (aq [(0,.slice (a0.map bx)),(16,.slice (a0.map bx)),(17,.int .i64 (a0.length:Int)),(18,.int .i64 rq)]):=by
    refine cS (λ_ gw rq h=>cR mA (λ_ fE fB my=>?_));refine ws _ ?_;refine ay fB (λ_ gi _ hk=>?_);refine aE h (λnw h=>?_) (λnw h=>?_)
    .refine aL (gi _ (.inl ?_));refine ay fB (λ_ kc kP _=>?_);refine bj kP (λ_ p5 td _ _=>?_);obtain⟨aD,gj,h⟩:=al h;refine cU gj _ ?_;refine ay td (λ_ Ab Df _=>?_);obtain⟨aX,ie,h⟩:=al h;rcases dH h with⟨ic,h⟩|⟨ic,h⟩
     .refine lA (hj ic) (K9 aD.Name _ ie) _ ?_;refine iT rfl ?_;refine ws _ ?_;exact aw (Df _ (.inl (az [.bool false])))
     .obtain⟨aT,s_,h⟩:=al h;obtain⟨bp,rL,h⟩:=al h;refine jz rfl (iU [(0,.slice (a0.map bx)),(4,.aS (bx aD)),(16,.slice (a0.map bx)),(17,.int .i64 (a0.length:Int)),(18,.int .i64 rq),(35,.bool (decide (0<=bp)))] (λP bl=>?_) ?_)
      ·(try simp only[c_.down,simprocAttr,(b_ ic),s_, @jO _ bx 3 (λ_=>rfl)]);refine h_ (K9 aD.Name _ ie) rfl rfl rfl rfl (.inl (by rfl)) ?_;simp only[c_.down,simprocAttr,(b_ ic),s_, @jO _ bx 3 (λ_=>rfl)];refine lN (apt aT aD.Name _ rL) rfl rfl rfl rfl (.inl (by rfl)) ?_;simp only[c_.down,simprocAttr,(b_ ic),s_, @jO _ bx 3 (λ_=>rfl)];refine⟨hY (by kernel_rfl),?_⟩;exact bR (U (b_ ic) (U s_ (@jO _ bx 3 (λ_=>rfl))))
      refine aE h (λkd h=>?_) (λkd h=>?_)
      .refine ws _ ?_;exact aw (Df _ (.inl (az [.bool false])))
      .refine aL (Ab _ (.inl ?_));obtain⟨bs,RM,h⟩:=al h;refine cH (apJ a0 aD _ RM) _ ?_;refine ws _ ?_;refine aE h (λjt h=>?_) (λjt h=>?_)
       .refine ws _ ?_;exact aw (td _ (.inl (az [.bool false])))
       .refine aL (p5 _ (kc _ (.inl ?_)));refine wr _ ?_;exact fE _ (.inr ⟨_,aZ rfl,gw (i64.wrap (rq+1)) h⟩)
    .refine cK (hk 0 _ (my 0 _ (e1 _ (bT _ (.inl ?_)))));refine ws _ ?_;exact aw (ai _ (.inl (az [.bool true])))
   obtain⟨n,h⟩:=cC h;exact cQ (.inr ⟨_,aZ rfl,gK n 0 h⟩)
theorem apL (a0 r) (h:PC a0=some r):aW ah 136 [.int .i64 a0] (.bool r) []:=by
 refine bw [0] [.tmp 2] Tryz.func136 akO (λbq ai bo=>?_);refine ws _ ?_;obtain⟨R,aU,h⟩:=al h;refine cH (Zx a0 _ aU) _ ?_;exact aw (ai _ (.inl (az [.bool (!R)])))
theorem apM (a0 r) (h:PE a0=some r):aW ah 174 [.slice (a0.map a8),.fn 136 []] (.int .i64 r) []:=by
 refine bw [0,1] [.tmp 4] Tryz.func174 akP (λbq ai bo=>?_);refine ws _ ?_;refine ay ai (λ_ bA bc ae=>?_);refine ws _ ?_;refine bj bc (λeC _ bG bM _=>?_);show bn ah (.loop ?eG) _ _;have eT:∀n cA,F4 a0 n cA=some r->cD ah ?eG eC (aq [(0,.slice (a0.map a8)),(1,.fn 136 []),(7,.int .i64 (a0.length:Int)),(8,.int .i64 cA)]):=by
  refine cS (λ_ ev cA h=>cR bG (λ_ dw cn aT=>?_));refine ws _ ?_;refine ay cn (λ_ dK _ bs=>?_);refine aE h (λb7 h=>?_) (λb7 h=>?_)
  .refine aL (dK _ (.inl ?_));refine ay cn (λ_ cq bW _=>?_);refine bj bW (λ_ bT cw _ _=>?_);refine ws _ ?_;obtain⟨R,dz,h⟩:=al h;obtain⟨ae,dO,h⟩:=al h;refine eO dz (apL R _ dO) _ ?_;refine aE h (λe0 h=>?_) (λe0 h=>?_)
   .refine ws _ ?_;exact aw (cw _ (.inl (az [.int .i64 cA])))
   .refine aL (bT _ (cq _ (.inl ?_)));refine wr _ ?_;exact dw _ (.inr ⟨_,aZ rfl,ev (i64.wrap (cA+1)) h⟩)
  .refine cK (bs 0 _ (aT 0 _ (bM _ (bA _ (.inl ?_)))));refine ws _ ?_;exact aw (ai _ (.inl (az [.int .i64 (-1)])))
 obtain⟨n,h⟩:=cC h;exact cQ (.inr ⟨_,aZ rfl,eT n 0 h⟩)
theorem apN (a0 r) (h:PF a0=some r):aW ah 135 [.slice (a0.map a8),.fn 136 []] (.bool r) []:=by
 refine bw [0,1] [.tmp 4] Tryz.func135 akQ (λbq ai bo=>?_);refine ws _ ?_;obtain⟨R,aU,h⟩:=al h;refine cH (apM a0 _ aU) _ ?_;exact aw (ai _ (.inl (az [.bool (decide (0<=R))])))
theorem Sb (a0 r) (h:Cf a0=some r):aW ah 91 [.slice (a0.map a8)] (.bool r) []:=by
 refine bw [0] [.tmp 2] Tryz.func91 c91 (λbq ai bo=>?_);refine ws _ ?_;obtain⟨R,aU,h⟩:=al h;refine cH (apN a0 _ aU) _ ?_;exact aw (ai _ (.inl (az [.bool (!R)])))
theorem apO (a0 J r) (h:JV a0 J=some r):aW ah 130 [.slice (a0.map bx),eV J] (.bool r) []:=by
 refine bw [0,1] [.tmp 4] Tryz.func130 c130 (λbq ai bo=>?_);refine ws _ ?_;obtain⟨R,aU,h⟩:=al h;rcases dH h with⟨bM,h⟩|⟨bM,h⟩
 .obtain⟨ae,cM,h⟩:=al h;rcases dH h with⟨dA,h⟩|⟨dA,h⟩
  .obtain⟨aD,b9,h⟩:=al h;refine jz rfl (iU [(4,.bool aD)] (λP bl=>?_) ?_)
   ·(try simp only[c_.down,simprocAttr,bM,cM,dA]);refine h_ (x_ J.cp (a0.length:Int) _ aU) rfl rfl rfl rfl (.inl (by rfl)) ?_;simp only[c_.down,simprocAttr,bM,cM,dA];refine lN (Sb J.bH _ b9) rfl rfl rfl rfl (.inl (by rfl)) ?_;simp only[c_.down,simprocAttr,bM,cM,dA];refine⟨hY (by kernel_rfl),?_⟩;exact bR (U bM (U cM dA))
   exact aw (ai _ (.inl (az [.bool aD])))
  .refine lA (U bM (U cM dA)) (x_ J.cp (a0.length:Int) _ aU) _ ?_;exact aw (ai _ (.inl (az [.bool false])))
 .refine lA bM (x_ J.cp (a0.length:Int) _ aU) _ ?_;exact aw (ai _ (.inl (az [.bool false])))
theorem apP (a0 J r) (h:PG a0 J=some r):aW ah 129 [eV a0,.ref (dQ J)] (.bool r) []:=by
 refine bw [0,1] [.tmp 3] Tryz.func129 akR (λbq ai bo=>?_);refine ws _ ?_;obtain⟨R,aU,h⟩:=al h;refine cH (apO J.c8 a0 _ aU) _ ?_;exact aw (ai _ (.inl (az [.bool (!R)])))
theorem apQ (a0 J r) (h:PI a0 J=some r):aW ah 170 [.slice (a0.map eV),.fn 129 [.ref (dQ J)]] (.int .i64 r) []:=by
 refine bw [0,1] [.tmp 4] Tryz.func170 akS (λbq ai bo=>?_);refine ws _ ?_;refine ay ai (λ_ bA bc ae=>?_);refine ws _ ?_;refine bj bc (λeC _ bG bM _=>?_);show bn ah (.loop ?eG) _ _;have eT:∀n cA,F5 a0 J n cA=some r->cD ah ?eG eC (aq [(0,.slice (a0.map eV)),(1,.fn 129 [.ref (dQ J)]),(7,.int .i64 (a0.length:Int)),(8,.int .i64 cA)]):=by
  refine cS (λ_ ev cA h=>cR bG (λ_ dw cn aT=>?_));refine ws _ ?_;refine ay cn (λ_ dK _ bs=>?_);refine aE h (λb7 h=>?_) (λb7 h=>?_)
  .refine aL (dK _ (.inl ?_));refine ay cn (λ_ cq bW _=>?_);refine bj bW (λ_ bT cw _ _=>?_);refine ws _ ?_;obtain⟨R,dz,h⟩:=al h;obtain⟨ae,dO,h⟩:=al h;refine eO dz (apP R J _ dO) _ ?_;refine aE h (λe0 h=>?_) (λe0 h=>?_)
   .refine ws _ ?_;exact aw (cw _ (.inl (az [.int .i64 cA])))
   .refine aL (bT _ (cq _ (.inl ?_)));refine wr _ ?_;exact dw _ (.inr ⟨_,aZ rfl,ev (i64.wrap (cA+1)) h⟩)
  .refine cK (bs 0 _ (aT 0 _ (bM _ (bA _ (.inl ?_)))));refine ws _ ?_;exact aw (ai _ (.inl (az [.int .i64 (-1)])))
 obtain⟨n,h⟩:=cC h;exact cQ (.inr ⟨_,aZ rfl,eT n 0 h⟩)
theorem apR (a0 J r) (h:JW a0 J=some r):aW ah 128 [.slice (a0.map eV),.fn 129 [.ref (dQ J)]] (.bool r) []:=by
 refine bw [0,1] [.tmp 4] Tryz.func128 akT (λbq ai bo=>?_);refine ws _ ?_;obtain⟨R,aU,h⟩:=al h;refine cH (apQ a0 J _ aU) _ ?_;exact aw (ai _ (.inl (az [.bool (decide (0<=R))])))
theorem ZA (a0 r) (h:JX a0=some r):aW ah 257 [.str a0] (.bool r) []:=by
 refine bw [0] [.tmp 2] Tryz.func257 akU (λbq ai bo=>?_);refine ws _ ?_;refine ws _ ?_;exact aw (ai _ (.inl (az [.bool false])))
theorem apS (a0 J r) (h:JY a0 J=some r):aW ah 234 [.str a0,.str J] (.int .i64 r) []:=by
 refine bw [0,1] [.tmp 4] Tryz.func234 c234 (λbq ai bo=>?_);refine ws _ ?_;obtain⟨R,aU,h⟩:=al h;refine cH (ZA a0 _ aU) _ ?_;obtain⟨ae,cM,h⟩:=al h;refine cH (ZA J _ cM) _ ?_;refine ay ai (λ_ cB cW _=>?_);refine ws _ ?_;refine aE h (λb7 h=>?_) (λb7 h=>?_)
 .refine ay cW (λ_ cq bW _=>?_);refine ws _ ?_;refine aE h (λoq h=>?_) (λoq h=>?_)
  .refine ws _ ?_;exact aw (bW _ (.inl (az [.int .i64 0])))
  .refine aL (cq _ (.inl ?_));refine ws _ ?_;exact aw (cW _ (.inl (az [.int .i64 (-1)])))
 .refine aL (cB _ (.inl ?_));refine ay ai (λ_ eH ef _=>?_);refine ws _ ?_;refine aE h (λnw h=>?_) (λnw h=>?_)
  .refine ws _ ?_;exact aw (ef _ (.inl (az [.int .i64 1])))
  .refine aL (eH _ (.inl ?_));refine ay ai (λ_ p5 td _=>?_);refine ws _ ?_;refine aE h (λfY h=>?_) (λfY h=>?_)
   .refine ws _ ?_;exact aw (td _ (.inl (az [.int .i64 (-1)])))
   .refine aL (p5 _ (.inl ?_));refine ay ai (λ_ ot nR _=>?_);refine ws _ ?_;refine aE h (λic h=>?_) (λic h=>?_)
    .refine ws _ ?_;exact aw (nR _ (.inl (az [.int .i64 1])))
    .refine aL (ot _ (.inl ?_));refine ws _ ?_;exact aw (ai _ (.inl (az [.int .i64 0])))
theorem apT (a0 J r) (h:J0 a0 J=some r):aW ah 203 [.slice (a0.map bm),.slice (J.map bm)] (.int .i64 r) []:=by
 refine bw [0,1] [.tmp 4] Tryz.func203 c203 (λbq ai bo=>?_);refine ws _ ?_;refine ay ai (λ_ bA bc ae=>?_);refine ws _ ?_;refine bj bc (λeC _ bG bM _=>?_);show bn ah (.loop ?eG) _ _;have eT:∀n rr,JZ a0 J n rr=some r->cD ah ?eG eC (aq [(0,.slice (a0.map bm)),(1,.slice (J.map bm)),(9,.slice (a0.map bm)),(10,.int .i64 (a0.length:Int)),(11,.int .i64 rr)]):=by
  refine cS (λ_ ev rr h=>cR bG (λ_ dw cn aT=>?_));refine ws _ ?_;refine ay cn (λ_ dK _ bs=>?_);refine aE h (λb7 h=>?_) (λb7 h=>?_)
  .refine aL (dK _ (.inl ?_));refine ay cn (λ_ cq bW _=>?_);refine bj bW (λ_ bT cw _ _=>?_);obtain⟨R,dd,h⟩:=al h;refine cU dd _ ?_;refine ay cw (λ_ fE fB _=>?_);refine ws _ ?_;refine aE h (λe0 h=>?_) (λe0 h=>?_)
   .refine ws _ ?_;exact aw (fB _ (.inl (az [.int .i64 1])))
   .refine aL (fE _ (.inl ?_));obtain⟨ae,eu,h⟩:=al h;refine cU eu _ ?_;obtain⟨aD,gj,h⟩:=al h;refine cH (apS R ae _ gj) _ ?_;refine ws _ ?_;refine aE h (λzO h=>?_) (λzO h=>?_)
    .refine ws _ ?_;exact aw (cw _ (.inl (az [.int .i64 aD])))
    .refine aL (bT _ (cq _ (.inl ?_)));refine wr _ ?_;exact dw _ (.inr ⟨_,aZ rfl,ev (i64.wrap (rr+1)) h⟩)
  .refine cK (bs 0 _ (aT 0 _ (bM _ (bA _ (.inl ?_)))));refine ay ai (λ_ wg oU _=>?_);refine ws _ ?_;refine aE h (λov h=>?_) (λov h=>?_)
   .refine ws _ ?_;exact aw (oU _ (.inl (az [.int .i64 (-1)])))
   .refine aL (wg _ (.inl ?_));refine ws _ ?_;exact aw (ai _ (.inl (az [.int .i64 0])))
 obtain⟨n,h⟩:=cC h;exact cQ (.inr ⟨_,aZ rfl,eT n 0 h⟩)
theorem apU (a0 J r) (h:J1 a0 J=some r):aW ah 171 [b3 a0,b3 J] (.int .i64 r) []:=by
 refine bw [0,1] [.tmp 4] Tryz.func171 c171 (λbq ai bo=>?_);refine ws _ ?_;obtain⟨R,aU,h⟩:=al h;refine dC (b6 [(4,.int .i64 R)] (λP bl=>?_) ?_)
 ·(try simp only[aK.down,simprocAttr,(show∀s,dW ah s 25 2 [(0,.str a0.Left),(1,.str a0.cx)]=some (.ag 1 [.str a0.Left,.str a0.cx],s)from λs=>by kernel_rfl),(show∀s,dW ah s 25 2 [(0,.str J.Left),(1,.str J.cx)]=some (.ag 1 [.str J.Left,.str J.cx],s)from λs=>by kernel_rfl)]);refine dD (apT [a0.Left,a0.cx] [J.Left,J.cx] _ aU) rfl rfl (by simp only[aK.down,simprocAttr,(show∀s,dW ah s 25 2 [(0,.str a0.Left),(1,.str a0.cx)]=some (.ag 1 [.str a0.Left,.str a0.cx],s)from λs=>by kernel_rfl),(show∀s,dW ah s 25 2 [(0,.str J.Left),(1,.str J.cx)]=some (.ag 1 [.str J.Left,.str J.cx],s)from λs=>by kernel_rfl),gN,gP,gQ,cG,I.shares, @bV _ bm bm (λ_=>k5 _), @bV _ bm bm (λ_=>k5 _)]<;>rfl) rfl (.inr (by rfl)) ?_;simp only[aK.down,simprocAttr,(show∀s,dW ah s 25 2 [(0,.str a0.Left),(1,.str a0.cx)]=some (.ag 1 [.str a0.Left,.str a0.cx],s)from λs=>by kernel_rfl),(show∀s,dW ah s 25 2 [(0,.str J.Left),(1,.str J.cx)]=some (.ag 1 [.str J.Left,.str J.cx],s)from λs=>by kernel_rfl)];exact bR (U (show∀s,dW ah s 25 2 [(0,.str a0.Left),(1,.str a0.cx)]=some (.ag 1 [.str a0.Left,.str a0.cx],s)from λs=>by kernel_rfl) (show∀s,dW ah s 25 2 [(0,.str J.Left),(1,.str J.cx)]=some (.ag 1 [.str J.Left,.str J.cx],s)from λs=>by kernel_rfl))
 exact aw (ai _ (.inl (az [.int .i64 R])))
theorem apV (a0 J r) (h:PJ a0 J=some r):aW ah 173 [b3 a0,.ref (b3 J)] (.bool r) []:=by
 refine bw [0,1] [.tmp 3] Tryz.func173 c173 (λbq ai bo=>?_);refine ws _ ?_;refine nP (a0.Left==J.Result) [(3,.bool ((a0.Left==J.Result)||(a0.cx==J.Result)))] ?_;exact aw (ai _ (.inl (az [.bool ((a0.Left==J.Result)||(a0.cx==J.Result))])))
theorem apW (a0 J r) (h:PL a0 J=some r):aW ah 153 [.slice (a0.map b3),.fn 173 [.ref (b3 J)]] (.int .i64 r) []:=by
 refine bw [0,1] [.tmp 4] Tryz.func153 akV (λbq ai bo=>?_);refine ws _ ?_;refine ay ai (λ_ bA bc ae=>?_);refine ws _ ?_;refine bj bc (λeC _ bG bM _=>?_);show bn ah (.loop ?eG) _ _;have eT:∀n cA,F6 a0 J n cA=some r->cD ah ?eG eC (aq [(0,.slice (a0.map b3)),(1,.fn 173 [.ref (b3 J)]),(7,.int .i64 (a0.length:Int)),(8,.int .i64 cA)]):=by
  refine cS (λ_ ev cA h=>cR bG (λ_ dw cn aT=>?_));refine ws _ ?_;refine ay cn (λ_ dK _ bs=>?_);refine aE h (λb7 h=>?_) (λb7 h=>?_)
  .refine aL (dK _ (.inl ?_));refine ay cn (λ_ cq bW _=>?_);refine bj bW (λ_ bT cw _ _=>?_);refine ws _ ?_;obtain⟨R,dz,h⟩:=al h;obtain⟨ae,dO,h⟩:=al h;refine eO dz (apV R J _ dO) _ ?_;refine aE h (λe0 h=>?_) (λe0 h=>?_)
   .refine ws _ ?_;exact aw (cw _ (.inl (az [.int .i64 cA])))
   .refine aL (bT _ (cq _ (.inl ?_)));refine wr _ ?_;exact dw _ (.inr ⟨_,aZ rfl,ev (i64.wrap (cA+1)) h⟩)
  .refine cK (bs 0 _ (aT 0 _ (bM _ (bA _ (.inl ?_)))));refine ws _ ?_;exact aw (ai _ (.inl (az [.int .i64 (-1)])))
 obtain⟨n,h⟩:=cC h;exact cQ (.inr ⟨_,aZ rfl,eT n 0 h⟩)
theorem ZB (a0 J r) (h:F7 a0 J=some r):aW ah 172 [.slice (a0.map b3),.fn 173 [.ref (b3 J)]] (.bool r) []:=by
 refine bw [0,1] [.tmp 4] Tryz.func172 akW (λbq ai bo=>?_);refine ws _ ?_;obtain⟨R,aU,h⟩:=al h;refine cH (apW a0 J _ aU) _ ?_;exact aw (ai _ (.inl (az [.bool (decide (0<=R))])))
theorem apX (a0 r) (h:J2 a0=some r):aW ah 131 [.slice (a0.map b3)] (.bool r) []:=by
 refine bw [0] [.tmp 2] Tryz.func131 c131 (λbq ai bo=>?_);refine ws _ ?_;refine ay ai (λ_ bA bc _=>?_);refine ws _ ?_;refine bj bc (λeC _ bG bM _=>?_);show bn ah (.loop ?eG) _ _;have eT:∀n fR,Cg a0 n fR=some r->cD ah ?eG eC (aq [(0,.slice (a0.map b3)),(5,.slice (a0.map b3)),(6,.int .i64 (a0.length:Int)),(7,.int .i64 fR)]):=by
  refine cS (λ_ ev fR h=>cR bG (λ_ dw cn aT=>?_));refine ws _ ?_;refine ay cn (λ_ dK _ bs=>?_);refine aE h (λb7 h=>?_) (λb7 h=>?_)
  .refine aL (dK _ (.inl ?_));refine ay cn (λ_ cq bW dE=>?_);refine bj bW (λ_ bT cw _ dI=>?_);obtain⟨R,dd,h⟩:=al h;refine cU dd _ ?_;refine ay cw (λ_ fE fB _=>?_);obtain⟨aT,e8,h⟩:=al h;rcases dH h with⟨gk,h⟩|⟨gk,h⟩
   .refine lA (hj gk) (mc R.Left _ e8) _ ?_;refine iT rfl ?_;refine ws _ ?_;exact aw (fB _ (.inl (az [.bool false])))
   .obtain⟨bp,iI,h⟩:=al h;rcases dH h with⟨ka,h⟩|⟨ka,h⟩
    .refine jz rfl (iU [(0,.slice (a0.map b3)),(4,.aS (b3 R)),(5,.slice (a0.map b3)),(6,.int .i64 (a0.length:Int)),(7,.int .i64 fR),(48,.bool true)] (λP bl=>?_) ?_)
     ·(try simp only[c_.down,simprocAttr,(b_ gk),(hj ka)]);refine h_ (mc R.Left _ e8) rfl rfl rfl rfl (.inl (by rfl)) ?_;simp only[c_.down,simprocAttr,(b_ gk),(hj ka)];refine lN (mc R.cx _ iI) rfl rfl rfl rfl (.inl (by rfl)) ?_;simp only[c_.down,simprocAttr,(b_ gk),(hj ka)];refine⟨hY (by kernel_rfl),?_⟩;exact bR (U (b_ gk) (hj ka))
     refine iT rfl ?_;refine ws _ ?_;exact aw (fB _ (.inl (az [.bool false])))
    .obtain⟨bs,ya,h⟩:=al h;rcases dH h with⟨h1,h⟩|⟨h1,h⟩
     .refine jz rfl (iU [(0,.slice (a0.map b3)),(4,.aS (b3 R)),(5,.slice (a0.map b3)),(6,.int .i64 (a0.length:Int)),(7,.int .i64 fR),(48,.bool true)] (λP bl=>?_) ?_)
      ·(try simp only[c_.down,simprocAttr,(b_ gk),(b_ ka),(hj h1)]);refine h_ (mc R.Left _ e8) rfl rfl rfl rfl (.inl (by rfl)) ?_;simp only[c_.down,simprocAttr,(b_ gk),(b_ ka),(hj h1)];refine lN (mc R.cx _ iI) rfl rfl rfl rfl (.inl (by rfl)) ?_;simp only[c_.down,simprocAttr,(b_ gk),(b_ ka),(hj h1)];refine lN (mc R.Result _ ya) rfl rfl rfl rfl (.inl (by rfl)) ?_;simp only[c_.down,simprocAttr,(b_ gk),(b_ ka),(hj h1)];refine⟨hY (by kernel_rfl),?_⟩;exact bR (U (b_ gk) (U (b_ ka) (hj h1)))
      refine iT rfl ?_;refine ws _ ?_;exact aw (fB _ (.inl (az [.bool false])))
     .rcases dH h with⟨gY,h⟩|⟨gY,h⟩
      .refine jz rfl (iU [(0,.slice (a0.map b3)),(4,.aS (b3 R)),(5,.slice (a0.map b3)),(6,.int .i64 (a0.length:Int)),(7,.int .i64 fR),(48,.bool true)] (λP bl=>?_) ?_)
       ·(try simp only[c_.down,simprocAttr,(b_ gk),(b_ ka),(b_ h1),gY]);refine h_ (mc R.Left _ e8) rfl rfl rfl rfl (.inl (by rfl)) ?_;simp only[c_.down,simprocAttr,(b_ gk),(b_ ka),(b_ h1),gY];refine lN (mc R.cx _ iI) rfl rfl rfl rfl (.inl (by rfl)) ?_;simp only[c_.down,simprocAttr,(b_ gk),(b_ ka),(b_ h1),gY];refine lN (mc R.Result _ ya) rfl rfl rfl rfl (.inl (by rfl)) ?_;simp only[c_.down,simprocAttr,(b_ gk),(b_ ka),(b_ h1),gY];refine⟨hY (by kernel_rfl),?_⟩;exact bR (U (b_ gk) (U (b_ ka) (U (b_ h1) gY)))
       refine iT rfl ?_;refine ws _ ?_;exact aw (fB _ (.inl (az [.bool false])))
      .rcases dH h with⟨jt,h⟩|⟨jt,h⟩
       .obtain⟨cv,js,h⟩:=al h;obtain⟨dE,zY,h⟩:=al h;refine jz rfl (iU [(0,.slice (a0.map b3)),(4,.aS (b3 R)),(5,.slice (a0.map b3)),(6,.int .i64 (a0.length:Int)),(7,.int .i64 fR),(48,.bool (decide (0<=dE)))] (λP bl=>?_) ?_)
        ·(try simp only[c_.down,simprocAttr,(b_ gk),(b_ ka),(b_ h1),gY,jt,js]);refine h_ (mc R.Left _ e8) rfl rfl rfl rfl (.inl (by rfl)) ?_;simp only[c_.down,simprocAttr,(b_ gk),(b_ ka),(b_ h1),gY,jt,js];refine lN (mc R.cx _ iI) rfl rfl rfl rfl (.inl (by rfl)) ?_;simp only[c_.down,simprocAttr,(b_ gk),(b_ ka),(b_ h1),gY,jt,js];refine lN (mc R.Result _ ya) rfl rfl rfl rfl (.inl (by rfl)) ?_;simp only[c_.down,simprocAttr,(b_ gk),(b_ ka),(b_ h1),gY,jt,js];refine lN (apU cv R _ zY) rfl rfl rfl rfl (.inl (by rfl)) ?_;simp only[c_.down,simprocAttr,(b_ gk),(b_ ka),(b_ h1),gY,jt,js];refine⟨hY (by kernel_rfl),?_⟩;exact bR (U (b_ gk) (U (b_ ka) (U (b_ h1) (U gY (U jt js)))))
        refine aE h (λoW h=>?_) (λoW h=>?_)
        .refine ws _ ?_;exact aw (fB _ (.inl (az [.bool false])))
        .refine aL (fE _ (.inl ?_));obtain⟨dI,wc,h⟩:=al h;refine dC (b6 [(0,.slice (a0.map b3)),(5,.slice (a0.map b3)),(6,.int .i64 (a0.length:Int)),(7,.int .i64 fR),(51,.bool dI)] (λP bl=>?_) ?_)
         ·(try simp only[aK.down,simprocAttr]);refine dD (ZB a0 R _ wc) rfl rfl (by simp only[aK.down,simprocAttr,x0.down]<;>rfl) rfl (.inr (by rfl)) ?_;simp only[aK.down,simprocAttr];exact bR trivial
         refine aE h (λHd h=>?_) (λHd h=>?_)
         .refine ws _ ?_;exact aw (cw _ (.inl (az [.bool false])))
         .refine aL (bT _ (cq _ (.inl ?_)));refine wr _ ?_;exact dw _ (.inr ⟨_,aZ rfl,ev (i64.wrap (fR+1)) h⟩)
       .refine jz rfl (iU [(0,.slice (a0.map b3)),(4,.aS (b3 R)),(5,.slice (a0.map b3)),(6,.int .i64 (a0.length:Int)),(7,.int .i64 fR),(48,.bool false)] (λP bl=>?_) ?_)
        ·(try simp only[c_.down,simprocAttr,(b_ gk),(b_ ka),(b_ h1),gY,jt]);refine h_ (mc R.Left _ e8) rfl rfl rfl rfl (.inl (by rfl)) ?_;simp only[c_.down,simprocAttr,(b_ gk),(b_ ka),(b_ h1),gY,jt];refine lN (mc R.cx _ iI) rfl rfl rfl rfl (.inl (by rfl)) ?_;simp only[c_.down,simprocAttr,(b_ gk),(b_ ka),(b_ h1),gY,jt];refine lN (mc R.Result _ ya) rfl rfl rfl rfl (.inl (by rfl)) ?_;simp only[c_.down,simprocAttr,(b_ gk),(b_ ka),(b_ h1),gY,jt];refine⟨hY (by kernel_rfl),?_⟩;exact bR (U (b_ gk) (U (b_ ka) (U (b_ h1) (U gY jt))))
        refine n8 rfl ?_;refine aL (fE _ (.inl ?_));obtain⟨e6,apY,h⟩:=al h;refine dC (b6 [(0,.slice (a0.map b3)),(5,.slice (a0.map b3)),(6,.int .i64 (a0.length:Int)),(7,.int .i64 fR),(51,.bool e6)] (λP bl=>?_) ?_)
        ·(try simp only[aK.down,simprocAttr]);refine dD (ZB a0 R _ apY) rfl rfl (by simp only[aK.down,simprocAttr,x0.down]<;>rfl) rfl (.inr (by rfl)) ?_;simp only[aK.down,simprocAttr];exact bR trivial
        refine aE h (λzW h=>?_) (λzW h=>?_)
        .refine ws _ ?_;exact aw (cw _ (.inl (az [.bool false])))
        .refine aL (bT _ (cq _ (.inl ?_)));refine wr _ ?_;exact dw _ (.inr ⟨_,aZ rfl,ev (i64.wrap (fR+1)) h⟩)
  .refine cK (bs 0 _ (aT 0 _ (bM _ (bA _ (.inl ?_)))));refine ws _ ?_;exact aw (ai _ (.inl (az [.bool (decide ((a0.length:Int)<=6))])))
 obtain⟨n,h⟩:=cC h;exact cQ (.inr ⟨_,aZ rfl,eT n 0 h⟩)
theorem ZC (a0 r) (h:F8 a0=some r):aW ah 132 [.slice (a0.map bm)] (.bool r) []:=by
 refine bw [0] [.tmp 2] Tryz.func132 akX (λbq ai bo=>?_);refine ws _ ?_;refine ay ai (λ_ bA bc ae=>?_);refine ws _ ?_;refine bj bc (λeC _ bG bM _=>?_);show bn ah (.loop ?eG) _ _;have eT:∀n fR,Ch a0 n fR=some r->cD ah ?eG eC (aq [(0,.slice (a0.map bm)),(5,.slice (a0.map bm)),(6,.int .i64 (a0.length:Int)),(7,.int .i64 fR)]):=by
  refine cS (λ_ ev fR h=>cR bG (λ_ dw cn aT=>?_));refine ws _ ?_;refine ay cn (λ_ dK _ bs=>?_);refine aE h (λb7 h=>?_) (λb7 h=>?_)
  .refine aL (dK _ (.inl ?_));refine ay cn (λ_ cq bW _=>?_);refine bj bW (λ_ bT cw _ _=>?_);obtain⟨R,dd,h⟩:=al h;refine cU dd _ ?_;obtain⟨ae,dO,h⟩:=al h;rcases dH h with⟨e0,h⟩|⟨e0,h⟩
   .refine eO (hj e0) (mc R _ dO) _ ?_;refine iT rfl ?_;refine ws _ ?_;exact aw (cw _ (.inl (az [.bool false])))
   .rcases dH h with⟨kb,h⟩|⟨kb,h⟩
    .obtain⟨aD,eu,h⟩:=al h;refine eO (U (b_ e0) (U kb eu)) (mc R _ dO) _ ?_;refine aE h (λfO h=>?_) (λfO h=>?_)
     .refine ws _ ?_;exact aw (cw _ (.inl (az [.bool false])))
     .refine aL (bT _ (cq _ (.inl ?_)));refine wr _ ?_;exact dw _ (.inr ⟨_,aZ rfl,ev (i64.wrap (fR+1)) h⟩)
    .refine eO (U (b_ e0) kb) (mc R _ dO) _ ?_;refine n8 rfl ?_;refine aL (bT _ (cq _ (.inl ?_)));refine wr _ ?_;exact dw _ (.inr ⟨_,aZ rfl,ev (i64.wrap (fR+1)) h⟩)
  .refine cK (bs 0 _ (aT 0 _ (bM _ (bA _ (.inl ?_)))));refine ws _ ?_;exact aw (ai _ (.inl (az [.bool (decide ((a0.length:Int)<=12))])))
 obtain⟨n,h⟩:=cC h;exact cQ (.inr ⟨_,aZ rfl,eT n 0 h⟩)
theorem apZ (a0 r) (h:J3 a0=some r):aW ah 87 [dQ a0] (.int .i64 r) []:=by
 refine bw [0] [.tmp 2] Tryz.func87 c87 (λbq ai bo=>?_);refine ws _ ?_;refine ay ai (λ_ bA bc ae=>?_);refine bj bc (λ_ fg dm _ aD=>?_);obtain⟨R,cM,h⟩:=al h;refine cH (apK a0.c8 _ cM) _ ?_;refine aE h (λdA h=>?_) (λdA h=>?_)
 .refine ws _ ?_;exact aw (dm _ (.inl (az [.int .i64 1])))
 .obtain⟨ae,jl,h⟩:=al h;rcases dH h with⟨fl,h⟩|⟨fl,h⟩
  .refine eO (hj fl) (mb (a0.cL.length:Int) 1 3 _ jl) _ ?_;refine iT rfl ?_;refine ws _ ?_;exact aw (dm _ (.inl (az [.int .i64 2])))
  .obtain⟨aD,dd,h⟩:=al h;refine dC (b6 [(1,.aS (dQ a0)),(8,.bool aD)] (λP bl=>?_) ?_)
   ·(try simp only[aK.down,simprocAttr,(b_ fl)]);refine dD (mb (a0.cL.length:Int) 1 3 _ jl) rfl rfl rfl rfl (.inl (by rfl)) ?_;simp only[aK.down,simprocAttr,(b_ fl)];refine iF (apR a0.cL a0 _ dd) rfl rfl (by simp only[aK.down,simprocAttr,(b_ fl),YO.down]<;>rfl) rfl (.inr (by rfl)) ?_;simp only[aK.down,simprocAttr,(b_ fl)];exact bR (b_ fl)
   refine aE h (λfh h=>?_) (λfh h=>?_)
   .refine ws _ ?_;exact aw (dm _ (.inl (az [.int .i64 2])))
   .obtain⟨aX,ck,h⟩:=al h;refine cH (apX a0.cz _ ck) _ ?_;refine aE h (λkb h=>?_) (λkb h=>?_)
    .refine ws _ ?_;exact aw (dm _ (.inl (az [.int .i64 3])))
    .obtain⟨aT,gj,h⟩:=al h;refine cH (ZC a0.dj _ gj) _ ?_;refine aE h (λuV h=>?_) (λuV h=>?_)
     .refine ws _ ?_;exact aw (dm _ (.inl (az [.int .i64 4])))
     .obtain⟨bp,lC,h⟩:=al h;refine cH (ZC a0.dk _ lC) _ ?_;refine aE h (λou h=>?_) (λou h=>?_)
      .refine ws _ ?_;exact aw (dm _ (.inl (az [.int .i64 5])))
      .refine aL (fg _ (bA _ (.inl ?_)));refine ws _ ?_;exact aw (ai _ (.inl (az [.int .i64 0])))
theorem Sc (a0 r) (h:J4 a0=some r):aW ah 61 [dQ a0] (.bool r) []:=by
 refine bw [0] [.tmp 2] Tryz.func61 akY (λbq ai bo=>?_);refine ws _ ?_;obtain⟨R,aU,h⟩:=al h;refine cH (apZ a0 _ aU) _ ?_;exact aw (ai _ (.inl (az [.bool (R==0)])))
theorem ap0 (a0 J r) (h:F9 a0 J=some r):aW ah 64 [.slice (a0.map bx),bB J] (.bool r) []:=by
 refine bw [0,1] [.tmp 4] Tryz.func64 akZ (λbq ai bo=>?_);refine ws _ ?_;refine ay ai (λ_ bA bc ae=>?_);obtain⟨R,b4,h⟩:=al h;rcases dH h with⟨cV,h⟩|⟨cV,h⟩
 .refine lA (hj cV) (x_ J.cp (a0.length:Int) _ b4) _ ?_;refine iT rfl ?_;refine ws _ ?_;exact aw (bc _ (.inl (az [.bool false])))
 .obtain⟨ae,b9,h⟩:=al h;obtain⟨aD,fJ,h⟩:=al h;refine jz rfl (iU [(0,.slice (a0.map bx)),(3,.aS (bB J)),(24,.bool (!aD))] (λP bl=>?_) ?_)
  ·(try simp only[c_.down,simprocAttr,(b_ cV),b9]);refine h_ (x_ J.cp (a0.length:Int) _ b4) rfl rfl rfl rfl (.inl (by rfl)) ?_;simp only[c_.down,simprocAttr,(b_ cV),b9];refine lN (x_ J.Part (ae.Body.length:Int) _ fJ) rfl rfl rfl rfl (.inl (by rfl)) ?_;simp only[c_.down,simprocAttr,(b_ cV),b9];refine⟨hY (by kernel_rfl),?_⟩;exact bR (U (b_ cV) b9)
  refine aE h (λe7 h=>?_) (λe7 h=>?_)
  .refine ws _ ?_;exact aw (bc _ (.inl (az [.bool false])))
  .refine aL (bA _ (.inl ?_));refine cU b9 _ ?_;obtain⟨aX,dz,h⟩:=al h;rcases dH h with⟨gX,h⟩|⟨gX,h⟩
   .obtain⟨aT,dZ,h⟩:=al h;obtain⟨bp,ck,h⟩:=al h;rcases dH h with⟨kb,h⟩|⟨kb,h⟩
    .obtain⟨bs,eu,h⟩:=al h;refine jz rfl (iU [(4,.bool bs)] (λP bl=>?_) ?_)
     ·(try simp only[c_.down,simprocAttr,dz,gX,ck,b2 ck,kb]);refine lN (R_ ae _ dZ) rfl rfl rfl rfl (.inl (by rfl)) ?_;simp only[c_.down,simprocAttr,dz,gX,ck,b2 ck,kb];refine lN (Sb J.bH _ eu) rfl rfl rfl rfl (.inl (by rfl)) ?_;simp only[c_.down,simprocAttr,dz,gX,ck,b2 ck,kb];refine⟨hY (by kernel_rfl),?_⟩;exact bR (U dz (U gX (U ck (U (b2 ck) kb))))
     exact aw (ai _ (.inl (az [.bool bs])))
    .refine lA (U dz (U gX (U ck (U (b2 ck) kb)))) (R_ ae _ dZ) _ ?_;exact aw (ai _ (.inl (az [.bool false])))
   .refine oT (U dz gX) _ ?_;exact aw (ai _ (.inl (az [.bool false])))
theorem ap1 (a0 J r) (h:PO a0 J=some r):aW ah 63 [bB a0,.ref (dQ J)] (.bool r) []:=by
 refine bw [0,1] [.tmp 3] Tryz.func63 ak0 (λbq ai bo=>?_);refine ws _ ?_;obtain⟨R,aU,h⟩:=al h;refine cH (ap0 J.c8 a0 _ aU) _ ?_;exact aw (ai _ (.inl (az [.bool (!R)])))
theorem ap2 (a0 J r) (h:PR a0 J=some r):aW ah 88 [.slice (a0.map bB),.fn 63 [.ref (dQ J)]] (.int .i64 r) []:=by
 refine bw [0,1] [.tmp 4] Tryz.func88 ak1 (λbq ai bo=>?_);refine ws _ ?_;refine ay ai (λ_ bA bc ae=>?_);refine ws _ ?_;refine bj bc (λeC _ bG bM _=>?_);show bn ah (.loop ?eG) _ _;have eT:∀n cA,F_ a0 J n cA=some r->cD ah ?eG eC (aq [(0,.slice (a0.map bB)),(1,.fn 63 [.ref (dQ J)]),(7,.int .i64 (a0.length:Int)),(8,.int .i64 cA)]):=by
  refine cS (λ_ ev cA h=>cR bG (λ_ dw cn aT=>?_));refine ws _ ?_;refine ay cn (λ_ dK _ bs=>?_);refine aE h (λb7 h=>?_) (λb7 h=>?_)
  .refine aL (dK _ (.inl ?_));refine ay cn (λ_ cq bW _=>?_);refine bj bW (λ_ bT cw _ _=>?_);refine ws _ ?_;obtain⟨R,dz,h⟩:=al h;obtain⟨ae,dO,h⟩:=al h;refine eO dz (ap1 R J _ dO) _ ?_;refine aE h (λe0 h=>?_) (λe0 h=>?_)
   .refine ws _ ?_;exact aw (cw _ (.inl (az [.int .i64 cA])))
   .refine aL (bT _ (cq _ (.inl ?_)));refine wr _ ?_;exact dw _ (.inr ⟨_,aZ rfl,ev (i64.wrap (cA+1)) h⟩)
  .refine cK (bs 0 _ (aT 0 _ (bM _ (bA _ (.inl ?_)))));refine ws _ ?_;exact aw (ai _ (.inl (az [.int .i64 (-1)])))
 obtain⟨n,h⟩:=cC h;exact cQ (.inr ⟨_,aZ rfl,eT n 0 h⟩)
theorem ap3 (a0 J r) (h:J5 a0 J=some r):aW ah 62 [.slice (a0.map bB),.fn 63 [.ref (dQ J)]] (.bool r) []:=by
 refine bw [0,1] [.tmp 4] Tryz.func62 ak2 (λbq ai bo=>?_);refine ws _ ?_;obtain⟨R,aU,h⟩:=al h;refine cH (ap2 a0 J _ aU) _ ?_;exact aw (ai _ (.inl (az [.bool (decide (0<=R))])))
theorem ap4 (a0 J r) (h:J6 a0 J=some r):aW ah 29 [dQ a0,.slice (J.map bB)] (.bool r) []:=by
 refine bw [0,1] [.tmp 4] Tryz.func29 ak3 (λbq ai bo=>?_);refine ws _ ?_;obtain⟨ae,b4,h⟩:=al h;rcases dH h with⟨cV,h⟩|⟨cV,h⟩
 .rcases dH h with⟨dA,h⟩|⟨dA,h⟩
  .obtain⟨aD,b9,h⟩:=al h;refine dC (b6 [(4,.bool (!aD))] (λP bl=>?_) ?_)
   ·(try simp only[aK.down,simprocAttr,cV,dA]);refine dD (Sc a0 _ b4) rfl rfl rfl rfl (.inl (by rfl)) ?_;simp only[aK.down,simprocAttr,cV,dA];refine iF (ap3 J a0 _ b9) rfl rfl (by simp only[aK.down,simprocAttr,cV,dA,YO.down]<;>rfl) rfl (.inr (by rfl)) ?_;simp only[aK.down,simprocAttr,cV,dA];exact bR (U cV dA)
   exact aw (ai _ (.inl (az [.bool (!aD)])))
  .refine eO (U cV dA) (Sc a0 _ b4) _ ?_;exact aw (ai _ (.inl (az [.bool false])))
 .refine eO cV (Sc a0 _ b4) _ ?_;exact aw (ai _ (.inl (az [.bool false])))
theorem ap5 (uA:ayu->Option (bQ×(List dr)×ayu)) (ap6:∀a0 r,uA a0=some r->aW ah 204 [.slice (a0.map dR)] (.tuple [.aS (.agg [dR r.1,.ag 1 (r.2.1.map lQ)]),.slice (r.2.2.map dR)]) []) (a0 r) (h:PT uA a0=some r):aW ah 204 [.slice (a0.map dR)] (.tuple [.aS (.agg [dR r.1,.ag 1 (r.2.1.map lQ)]),.slice (r.2.2.map dR)]) []:=by
 refine bw [0] [.tmp 2,.tmp 3] Tryz.func204 ak4 (λbq ai bo=>?_);refine ws _ ?_;obtain⟨R,aU,h⟩:=al h;refine cU (U aU (show∀s,gz ah s 266 [(0,.agg [.int .i64 R.Kind,.int .i64 R.Value])]=some (.agg [.agg [.int .i64 R.Kind,.int .i64 R.Value],.bg],s)from λs=>by kernel_rfl)) _ ?_;obtain⟨ae,cM,h⟩:=al h;refine cU (U cM (@jO _ dR 2 (λ_=>rfl))) _ ?_;refine ay ai (λ_ cB cW _=>?_);obtain⟨aD,fJ,h⟩:=al h;refine eO aU (Zy R _ fJ) _ ?_;refine bj cW (λjX _ bW e7 _=>?_);show bn ah (.loop ?zK) _ _;have zZ:∀n ib j7 sQ,zv uA R aD n ib j7 sQ=some r->cD ah ?zK jX (aq [(4,.aS (.agg [dR R,.ag 1 (ib.map lQ)])),(5,.slice (j7.map dR)),(17,.int .i64 aD),(18,.int .i64 sQ)]):=by
  refine cS (λ_ z1 ib j7 sQ h=>cR bW (λ_ bT cw dI=>?_));refine ws _ ?_;refine ay cw (λ_ hv _ kv=>?_);refine aE h (λfh h=>?_) (λfh h=>?_)
  .refine aL (hv _ (.inl ?_));refine ay cw (λ_ eH ef _=>?_);refine bj ef (λ_ gi _ _ _=>?_);refine ws _ ?_;obtain⟨aX,eu,h⟩:=al h;refine cH (ap6 j7 _ eu) _ ?_;obtain⟨anO,gj,h⟩:=al h;(try simp only[fN.down,Nat.zero_add,Nat.add_zero,reduceAdd]at gj);refine h9 (b6 [(4,.aS (.agg [dR R,.ag 1 ((ib++[(dr.mk aX.1 aX.2.1)]).map lQ)])),(5,.slice (aX.2.2.map dR)),(17,.int .i64 aD),(18,.int .i64 sQ)] (λP bl=>?_) ?_)
   .simp only[aK.down,simprocAttr,YP.down,n9,dX,gj];(try simp only[j_.down,simprocAttr,YP.down,n9,dX,gj]at bl⊢);exact bl
   refine gi _ (eH _ (.inl ?_));refine wr [(4,.aS (.agg [dR R,.ag 1 ((ib++[(dr.mk aX.1 aX.2.1)]).map lQ)])),(5,.slice (aX.2.2.map dR)),(17,.int .i64 aD),(18,.int .i64 (i64.wrap (sQ+1)))] ?_;exact bT _ (.inr ⟨_,aZ rfl,z1 (ib++[(dr.mk aX.1 aX.2.1)]) aX.2.2 (i64.wrap (sQ+1)) h⟩)
  .refine cK (kv 0 _ (dI 0 _ (e7 _ (cB _ (.inl ?_)))));refine ws _ ?_;exact aw (ai _ (.inl (az [.aS (.agg [dR R,.ag 1 (ib.map lQ)]),.slice (j7.map dR)])))
 obtain⟨n,h⟩:=cC h;exact cQ (.inr ⟨_,hW [] rfl (hJ (t:=4) (d:=.aS (.agg [dR R,.bg])) (bJ:=.aS (.agg [dR R,.ag 1 []])) rfl rfl (.aS (.agg (.cons (.refl _) (.cons (.iq _) (.nil))))) (by decide) (cF (t:=5) (d:=.slice (ae.map dR)) rfl (cF (t:=17) (d:=.int .i64 aD) rfl (cF (t:=18) (d:=.int .i64 0) rfl (hX))))),zZ n [] ae 0 h⟩)
theorem ap7:∀n a0 r,Ci n a0=some r->aW ah 204 [.slice (a0.map dR)] (.tuple [.aS (.agg [dR r.1,.ag 1 (r.2.1.map lQ)]),.slice (r.2.2.map dR)]) []:=by
 intro n;induction n with
 |zero=>intro a0 r h;cases(show none=some r from h)
 |succ n ih=>intro a0 r h;exact ap5 (Ci n) ih a0 r h
theorem ap8 (a0 r) (h:PU a0=some r):aW ah 204 [.slice (a0.map dR)] (.tuple [.aS (.agg [dR r.1,.ag 1 (r.2.1.map lQ)]),.slice (r.2.2.map dR)]) []:=by
 obtain⟨n,h⟩:=cC h;exact ap7 n a0 r h
theorem ap9 (a0 r) (h:J7 a0=some r):aW ah 175 [.slice (a0.map dR)] (.aS (.agg [dR r.1,.ag 1 (r.2.map lQ)])) []:=by
 refine bw [0] [.tmp 2] Tryz.func175 c175 (λbq ai bo=>?_);refine ws _ ?_;obtain⟨R,aU,h⟩:=al h;refine cH (ap8 a0 _ aU) _ ?_;refine ws _ ?_;exact aw (ai _ (.inl (az [.aS (.agg [dR R.1,.ag 1 (R.2.1.map lQ)])])))
theorem wj (a0 r) (h:ru a0=some r):aW ah 205 [.bool a0] (.int .i64 r) []:=by
 refine bw [0] [.tmp 2] Tryz.func205 ak5 (λbq ai bo=>?_);refine ws _ ?_;refine ay ai (λ_ bA bc _=>?_);refine ws _ ?_;refine aE h (λbM h=>?_) (λbM h=>?_)
 .refine ws _ ?_;exact aw (bc _ (.inl (az [.int .i64 1])))
 .refine aL (bA _ (.inl ?_));refine ws _ ?_;exact aw (ai _ (.inl (az [.int .i64 0])))
theorem ap_ (a0 J a2 r) (h:J8 a0 J a2=some r):aW ah 206 [.int .i64 a0,.int .i64 J,.int .i64 a2] (.int .i64 r) []:=by
 refine bw [0,1,2] [.tmp 6] Tryz.func206 c206 (λbq ai bo=>?_);refine ws _ ?_;refine ay ai (λ_ bA bc ae=>?_);refine ws _ ?_;refine bj bc (λ_ fa bG _ aX=>?_);refine ws _ ?_;refine aE h (λdA h=>?_) (λdA h=>?_)
 .refine cU (@xw .i64 64 (by decide)) _ ?_;exact aw (bG _ (.inl (az [.int .i64 (Int.tmod (i64.wrap (J+a2)) 64)])))
 .refine ws _ ?_;refine aE h (λe7 h=>?_) (λe7 h=>?_)
  .refine cU (@xw .i64 64 (by decide)) _ ?_;exact aw (bG _ (.inl (az [.int .i64 (Int.tmod (i64.wrap ((i64.wrap (J-a2))+64)) 64)])))
  .refine ws _ ?_;refine aE h (λe1 h=>?_) (λe1 h=>?_)
   .refine cU (@xw .i64 64 (by decide)) _ ?_;exact aw (bG _ (.inl (az [.int .i64 (Int.tmod (i64.wrap (J*a2)) 64)])))
   .refine ws _ ?_;refine aE h (λe0 h=>?_) (λe0 h=>?_)
    .obtain⟨R,dL,h⟩:=al h;refine cH (wj (J==a2) _ dL) _ ?_;exact aw (bG _ (.inl (az [.int .i64 R])))
    .refine ws _ ?_;refine aE h (λfO h=>?_) (λfO h=>?_)
     .obtain⟨ae,gW,h⟩:=al h;refine cH (wj (J !=a2) _ gW) _ ?_;exact aw (bG _ (.inl (az [.int .i64 ae])))
     .refine ws _ ?_;refine aE h (λgk h=>?_) (λgk h=>?_)
      .obtain⟨aD,iI,h⟩:=al h;refine cH (wj (decide (J<a2)) _ iI) _ ?_;exact aw (bG _ (.inl (az [.int .i64 aD])))
      .refine ws _ ?_;refine aE h (λov h=>?_) (λov h=>?_)
       .obtain⟨aX,qL,h⟩:=al h;refine cH (wj (decide (J<=a2)) _ qL) _ ?_;exact aw (bG _ (.inl (az [.int .i64 aX])))
       .refine ws _ ?_;refine aE h (λgY h=>?_) (λgY h=>?_)
        .rcases dH h with⟨jt,h⟩|⟨jt,h⟩
         .obtain⟨aT,js,h⟩:=al h;refine eO jt (wj (a2 !=0) _ js) _ ?_;exact aw (bG _ (.inl (az [.int .i64 aT])))
         .obtain⟨bp,zY,h⟩:=al h;refine eO jt (wj false _ zY) _ ?_;exact aw (bG _ (.inl (az [.int .i64 bp])))
        .refine aL (fa _ (bA _ (.inl ?_)));rcases dH h with⟨p4,h⟩|⟨p4,h⟩
         .obtain⟨bs,tc,h⟩:=al h;refine eO p4 (wj true _ tc) _ ?_;exact aw (ai _ (.inl (az [.int .i64 bs])))
         .obtain⟨cv,wc,h⟩:=al h;refine eO p4 (wj (a2 !=0) _ wc) _ ?_;exact aw (ai _ (.inl (az [.int .i64 cv])))
theorem aqa (Cj:dr->aye->ayh) (Sd:∀a0 J r,Cj a0 J=some r->aW ah 176 [.ref (qI a0),.slice (J.map a8)] (.int .i64 r) []) (a0 J r) (h:PV Cj a0 J=some r):aW ah 176 [.ref (qI a0),.slice (J.map a8)] (.int .i64 r) []:=by
 refine bw [0,1] [.tmp 4] Tryz.func176 ak6 (λbq ai bo=>?_);refine ws _ ?_;refine ay ai (λ_ bA bc ae=>?_);refine ws _ ?_;refine bj bc (λ_ fa bG _ aX=>?_);refine ws _ ?_;refine aE h (λdA h=>?_) (λdA h=>?_)
 .refine ws _ ?_;exact aw (bG _ (.inl (az [.int .i64 a0.term.Value])))
 .refine ws _ ?_;refine aE h (λe7 h=>?_) (λe7 h=>?_)
  .obtain⟨R,kn,h⟩:=al h;refine cU kn _ ?_;exact aw (bG _ (.inl (az [.int .i64 R])))
  .refine ws _ ?_;refine aE h (λfh h=>?_) (λfh h=>?_)
   .obtain⟨ae,dZ,h⟩:=al h;obtain⟨aD,ck,h⟩:=al h;obtain⟨aX,dL,h⟩:=al h;refine dC (b6 [(4,.int .i64 aX)] (λP bl=>?_) ?_)
    ·(try simp only[aK.down,simprocAttr,dZ]);refine dD (Sd ae J _ ck) rfl rfl (by simp only[aK.down,simprocAttr,dZ,x0.down]<;>rfl) rfl (.inl (by rfl)) ?_;simp only[aK.down,simprocAttr,dZ];refine dD (wj (aD==0) _ dL) rfl rfl rfl rfl (.inl (by rfl)) ?_;simp only[aK.down,simprocAttr,dZ];exact bR dZ
    exact aw (bG _ (.inl (az [.int .i64 aX])))
   .refine aL (fa _ (bA _ (.inl ?_)));obtain⟨aT,eX,h⟩:=al h;obtain⟨bp,gj,h⟩:=al h;obtain⟨bs,gW,h⟩:=al h;obtain⟨cv,e8,h⟩:=al h;obtain⟨dE,ie,h⟩:=al h;refine jz rfl (iU [(4,.int .i64 dE)] (λP bl=>?_) ?_)
    ·(try simp only[c_.down,simprocAttr,eX,gW]);refine h_ (Sd aT J _ gj) rfl rfl (by simp only[c_.down,simprocAttr,eX,gW,x0.down]<;>rfl) rfl (.inl (by rfl)) ?_;simp only[c_.down,simprocAttr,eX,gW];refine h_ (Sd bs J _ e8) rfl rfl (by simp only[c_.down,simprocAttr,eX,gW,x0.down]<;>rfl) rfl (.inl (by rfl)) ?_;simp only[c_.down,simprocAttr,eX,gW];refine h_ (ap_ a0.term.Value bp cv _ ie) rfl rfl rfl rfl (.inl (by rfl)) ?_;simp only[c_.down,simprocAttr,eX,gW];refine⟨hY (by kernel_rfl),?_⟩;exact bR (U eX gW)
    exact aw (ai _ (.inl (az [.int .i64 dE])))
theorem aqb:∀n a0 J r,zw n a0 J=some r->aW ah 176 [.ref (qI a0),.slice (J.map a8)] (.int .i64 r) []:=by
 intro n;induction n with
 |zero=>intro a0 J r h;cases(show none=some r from h)
 |succ n ih=>intro a0 J r h;exact aqa (zw n) ih a0 J r h
theorem aqc (a0 J r) (h:PW a0 J=some r):aW ah 176 [.ref (qI a0),.slice (J.map a8)] (.int .i64 r) []:=by
 obtain⟨n,h⟩:=cC h;exact aqb n a0 J r h
theorem ZD (a0 J r) (h:Ck a0 J=some r):aW ah 142 [.slice (a0.map dR),.slice (J.map a8)] (.int .i64 r) []:=by
 refine bw [0,1] [.tmp 4] Tryz.func142 ak7 (λbq ai bo=>?_);refine ws _ ?_;obtain⟨R,aU,h⟩:=al h;obtain⟨ae,b4,h⟩:=al h;refine dC (b6 [(4,.int .i64 ae)] (λP bl=>?_) ?_)
 ·(try simp only[aK.down,simprocAttr]);refine dD (ap9 a0 _ aU) rfl rfl rfl rfl (.inl (by rfl)) ?_;simp only[aK.down,simprocAttr];refine dD (aqc (dr.mk R.1 R.2) J _ b4) rfl rfl (by simp only[aK.down,simprocAttr,gN,gP,gQ,cG, @bV _ lQ p2 (λ_=>XU _)]<;>rfl) rfl (.inr (by rfl)) ?_;simp only[aK.down,simprocAttr];exact bR trivial
 exact aw (ai _ (.inl (az [.int .i64 ae])))
theorem ZE (a0 J r) (h:Ga a0 J=some r):aW ah 138 [.slice (a0.map iX),.slice (J.map a8)] (.ag 1 (r.map a8)) []:=by
 refine bw [0,1] [.tmp 4] Tryz.func138 c138 (λbq ai bo=>?_);refine ws _ ?_;refine ws _ ?_;refine ay ai (λ_ fg dm _=>?_);refine ws _ ?_;refine bj dm (λqJ _ cn cV _=>?_);show bn ah (.loop ?il) _ _;have iZ:∀n fC rv,Cl a0 J n fC rv=some r->cD ah ?il qJ (aq [(1,.slice (J.map a8)),(5,.ag 1 (fC.map a8)),(8,.slice (a0.map iX)),(9,.int .i64 (a0.length:Int)),(10,.int .i64 rv)]):=by
  refine cS (λ_ i1 fC rv h=>cR cn (λ_ cB cW bp=>?_));refine ws _ ?_;refine ay cW (λ_ iY _ cv=>?_);refine aE h (λe7 h=>?_) (λe7 h=>?_)
  .refine aL (iY _ (.inl ?_));refine ay cW (λ_ bT cw _=>?_);refine bj cw (λ_ eE _ _ _=>?_);obtain⟨R,dz,h⟩:=al h;refine cU dz _ ?_;obtain⟨ae,dZ,h⟩:=al h;obtain⟨KV,ck,h⟩:=al h;(try simp only[fN.down,Nat.zero_add,Nat.add_zero,reduceAdd]at ck);refine zL (U (show∀s,dW ah s 54 1 [(0,.int .i64 ae)]=some (.ag 1 [.int .i64 ae],s)from λs=>by kernel_rfl) (U (@kr ah 54 54 2 rfl rfl) (U @ks (U @kt (U @gO (U @all_cons (U @all_nil (U ck (@jO _ a8 1 (λ_=>rfl)))))))))) (ZD R J _ dZ) [(1,.slice (J.map a8)),(5,.ag 1 ((fC++[ae]).map a8)),(8,.slice (a0.map iX)),(9,.int .i64 (a0.length:Int)),(10,.int .i64 rv)] ?_;refine eE _ (bT _ (.inl ?_));refine wr [(1,.slice (J.map a8)),(5,.ag 1 ((fC++[ae]).map a8)),(8,.slice (a0.map iX)),(9,.int .i64 (a0.length:Int)),(10,.int .i64 (i64.wrap (rv+1)))] ?_;exact cB _ (.inr ⟨_,aZ rfl,i1 (fC++[ae]) (i64.wrap (rv+1)) h⟩)
  .refine cK (cv 0 _ (bp 0 _ (cV _ (fg _ (.inl ?_)))));refine ws _ ?_;exact aw (ai _ (.inl (az [.ag 1 (fC.map a8)])))
 obtain⟨n,h⟩:=cC h;exact cQ (.inr ⟨_,hW [] rfl (cF (t:=1) (d:=.slice (J.map a8)) rfl (hJ (t:=5) (d:=.bg) (bJ:=.ag 1 []) rfl rfl (.iq _) (by decide) (cF (t:=8) (d:=.slice (a0.map iX)) rfl (cF (t:=9) (d:=.int .i64 (a0.length:Int)) rfl (cF (t:=10) (d:=.int .i64 0) rfl (hX)))))),iZ n [] 0 h⟩)
theorem aqd (a0 J:Int) (r:ayc) (h:Cm a0 J=some r):aW ah 150 [.int .i64 a0,.int .i64 J] (.str r) []:=amp a0 J r h
theorem Ac (a0 r) (h:ry a0=some r):aW ah 101 [.int .i64 a0] (.str r) []:=by
 refine bw [0] [.tmp 2] Tryz.func101 ak8 (λbq ai bo=>?_);refine ws _ ?_;obtain⟨R,aU,h⟩:=al h;refine cH (aqd a0 10 _ aU) _ ?_;exact aw (ai _ (.inl (az [.str R])))
theorem ZF (a0:ayb) (J:ayc) (r:ayc) (h:strings_Join a0 J=some r):aW ah 152 [.slice (a0.map bm),.str J] (.str r) []:=amq a0 J r h
theorem ZG (a0 J r) (h:zx a0 J=some r):aW ah 148 [.slice (a0.map a8),.str J] (.str r) []:=by
 refine bw [0,1] [.tmp 4] Tryz.func148 c148 (λbq ai bo=>?_);refine ws _ ?_;obtain⟨RI,aU,h⟩:=al h;refine rI (U (qT aU) @List.map_replicate.{0,0}) [(0,.slice (a0.map a8)),(1,.str J),(5,.ag 1 ((List.replicate (Int.toNat (a0.length:Int)) ([]:ayc)).map bm))] ?_;refine ay ai (λ_ fa bG aX=>?_);refine ws [(1,.str J),(5,.ag 1 ((List.replicate (Int.toNat (a0.length:Int)) ([]:ayc)).map bm)),(11,.slice (a0.map a8)),(12,.int .i64 (a0.length:Int)),(13,.int .i64 0)] ?_;refine bj bG (λjY _ cW dA _=>?_);show bn ah (.loop ?il) _ _;have iZ:∀n fC od,Cn a0 J n fC od=some r->cD ah ?il jY (aq [(1,.str J),(5,.ag 1 (fC.map bm)),(11,.slice (a0.map a8)),(12,.int .i64 (a0.length:Int)),(13,.int .i64 od)]):=by
  refine cS (λ_ i1 fC od h=>cR cW (λ_ dK eK bs=>?_));refine ws _ ?_;refine ay eK (λ_ cq _ dE=>?_);refine aE h (λfl h=>?_) (λfl h=>?_)
  .refine aL (cq _ (.inl ?_));refine ay eK (λ_ eE hM _=>?_);refine bj hM (λ_ hv _ _ _=>?_);obtain⟨R,dO,h⟩:=al h;refine cU dO _ ?_;obtain⟨ae,ck,h⟩:=al h;obtain⟨aD,dL,h⟩:=al h;refine h9 (b6 [(1,.str J),(5,.ag 1 ((List.set fC (Int.toNat od) ae).map bm)),(11,.slice (a0.map a8)),(12,.int .i64 (a0.length:Int)),(13,.int .i64 od)] (λP bl=>?_) ?_)
   ·(try simp only[aK.down,simprocAttr,dL,b2 dL,cO,db]);refine dD (Ac R _ ck) rfl rfl rfl rfl (.inl (by rfl)) ?_;simp only[aK.down,simprocAttr,dL,b2 dL,cO,db];exact bR (U dL (U (b2 dL) @cO))
   refine hv _ (eE _ (.inl ?_));refine wr [(1,.str J),(5,.ag 1 ((List.set fC (Int.toNat od) ae).map bm)),(11,.slice (a0.map a8)),(12,.int .i64 (a0.length:Int)),(13,.int .i64 (i64.wrap (od+1)))] ?_;exact dK _ (.inr ⟨_,aZ rfl,i1 (List.set fC (Int.toNat od) ae) (i64.wrap (od+1)) h⟩)
  .refine cK (dE 0 _ (bs 0 _ (dA _ (fa _ (.inl ?_)))));obtain⟨aX,gj,h⟩:=al h;refine dC (b6 [(4,.str aX)] (λP bl=>?_) ?_)
   ·(try simp only[aK.down,simprocAttr]);refine dD (ZF fC J _ gj) rfl rfl (by simp only[aK.down,simprocAttr,Rb.down]<;>rfl) rfl (.inr (by rfl)) ?_;simp only[aK.down,simprocAttr];exact bR trivial
   exact aw (ai _ (.inl (az [.str aX])))
 obtain⟨n,h⟩:=cC h;exact cQ (.inr ⟨_,aZ rfl,iZ n (List.replicate (Int.toNat (a0.length:Int)) ([]:ayc)) 0 h⟩)
theorem Le (a0 J r) (h:zy a0 J=some r):aW ah 97 [.str a0,.slice (J.map a8)] (.tuple [.str r.1,.bool r.2]) []:=by
 refine bw [0,1] [.tmp 4,.tmp 5] Tryz.func97 ak_ (λbq ai bo=>?_);refine ws _ ?_;refine ay ai (λ_ bA bc ae=>?_);refine bj bc (λ_ fg dm _ aD=>?_);refine ws _ ?_;refine aE h (λcV h=>?_) (λcV h=>?_)
 .refine ws _ ?_;exact aw (dm _ (.inl (az [.str ([116,97,117]:ayc),.bool ((J.length:Int)==0)])))
 .obtain⟨ae,jl,h⟩:=al h;rcases dH h with⟨fl,h⟩|⟨fl,h⟩
  .refine eO (hj fl) (mc a0 _ jl) _ ?_;refine iT rfl ?_;refine ws _ ?_;exact aw (dm _ (.inl (az [.str ([]:ayc),.bool false])))
  .rcases dH h with⟨e1,h⟩|⟨e1,h⟩
   .refine eO (U (b_ fl) e1) (mc a0 _ jl) _ ?_;refine iT rfl ?_;refine ws _ ?_;exact aw (dm _ (.inl (az [.str ([]:ayc),.bool false])))
   .obtain⟨aD,dO,h⟩:=al h;refine dC (b6 [(0,.str a0),(1,.slice (J.map a8)),(12,.bool (!aD))] (λP bl=>?_) ?_)
    ·(try simp only[aK.down,simprocAttr,(b_ fl),e1]);refine dD (mc a0 _ jl) rfl rfl rfl rfl (.inl (by rfl)) ?_;simp only[aK.down,simprocAttr,(b_ fl),e1];refine iF (Sb J _ dO) rfl rfl rfl rfl (.inl (by rfl)) ?_;simp only[aK.down,simprocAttr,(b_ fl),e1];exact bR (U (b_ fl) e1)
    refine aE h (λe0 h=>?_) (λe0 h=>?_)
    .refine ws _ ?_;exact aw (dm _ (.inl (az [.str ([]:ayc),.bool false])))
    .refine ws _ ?_;refine aE h (λh0 h=>?_) (λh0 h=>?_)
     .refine ws _ ?_;exact aw (dm _ (.inl (az [.str a0,.bool true])))
     .refine aL (fg _ (bA _ (.inl ?_)));obtain⟨ZH,gW,h⟩:=al h;(try simp only[fN.down,Nat.zero_add,Nat.add_zero,reduceAdd]at gW);obtain⟨aX,e8,h⟩:=al h;obtain⟨ZH,ie,h⟩:=al h;(try simp only[fN.down,Nat.zero_add,Nat.add_zero,reduceAdd]at ie);obtain⟨ZH,lC,h⟩:=al h;(try simp only[fN.down,Nat.zero_add,Nat.add_zero,reduceAdd]at lC);refine eO (U gW (U @vr (U @vt (U ie lC)))) (ZG J ([44]:ayc) _ e8) [(4,.str (((a0++([40]:ayc))++aX)++([41]:ayc))),(5,.bool true)] ?_;exact aw (ai _ (.inl (az [.str (((a0++([40]:ayc))++aX)++([41]:ayc)),.bool true])))
theorem Se (a0 r) (h:Co a0=some r):aW ah 139 [.slice (a0.map a8)] (.ag 1 (r.map a8)) []:=by
 refine bw [0] [.tmp 2] Tryz.func139 c139 (λbq ai bo=>?_);refine ws _ ?_;refine ay ai (λ_ bA bc _=>?_);rcases dH h with⟨bM,h⟩|⟨bM,h⟩
 .refine dC (b6 [(0,.slice (a0.map a8)),(4,.gn)] (λP bl=>?_) ?_)
  .simp only[aK.down,simprocAttr,IJ,(WB bM),IK];exact bR (U @IJ (U (WB bM) @IK))
  obtain⟨bU,h⟩:=acm h;refine afQ rfl ?_ ?_
  .replace h:=bU;refine ws _ ?_;exact aw (bc _ (.inr ⟨[(2,.ag 1 [])],hW [] rfl (hJ (t:=2) (d:=.bg) rfl rfl (.iq _) (by decide) (hX)),az [.ag 1 []]⟩))
  .refine aL (bA _ (.inl ?_));obtain⟨u8,fJ,h⟩:=al h;(try simp only[fN.down,Nat.zero_add,Nat.add_zero,reduceAdd]at fJ);refine cU (U (show∀s,dW ah s 54 0 []=some (.ag 1 [],s)from λs=>by kernel_rfl) (U (@kr ah 54 54 2 rfl rfl) (U @ks (U @kt (U @gO (U @all_cons (U @all_nil (U fJ (@jO _ a8 1 (λ_=>rfl)))))))))) _ ?_;exact aw (ai _ (.inl (az [.ag 1 (a0.map a8)])))
 .refine dC (b6 [(0,.slice (a0.map a8)),(4,.bool false)] (λP bl=>?_) ?_)
  .simp only[aK.down,simprocAttr,IJ,(WC bM),IK];exact bR (U @IJ (U (WC bM) @IK))
  refine n8 rfl ?_;refine aL (bA _ (.inl ?_));obtain⟨Da,iD,h⟩:=al h;(try simp only[fN.down,Nat.zero_add,Nat.add_zero,reduceAdd]at iD);refine cU (U (show∀s,dW ah s 54 0 []=some (.ag 1 [],s)from λs=>by kernel_rfl) (U (@kr ah 54 54 2 rfl rfl) (U @ks (U @kt (U @gO (U @all_cons (U @all_nil (U iD (@jO _ a8 1 (λ_=>rfl)))))))))) _ ?_;exact aw (ai _ (.inl (az [.ag 1 (a0.map a8)])))
theorem aqe (a0 r) (h:PZ a0=some r):aW ah 265 [.int .i64 a0] (.bool r) []:=by
 refine bw [0] [.tmp 2] Tryz.func265 ala (λbq ai bo=>?_);refine ws _ ?_;obtain⟨R,aU,h⟩:=al h;refine cH (mb a0 (-1000000000000) 1000000000000 _ aU) _ ?_;exact aw (ai _ (.inl (az [.bool (!R)])))
theorem aqf (a0 r) (h:P1 a0=some r):aW ah 174 [.slice (a0.map a8),.fn 265 []] (.int .i64 r) []:=by
 refine bw [0,1] [.tmp 4] Tryz.func174 alb (λbq ai bo=>?_);refine ws _ ?_;refine ay ai (λ_ bA bc ae=>?_);refine ws _ ?_;refine bj bc (λeC _ bG bM _=>?_);show bn ah (.loop ?eG) _ _;have eT:∀n cA,Cp a0 n cA=some r->cD ah ?eG eC (aq [(0,.slice (a0.map a8)),(1,.fn 265 []),(7,.int .i64 (a0.length:Int)),(8,.int .i64 cA)]):=by
  refine cS (λ_ ev cA h=>cR bG (λ_ dw cn aT=>?_));refine ws _ ?_;refine ay cn (λ_ dK _ bs=>?_);refine aE h (λb7 h=>?_) (λb7 h=>?_)
  .refine aL (dK _ (.inl ?_));refine ay cn (λ_ cq bW _=>?_);refine bj bW (λ_ bT cw _ _=>?_);refine ws _ ?_;obtain⟨R,dz,h⟩:=al h;obtain⟨ae,dO,h⟩:=al h;refine eO dz (aqe R _ dO) _ ?_;refine aE h (λe0 h=>?_) (λe0 h=>?_)
   .refine ws _ ?_;exact aw (cw _ (.inl (az [.int .i64 cA])))
   .refine aL (bT _ (cq _ (.inl ?_)));refine wr _ ?_;exact dw _ (.inr ⟨_,aZ rfl,ev (i64.wrap (cA+1)) h⟩)
  .refine cK (bs 0 _ (aT 0 _ (bM _ (bA _ (.inl ?_)))));refine ws _ ?_;exact aw (ai _ (.inl (az [.int .i64 (-1)])))
 obtain⟨n,h⟩:=cC h;exact cQ (.inr ⟨_,aZ rfl,eT n 0 h⟩)
theorem aqg (a0 r) (h:P2 a0=some r):aW ah 135 [.slice (a0.map a8),.fn 265 []] (.bool r) []:=by
 refine bw [0,1] [.tmp 4] Tryz.func135 alc (λbq ai bo=>?_);refine ws _ ?_;obtain⟨R,aU,h⟩:=al h;refine cH (aqf a0 _ aU) _ ?_;exact aw (ai _ (.inl (az [.bool (decide (0<=R))])))
theorem aqh (a0 r) (h:J9 a0=some r):aW ah 250 [.slice (a0.map a8)] (.bool r) []:=by
 refine bw [0] [.tmp 2] Tryz.func250 ald (λbq ai bo=>?_);refine ws _ ?_;rcases dH h with⟨gd,h⟩|⟨gd,h⟩
 .obtain⟨R,b4,h⟩:=al h;refine eO gd (aqg a0 _ b4) _ ?_;exact aw (ai _ (.inl (az [.bool (!R)])))
 .refine cU gd _ ?_;exact aw (ai _ (.inl (az [.bool false])))
theorem aqi (a0 r) (h:Gc a0=some r):aW ah 221 [.slice (a0.map a8)] (.str r) []:=by
 refine bw [0] [.tmp 2] Tryz.func221 ale (λbq ai bo=>?_);refine ws _ ?_;refine ay ai (λ_ bA bc ae=>?_);refine bj bc (λ_ fg dm _ _=>?_);obtain⟨R,cM,h⟩:=al h;refine cH (aqh a0 _ cM) _ ?_;refine aE h (λdA h=>?_) (λdA h=>?_)
 .refine ws _ ?_;exact aw (dm _ (.inl (az [.str ([]:ayc)])))
 .refine ws _ ?_;refine aE h (λe7 h=>?_) (λe7 h=>?_)
  .refine ws _ ?_;exact aw (dm _ (.inl (az [.str ([45]:ayc)])))
  .refine aL (fg _ (bA _ (.inl ?_)));obtain⟨ae,dd,h⟩:=al h;refine cH (ZG a0 ([44]:ayc) _ dd) _ ?_;exact aw (ai _ (.inl (az [.str ae])))
theorem aqj (a0 r) (h:J_ a0=some r):aW ah 185 [bB a0] (.str r) []:=by
 refine bw [0] [.tmp 2] Tryz.func185 alf (λbq ai bo=>?_);refine ws _ ?_;obtain⟨R,aU,h⟩:=al h;obtain⟨K_,b4,h⟩:=al h;(try simp only[fN.down,Nat.zero_add,Nat.add_zero,reduceAdd]at b4);obtain⟨ae,cM,h⟩:=al h;obtain⟨K_,cl,h⟩:=al h;(try simp only[fN.down,Nat.zero_add,Nat.add_zero,reduceAdd]at cl);refine jz rfl (iU [(2,.str ((R++([58]:ayc))++ae))] (λP bl=>?_) ?_)
 ·(try simp only[c_.down,simprocAttr,b4,mz.down,cl]);refine h_ (Ac a0.Part _ aU) rfl rfl rfl rfl (.inl (by rfl)) ?_;simp only[c_.down,simprocAttr,b4,mz.down,cl];refine h_ (aqi a0.bH _ cM) rfl rfl rfl rfl (.inl (by rfl)) ?_;simp only[c_.down,simprocAttr,b4,mz.down,cl];refine⟨hY (by kernel_rfl),?_⟩;exact bR (U b4 (U mz.down cl))
 exact aw (ai _ (.inl (az [.str ((R++([58]:ayc))++ae)])))
theorem ZI (a0 r) (h:zz a0=some r):aW ah 151 [bB a0] (.str r) []:=by
 refine bw [0] [.tmp 2] Tryz.func151 alg (λbq ai bo=>?_);refine ws _ ?_;obtain⟨R,aU,h⟩:=al h;obtain⟨K_,b4,h⟩:=al h;(try simp only[fN.down,Nat.zero_add,Nat.add_zero,reduceAdd]at b4);obtain⟨ae,cM,h⟩:=al h;obtain⟨K_,cl,h⟩:=al h;(try simp only[fN.down,Nat.zero_add,Nat.add_zero,reduceAdd]at cl);refine jz rfl (iU [(2,.str ((R++([58]:ayc))++ae))] (λP bl=>?_) ?_)
 ·(try simp only[c_.down,simprocAttr,b4,mz.down,cl]);refine h_ (Ac a0.cp _ aU) rfl rfl rfl rfl (.inl (by rfl)) ?_;simp only[c_.down,simprocAttr,b4,mz.down,cl];refine h_ (aqj a0 _ cM) rfl rfl rfl rfl (.inl (by rfl)) ?_;simp only[c_.down,simprocAttr,b4,mz.down,cl];refine⟨hY (by kernel_rfl),?_⟩;exact bR (U b4 (U mz.down cl))
 exact aw (ai _ (.inl (az [.str ((R++([58]:ayc))++ae)])))
theorem aqk (dF dv dq iH kx pX uB r) (h:Ka dF dv dq iH kx pX uB=some r):aW ah 140 [.aS (.agg [.slice (dF.map bx),.ag 4 (dv.map hK),.cc (.mp dq)]),.agg [.str iH,.agg [.int .i64 kx,.int .i64 pX,.ag 1 (uB.map a8)]]] (.tuple []) [.aS (.agg [.slice (r.1.map bx),.ag 4 (r.2.1.map hK),.cc (.mp r.2.2)]),.hole]:=by
 refine bw [0,1] [] Tryz.func140 ali (λbq ai bo=>?_);refine ws _ ?_;obtain⟨Da,aU,h⟩:=al h;(try simp only[fN.down,Nat.zero_add,Nat.add_zero,reduceAdd]at aU);obtain⟨R,b4,h⟩:=al h;obtain⟨Da,cM,h⟩:=al h;(try simp only[fN.down,Nat.zero_add,Nat.add_zero,reduceAdd]at cM);refine jz rfl (iU [(0,.aS (.agg [.slice (dF.map bx),.ag 4 (dv.map hK),.cc (.mp dq)])),(1,.agg [.str iH,.agg [.int .i64 kx,.int .i64 pX,.hole]]),(3,.aS (.agg [.str iH,.agg [.int .i64 kx,.int .i64 pX,.ag 1 (uB.map a8)]])),(4,.str ((iH++([32]:ayc))++R))] (λP bl=>?_) ?_)
 ·(try simp only[c_.down,simprocAttr,aU,mz.down,cM]);refine h_ (ZI (bd.mk kx pX uB) _ b4) rfl rfl (by simp only[c_.down,simprocAttr,aU,vr,vt,cM,gN,gP,gQ,cG, @bV _ a8 a8 (λ_=>jV _)]<;>rfl) rfl (.inr (by rfl)) ?_;simp only[c_.down,simprocAttr,aU,mz.down,cM];refine⟨hY (by kernel_rfl),?_⟩;exact bR (U aU (U mz.down cM))
 refine cU (U @NU (U @Bj (show q3 ah 121=true from by kernel_rfl))) [(0,.aS (.agg [.slice (dF.map bx),.ag 4 (dv.map hK),.cc (.mp dq)])),(1,.agg [.str iH,.agg [.int .i64 kx,.int .i64 pX,.hole]]),(3,.aS (.agg [.str iH,.agg [.int .i64 kx,.int .i64 pX,.ag 1 (uB.map a8)]])),(4,.str ((iH++([32]:ayc))++R)),(18,.bool (!(j1 ((iH++([32]:ayc))++R) dq)))] ?_;refine aE h (λqj h=>?_) (λqj h=>?_)
 .refine cU (U @NV (U @Bj (show q3 ah 121=true from by kernel_rfl))) [(0,.aS (.agg [.slice (dF.map bx),.ag 4 (dv.map hK),.cc (.mp (kh ((iH++([32]:ayc))++R) true dq))])),(1,.agg [.str iH,.agg [.int .i64 kx,.int .i64 pX,.hole]]),(3,.aS (.agg [.str iH,.agg [.int .i64 kx,.int .i64 pX,.ag 1 (uB.map a8)]]))] ?_;obtain⟨Da,iD,h⟩:=al h;(try simp only[fN.down,Nat.zero_add,Nat.add_zero,reduceAdd]at iD);refine aht 0 7 [1,2,3,4,5,6,7,0,8,9,10] rfl rfl [(0,.aS (.agg [.slice (dF.map bx),.ag 4 ((dv++[(bk.mk iH (bd.mk kx pX uB))]).map hK),.cc (.mp (kh ((iH++([32]:ayc))++R) true dq))])),(1,.agg [.str iH,.agg [.int .i64 kx,.int .i64 pX,.hole]])] (λP bl=>?_) (λP bl=>?_) ?_
  .simp only[c_.down,simprocAttr,KQ.down,n9,dX,iD];refine⟨hY (by kernel_rfl),?_⟩;(try simp only[j_.down,simprocAttr,KQ.down,n9,dX,iD]at bl⊢);exact bl
  .simp only[vx,List.map_cons,List.map_nil,List.getD_cons_zero,List.getD_cons_succ,simprocAttr];simp only[c_.down,simprocAttr,KQ.down,n9,dX,iD];refine⟨hY (by kernel_rfl),?_⟩;(try simp only[j_.down,simprocAttr,KQ.down,n9,dX,iD]at bl⊢);exact bl
  exact bo _ (.inl (hI [] rfl (by cases eZ h;rfl) (by decide) (hP (kM (by cases eZ h;rfl) rfl rfl rfl (dn (hQ))))))
 .exact aL (bo _ (.inl (hI [] rfl (by cases eZ h;rfl) (by decide) (hP (kM (by cases eZ h;rfl) rfl rfl rfl (dn (hQ)))))))
theorem aql (oe:ayw->ayB->aya->Int->Int->aye->Option (ayw×ayB×aya)) (Lf:∀dF dv dq J a2 a3 r,oe dF dv dq J a2 a3=some r->aW ah 92 [.aS (.agg [.slice (dF.map bx),.ag 4 (dv.map hK),.cc (.mp dq)]),.int .i64 J,.int .i64 a2,.slice (a3.map a8)] (.tuple []) [.aS (.agg [.slice (r.1.map bx),.ag 4 (r.2.1.map hK),.cc (.mp r.2.2)]),.hole,.hole,.hole]) (dF dv dq J a2 a3 r) (h:xT oe dF dv dq J a2 a3=some r):aW ah 92 [.aS (.agg [.slice (dF.map bx),.ag 4 (dv.map hK),.cc (.mp dq)]),.int .i64 J,.int .i64 a2,.slice (a3.map a8)] (.tuple []) [.aS (.agg [.slice (r.1.map bx),.ag 4 (r.2.1.map hK),.cc (.mp r.2.2)]),.hole,.hole,.hole]:=by
 refine bw [0,1,2,3] [] Tryz.func92 aln (λbq ai bo=>?_);obtain⟨R,aY,h⟩:=al h;refine cU aY _ ?_;obtain⟨ae,b4,h⟩:=al h;refine cU b4 _ ?_;refine ws _ ?_;refine bj ai (λjY cB cW _ bp=>?_);refine ws _ ?_;refine aE h (λb7 h=>?_) (λb7 h=>?_)
 .obtain⟨aD,iD,h⟩:=al h;obtain⟨aX,kn,h⟩:=al h;refine jz rfl (iU [(0,.aS (.agg [.slice (dF.map bx),.ag 4 (dv.map hK),.cc (.mp dq)])),(1,.int .i64 J),(2,.int .i64 a2),(3,.slice (a3.map a8)),(8,.aS (bx R)),(10,.str aX.1)] (λP bl=>?_) ?_)
  ·(try simp only[c_.down,simprocAttr]);refine h_ (ZE ae.cd a3 _ iD) rfl rfl rfl rfl (.inl (by rfl)) ?_;simp only[c_.down,simprocAttr];refine h_ (Le ae.Name aD _ kn) rfl rfl (by simp only[c_.down,simprocAttr,KP.down]<;>rfl) rfl (.inr (by rfl)) ?_;simp only[c_.down,simprocAttr];refine⟨hY (by kernel_rfl),?_⟩;exact bR trivial
  obtain⟨aT,dz,h⟩:=al h;refine eO (U (@nr ah 65 [(2,0),(2,1),(54,2)] [(.int .i64 0),(.int .i64 0),.bg] rfl rfl (by kernel_rfl)) (U @l6 (U @l7 (U @cO (U @gO (U @List.nil_append.{0} @List.cons_append.{0})))))) (Se a3 _ dz) _ ?_;have vY:∀Cq Cr Cs,Kb oe dF dv dq aX Cq Cr Cs=some r->bn ah Yq jY (aq [(0,.aS (.agg [.slice (dF.map bx),.ag 4 (dv.map hK),.cc (.mp dq)])),(10,.str aX.1),(12,.aS (.agg [.int .i64 Cq,.int .i64 Cr,.ag 1 (Cs.map a8)]))]):=by
   intro Cq Cr Cs h;obtain⟨bp,ck,h⟩:=al h;refine h9 (b6 [(0,.aS (.agg [.slice (bp.1.map bx),.ag 4 (bp.2.1.map hK),.cc (.mp bp.2.2)]))] (λP bl=>?_) ?_)
   ·(try simp only[aK.down,simprocAttr,YQ.down,eA,dX]);refine kL [⟨.h 0 [],true,_,_⟩,⟨.h 66 [],true,_,.hole⟩] (aqk dF dv dq aX.1 Cq Cr Cs _ ck) rfl rfl rfl (by simp only[aK.down,simprocAttr, @nr ah 100 [(9,0),(65,1)] [(.str []),(.agg [(.int .i64 0),(.int .i64 0),.bg])] rfl rfl (by kernel_rfl),eA,l6,dX,l7,cO,gO,List.nil_append,List.cons_append,mw,kW,ku,gN,gP,gQ,cG,or_true,true_or, @bV _ bx bx (λ_=>uR _), @bV _ hK cZ (λ_=>GM _), @bV _ a8 a8 (λ_=>jV _)]) rfl rfl (.inl rfl) ?_;simp only[aK.down,simprocAttr, @nr ah 100 [(9,0),(65,1)] [(.str []),(.agg [(.int .i64 0),(.int .i64 0),.bg])] rfl rfl (by kernel_rfl),eA,l6,dX,l7,cO,gO,List.nil_append,List.cons_append,j5];exact bR YQ.down
   exact cB _ (bo _ (.inl (hI [] rfl (by cases eZ h;rfl) (by decide) (hP (kM (by cases eZ h;rfl) rfl rfl rfl (dn (dn (dn (hQ)))))))))
  refine ay cW (λ_ eH _ iW=>?_);obtain⟨bs,eu,h⟩:=al h;refine cU eu _ ?_;refine ws _ ?_;refine aE h (λfY h=>?_) (λfY h=>?_)
  .obtain⟨cv,e8,h⟩:=al h;refine YI (U (@nr ah 65 [(2,0),(2,1),(54,2)] [(.int .i64 0),(.int .i64 0),.bg] rfl rfl (by kernel_rfl)) (U @l6 (U @l7 (U @cO (U @gO (U @List.nil_append.{0} @List.cons_append.{0})))))) (ZE bs.cd a3 _ e8) _ ?_;exact eH _ (.inr ⟨_,aZ rfl,vY bs.Number 0 cv h⟩)
  .exact aL (eH _ (.inr ⟨_,aZ rfl,vY J (i64.wrap (a2+1)) aT h⟩))
 .refine ws _ ?_;refine aE h (λic h=>?_) (λic h=>?_)
  .obtain⟨dE,s_,h⟩:=al h;refine dC (b6 [(0,.aS (.agg [.slice (dE.1.map bx),.ag 4 (dE.2.1.map hK),.cc (.mp dE.2.2)])),(1,.int .i64 J),(2,.int .i64 a2),(3,.slice (a3.map a8)),(8,.aS (bx R))] (λP bl=>?_) ?_)
   ·(try simp only[aK.down,simprocAttr]);refine kL [⟨.h 0 [],true,_,_⟩,⟨.int .i64 J,false,_,.hole⟩,⟨.int .i64 (i64.wrap (a2+1)),false,_,.hole⟩,⟨.slice (a3.map a8),false,_,.hole⟩] (Lf dF dv dq J (i64.wrap (a2+1)) a3 _ s_) rfl rfl rfl (by simp only[aK.down,simprocAttr,Rc.down]) rfl rfl (.inl rfl) ?_;simp only[aK.down,simprocAttr,j5];exact bR trivial
   obtain⟨dI,ya,h⟩:=al h;obtain⟨e6,qL,h⟩:=al h;refine h9 (b6 [(0,.aS (.agg [.slice (e6.1.map bx),.ag 4 (e6.2.1.map hK),.cc (.mp e6.2.2)]))] (λP bl=>?_) ?_)
   ·(try simp only[aK.down,simprocAttr]);refine dD (Zv R (i64.wrap (a2+1)) _ ya) rfl rfl rfl rfl (.inl (by rfl)) ?_;simp only[aK.down,simprocAttr];refine kL [⟨.h 0 [],true,_,_⟩,⟨.int .i64 J,false,_,.hole⟩,⟨.int .i64 dI,false,_,.hole⟩,⟨.slice (a3.map a8),false,_,.hole⟩] (Lf dE.1 dE.2.1 dE.2.2 J dI a3 _ qL) rfl rfl rfl (by simp only[aK.down,simprocAttr,Rc.down]) rfl rfl (.inl rfl) ?_;simp only[aK.down,simprocAttr,j5];exact bR trivial
   exact cB _ (bo _ (.inl (hI [] rfl (by cases eZ h;rfl) (by decide) (hP (kM (by cases eZ h;rfl) rfl rfl rfl (dn (dn (dn (hQ)))))))))
  .refine ws _ ?_;refine aE h (λgY h=>?_) (λgY h=>?_)
   .obtain⟨kv,oV,h⟩:=al h;obtain⟨my,js,h⟩:=al h;refine eO oV (ZD kv a3 _ js) _ ?_;refine aE h (λv7 h=>?_) (λv7 h=>?_)
    .obtain⟨iW,s7,h⟩:=al h;refine h9 (b6 [(0,.aS (.agg [.slice (iW.1.map bx),.ag 4 (iW.2.1.map hK),.cc (.mp iW.2.2)]))] (λP bl=>?_) ?_)
     ·(try simp only[aK.down,simprocAttr]);refine kL [⟨.h 0 [],true,_,_⟩,⟨.int .i64 J,false,_,.hole⟩,⟨.int .i64 (i64.wrap (a2+1)),false,_,.hole⟩,⟨.slice (a3.map a8),false,_,.hole⟩] (Lf dF dv dq J (i64.wrap (a2+1)) a3 _ s7) rfl rfl rfl (by simp only[aK.down,simprocAttr,Rc.down]) rfl rfl (.inl rfl) ?_;simp only[aK.down,simprocAttr,j5];exact bR trivial
     exact cB _ (bo _ (.inl (hI [] rfl (by cases eZ h;rfl) (by decide) (hP (kM (by cases eZ h;rfl) rfl rfl rfl (dn (dn (dn (hQ)))))))))
    .exact aL (cB _ (bo _ (.inl (hI [] rfl (by cases eZ h;rfl) (by decide) (hP (kM (by cases eZ h;rfl) rfl rfl rfl (dn (dn (dn (hQ))))))))))
   .refine ws _ ?_;refine aE h (λz8 h=>?_) (λz8 h=>?_)
    .refine ws _ ?_;refine bj cW (λG9 _ uU s8 _=>?_);have aqm:∀n vQ vR vS k3,Ct oe J a2 a3 ae n vQ vR vS k3=some r->cD ah Yr G9 (aq [(0,.aS (.agg [.slice (vQ.map bx),.ag 4 (vR.map hK),.cc (.mp vS)])),(1,.int .i64 J),(2,.int .i64 a2),(3,.slice (a3.map a8)),(103,.int .i64 (i64.wrap (ae.Number+1))),(104,.int .i64 k3)]):=by
      refine cS (λ_ aqn vQ vR vS k3 h=>cR uU (λ_ zU x5 zV=>?_));refine ws _ ?_;refine ay x5 (λ_ x6 _ Hj=>?_);refine aE h (λzW h=>?_) (λzW h=>?_)
      .refine aL (x6 _ (.inl ?_));refine ay x5 (λ_ zX v_ _=>?_);refine bj v_ (λ_ p3 _ _ _=>?_);refine ws _ ?_;obtain⟨hk,Hb,h⟩:=al h;obtain⟨axR,wh,h⟩:=al h;(try simp only[fN.down,Nat.zero_add,Nat.add_zero,reduceAdd]at wh);obtain⟨jd,rT,h⟩:=al h;refine h9 (b6 [(0,.aS (.agg [.slice (jd.1.map bx),.ag 4 (jd.2.1.map hK),.cc (.mp jd.2.2)])),(1,.int .i64 J),(2,.int .i64 a2),(3,.slice (a3.map a8)),(103,.int .i64 (i64.wrap (ae.Number+1))),(104,.int .i64 k3)] (λP bl=>?_) ?_)
       ·(try simp only[aK.down,simprocAttr,(show∀s,dW ah s 54 1 [(0,.int .i64 k3)]=some (.ag 1 [.int .i64 k3],s)from λs=>by kernel_rfl),C5.down,wh,I.shares]);refine dD (Se a3 _ Hb) rfl rfl rfl rfl (.inl (by rfl)) ?_;simp only[aK.down,simprocAttr,(show∀s,dW ah s 54 1 [(0,.int .i64 k3)]=some (.ag 1 [.int .i64 k3],s)from λs=>by kernel_rfl),C5.down,wh,I.shares];refine kL [⟨.h 0 [],true,_,_⟩,⟨.int .i64 J,false,_,.hole⟩,⟨.int .i64 (i64.wrap (a2+1)),false,_,.hole⟩,⟨.slice ((hk++[k3]).map a8),false,_,.hole⟩] (Lf vQ vR vS J (i64.wrap (a2+1)) (hk++[k3]) _ rT) rfl rfl (by simp only[aK.down,simprocAttr,(show∀s,dW ah s 54 1 [(0,.int .i64 k3)]=some (.ag 1 [.int .i64 k3],s)from λs=>by kernel_rfl),YM.down,wh,I.shares]) (by simp only[aK.down,simprocAttr,(show∀s,dW ah s 54 1 [(0,.int .i64 k3)]=some (.ag 1 [.int .i64 k3],s)from λs=>by kernel_rfl), @kr ah 54 54 2 rfl rfl,ks,kt,gO,all_cons,all_nil,wh, @jO _ a8 1 (λ_=>rfl),oK,oJ,I.shares,cG,oI, @bV _ a8 a8 (λ_=>jV _),mw,kW,ku,gN,gP,gQ,cG,or_true,true_or, @bV _ bx bx (λ_=>uR _), @bV _ hK cZ (λ_=>GM _)]) rfl rfl (.inl rfl) ?_;simp only[aK.down,simprocAttr,(show∀s,dW ah s 54 1 [(0,.int .i64 k3)]=some (.ag 1 [.int .i64 k3],s)from λs=>by kernel_rfl),YN.down,wh,I.shares];exact bR (U (show∀s,dW ah s 54 1 [(0,.int .i64 k3)]=some (.ag 1 [.int .i64 k3],s)from λs=>by kernel_rfl) (U C5.down wh))
       refine p3 _ (zX _ (.inl ?_));refine wr _ ?_;exact zU _ (.inr ⟨_,aZ rfl,aqn jd.1 jd.2.1 jd.2.2 (i64.wrap (k3+1)) h⟩)
      .exact cK (Hj 1 _ (zV 1 _ (s8 _ (cB _ (bo _ (.inl (hI [] rfl (by cases eZ h;rfl) (by decide) (hP (kM (by cases eZ h;rfl) rfl rfl rfl (dn (dn (dn (hQ)))))))))))))
     obtain⟨n,h⟩:=cC h;exact cQ (.inr ⟨_,aZ rfl,aqm n dF dv dq 0 h⟩)
    .exact aL (cB _ (bo _ (.inl (hI [] rfl (by cases eZ h;rfl) (by decide) (hP (kM (by cases eZ h;rfl) rfl rfl rfl (dn (dn (dn (hQ))))))))))
theorem aqo:∀n dF dv dq J a2 a3 r,rz n dF dv dq J a2 a3=some r->aW ah 92 [.aS (.agg [.slice (dF.map bx),.ag 4 (dv.map hK),.cc (.mp dq)]),.int .i64 J,.int .i64 a2,.slice (a3.map a8)] (.tuple []) [.aS (.agg [.slice (r.1.map bx),.ag 4 (r.2.1.map hK),.cc (.mp r.2.2)]),.hole,.hole,.hole]:=by
 intro n;induction n with
 |zero=>intro dF dv dq J a2 a3 r h;cases(show none=some r from h)
 |succ n ih=>intro dF dv dq J a2 a3 r h;exact aql (rz n) ih dF dv dq J a2 a3 r h
theorem aqp (dF dv dq J a2 a3 r) (h:Kc dF dv dq J a2 a3=some r):aW ah 92 [.aS (.agg [.slice (dF.map bx),.ag 4 (dv.map hK),.cc (.mp dq)]),.int .i64 J,.int .i64 a2,.slice (a3.map a8)] (.tuple []) [.aS (.agg [.slice (r.1.map bx),.ag 4 (r.2.1.map hK),.cc (.mp r.2.2)]),.hole,.hole,.hole]:=by
 obtain⟨n,h⟩:=cC h;exact aqo n dF dv dq J a2 a3 r h
theorem aqq (a0 J r) (h:uC a0 J=some r):aW ah 65 [.slice (a0.map bx),bB J] (.tuple [.ag 4 (r.1.map hK),.bool r.2]) []:=by
 refine bw [0,1] [.tmp 4,.tmp 5] Tryz.func65 alp (λbq ai bo=>?_);refine ws _ ?_;refine cU (U @WG (U (@nr ah 158 [(34,0),(95,1),(121,2)] [.bg,.bg,(.cc .ki)] rfl rfl (by kernel_rfl)) (U @l6 (U @l7 (U @cO (U @gO (U @List.nil_append.{0} @List.cons_append.{0}))))))) _ ?_;obtain⟨R,b4,h⟩:=al h;refine dC (b6 [(6,.aS (.agg [.slice (R.1.map bx),.ag 4 (R.2.1.map hK),.cc (.mp R.2.2)]))] (λP bl=>?_) ?_)
 ·(try simp only[aK.down,simprocAttr]);refine kL [⟨.h 6 [],true,_,_⟩,⟨.int .i64 J.cp,false,_,.hole⟩,⟨.int .i64 J.Part,false,_,.hole⟩,⟨.slice (J.bH.map a8),false,_,.hole⟩] (aW.agh (aqp a0 [] [] J.cp J.Part J.bH _ b4) (.wd (.aS (.agg (.cons (.refl _) (.cons (.iq _) (.cons (.refl _) (.nil)))))) rfl rfl (.eq rfl (.eq rfl (.eq rfl (.nil)))))) rfl rfl rfl (by simp only[aK.down,simprocAttr,mw,kW,ku,gN,gP,gQ,cG,or_true,true_or, @bV _ bx bx (λ_=>uR _)]) rfl rfl (.inl rfl) ?_;simp only[aK.down,simprocAttr,j5];exact bR trivial
 refine oT @WE _ ?_;exact aw (ai _ (.inl (Wc 4 [.ag 4 (R.2.1.map hK),.bool (decide ((R.2.1.length:Int)<=200))])))
theorem ZJ:∀a c,sR a c=Lib.indexByte a c
 |[],_=>rfl
 |a::x,c=>by simp only[sR,Lib.indexByte,ZJ x c]
theorem aqr (a0:ayc) (J:UInt8) (r:Int) (h:P4 a0 J=some r):aW ah 236 [.str a0,.int .u8 J.toNat] (.int .i64 r) []:=by
 rw[show r=Lib.indexByte a0 J from(eZ h).trans (ZJ _ _)];exact Wy Tryz.func236 (by kernel_rfl) (by kernel_rfl) (by kernel_rfl) (E:=Extern.BytealgIndexByte.indexByte) (by kernel_rfl) a0 J _ λw=>by
  rw[Lib.run_indexByteString,show((J.toNat:Int).toNat).toUInt8=J from by simp]
theorem aqs (a0 J r) (h:P5 a0 J=some r):aW ah 207 [.str a0,.int .u8 (J.toNat:Int)] (.int .i64 r) []:=by
 refine bw [0,1] [.tmp 4] Tryz.func207 alq (λbq ai bo=>?_);refine ws _ ?_;obtain⟨R,aU,h⟩:=al h;refine cH (aqr a0 J _ aU) _ ?_;exact aw (ai _ (.inl (az [.int .i64 R])))
theorem ZK (a0 J r) (h:vT a0 J=some r):aW ah 177 [.str a0,.str J] (.int .i64 r) []:=by
 refine bw [0,1] [.tmp 4] Tryz.func177 alr (λbq ai bo=>?_);refine ws _ ?_;refine ws _ ?_;refine ay ai (λ_ _ dm _=>?_);refine bj dm (λ_ _ bG _ _=>?_);refine nP ((J.length:Int)==0) [(0,.str a0),(1,.str J),(5,.int .i64 (J.length:Int)),(16,.bool (((J.length:Int)==0)||(J==a0)))] ?_;refine aE h (λdA h=>?_) (λdA h=>?_)
 .refine ws _ ?_;exact aw (bG _ (.inl (az [.int .i64 0])))
 .refine ws _ ?_;refine aE h (λe7 h=>?_) (λe7 h=>?_)
  .obtain⟨R,kn,h⟩:=al h;obtain⟨ae,dd,h⟩:=al h;refine eO kn (aqs a0 R _ dd) _ ?_;exact aw (bG _ (.inl (az [.int .i64 ae])))
  .refine ws _ ?_;refine aE h (λgX h=>?_) (λgX h=>?_)
   .refine ws _ ?_;exact aw (bG _ (.inl (az [.int .i64 (-1)])))
   .cases h
theorem aqt (a0 J r) (h:Kd a0 J=some r):aW ah 143 [.str a0,.str J] (.tuple [.str r.1,.str r.2.1,.bool r.2.2]) []:=by
 refine bw [0,1] [.tmp 4,.tmp 5,.tmp 6] Tryz.func143 c143 (λbq ai bo=>?_);refine ws _ ?_;refine ay ai (λ_ bA bc ae=>?_);obtain⟨R,b4,h⟩:=al h;refine cH (ZK a0 J _ b4) _ ?_;refine ws _ ?_;refine aE h (λdA h=>?_) (λdA h=>?_)
 .obtain⟨ae,fJ,h⟩:=al h;obtain⟨aD,jl,h⟩:=al h;refine oT (U fJ jl) _ ?_;exact aw (bc _ (.inl (az [.str ae,.str aD,.bool true])))
 .refine aL (bA _ (.inl ?_));refine ws _ ?_;exact aw (ai _ (.inl (az [.str a0,.str ([]:ayc),.bool false])))
theorem aqu (a0 J r) (h:Cu a0 J=some r):aW ah 93 [.str a0,.str J] (.tuple [.str r.1,.str r.2.1,.bool r.2.2]) []:=by
 refine bw [0,1] [.tmp 4,.tmp 5,.tmp 6] Tryz.func93 c93 (λbq ai bo=>?_);refine ws _ ?_;obtain⟨R,aU,h⟩:=al h;refine cH (aqt a0 J _ aU) _ ?_;exact aw (ai _ (.inl (az [.str R.1,.str R.2.1,.bool R.2.2])))
theorem aqv (a0 J r) (h:P6 a0 J=some r):aW ah 183 [.str a0,.str J] (.bool r) []:=by
 refine bw [0,1] [.tmp 4] Tryz.func183 c183 (λbq ai bo=>?_);refine ws _ ?_;rcases dH h with⟨gd,h⟩|⟨gd,h⟩
 .obtain⟨R,b4,h⟩:=al h;refine cU (U gd b4) _ ?_;exact aw (ai _ (.inl (az [.bool (R==J)])))
 .refine cU gd _ ?_;exact aw (ai _ (.inl (az [.bool false])))
theorem aqw (a0 J r) (h:P7 a0 J=some r):aW ah 146 [.str a0,.str J] (.str r) []:=by
 refine bw [0,1] [.tmp 4] Tryz.func146 c146 (λbq ai bo=>?_);refine ws _ ?_;refine ay ai (λ_ bA bc ae=>?_);obtain⟨R,b4,h⟩:=al h;refine cH (aqv a0 J _ b4) _ ?_;refine aE h (λcV h=>?_) (λcV h=>?_)
 .obtain⟨ae,b9,h⟩:=al h;refine cU b9 _ ?_;exact aw (bc _ (.inl (az [.str ae])))
 .refine aL (bA _ (.inl ?_));refine ws _ ?_;exact aw (ai _ (.inl (az [.str a0])))
theorem aqx (a0 J r) (h:strings_TrimSuffix a0 J=some r):aW ah 96 [.str a0,.str J] (.str r) []:=by
 refine bw [0,1] [.tmp 4] Tryz.func96 als (λbq ai bo=>?_);refine ws _ ?_;obtain⟨R,aU,h⟩:=al h;refine cH (aqw a0 J _ aU) _ ?_;exact aw (ai _ (.inl (az [.str R])))
theorem aqy (a0:ayc) (J:UInt8) (r:Int) (h:P8 a0 J=some r):aW ah 216 [.str a0,.int .u8 J.toNat] (.int .i64 r) []:=by
 rw[show r=((Lib.countByte a0 J:Nat):Int)from eZ h];exact Wy Tryz.func216 (by kernel_rfl) (by kernel_rfl) (by kernel_rfl) (E:=Extern.BytealgCount.count) (by kernel_rfl) a0 J _ λw=>by
  rw[Lib.run_countString,show((J.toNat:Int).toNat).toUInt8=J from by simp]
theorem ZL (a0 J r) (h:Gd a0 J=some r):aW ah 182 [.str a0,.str J] (.int .i64 r) []:=by
 refine bw [0,1] [.tmp 4] Tryz.func182 c182 (λbq ai bo=>?_);refine ws _ ?_;obtain⟨R,aU,h⟩:=al h;refine cH (ZK a0 J _ aU) _ ?_;exact aw (ai _ (.inl (az [.int .i64 R])))
theorem aqz (a0 J r) (h:P_ a0 J=some r):aW ah 181 [.str a0,.str J] (.int .i64 r) []:=by
 refine bw [1] [.tmp 4] Tryz.func181 alu (λbq ai bo=>?_);refine ws _ ?_;refine ay ai (λ_ bA _ ae=>?_);refine ws _ ?_;refine aE h (λbM h=>?_) (λbM h=>?_)
 .cases h
 .refine aL (bA _ (.inl ?_));refine ay ai (λ_ cB cW _=>?_);refine ws _ ?_;refine aE h (λb7 h=>?_) (λb7 h=>?_)
  .obtain⟨R,iD,h⟩:=al h;obtain⟨ae,kn,h⟩:=al h;refine eO iD (aqy a0 R _ kn) _ ?_;exact aw (cW _ (.inl (az [.int .i64 ae])))
  .refine aL (cB _ (.inl ?_));refine ws _ ?_;refine bj ai (λRL _ fB _ _=>?_);show bn ah (.loop ?c21) _ _;have aqA:∀n uD uE,P9 J n uD uE=some r->cD ah ?c21 RL (aq [(0,.str uD),(1,.str J),(5,.int .i64 uE)]):=by
    refine cS (λ_ aqB uD uE h=>cR fB (λ_ eH ef _=>?_));refine bj ef (λ_ gi gS _ _=>?_);obtain⟨aD,dL,h⟩:=al h;refine cH (ZL uD J _ dL) _ ?_;refine ay gS (λ_ p5 td _=>?_);refine ws _ ?_;refine aE h (λfY h=>?_) (λfY h=>?_)
    .refine ws _ ?_;exact aw (td _ (.inl (az [.int .i64 uE])))
    .refine aL (p5 _ (.inl ?_));refine ws _ ?_;obtain⟨aX,lC,h⟩:=al h;refine rH lC _ ?_;exact gi _ (eH _ (.inr ⟨_,aZ rfl,aqB aX (i64.wrap (uE+1)) h⟩))
   obtain⟨n,h⟩:=cC h;exact cQ (.inr ⟨_,aZ rfl,aqA n a0 0 h⟩)
theorem aqC (a0 J a2 a3 r) (h:Qb a0 J a2 a3=some r):aW ah 145 [.str a0,.str J,.int .i64 a2,.int .i64 a3] (.ag 1 (r.map bm)) []:=by
 refine bw [1,2] [.tmp 8] Tryz.func145 c145 (λbq ai bo=>?_);refine ws _ ?_;refine ay ai (λ_ bA bc ae=>?_);refine ws _ ?_;refine aE h (λbM h=>?_) (λbM h=>?_)
 .refine ws _ ?_;exact aw (bc _ (.inr ⟨[(8,.ag 1 [])],hW [] rfl (hJ (t:=8) (d:=.bg) rfl rfl (.iq _) (by decide) (hX)),az [.ag 1 []]⟩))
 .refine aL (bA _ (.inl ?_));refine ay ai (λ_ cB _ bp=>?_);refine ws _ ?_;refine aE h (λb7 h=>?_) (λb7 h=>?_)
  .cases h
  .refine aL (cB _ (.inl ?_));show bn ah (.seq _ ?c24) _ _;have yb:∀jT,Ke a0 J a2 jT=some r->bn ah ?c24 bq (aq [(0,.str a0),(1,.str J),(2,.int .i64 a2),(3,.int .i64 jT)]):=by
    intro jT h;refine cU (U @WK @age) _ ?_;obtain⟨axS,dz,h⟩:=al h;refine rI (U (qT dz) @List.map_replicate.{0,0}) [(0,.str a0),(1,.str J),(2,.int .i64 a2),(3,.int .i64 (kQ false jT (i64.wrap ((a0.length:Int)+1)))),(9,.ag 1 ((List.replicate (Int.toNat (kQ false jT (i64.wrap ((a0.length:Int)+1)))) ([]:ayc)).map bm))] ?_;refine ws [(0,.str a0),(1,.str J),(2,.int .i64 a2),(3,.int .i64 (i64.wrap ((kQ false jT (i64.wrap ((a0.length:Int)+1)))-1))),(9,.ag 1 ((List.replicate (Int.toNat (kQ false jT (i64.wrap ((a0.length:Int)+1)))) ([]:ayc)).map bm))] ?_;refine ws [(0,.str a0),(1,.str J),(2,.int .i64 a2),(3,.int .i64 (i64.wrap ((kQ false jT (i64.wrap ((a0.length:Int)+1)))-1))),(9,.ag 1 ((List.replicate (Int.toNat (kQ false jT (i64.wrap ((a0.length:Int)+1)))) ([]:ayc)).map bm)),(10,.int .i64 0)] ?_;show bn ah (.seq _ ?QY) _ _;have ZM:∀Cv zA vU,Ge a0 J a2 jT Cv zA vU=some r->bn ah ?QY bq (aq [(0,.str Cv),(1,.str J),(2,.int .i64 a2),(3,.int .i64 (i64.wrap ((kQ false jT (i64.wrap ((a0.length:Int)+1)))-1))),(9,.ag 1 (zA.map bm)),(10,.int .i64 vU)]):=by
     intro Cv zA vU h;obtain⟨R,eu,h⟩:=al h;refine dC (b6 [(9,.ag 1 ((List.set zA (Int.toNat vU) Cv).map bm)),(10,.int .i64 vU)] (λP bl=>?_) ?_)
     .simp only[aK.down,simprocAttr,eu,b2 eu,cO,db];exact bR (U eu (U (b2 eu) @cO))
     obtain⟨ae,gj,h⟩:=al h;refine dC (b6 [(8,.ag 1 (ae.map bm))] (λP bl=>?_) ?_)
     .simp only[aK.down,simprocAttr,gj,YR.down,xy];(try simp only[j_.down,simprocAttr,gj,YR.down,xy]at bl⊢);exact bl
     exact aw (ai _ (.inl (az [.ag 1 (ae.map bm)])))
    refine ay ai (λ_ lB nQ _=>?_);refine bj nQ (λaqD _ Df uV _=>?_);show bn ah (.loop ?GS) _ _;have Rx:∀n oQ nK lx,zB a0 J a2 jT n oQ nK lx=some r->cD ah ?GS aqD (aq [(0,.str oQ),(1,.str J),(2,.int .i64 a2),(3,.int .i64 (i64.wrap ((kQ false jT (i64.wrap ((a0.length:Int)+1)))-1))),(9,.ag 1 (nK.map bm)),(10,.int .i64 lx)]):=by
     refine cS (λ_ Ry oQ nK lx h=>cR Df (λ_ ot nR mS=>?_));refine ay nR (λ_ z6 _ lv=>?_);refine ws _ ?_;refine aE h (λou h=>?_) (λou h=>?_)
     .refine aL (z6 _ (.inl ?_));refine bj nR (λ_ s3 s4 _ rm=>?_);obtain⟨aD,ya,h⟩:=al h;refine cH (ZL oQ J _ ya) _ ?_;refine ay s4 (λ_ rP _ G0=>?_);refine ws _ ?_;refine aE h (λgY h=>?_) (λgY h=>?_)
      .exact cK (G0 0 _ (rm 0 _ (by decide) (mS 0 _ (uV _ (lB _ (.inr ⟨_,aZ rfl,ZM oQ nK lx h⟩))))))
      .refine aL (rP _ (.inl ?_));obtain⟨aX,oV,h⟩:=al h;obtain⟨aT,js,h⟩:=al h;refine dC (b6 [(0,.str oQ),(1,.str J),(2,.int .i64 a2),(3,.int .i64 (i64.wrap ((kQ false jT (i64.wrap ((a0.length:Int)+1)))-1))),(9,.ag 1 ((List.set nK (Int.toNat lx) aX).map bm)),(10,.int .i64 lx),(11,.int .i64 aD)] (λP bl=>?_) ?_)
       .simp only[aK.down,simprocAttr,oV,js,b2 js,cO,db,(show(List.map bm nK).set (Int.toNat lx) (.str aX)=List.map bm (List.set nK (Int.toNat lx) aX)from(List.map_set ..).symm)];exact bR (U oV (U js (U (b2 js) @cO)))
       obtain⟨bp,pz,h⟩:=al h;refine cU pz [(0,.str bp),(1,.str J),(2,.int .i64 a2),(3,.int .i64 (i64.wrap ((kQ false jT (i64.wrap ((a0.length:Int)+1)))-1))),(9,.ag 1 ((List.set nK (Int.toNat lx) aX).map bm)),(10,.int .i64 lx)] ?_;refine wr [(0,.str bp),(1,.str J),(2,.int .i64 a2),(3,.int .i64 (i64.wrap ((kQ false jT (i64.wrap ((a0.length:Int)+1)))-1))),(9,.ag 1 ((List.set nK (Int.toNat lx) aX).map bm)),(10,.int .i64 (i64.wrap (lx+1)))] ?_;exact s3 _ (ot _ (.inr ⟨_,aZ rfl,Ry bp (List.set nK (Int.toNat lx) aX) (i64.wrap (lx+1)) h⟩))
     .exact cK (lv 0 _ (mS 0 _ (uV _ (lB _ (.inr ⟨_,aZ rfl,ZM oQ nK lx h⟩)))))
    obtain⟨n,h⟩:=cC h;exact cQ (.inr ⟨_,aZ rfl,Rx n a0 (List.replicate (Int.toNat (kQ false jT (i64.wrap ((a0.length:Int)+1)))) ([]:ayc)) 0 h⟩)
   refine ay ai (λ_ bT _ _=>?_);refine ws _ ?_;refine aE h (λz8 h=>?_) (λz8 h=>?_)
   .obtain⟨bs,aqE,h⟩:=al h;refine YH (aqz a0 J _ aqE) _ ?_;exact bT _ (.inr ⟨_,aZ rfl,yb (i64.wrap (bs+1)) h⟩)
   .exact aL (bT _ (.inr ⟨_,aZ rfl,yb a3 h⟩))
theorem aqF (a0 J r) (h:Kf a0 J=some r):aW ah 95 [.str a0,.str J] (.ag 1 (r.map bm)) []:=by
 refine bw [0,1] [.tmp 4] Tryz.func95 alv (λbq ai bo=>?_);refine ws _ ?_;obtain⟨R,aU,h⟩:=al h;refine cH (aqC a0 J 0 (-1) _ aU) _ ?_;exact aw (ai _ (.inl (az [.ag 1 (R.map bm)])))
theorem aqG (a0:ayc) (r:Int×Bool) (h:Kg a0=some r):aW ah 144 [.str a0] (.tuple [.int .i64 r.1,.bool r.2]) []:=amB a0 r h
theorem aqH (a0 r) (h:Kh a0=some r):aW ah 94 [.slice (a0.map bm)] (.tuple [.ag 1 (r.1.map a8),.bool r.2]) []:=by
 refine bw [0] [.tmp 2,.tmp 3] Tryz.func94 alw (λbq ai bo=>?_);refine ws _ ?_;refine ws _ ?_;refine ay ai (λ_ fg dm _=>?_);refine ws _ ?_;refine bj dm (λqJ _ cn cV _=>?_);show bn ah (.loop ?il) _ _;have iZ:∀n bN rA,Cw a0 n bN rA=some r->cD ah ?il qJ (aq [(4,.ag 1 (bN.map a8)),(9,.slice (a0.map bm)),(10,.int .i64 (a0.length:Int)),(11,.int .i64 rA)]):=by
  refine cS (λ_ i1 bN rA h=>cR cn (λ_ cB cW bp=>?_));refine ws _ ?_;refine ay cW (λ_ iY _ cv=>?_);refine aE h (λe7 h=>?_) (λe7 h=>?_)
  .refine aL (iY _ (.inl ?_));refine ay cW (λ_ bT cw _=>?_);refine bj cw (λ_ eE hM _ _=>?_);obtain⟨R,dz,h⟩:=al h;refine cU dz _ ?_;obtain⟨ae,dZ,h⟩:=al h;refine cH (aqG R _ dZ) _ ?_;refine ay hM (λ_ lB nQ _=>?_);refine ws _ ?_;refine aE h (λh0 h=>?_) (λh0 h=>?_)
   .refine ws _ ?_;exact aw (nQ _ (.inr ⟨[(2,.ag 1 []),(3,.bool false)],hW [] rfl (hJ (t:=2) (d:=.bg) rfl rfl (.iq _) (by decide) (cF rfl (hX))),az [.ag 1 [],.bool false]⟩))
   .refine aL (lB _ (.inl ?_));obtain⟨aog,gW,h⟩:=al h;(try simp only[fN.down,Nat.zero_add,Nat.add_zero,reduceAdd]at gW);refine rH (U (show∀s,dW ah s 54 1 [(0,.int .i64 ae.1)]=some (.ag 1 [.int .i64 ae.1],s)from λs=>by kernel_rfl) (U (@kr ah 54 54 2 rfl rfl) (U @ks (U @kt (U @gO (U @all_cons (U @all_nil (U gW (@jO _ a8 1 (λ_=>rfl)))))))))) [(4,.ag 1 ((bN++[ae.1]).map a8)),(9,.slice (a0.map bm)),(10,.int .i64 (a0.length:Int)),(11,.int .i64 rA)] ?_;refine eE _ (bT _ (.inl ?_));refine wr [(4,.ag 1 ((bN++[ae.1]).map a8)),(9,.slice (a0.map bm)),(10,.int .i64 (a0.length:Int)),(11,.int .i64 (i64.wrap (rA+1)))] ?_;exact cB _ (.inr ⟨_,aZ rfl,i1 (bN++[ae.1]) (i64.wrap (rA+1)) h⟩)
  .refine cK (cv 0 _ (bp 0 _ (cV _ (fg _ (.inl ?_)))));refine ws _ ?_;exact aw (ai _ (.inl (az [.ag 1 (bN.map a8),.bool true])))
 obtain⟨n,h⟩:=cC h;exact cQ (.inr ⟨_,hW [] rfl (hJ (t:=4) (d:=.bg) (bJ:=.ag 1 []) rfl rfl (.iq _) (by decide) (cF (t:=9) (d:=.slice (a0.map bm)) rfl (cF (t:=10) (d:=.int .i64 (a0.length:Int)) rfl (cF (t:=11) (d:=.int .i64 0) rfl (hX))))),iZ n [] 0 h⟩)
theorem Sf (a0 r) (h:zC a0=some r):aW ah 66 [.str a0] (.tuple [.str r.1,.ag 1 (r.2.1.map a8),.bool r.2.2]) []:=by
 refine bw [0] [.tmp 2,.tmp 3,.tmp 4] Tryz.func66 aly (λbq ai bo=>?_);refine ws _ ?_;obtain⟨R,aU,h⟩:=al h;refine cH (aqu a0 ([40]:ayc) _ aU) _ ?_;refine ws _ ?_;have vY:∀uF,Gf a0 R uF=some r->bn ah Ys bq (aq [(0,.str a0),(5,.str R.1),(8,.ag 1 (uF.map a8))]):=by
  intro uF h;refine ay ai (λ_ cB cW _=>?_);obtain⟨ae,fJ,h⟩:=al h;refine dC (b6 [(0,.str a0),(5,.str R.1),(8,.ag 1 (uF.map a8)),(10,.str ae.1),(11,.bool ae.2)] (λP bl=>?_) ?_)
  ·(try simp only[aK.down,simprocAttr]);refine dD (Le R.1 uF _ fJ) rfl rfl (by simp only[aK.down,simprocAttr,KP.down]<;>rfl) rfl (.inr (by rfl)) ?_;simp only[aK.down,simprocAttr];exact bR trivial
  refine nP (ae.2) [(5,.str R.1),(8,.ag 1 (uF.map a8)),(40,.bool ((!ae.2)||(!(ae.1==a0))))] ?_;refine aE h (λfl h=>?_) (λfl h=>?_)
  .refine ws _ ?_;exact aw (cW _ (.inr ⟨[(2,.str ([]:ayc)),(3,.ag 1 []),(4,.bool false)],hW [] rfl (cF rfl (hJ (t:=3) (d:=.bg) rfl rfl (.iq _) (by decide) (cF rfl (hX)))),az [.str ([]:ayc),.ag 1 [],.bool false]⟩))
  .refine aL (cB _ (.inl ?_));refine ws _ ?_;exact aw (ai _ (.inl (az [.str R.1,.ag 1 (uF.map a8),.bool true])))
 refine ay ai (λ_ dw cn aT=>?_);refine ws _ ?_;refine aE h (λgX h=>?_) (λgX h=>?_)
 .refine ws _ ?_;obtain⟨aD,dL,h⟩:=al h;obtain⟨aX,eu,h⟩:=al h;obtain⟨aT,eX,h⟩:=al h;refine dC (b6 [(0,.str a0),(5,.str R.1),(8,.ag 1 (aT.1.map a8)),(9,.bool aT.2)] (λP bl=>?_) ?_)
  ·(try simp only[aK.down,simprocAttr]);refine dD (aqx R.2.1 ([41]:ayc) _ dL) rfl rfl rfl rfl (.inl (by rfl)) ?_;simp only[aK.down,simprocAttr];refine dD (aqF aD ([44]:ayc) _ eu) rfl rfl rfl rfl (.inl (by rfl)) ?_;simp only[aK.down,simprocAttr];refine dD (aqH aX _ eX) rfl rfl (by simp only[aK.down,simprocAttr,Rb.down]<;>rfl) rfl (.inr (by simp only[I.cX,I.hd, @kq _ a8 (λ_=>KB _),Bool.and_self])) ?_;simp only[aK.down,simprocAttr];exact bR trivial
  refine ws _ ?_;refine aE h (λuV h=>?_) (λuV h=>?_)
  .refine ws _ ?_;exact aw (cn _ (.inr ⟨[(2,.str ([]:ayc)),(3,.ag 1 []),(4,.bool false)],hW [] rfl (cF rfl (hJ (t:=3) (d:=.bg) rfl rfl (.iq _) (by decide) (cF rfl (hX)))),az [.str ([]:ayc),.ag 1 [],.bool false]⟩))
  .exact aL (dw _ (.inr ⟨_,aZ rfl,vY aT.1 h⟩))
 .exact aL (dw _ (.inr ⟨_,hW [] rfl (cF (t:=0) (d:=.str a0) rfl (cF (t:=5) (d:=.str R.1) rfl (hJ (t:=8) (d:=.bg) (bJ:=.ag 1 []) rfl rfl (.iq _) (by decide) (hX)))),vY [] h⟩))
theorem aqI (a0 J r) (h:Qe a0 J=some r):aW ah 149 [.slice (a0.map bm),.str J] (.int .i64 r) []:=by
 refine bw [0,1] [.tmp 4] Tryz.func149 alz (λbq ai bo=>?_);refine ws _ ?_;refine ay ai (λ_ bA bc _=>?_);refine ws _ ?_;refine bj bc (λeC _ bG bM _=>?_);show bn ah (.loop ?eG) _ _;have eT:∀n cA,zD a0 J n cA=some r->cD ah ?eG eC (aq [(0,.slice (a0.map bm)),(1,.str J),(7,.int .i64 (a0.length:Int)),(8,.int .i64 cA)]):=by
  refine cS (λ_ ev cA h=>cR bG (λ_ dw cn aT=>?_));refine ws _ ?_;refine ay cn (λ_ dK _ bs=>?_);refine aE h (λb7 h=>?_) (λb7 h=>?_)
  .refine aL (dK _ (.inl ?_));refine ay cn (λ_ cq bW _=>?_);refine bj bW (λ_ bT cw _ _=>?_);refine ws _ ?_;obtain⟨R,dz,h⟩:=al h;refine cU dz _ ?_;refine aE h (λgX h=>?_) (λgX h=>?_)
   .refine ws _ ?_;exact aw (cw _ (.inl (az [.int .i64 cA])))
   .refine aL (bT _ (cq _ (.inl ?_)));refine wr _ ?_;exact dw _ (.inr ⟨_,aZ rfl,ev (i64.wrap (cA+1)) h⟩)
  .refine cK (bs 0 _ (aT 0 _ (bM _ (bA _ (.inl ?_)))));refine ws _ ?_;exact aw (ai _ (.inl (az [.int .i64 (-1)])))
 obtain⟨n,h⟩:=cC h;exact cQ (.inr ⟨_,aZ rfl,eT n 0 h⟩)
theorem Sg (a0 J r) (h:Cx a0 J=some r):aW ah 98 [.slice (a0.map bm),.str J] (.bool r) []:=by
 refine bw [0,1] [.tmp 4] Tryz.func98 alA (λbq ai bo=>?_);refine ws _ ?_;obtain⟨R,aU,h⟩:=al h;refine cH (aqI a0 J _ aU) _ ?_;exact aw (ai _ (.inl (az [.bool (decide (0<=R))])))
theorem Hm (a0 r) (h:zE a0=some r):aW ah 100 [bB a0] (ea r) []:=by
 refine bw [0] [.cell 2 65] Tryz.func100 alB (λbq ai bo=>?_);refine ws _ ?_;obtain⟨R,aU,h⟩:=al h;refine cH (Se a0.bH _ aU) _ ?_;refine ws _ ?_;exact aw (ai _ (.inl (az [ea (bd.mk a0.cp a0.Part R)])))
theorem ZN (a0 r) (h:Ki a0=some r):aW ah 99 [.slice (a0.map bB)] (.ag 3 (r.map ea)) []:=by
 refine bw [0] [.tmp 2] Tryz.func99 alC (λbq ai bo=>?_);refine ws _ ?_;refine ws _ ?_;refine ay ai (λ_ fg dm _=>?_);refine ws _ ?_;refine bj dm (λqJ _ cn cV _=>?_);show bn ah (.loop ?il) _ _;have iZ:∀n bY k4,Cy a0 n bY k4=some r->cD ah ?il qJ (aq [(3,.ag 3 (bY.map ea)),(6,.slice (a0.map bB)),(7,.int .i64 (a0.length:Int)),(8,.int .i64 k4)]):=by
  refine cS (λ_ i1 bY k4 h=>cR cn (λ_ cB cW bp=>?_));refine ws _ ?_;refine ay cW (λ_ iY _ cv=>?_);refine aE h (λe7 h=>?_) (λe7 h=>?_)
  .refine aL (iY _ (.inl ?_));refine ay cW (λ_ bT cw _=>?_);refine bj cw (λ_ eE _ _ _=>?_);obtain⟨R,dz,h⟩:=al h;refine cU dz _ ?_;obtain⟨ae,dZ,h⟩:=al h;obtain⟨KV,ck,h⟩:=al h;(try simp only[fN.down,Nat.zero_add,Nat.add_zero,reduceAdd]at ck);refine h9 (b6 [(3,.ag 3 ((bY++[ae]).map ea)),(6,.slice (a0.map bB)),(7,.int .i64 (a0.length:Int)),(8,.int .i64 k4)] (λP bl=>?_) ?_)
   ·(try simp only[aK.down,simprocAttr,Rd.down,n9,dX,ck]);refine dD (Hm R _ dZ) rfl rfl rfl rfl (.inl (by rfl)) ?_;simp only[aK.down,simprocAttr,Rd.down,n9,dX,ck];(try simp only[j_.down,simprocAttr,Rd.down,n9,dX,ck]at bl⊢);exact bl
   refine eE _ (bT _ (.inl ?_));refine wr [(3,.ag 3 ((bY++[ae]).map ea)),(6,.slice (a0.map bB)),(7,.int .i64 (a0.length:Int)),(8,.int .i64 (i64.wrap (k4+1)))] ?_;exact cB _ (.inr ⟨_,aZ rfl,i1 (bY++[ae]) (i64.wrap (k4+1)) h⟩)
  .refine cK (cv 0 _ (bp 0 _ (cV _ (fg _ (.inl ?_)))));refine ws _ ?_;exact aw (ai _ (.inl (az [.ag 3 (bY.map ea)])))
 obtain⟨n,h⟩:=cC h;exact cQ (.inr ⟨_,hW [] rfl (hJ (t:=3) (d:=.bg) (bJ:=.ag 3 []) rfl rfl (.iq _) (by decide) (cF (t:=6) (d:=.slice (a0.map bB)) rfl (cF (t:=7) (d:=.int .i64 (a0.length:Int)) rfl (cF (t:=8) (d:=.int .i64 0) rfl (hX))))),iZ n [] 0 h⟩)
theorem ZO (a0 r) (h:Kj a0=some r):aW ah 102 [.slice (a0.map bB)] (.str r) []:=by
 refine bw [0] [.tmp 2] Tryz.func102 alD (λbq ai bo=>?_);refine ws _ ?_;refine ws _ ?_;refine ay ai (λ_ fg dm aD=>?_);refine ws _ ?_;refine bj dm (λqJ _ cn cV _=>?_);have iZ:∀n bY k4,Cz a0 n bY k4=some r->cD ah Yt qJ (aq [(3,.ag 1 (bY.map bm)),(6,.slice (a0.map bB)),(7,.int .i64 (a0.length:Int)),(8,.int .i64 k4)]):=by
  refine cS (λ_ i1 bY k4 h=>cR cn (λ_ cB cW bp=>?_));refine ws _ ?_;refine ay cW (λ_ iY _ cv=>?_);refine aE h (λe7 h=>?_) (λe7 h=>?_)
  .refine aL (iY _ (.inl ?_));refine ay cW (λ_ bT cw _=>?_);refine bj cw (λ_ eE _ _ _=>?_);obtain⟨R,dz,h⟩:=al h;refine cU dz _ ?_;obtain⟨ae,dZ,h⟩:=al h;obtain⟨KV,ck,h⟩:=al h;(try simp only[fN.down,Nat.zero_add,Nat.add_zero,reduceAdd]at ck);refine zL (U (show∀s,dW ah s 25 1 [(0,.str ae)]=some (.ag 1 [.str ae],s)from λs=>by kernel_rfl) (U (@kr ah 25 25 9 rfl rfl) (U @ks (U @kt (U @gO (U @all_cons (U @all_nil (U ck (@jO _ bm 1 (λ_=>rfl)))))))))) (ZI R _ dZ) [(3,.ag 1 ((bY++[ae]).map bm)),(6,.slice (a0.map bB)),(7,.int .i64 (a0.length:Int)),(8,.int .i64 k4)] ?_;refine eE _ (bT _ (.inl ?_));refine wr [(3,.ag 1 ((bY++[ae]).map bm)),(6,.slice (a0.map bB)),(7,.int .i64 (a0.length:Int)),(8,.int .i64 (i64.wrap (k4+1)))] ?_;exact cB _ (.inr ⟨_,aZ rfl,i1 (bY++[ae]) (i64.wrap (k4+1)) h⟩)
  .refine cK (cv 0 _ (bp 0 _ (cV _ (fg _ (.inl ?_)))));obtain⟨aD,eX,h⟩:=al h;refine dC (b6 [(2,.str aD)] (λP bl=>?_) ?_)
   ·(try simp only[aK.down,simprocAttr]);refine dD (ZF bY ([32]:ayc) _ eX) rfl rfl (by simp only[aK.down,simprocAttr,Rb.down]<;>rfl) rfl (.inr (by rfl)) ?_;simp only[aK.down,simprocAttr];exact bR trivial
   exact aw (ai _ (.inl (az [.str aD])))
 obtain⟨n,h⟩:=cC h;exact cQ (.inr ⟨_,hW [] rfl (hJ (t:=3) (d:=.bg) (bJ:=.ag 1 []) rfl rfl (.iq _) (by decide) (cF (t:=6) (d:=.slice (a0.map bB)) rfl (cF (t:=7) (d:=.int .i64 (a0.length:Int)) rfl (cF (t:=8) (d:=.int .i64 0) rfl (hX))))),iZ n [] 0 h⟩)
theorem ZP (dF dv dq fD fu gr gI gu J a2 a3 a4 a5 r) (h:CB dF dv dq fD fu gr gI gu J a2 a3 a4 a5=some r):aW ah 67 [.aS (.agg [.agg [.slice (dF.map bx),.slice (dv.map eV),.slice (dq.map b3),.slice (fD.map bm),.slice (fu.map bm)],.slice (gr.map bB),.ag 4 (gI.map en),.cc (.mp gu)]),.str J,.slice (a2.map a8),.int .i64 a3,.int .i64 a4,.slice (a5.map bB)] (.tuple []) [.aS (.agg [.agg [.slice (r.1.map bx),.slice (r.2.1.map eV),.slice (r.2.2.1.map b3),.slice (r.2.2.2.1.map bm),.slice (r.2.2.2.2.1.map bm)],.slice (r.2.2.2.2.2.1.map bB),.ag 4 (r.2.2.2.2.2.2.1.map en),.cc (.mp r.2.2.2.2.2.2.2)]),.hole,.hole,.hole,.hole,.hole]:=by
 refine bw [0,3,4,5] [] Tryz.func67 alG (λbq ai bo=>?_);refine ay ai (λ_ mv eh R=>?_);rcases dH h with⟨gd,h⟩|⟨gd,h⟩
 .obtain⟨R,b4,h⟩:=al h;refine eO gd (Sg fD J _ b4) _ ?_;refine aE h (λcV h=>?_) (λcV h=>?_)
  .exact aw (eh _ (.inl (hI [] rfl (by cases eZ h;rfl) (by decide) (hP (kM (by cases eZ h;rfl) rfl rfl rfl (dn (dn (dn (dn (dn (hQ)))))))))))
  .refine aL (mv _ (.inl ?_));have rN:∀sS sT,qx a3 a4 a5 dF dv dq fD fu gr gI gu sS sT=some r->bn ah Q2 bq (aq [(0,.aS (.agg [.agg [.slice (dF.map bx),.slice (dv.map eV),.slice (dq.map b3),.slice (fD.map bm),.slice (fu.map bm)],.slice (gr.map bB),.ag 4 (gI.map en),.cc (.mp gu)])),(1,.str sS),(2,.slice (sT.map a8)),(3,.int .i64 a3),(4,.int .i64 a4),(5,.slice (a5.map bB))]):=by
    intro sS sT h;obtain⟨ae,fJ,h⟩:=al h;refine cH (Le sS sT _ fJ) _ ?_;obtain⟨aD,iD,h⟩:=al h;refine cH (ZN gr _ iD) _ ?_;obtain⟨aX,dd,h⟩:=al h;obtain⟨aT,dz,h⟩:=al h;obtain⟨bp,dO,h⟩:=al h;refine dC (b6 [(0,.aS (.agg [.agg [.slice (dF.map bx),.slice (dv.map eV),.slice (dq.map b3),.slice (fD.map bm),.slice (fu.map bm)],.slice (gr.map bB),.ag 4 (gI.map en),.cc (.mp gu)])),(3,.int .i64 a3),(4,.int .i64 a4),(5,.slice (a5.map bB)),(12,.str ae.1),(14,.ag 3 ((List.set aD (Int.toNat a3) aT).map ea))] (λP bl=>?_) ?_)
    ·(try simp only[aK.down,simprocAttr,dd,dO,b2 dO,cO,db]);refine dD (Hm aX _ dz) rfl rfl rfl rfl (.inl (by rfl)) ?_;simp only[aK.down,simprocAttr,dd,dO,b2 dO,cO,db];exact bR (U dd (U dO (U (b2 dO) @cO)))
    have yb:∀iw mU,CA a3 a4 dF dv dq fD fu gr gI gu iw mU=some r->bn ah Q1 bq (aq [(0,.aS (.agg [.agg [.slice (dF.map bx),.slice (dv.map eV),.slice (dq.map b3),.slice (fD.map bm),.slice (fu.map bm)],.slice (gr.map bB),.ag 4 (gI.map en),.cc (.mp gu)])),(3,.int .i64 a3),(4,.int .i64 a4),(12,.str iw),(14,.ag 3 (mU.map ea))]):=by
     intro iw mU h;obtain⟨Dg,dL,h⟩:=al h;(try simp only[fN.down,Nat.zero_add,Nat.add_zero,reduceAdd]at dL);obtain⟨bs,eu,h⟩:=al h;obtain⟨Dg,eX,h⟩:=al h;(try simp only[fN.down,Nat.zero_add,Nat.add_zero,reduceAdd]at eX);obtain⟨Dg,gj,h⟩:=al h;(try simp only[fN.down,Nat.zero_add,Nat.add_zero,reduceAdd]at gj);obtain⟨cv,gW,h⟩:=al h;obtain⟨Dg,e8,h⟩:=al h;(try simp only[fN.down,Nat.zero_add,Nat.add_zero,reduceAdd]at e8);obtain⟨Dg,ie,h⟩:=al h;(try simp only[fN.down,Nat.zero_add,Nat.add_zero,reduceAdd]at ie);obtain⟨dE,lC,h⟩:=al h;obtain⟨Dg,iI,h⟩:=al h;(try simp only[fN.down,Nat.zero_add,Nat.add_zero,reduceAdd]at iI);refine dC (b6 [(0,.aS (.agg [.agg [.slice (dF.map bx),.slice (dv.map eV),.slice (dq.map b3),.slice (fD.map bm),.slice (fu.map bm)],.slice (gr.map bB),.ag 4 (gI.map en),.cc (.mp gu)])),(3,.int .i64 a3),(4,.int .i64 a4),(12,.str iw),(14,.ag 3 (mU.map ea)),(15,.str ((((((iw++([32]:ayc))++bs)++([32]:ayc))++cv)++([32]:ayc))++dE))] (λP bl=>?_) ?_)
     ·(try simp only[aK.down,simprocAttr,dL,mz.down,eX,gj,e8,ie,iI]);refine dD (Ac a3 _ eu) rfl rfl rfl rfl (.inl (by rfl)) ?_;simp only[aK.down,simprocAttr,dL,mz.down,eX,gj,e8,ie,iI];refine dD (Ac a4 _ gW) rfl rfl rfl rfl (.inl (by rfl)) ?_;simp only[aK.down,simprocAttr,dL,mz.down,eX,gj,e8,ie,iI];refine dD (ZO mU _ lC) rfl rfl (by simp only[aK.down,simprocAttr,dL,YS.down,eX,gj,e8,ie,iI]<;>rfl) rfl (.inr (by rfl)) ?_;simp only[aK.down,simprocAttr,dL,mz.down,eX,gj,e8,ie,iI];exact bR (U dL (U mz.down (U eX (U gj (U e8 (U ie iI))))))
     refine cU (U @NU (U @Bj (show q3 ah 121=true from by kernel_rfl))) [(0,.aS (.agg [.agg [.slice (dF.map bx),.slice (dv.map eV),.slice (dq.map b3),.slice (fD.map bm),.slice (fu.map bm)],.slice (gr.map bB),.ag 4 (gI.map en),.cc (.mp gu)])),(3,.int .i64 a3),(4,.int .i64 a4),(12,.str iw),(14,.ag 3 (mU.map ea)),(15,.str ((((((iw++([32]:ayc))++bs)++([32]:ayc))++cv)++([32]:ayc))++dE)),(81,.bool (!(j1 ((((((iw++([32]:ayc))++bs)++([32]:ayc))++cv)++([32]:ayc))++dE) gu)))] ?_;refine aE h (λov h=>?_) (λov h=>?_)
     .refine cU (U @NV (U @Bj (show q3 ah 121=true from by kernel_rfl))) [(0,.aS (.agg [.agg [.slice (dF.map bx),.slice (dv.map eV),.slice (dq.map b3),.slice (fD.map bm),.slice (fu.map bm)],.slice (gr.map bB),.ag 4 (gI.map en),.cc (.mp (kh ((((((iw++([32]:ayc))++bs)++([32]:ayc))++cv)++([32]:ayc))++dE) true gu))])),(3,.int .i64 a3),(4,.int .i64 a4),(12,.str iw),(14,.ag 3 (mU.map ea))] ?_;obtain⟨Dg,Hn,h⟩:=al h;(try simp only[fN.down,Nat.zero_add,Nat.add_zero,reduceAdd]at Hn);refine h9 (b6 [(0,.aS (.agg [.agg [.slice (dF.map bx),.slice (dv.map eV),.slice (dq.map b3),.slice (fD.map bm),.slice (fu.map bm)],.slice (gr.map bB),.ag 4 ((gI++[(a1.mk iw a3 a4 mU)]).map en),.cc (.mp (kh ((((((iw++([32]:ayc))++bs)++([32]:ayc))++cv)++([32]:ayc))++dE) true gu))]))] (λP bl=>?_) ?_)
      .simp only[aK.down,simprocAttr,KR.down,eA,dX,n9,Hn];(try simp only[j_.down,simprocAttr,KR.down,eA,dX,n9,Hn]at bl⊢);exact bl
      exact bo _ (.inl (hI [] rfl (by cases eZ h;rfl) (by decide) (hP (kM (by cases eZ h;rfl) rfl rfl rfl (dn (dn (dn (dn (dn (hQ))))))))))
     .exact aL (bo _ (.inl (hI [] rfl (by cases eZ h;rfl) (by decide) (hP (kM (by cases eZ h;rfl) rfl rfl rfl (dn (dn (dn (dn (dn (hQ)))))))))))
    refine ay ai (λ_ gi _ hk=>?_);refine ws [(0,.aS (.agg [.agg [.slice (dF.map bx),.slice (dv.map eV),.slice (dq.map b3),.slice (fD.map bm),.slice (fu.map bm)],.slice (gr.map bB),.ag 4 (gI.map en),.cc (.mp gu)])),(3,.int .i64 a3),(4,.int .i64 a4),(5,.slice (a5.map bB)),(12,.str ae.1),(14,.ag 3 ((List.set aD (Int.toNat a3) aT).map ea)),(54,.bool (decide (0<=a4)))] ?_;refine aE h (λG1 h=>?_) (λG1 h=>?_)
    .obtain⟨dI,js,h⟩:=al h;obtain⟨e6,zY,h⟩:=al h;obtain⟨kv,pz,h⟩:=al h;refine h9 (b6 [(0,.aS (.agg [.agg [.slice (dF.map bx),.slice (dv.map eV),.slice (dq.map b3),.slice (fD.map bm),.slice (fu.map bm)],.slice (gr.map bB),.ag 4 (gI.map en),.cc (.mp gu)])),(3,.int .i64 a3),(4,.int .i64 a4),(12,.str ae.1),(14,.ag 3 ((List.set (List.set aD (Int.toNat a3) aT) (Int.toNat a4) e6).map ea))] (λP bl=>?_) ?_)
     ·(try simp only[aK.down,simprocAttr,js,pz,b2 pz,cO,db]);refine dD (Hm dI _ zY) rfl rfl rfl rfl (.inl (by rfl)) ?_;simp only[aK.down,simprocAttr,js,pz,b2 pz,cO,db];exact bR (U js (U pz (U (b2 pz) @cO)))
     exact gi _ (.inr ⟨_,aZ rfl,yb ae.1 (List.set (List.set aD (Int.toNat a3) aT) (Int.toNat a4) e6) h⟩)
    .exact aL (gi _ (.inr ⟨_,aZ rfl,yb ae.1 (List.set aD (Int.toNat a3) aT) h⟩))
   refine ay ai (λ_ cB _ bp=>?_);obtain⟨my,tc,h⟩:=al h;refine cH (Sg fu J _ tc) _ ?_;refine aE h (λz8 h=>?_) (λz8 h=>?_)
   .refine wr _ ?_;exact cB _ (.inr ⟨_,hW [] rfl (cF (t:=0) (d:=.aS (.agg [.agg [.slice (dF.map bx),.slice (dv.map eV),.slice (dq.map b3),.slice (fD.map bm),.slice (fu.map bm)],.slice (gr.map bB),.ag 4 (gI.map en),.cc (.mp gu)])) rfl (cF (t:=1) (d:=.str ([116,97,117]:ayc)) rfl (hJ (t:=2) (d:=.bg) (bJ:=.slice []) rfl rfl (.xk) (by decide) (cF (t:=3) (d:=.int .i64 a3) rfl (cF (t:=4) (d:=.int .i64 a4) rfl (cF (t:=5) (d:=.slice (a5.map bB)) rfl (hX))))))),rN ([116,97,117]:ayc) [] h⟩)
   .exact aL (cB _ (.inr ⟨_,aZ rfl,rN J a2 h⟩))
 .refine cU gd _ ?_;refine n8 rfl ?_;refine aL (mv _ (.inl ?_));have rN:∀sS sT,qx a3 a4 a5 dF dv dq fD fu gr gI gu sS sT=some r->bn ah Q2 bq (aq [(0,.aS (.agg [.agg [.slice (dF.map bx),.slice (dv.map eV),.slice (dq.map b3),.slice (fD.map bm),.slice (fu.map bm)],.slice (gr.map bB),.ag 4 (gI.map en),.cc (.mp gu)])),(1,.str sS),(2,.slice (sT.map a8)),(3,.int .i64 a3),(4,.int .i64 a4),(5,.slice (a5.map bB))]):=by
   intro sS sT h;obtain⟨iW,C_,h⟩:=al h;refine cH (Le sS sT _ C_) _ ?_;obtain⟨hk,x2,h⟩:=al h;refine cH (ZN gr _ x2) _ ?_;obtain⟨jd,z_,h⟩:=al h;obtain⟨iv,R0,h⟩:=al h;obtain⟨pU,s9,h⟩:=al h;refine dC (b6 [(0,.aS (.agg [.agg [.slice (dF.map bx),.slice (dv.map eV),.slice (dq.map b3),.slice (fD.map bm),.slice (fu.map bm)],.slice (gr.map bB),.ag 4 (gI.map en),.cc (.mp gu)])),(3,.int .i64 a3),(4,.int .i64 a4),(5,.slice (a5.map bB)),(12,.str iW.1),(14,.ag 3 ((List.set hk (Int.toNat a3) iv).map ea))] (λP bl=>?_) ?_)
   ·(try simp only[aK.down,simprocAttr,z_,s9,b2 s9,cO,db]);refine dD (Hm jd _ R0) rfl rfl rfl rfl (.inl (by rfl)) ?_;simp only[aK.down,simprocAttr,z_,s9,b2 s9,cO,db];exact bR (U z_ (U s9 (U (b2 s9) @cO)))
   have yb:∀iw mU,CA a3 a4 dF dv dq fD fu gr gI gu iw mU=some r->bn ah Q1 bq (aq [(0,.aS (.agg [.agg [.slice (dF.map bx),.slice (dv.map eV),.slice (dq.map b3),.slice (fD.map bm),.slice (fu.map bm)],.slice (gr.map bB),.ag 4 (gI.map en),.cc (.mp gu)])),(3,.int .i64 a3),(4,.int .i64 a4),(12,.str iw),(14,.ag 3 (mU.map ea))]):=by
    intro iw mU h;obtain⟨Dh,rT,h⟩:=al h;(try simp only[fN.down,Nat.zero_add,Nat.add_zero,reduceAdd]at rT);obtain⟨lr,Dc,h⟩:=al h;obtain⟨Dh,we,h⟩:=al h;(try simp only[fN.down,Nat.zero_add,Nat.add_zero,reduceAdd]at we);obtain⟨Dh,ow,h⟩:=al h;(try simp only[fN.down,Nat.zero_add,Nat.add_zero,reduceAdd]at ow);obtain⟨lu,He,h⟩:=al h;obtain⟨Dh,wi,h⟩:=al h;(try simp only[fN.down,Nat.zero_add,Nat.add_zero,reduceAdd]at wi);obtain⟨Dh,nT,h⟩:=al h;(try simp only[fN.down,Nat.zero_add,Nat.add_zero,reduceAdd]at nT);obtain⟨k1,rS,h⟩:=al h;obtain⟨Dh,tb,h⟩:=al h;(try simp only[fN.down,Nat.zero_add,Nat.add_zero,reduceAdd]at tb);refine dC (b6 [(0,.aS (.agg [.agg [.slice (dF.map bx),.slice (dv.map eV),.slice (dq.map b3),.slice (fD.map bm),.slice (fu.map bm)],.slice (gr.map bB),.ag 4 (gI.map en),.cc (.mp gu)])),(3,.int .i64 a3),(4,.int .i64 a4),(12,.str iw),(14,.ag 3 (mU.map ea)),(15,.str ((((((iw++([32]:ayc))++lr)++([32]:ayc))++lu)++([32]:ayc))++k1))] (λP bl=>?_) ?_)
    ·(try simp only[aK.down,simprocAttr,rT,mz.down,we,ow,wi,nT,tb]);refine dD (Ac a3 _ Dc) rfl rfl rfl rfl (.inl (by rfl)) ?_;simp only[aK.down,simprocAttr,rT,mz.down,we,ow,wi,nT,tb];refine dD (Ac a4 _ He) rfl rfl rfl rfl (.inl (by rfl)) ?_;simp only[aK.down,simprocAttr,rT,mz.down,we,ow,wi,nT,tb];refine dD (ZO mU _ rS) rfl rfl (by simp only[aK.down,simprocAttr,rT,YS.down,we,ow,wi,nT,tb]<;>rfl) rfl (.inr (by rfl)) ?_;simp only[aK.down,simprocAttr,rT,mz.down,we,ow,wi,nT,tb];exact bR (U rT (U mz.down (U we (U ow (U wi (U nT tb))))))
    refine cU (U @NU (U @Bj (show q3 ah 121=true from by kernel_rfl))) [(0,.aS (.agg [.agg [.slice (dF.map bx),.slice (dv.map eV),.slice (dq.map b3),.slice (fD.map bm),.slice (fu.map bm)],.slice (gr.map bB),.ag 4 (gI.map en),.cc (.mp gu)])),(3,.int .i64 a3),(4,.int .i64 a4),(12,.str iw),(14,.ag 3 (mU.map ea)),(15,.str ((((((iw++([32]:ayc))++lr)++([32]:ayc))++lu)++([32]:ayc))++k1)),(81,.bool (!(j1 ((((((iw++([32]:ayc))++lr)++([32]:ayc))++lu)++([32]:ayc))++k1) gu)))] ?_;refine aE h (λaqJ h=>?_) (λaqJ h=>?_)
    .refine cU (U @NV (U @Bj (show q3 ah 121=true from by kernel_rfl))) [(0,.aS (.agg [.agg [.slice (dF.map bx),.slice (dv.map eV),.slice (dq.map b3),.slice (fD.map bm),.slice (fu.map bm)],.slice (gr.map bB),.ag 4 (gI.map en),.cc (.mp (kh ((((((iw++([32]:ayc))++lr)++([32]:ayc))++lu)++([32]:ayc))++k1) true gu))])),(3,.int .i64 a3),(4,.int .i64 a4),(12,.str iw),(14,.ag 3 (mU.map ea))] ?_;obtain⟨Dh,Hk,h⟩:=al h;(try simp only[fN.down,Nat.zero_add,Nat.add_zero,reduceAdd]at Hk);refine h9 (b6 [(0,.aS (.agg [.agg [.slice (dF.map bx),.slice (dv.map eV),.slice (dq.map b3),.slice (fD.map bm),.slice (fu.map bm)],.slice (gr.map bB),.ag 4 ((gI++[(a1.mk iw a3 a4 mU)]).map en),.cc (.mp (kh ((((((iw++([32]:ayc))++lr)++([32]:ayc))++lu)++([32]:ayc))++k1) true gu))]))] (λP bl=>?_) ?_)
     .simp only[aK.down,simprocAttr,KR.down,eA,dX,n9,Hk];(try simp only[j_.down,simprocAttr,KR.down,eA,dX,n9,Hk]at bl⊢);exact bl
     exact bo _ (.inl (hI [] rfl (by cases eZ h;rfl) (by decide) (hP (kM (by cases eZ h;rfl) rfl rfl rfl (dn (dn (dn (dn (dn (hQ))))))))))
    .exact aL (bo _ (.inl (hI [] rfl (by cases eZ h;rfl) (by decide) (hP (kM (by cases eZ h;rfl) rfl rfl rfl (dn (dn (dn (dn (dn (hQ)))))))))))
   refine ay ai (λ_ ZQ _ _=>?_);refine ws [(0,.aS (.agg [.agg [.slice (dF.map bx),.slice (dv.map eV),.slice (dq.map b3),.slice (fD.map bm),.slice (fu.map bm)],.slice (gr.map bB),.ag 4 (gI.map en),.cc (.mp gu)])),(3,.int .i64 a3),(4,.int .i64 a4),(5,.slice (a5.map bB)),(12,.str iW.1),(14,.ag 3 ((List.set hk (Int.toNat a3) iv).map ea)),(54,.bool (decide (0<=a4)))] ?_;refine aE h (λnS h=>?_) (λnS h=>?_)
   .obtain⟨mS,Sh,h⟩:=al h;obtain⟨lv,aqK,h⟩:=al h;obtain⟨Pe,uT,h⟩:=al h;refine h9 (b6 [(0,.aS (.agg [.agg [.slice (dF.map bx),.slice (dv.map eV),.slice (dq.map b3),.slice (fD.map bm),.slice (fu.map bm)],.slice (gr.map bB),.ag 4 (gI.map en),.cc (.mp gu)])),(3,.int .i64 a3),(4,.int .i64 a4),(12,.str iW.1),(14,.ag 3 ((List.set (List.set hk (Int.toNat a3) iv) (Int.toNat a4) lv).map ea))] (λP bl=>?_) ?_)
    ·(try simp only[aK.down,simprocAttr,Sh,uT,b2 uT,cO,db]);refine dD (Hm mS _ aqK) rfl rfl rfl rfl (.inl (by rfl)) ?_;simp only[aK.down,simprocAttr,Sh,uT,b2 uT,cO,db];exact bR (U Sh (U uT (U (b2 uT) @cO)))
    exact ZQ _ (.inr ⟨_,aZ rfl,yb iW.1 (List.set (List.set hk (Int.toNat a3) iv) (Int.toNat a4) lv) h⟩)
   .exact aL (ZQ _ (.inr ⟨_,aZ rfl,yb iW.1 (List.set hk (Int.toNat a3) iv) h⟩))
  refine ay ai (λ_ z7 _ _=>?_);obtain⟨vK,G4,h⟩:=al h;refine cH (Sg fu J _ G4) _ ?_;refine aE h (λaqL h=>?_) (λaqL h=>?_)
  .refine wr _ ?_;exact z7 _ (.inr ⟨_,hW [] rfl (cF (t:=0) (d:=.aS (.agg [.agg [.slice (dF.map bx),.slice (dv.map eV),.slice (dq.map b3),.slice (fD.map bm),.slice (fu.map bm)],.slice (gr.map bB),.ag 4 (gI.map en),.cc (.mp gu)])) rfl (cF (t:=1) (d:=.str ([116,97,117]:ayc)) rfl (hJ (t:=2) (d:=.bg) (bJ:=.slice []) rfl rfl (.xk) (by decide) (cF (t:=3) (d:=.int .i64 a3) rfl (cF (t:=4) (d:=.int .i64 a4) rfl (cF (t:=5) (d:=.slice (a5.map bB)) rfl (hX))))))),rN ([116,97,117]:ayc) [] h⟩)
  .exact aL (z7 _ (.inr ⟨_,aZ rfl,rN J a2 h⟩))
theorem aqM (a0 J a2 r) (h:XA a0 J a2=some r):aW ah 154 [b3 a0,.ref (.str J),.ref (.str a2)] (.bool r) []:=by
 refine bw [0,1,2] [.tmp 4] Tryz.func154 c154 (λbq ai bo=>?_);refine ws _ ?_;refine KN (a0.Left==(hT false J a2)) (U @WK @agf) [(4,.bool ((a0.Left==(hT false J a2))&&(a0.cx==(hT true J a2))))] ?_;exact aw (ai _ (.inl (az [.bool ((a0.Left==(hT false J a2))&&(a0.cx==(hT true J a2)))])))
theorem aqN (a0 iH kx r) (h:Qi a0 iH kx=some r):aW ah 153 [.slice (a0.map b3),.fn 154 [.ref (.str iH),.ref (.str kx)]] (.int .i64 r) []:=by
 refine bw [0,1] [.tmp 4] Tryz.func153 alH (λbq ai bo=>?_);refine ws _ ?_;refine ay ai (λ_ bA bc ae=>?_);refine ws _ ?_;refine bj bc (λeC _ bG bM _=>?_);show bn ah (.loop ?eG) _ _;have eT:∀n cA,CC a0 iH kx n cA=some r->cD ah ?eG eC (aq [(0,.slice (a0.map b3)),(1,.fn 154 [.ref (.str iH),.ref (.str kx)]),(7,.int .i64 (a0.length:Int)),(8,.int .i64 cA)]):=by
  refine cS (λ_ ev cA h=>cR bG (λ_ dw cn aT=>?_));refine ws _ ?_;refine ay cn (λ_ dK _ bs=>?_);refine aE h (λb7 h=>?_) (λb7 h=>?_)
  .refine aL (dK _ (.inl ?_));refine ay cn (λ_ cq bW _=>?_);refine bj bW (λ_ bT cw _ _=>?_);refine ws _ ?_;obtain⟨R,dz,h⟩:=al h;obtain⟨ae,dO,h⟩:=al h;refine eO dz (aqM R iH kx _ dO) _ ?_;refine aE h (λe0 h=>?_) (λe0 h=>?_)
   .refine ws _ ?_;exact aw (cw _ (.inl (az [.int .i64 cA])))
   .refine aL (bT _ (cq _ (.inl ?_)));refine wr _ ?_;exact dw _ (.inr ⟨_,aZ rfl,ev (i64.wrap (cA+1)) h⟩)
  .refine cK (bs 0 _ (aT 0 _ (bM _ (bA _ (.inl ?_)))));refine ws _ ?_;exact aw (ai _ (.inl (az [.int .i64 (-1)])))
 obtain⟨n,h⟩:=cC h;exact cQ (.inr ⟨_,aZ rfl,eT n 0 h⟩)
theorem aqO (a0 J a2 r) (h:zF a0 J a2=some r):aW ah 103 [dQ a0,.str J,.str a2] (.tuple [.str r.1,.bool r.2]) []:=by
 refine bw [0,1,2] [.tmp 6,.tmp 7] Tryz.func103 alI (λbq ai bo=>?_);refine ws _ ?_;obtain⟨R,aU,h⟩:=al h;refine dC (b6 [(3,.aS (dQ a0)),(8,.int .i64 R)] (λP bl=>?_) ?_)
 ·(try simp only[aK.down,simprocAttr]);refine dD (aqN a0.cz J a2 _ aU) rfl rfl (by simp only[aK.down,simprocAttr,x0.down]<;>rfl) rfl (.inr (by rfl)) ?_;simp only[aK.down,simprocAttr];exact bR trivial
 refine ay ai (λ_ fa bG _=>?_);refine ws _ ?_;refine aE h (λdA h=>?_) (λdA h=>?_)
 .refine ws _ ?_;exact aw (bG _ (.inl (az [.str ([]:ayc),.bool false])))
 .refine aL (fa _ (.inl ?_));obtain⟨ae,jl,h⟩:=al h;refine cU jl _ ?_;exact aw (ai _ (.inl (az [.str ae.Result,.bool true])))
theorem aqP (a0 J r) (h:Gg a0 J=some r):aW ah 104 [.slice (a0.map a8),.slice (J.map a8)] (.bool r) []:=by
 refine bw [0,1] [.tmp 4] Tryz.func104 alJ (λbq ai bo=>?_);refine ws _ ?_;refine ay ai (λ_ bA bc ae=>?_);refine ws _ ?_;refine aE h (λbM h=>?_) (λbM h=>?_)
 .refine ws _ ?_;exact aw (bc _ (.inl (az [.bool false])))
 .refine aL (bA _ (.inl ?_));refine ay ai (λ_ cB cW _=>?_);refine ws _ ?_;refine bj cW (λix _ hL b7 _=>?_);show bn ah (.loop ?gJ) _ _;have gK:∀n sU,CD a0 J n sU=some r->cD ah ?gJ ix (aq [(0,.slice (a0.map a8)),(1,.slice (J.map a8)),(12,.int .i64 (a0.length:Int)),(13,.int .i64 sU)]):=by
   refine cS (λ_ gw sU h=>cR hL (λ_ cq bW dE=>?_));refine ws _ ?_;refine ay bW (λ_ eE _ e6=>?_);refine aE h (λe1 h=>?_) (λe1 h=>?_)
   .refine aL (eE _ (.inl ?_));refine ay bW (λ_ fE fB _=>?_);refine bj fB (λ_ eH ef _ _=>?_);refine ws _ ?_;obtain⟨R,dL,h⟩:=al h;obtain⟨ae,eu,h⟩:=al h;refine oT (U dL eu) _ ?_;refine aE h (λfO h=>?_) (λfO h=>?_)
    .refine ws _ ?_;exact aw (ef _ (.inl (az [.bool false])))
    .refine aL (eH _ (fE _ (.inl ?_)));refine wr _ ?_;exact cq _ (.inr ⟨_,aZ rfl,gw (i64.wrap (sU+1)) h⟩)
   .refine cK (e6 0 _ (dE 0 _ (b7 _ (cB _ (.inl ?_)))));refine ws _ ?_;exact aw (ai _ (.inl (az [.bool true])))
  obtain⟨n,h⟩:=cC h;exact cQ (.inr ⟨_,aZ rfl,gK n 0 h⟩)
theorem aqQ (dF dv dq fD fu gr gI gu J a2 a3 a4 r) (h:Qm dF dv dq fD fu gr gI gu J a2 a3 a4=some r):aW ah 68 [.aS (.agg [.agg [.slice (dF.map bx),.slice (dv.map eV),.slice (dq.map b3),.slice (fD.map bm),.slice (fu.map bm)],.slice (gr.map bB),.ag 4 (gI.map en),.cc (.mp gu)]),.int .i64 J,.int .i64 a2,.slice (a3.map cZ),.slice (a4.map cZ)] (.tuple []) [.aS (.agg [.agg [.slice (r.1.map bx),.slice (r.2.1.map eV),.slice (r.2.2.1.map b3),.slice (r.2.2.2.1.map bm),.slice (r.2.2.2.2.1.map bm)],.slice (r.2.2.2.2.2.1.map bB),.ag 4 (r.2.2.2.2.2.2.1.map en),.cc (.mp r.2.2.2.2.2.2.2)]),.hole,.hole,.hole,.hole]:=by
 refine bw [0,1,2,3,4] [] Tryz.func68 alL (λbq ai bo=>?_);refine ws _ ?_;refine bj ai (λNh _ bc fV ae=>?_);have aqR:∀n uG uH uI uJ uK uL uM uN sV,sW J a2 a3 a4 n uG uH uI uJ uK uL uM uN sV=some r->cD ah Yw Nh (aq [(0,.aS (.agg [.agg [.slice (uG.map bx),.slice (uH.map eV),.slice (uI.map b3),.slice (uJ.map bm),.slice (uK.map bm)],.slice (uL.map bB),.ag 4 (uM.map en),.cc (.mp uN)])),(1,.int .i64 J),(2,.int .i64 a2),(4,.slice (a4.map cZ)),(22,.slice (a3.map cZ)),(23,.int .i64 (a3.length:Int)),(24,.int .i64 sV)]):=by
  refine cS (λm3 aqS uG uH uI uJ uK uL uM uN sV h=>cR bc (λ_ fg dm aD=>?_));refine ws _ ?_;refine ay dm (λ_ dw _ aT=>?_);refine aE h (λdA h=>?_) (λdA h=>?_)
  .refine aL (dw _ (.inl ?_));refine ay dm (λ_ dK eK bs=>?_);refine bj eK (λ_ iY hL _ _=>?_);obtain⟨R,iD,h⟩:=al h;refine cU iD _ ?_;obtain⟨ae,dd,h⟩:=al h;refine cH (Sf R.Label _ dd) _ ?_;refine ws _ ?_;refine bj hL (λGW _ ef gX _=>?_);have aqT:∀n og oh oi oj om pt pv pw oR oS,vV (sW J a2 a3 a4 m3) J a2 a3 a4 R ae n og oh oi oj om pt pv pw oR oS=some r->cD ah Yv GW (aq [(0,.aS (.agg [.agg [.slice (og.map bx),.slice (oh.map eV),.slice (oi.map b3),.slice (oj.map bm),.slice (om.map bm)],.slice (pt.map bB),.ag 4 (pv.map en),.cc (.mp pw)])),(1,.int .i64 J),(2,.int .i64 a2),(4,.slice (a4.map cZ)),(11,.aS (cZ R)),(12,.str ae.1),(13,.slice (ae.2.1.map a8)),(22,.slice (a3.map cZ)),(23,.int .i64 (a3.length:Int)),(24,.int .i64 oR),(35,.slice (a4.map cZ)),(36,.int .i64 (a4.length:Int)),(37,.int .i64 oS)]):=by
    refine cS (λm19 aqU og oh oi oj om pt pv pw oR oS h=>cR ef (λHc gi gS hk=>?_));refine ws _ ?_;refine ay gS (λ_ kc _ iv=>?_);refine aE h (λh0 h=>?_) (λh0 h=>?_)
    .refine aL (kc _ (.inl ?_));have Si:∀CE CF CG CH CI CJ CK CL CM CN,Gh (sW J a2 a3 a4 m3) (vV (sW J a2 a3 a4 m3) J a2 a3 a4 R ae m19) J a2 a3 a4 R ae CE CF CG CH CI CJ CK CL CM CN=some r->bn ah Yu Hc (aq [(0,.aS (.agg [.agg [.slice (CE.map bx),.slice (CF.map eV),.slice (CG.map b3),.slice (CH.map bm),.slice (CI.map bm)],.slice (CJ.map bB),.ag 4 (CK.map en),.cc (.mp CL)])),(1,.int .i64 J),(2,.int .i64 a2),(4,.slice (a4.map cZ)),(11,.aS (cZ R)),(12,.str ae.1),(13,.slice (ae.2.1.map a8)),(22,.slice (a3.map cZ)),(23,.int .i64 (a3.length:Int)),(24,.int .i64 CM),(35,.slice (a4.map cZ)),(36,.int .i64 (a4.length:Int)),(37,.int .i64 CN)]):=by
      intro CE CF CG CH CI CJ CK CL CM CN h;refine wr _ ?_;exact gi _ (.inr ⟨_,aZ rfl,aqU CE CF CG CH CI CJ CK CL CM (i64.wrap (CN+1)) h⟩)
     refine ay gS (λ_ rM GX _=>?_);refine bj GX (λ_ Ab _ _ _=>?_);obtain⟨aD,ie,h⟩:=al h;refine cU ie _ ?_;obtain⟨aX,iI,h⟩:=al h;refine cH (Sf aD.Label _ iI) _ ?_;obtain⟨aT,rL,h⟩:=al h;refine cH (aqO (cE.mk og oh oi oj om) ae.1 aX.1 _ rL) _ ?_;rcases dH h with⟨h1,h⟩|⟨h1,h⟩
     .obtain⟨bp,Hn,h⟩:=al h;refine dC (b6 [(0,.aS (.agg [.agg [.slice (og.map bx),.slice (oh.map eV),.slice (oi.map b3),.slice (oj.map bm),.slice (om.map bm)],.slice (pt.map bB),.ag 4 (pv.map en),.cc (.mp pw)])),(1,.int .i64 J),(2,.int .i64 a2),(4,.slice (a4.map cZ)),(11,.aS (cZ R)),(12,.str ae.1),(13,.slice (ae.2.1.map a8)),(16,.aS (cZ aD)),(20,.str aT.1),(22,.slice (a3.map cZ)),(23,.int .i64 (a3.length:Int)),(24,.int .i64 oR),(35,.slice (a4.map cZ)),(36,.int .i64 (a4.length:Int)),(37,.int .i64 oS),(63,.bool bp)] (λP bl=>?_) ?_)
      ·(try simp only[aK.down,simprocAttr,h1]);refine iF (aqP ae.2.1 aX.2.1 _ Hn) rfl rfl (by simp only[aK.down,simprocAttr,h1,KP.down]<;>rfl) rfl (.inr (by rfl)) ?_;simp only[aK.down,simprocAttr,h1];exact bR h1
      refine aE h (λgY h=>?_) (λgY h=>?_)
      .obtain⟨bs,oV,h⟩:=al h;refine h9 (b6 [(0,.aS (.agg [.agg [.slice (bs.1.map bx),.slice (bs.2.1.map eV),.slice (bs.2.2.1.map b3),.slice (bs.2.2.2.1.map bm),.slice (bs.2.2.2.2.1.map bm)],.slice (bs.2.2.2.2.2.1.map bB),.ag 4 (bs.2.2.2.2.2.2.1.map en),.cc (.mp bs.2.2.2.2.2.2.2)])),(1,.int .i64 J),(2,.int .i64 a2),(4,.slice (a4.map cZ)),(11,.aS (cZ R)),(12,.str ae.1),(13,.slice (ae.2.1.map a8)),(22,.slice (a3.map cZ)),(23,.int .i64 (a3.length:Int)),(24,.int .i64 oR),(35,.slice (a4.map cZ)),(36,.int .i64 (a4.length:Int)),(37,.int .i64 oS)] (λP bl=>?_) ?_)
       ·(try simp only[aK.down,simprocAttr,(show∀s,dW ah s 40 2 [(0,.agg [.int .i64 R.Next.cp,.int .i64 R.Next.Part,.slice (R.Next.bH.map a8)]),(1,.agg [.int .i64 aD.Next.cp,.int .i64 aD.Next.Part,.slice (aD.Next.bH.map a8)])]=some (.ag 3 [.agg [.int .i64 R.Next.cp,.int .i64 R.Next.Part,.slice (R.Next.bH.map a8)],.agg [.int .i64 aD.Next.cp,.int .i64 aD.Next.Part,.slice (aD.Next.bH.map a8)]],s)from λs=>by kernel_rfl),KS.down,I.shares]);refine kL [⟨.h 0 [],true,_,_⟩,⟨.str aT.1,false,_,.hole⟩,⟨.slice (ae.2.1.map a8),false,_,.hole⟩,⟨.int .i64 J,false,_,.hole⟩,⟨.int .i64 a2,false,_,.hole⟩,⟨.slice ([R.Next,aD.Next].map bB),false,_,.hole⟩] (ZP og oh oi oj om pt pv pw aT.1 ae.2.1 J a2 [R.Next,aD.Next] _ oV) rfl rfl rfl (by simp only[aK.down,simprocAttr,(show∀s,dW ah s 40 2 [(0,.agg [.int .i64 R.Next.cp,.int .i64 R.Next.Part,.slice (R.Next.bH.map a8)]),(1,.agg [.int .i64 aD.Next.cp,.int .i64 aD.Next.Part,.slice (aD.Next.bH.map a8)])]=some (.ag 3 [.agg [.int .i64 R.Next.cp,.int .i64 R.Next.Part,.slice (R.Next.bH.map a8)],.agg [.int .i64 aD.Next.cp,.int .i64 aD.Next.Part,.slice (aD.Next.bH.map a8)]],s)from λs=>by kernel_rfl),YT.down,I.shares]) rfl rfl (.inl rfl) ?_;simp only[aK.down,simprocAttr,(show∀s,dW ah s 40 2 [(0,.agg [.int .i64 R.Next.cp,.int .i64 R.Next.Part,.slice (R.Next.bH.map a8)]),(1,.agg [.int .i64 aD.Next.cp,.int .i64 aD.Next.Part,.slice (aD.Next.bH.map a8)])]=some (.ag 3 [.agg [.int .i64 R.Next.cp,.int .i64 R.Next.Part,.slice (R.Next.bH.map a8)],.agg [.int .i64 aD.Next.cp,.int .i64 aD.Next.Part,.slice (aD.Next.bH.map a8)]],s)from λs=>by kernel_rfl),YU.down,I.shares];exact bR (U (show∀s,dW ah s 40 2 [(0,.agg [.int .i64 R.Next.cp,.int .i64 R.Next.Part,.slice (R.Next.bH.map a8)]),(1,.agg [.int .i64 aD.Next.cp,.int .i64 aD.Next.Part,.slice (aD.Next.bH.map a8)])]=some (.ag 3 [.agg [.int .i64 R.Next.cp,.int .i64 R.Next.Part,.slice (R.Next.bH.map a8)],.agg [.int .i64 aD.Next.cp,.int .i64 aD.Next.Part,.slice (aD.Next.bH.map a8)]],s)from λs=>by kernel_rfl) KS.down)
       exact Ab _ (rM _ (.inr ⟨_,aZ rfl,Si bs.1 bs.2.1 bs.2.2.1 bs.2.2.2.1 bs.2.2.2.2.1 bs.2.2.2.2.2.1 bs.2.2.2.2.2.2.1 bs.2.2.2.2.2.2.2 oR oS h⟩))
      .exact aL (Ab _ (rM _ (.inr ⟨_,aZ rfl,Si og oh oi oj om pt pv pw oR oS h⟩)))
     .refine cU h1 _ ?_;refine n8 rfl ?_;exact aL (Ab _ (rM _ (.inr ⟨_,aZ rfl,Si og oh oi oj om pt pv pw oR oS h⟩)))
    .refine cK (iv 2 _ (hk 2 _ (gX _ (iY _ (dK _ (.inl ?_))))));refine wr _ ?_;exact fg _ (.inr ⟨_,aZ rfl,aqS og oh oi oj om pt pv pw (i64.wrap (oR+1)) h⟩)
   obtain⟨n,h⟩:=cC h;exact cQ (.inr ⟨_,hW [] rfl (cF (t:=0) (d:=.aS (.agg [.agg [.slice (uG.map bx),.slice (uH.map eV),.slice (uI.map b3),.slice (uJ.map bm),.slice (uK.map bm)],.slice (uL.map bB),.ag 4 (uM.map en),.cc (.mp uN)])) rfl (cF (t:=1) (d:=.int .i64 J) rfl (cF (t:=2) (d:=.int .i64 a2) rfl (cF (t:=4) (d:=.slice (a4.map cZ)) rfl (cF (t:=11) (d:=.aS (cZ R)) rfl (cF (t:=12) (d:=.str ae.1) rfl (hJ (t:=13) (d:=.ag 1 (ae.2.1.map a8)) (bJ:=.slice (ae.2.1.map a8)) rfl rfl (afV rfl rfl (congrArg I.slice (bV (λ_=>jV _) _))) (by decide) (cF (t:=22) (d:=.slice (a3.map cZ)) rfl (cF (t:=23) (d:=.int .i64 (a3.length:Int)) rfl (cF (t:=24) (d:=.int .i64 sV) rfl (cF (t:=35) (d:=.slice (a4.map cZ)) rfl (cF (t:=36) (d:=.int .i64 (a4.length:Int)) rfl (cF (t:=37) (d:=.int .i64 0) rfl (hX)))))))))))))),aqT n uG uH uI uJ uK uL uM uN sV 0 h⟩)
  .exact cK (aT 0 _ (aD 0 _ (fV _ (bo _ (.inl (hI [] rfl (by cases eZ h;rfl) (by decide) (hP (kM (by cases eZ h;rfl) rfl rfl rfl (dn (dn (dn (dn (hQ)))))))))))))
 obtain⟨n,h⟩:=cC h;exact cQ (.inr ⟨_,aZ rfl,aqR n dF dv dq fD fu gr gI gu 0 h⟩)
theorem aqV (a0 J r) (h:Kk a0 J=some r):aW ah 30 [dQ a0,.slice (J.map bB)] (.tuple [.ag 4 (r.1.map en),.bool r.2]) []:=by
 refine bw [0,1] [.tmp 4,.tmp 5] Tryz.func30 alP (λbq ai bo=>?_);refine ws _ ?_;refine cU (U @WG (U (@nr ah 123 [(38,0),(40,5),(31,6),(121,7)] [(.agg [.bg,.bg,.bg,.bg,.bg]),.bg,.bg,(.cc .ki)] rfl rfl (by kernel_rfl)) (U @l6 (U @l7 (U @cO (U @gO (U @List.nil_append.{0} @List.cons_append.{0}))))))) _ ?_;refine ws _ ?_;refine ay ai (λ_ fa bG aX=>?_);refine ws _ ?_;refine bj bG (λjY _ cW dA bp=>?_);have zZ:∀n lq qE qF qG gh nM,p1 a0 J n lq qE qF qG gh nM=some r->cD ah Yy jY (aq [(1,.slice (J.map bB)),(2,.aS (dQ a0)),(6,.aS (.agg [dQ lq,.slice (qE.map bB),.ag 4 (qF.map en),.cc (.mp qG)])),(7,.ag 1 (gh.map gv)),(24,.slice (J.map bB)),(25,.int .i64 (J.length:Int)),(26,.int .i64 nM)]):=by
  refine cS (λm10 z1 lq qE qF qG gh nM h=>cR cW (λ_ dK eK bs=>?_));refine ws _ ?_;refine ay eK (λ_ cq _ dE=>?_);refine aE h (λfl h=>?_) (λfl h=>?_)
  .refine aL (cq _ (.inl ?_));refine ay eK (λ_ eE hM _=>?_);refine bj hM (λ_ hv mA _ _=>?_);obtain⟨R,dO,h⟩:=al h;refine cU dO _ ?_;obtain⟨ae,ck,h⟩:=al h;refine cH (aqq a0.c8 R _ ck) _ ?_;refine ay mA (λ_ kc kP _=>?_);refine ws _ ?_;refine aE h (λfO h=>?_) (λfO h=>?_)
   .refine ws _ ?_;exact aw (kP _ (.inr ⟨[(4,.ag 4 []),(5,.bool false)],hW [] rfl (hJ (t:=4) (d:=.bg) rfl rfl (.iq _) (by decide) (cF rfl (hX))),az [.ag 4 [],.bool false]⟩))
   .refine aL (kc _ (.inr ⟨[(1,.slice (J.map bB)),(2,.aS (dQ a0)),(6,.aS (.agg [dQ lq,.slice (qE.map bB),.ag 4 (qF.map en),.cc (.mp qG)])),(7,.ag 1 (gh.map gv)),(8,.int .i64 nM),(10,.slice (ae.1.map cZ)),(24,.slice (J.map bB)),(25,.int .i64 (J.length:Int)),(26,.int .i64 nM),(39,.bool (!ae.2))],hW [] rfl (cF rfl (cF rfl (cF rfl (cF rfl (cF rfl (hJ (t:=10) (d:=.ag 4 (ae.1.map hK)) (bJ:=.slice (ae.1.map cZ)) rfl rfl (vv rfl rfl (by simp only[cG,I.share,I.shares, @bV _ hK cZ (λ_=>GM _)]<;>rfl)) (by decide) (cF rfl (cF rfl (cF rfl (cF rfl (hX))))))))))),?_⟩));obtain⟨anL,e8,h⟩:=al h;(try simp only[fN.down,Nat.zero_add,Nat.add_zero,reduceAdd]at e8);refine cU (U (show∀s,dW ah s 94 1 [(0,.slice (ae.1.map cZ))]=some (.ag 1 [.slice (ae.1.map cZ)],s)from λs=>by kernel_rfl) (U (@kr ah 94 94 95 rfl rfl) (U @ks (U @kt (U @gO (U @all_cons (U @all_nil (U e8 (@jO _ gv 1 (λ_=>rfl)))))))))) [(1,.slice (J.map bB)),(2,.aS (dQ a0)),(6,.aS (.agg [dQ lq,.slice (qE.map bB),.ag 4 (qF.map en),.cc (.mp qG)])),(7,.ag 1 ((gh++[ae.1]).map gv)),(8,.int .i64 nM),(10,.slice (ae.1.map cZ)),(24,.slice (J.map bB)),(25,.int .i64 (J.length:Int)),(26,.int .i64 nM)] ?_;refine ws [(1,.slice (J.map bB)),(2,.aS (dQ a0)),(6,.aS (.agg [dQ lq,.slice (qE.map bB),.ag 4 (qF.map en),.cc (.mp qG)])),(7,.ag 1 ((gh++[ae.1]).map gv)),(8,.int .i64 nM),(24,.slice (J.map bB)),(25,.int .i64 (J.length:Int)),(26,.int .i64 nM),(44,.slice (ae.1.map cZ)),(45,.int .i64 (ae.1.length:Int)),(46,.int .i64 0)] ?_;refine bj mA (λRX _ Hg ic _=>?_);have aqW:∀n mV rB rC rD qy pZ qz qA,xU (p1 a0 J m10) a0 J ae n mV rB rC rD qy pZ qz qA=some r->cD ah Yx RX (aq [(1,.slice (J.map bB)),(2,.aS (dQ a0)),(6,.aS (.agg [dQ mV,.slice (rB.map bB),.ag 4 (rC.map en),.cc (.mp rD)])),(7,.ag 1 (qy.map gv)),(8,.int .i64 pZ),(24,.slice (J.map bB)),(25,.int .i64 (J.length:Int)),(26,.int .i64 qz),(44,.slice (ae.1.map cZ)),(45,.int .i64 (ae.1.length:Int)),(46,.int .i64 qA)]):=by
     refine cS (λ_ aqX mV rB rC rD qy pZ qz qA h=>cR Hg (λ_ wg oU vK=>?_));refine ws _ ?_;refine ay oU (λ_ G5 _ uj=>?_);refine aE h (λkd h=>?_) (λkd h=>?_)
     .refine aL (G5 _ (.inl ?_));refine ay oU (λ_ rP s5 _=>?_);refine bj s5 (λ_ s6 _ _ _=>?_);obtain⟨aD,wa,h⟩:=al h;refine cU wa _ ?_;obtain⟨aX,js,h⟩:=al h;refine l9 (b6 (K:=eS _) [(1,.slice (J.map bB)),(2,.aS (dQ a0)),(6,.aS (.agg [dQ mV,.slice (rB.map bB),.ag 4 (rC.map en),.cc (.mp rD)])),(7,.ag 1 (qy.map gv)),(8,.int .i64 pZ),(13,.aS (cZ aD)),(14,.str aX.1),(15,.ag 1 (aX.2.1.map a8)),(24,.slice (J.map bB)),(25,.int .i64 (J.length:Int)),(26,.int .i64 qz),(44,.slice (ae.1.map cZ)),(45,.int .i64 (ae.1.length:Int)),(46,.int .i64 qA)] (λP bl=>?_) (II [(1,.slice (J.map bB)),(2,.aS (dQ a0)),(6,.aS (.agg [dQ mV,.slice (rB.map bB),.ag 4 (rC.map en),.cc (.mp rD)])),(7,.ag 1 (qy.map gv)),(8,.int .i64 pZ),(13,.aS (cZ aD)),(14,.str aX.1),(15,.slice (aX.2.1.map a8)),(24,.slice (J.map bB)),(25,.int .i64 (J.length:Int)),(26,.int .i64 qz),(44,.slice (ae.1.map cZ)),(45,.int .i64 (ae.1.length:Int)),(46,.int .i64 qA)] (hW [] rfl (cF rfl (cF rfl (cF rfl (cF rfl (cF rfl (cF rfl (cF rfl (hJ (t:=15) (d:=.ag 1 (aX.2.1.map a8)) (bJ:=.slice (aX.2.1.map a8)) rfl rfl (vv rfl rfl (by simp only[cG,I.share,I.shares, @bV _ a8 a8 (λ_=>jV _)]<;>rfl)) (by decide) (cF rfl (cF rfl (cF rfl (cF rfl (cF rfl (cF rfl (hX)))))))))))))))) ?_))
      ·(try simp only[aK.down,simprocAttr]);refine dD (Sf aD.Label _ js) rfl rfl rfl rfl (.inl (by rfl)) ?_;simp only[aK.down,simprocAttr];exact bR trivial
      obtain⟨aT,pz,h⟩:=al h;refine h9 (b6 [(1,.slice (J.map bB)),(2,.aS (dQ a0)),(6,.aS (.agg [.agg [.slice (aT.1.map bx),.slice (aT.2.1.map eV),.slice (aT.2.2.1.map b3),.slice (aT.2.2.2.1.map bm),.slice (aT.2.2.2.2.1.map bm)],.slice (aT.2.2.2.2.2.1.map bB),.ag 4 (aT.2.2.2.2.2.2.1.map en),.cc (.mp aT.2.2.2.2.2.2.2)])),(7,.ag 1 (qy.map gv)),(8,.int .i64 pZ),(24,.slice (J.map bB)),(25,.int .i64 (J.length:Int)),(26,.int .i64 qz),(44,.slice (ae.1.map cZ)),(45,.int .i64 (ae.1.length:Int)),(46,.int .i64 qA)] (λP bl=>?_) ?_)
      ·(try simp only[aK.down,simprocAttr,(show∀s,dW ah s 40 1 [(0,.agg [.int .i64 aD.Next.cp,.int .i64 aD.Next.Part,.slice (aD.Next.bH.map a8)])]=some (.ag 3 [.agg [.int .i64 aD.Next.cp,.int .i64 aD.Next.Part,.slice (aD.Next.bH.map a8)]],s)from λs=>by kernel_rfl),KS.down,I.shares]);refine kL [⟨.h 6 [],true,_,_⟩,⟨.str aX.1,false,_,.hole⟩,⟨.slice (aX.2.1.map a8),false,_,.hole⟩,⟨.int .i64 pZ,false,_,.hole⟩,⟨.int .i64 (-1),false,_,.hole⟩,⟨.slice ([aD.Next].map bB),false,_,.hole⟩] (ZP mV.c8 mV.cL mV.cz mV.dj mV.dk rB rC rD aX.1 aX.2.1 pZ (-1) [aD.Next] _ pz) rfl rfl rfl (by simp only[aK.down,simprocAttr,(show∀s,dW ah s 40 1 [(0,.agg [.int .i64 aD.Next.cp,.int .i64 aD.Next.Part,.slice (aD.Next.bH.map a8)])]=some (.ag 3 [.agg [.int .i64 aD.Next.cp,.int .i64 aD.Next.Part,.slice (aD.Next.bH.map a8)]],s)from λs=>by kernel_rfl),YT.down,I.shares]) rfl rfl (.inl rfl) ?_;simp only[aK.down,simprocAttr,(show∀s,dW ah s 40 1 [(0,.agg [.int .i64 aD.Next.cp,.int .i64 aD.Next.Part,.slice (aD.Next.bH.map a8)])]=some (.ag 3 [.agg [.int .i64 aD.Next.cp,.int .i64 aD.Next.Part,.slice (aD.Next.bH.map a8)]],s)from λs=>by kernel_rfl),YU.down,I.shares];exact bR (U (show∀s,dW ah s 40 1 [(0,.agg [.int .i64 aD.Next.cp,.int .i64 aD.Next.Part,.slice (aD.Next.bH.map a8)])]=some (.ag 3 [.agg [.int .i64 aD.Next.cp,.int .i64 aD.Next.Part,.slice (aD.Next.bH.map a8)]],s)from λs=>by kernel_rfl) KS.down)
      refine s6 _ (rP _ (.inl ?_));refine wr _ ?_;exact wg _ (.inr ⟨_,aZ rfl,aqX (cE.mk aT.1 aT.2.1 aT.2.2.1 aT.2.2.2.1 aT.2.2.2.2.1) aT.2.2.2.2.2.1 aT.2.2.2.2.2.2.1 aT.2.2.2.2.2.2.2 qy pZ qz (i64.wrap (qA+1)) h⟩)
     .refine cK (uj 2 _ (vK 2 _ (ic _ (hv _ (eE _ (.inl ?_))))));refine wr _ ?_;exact dK _ (.inr ⟨_,aZ rfl,z1 mV rB rC rD qy (i64.wrap (qz+1)) h⟩)
    obtain⟨n,h⟩:=cC h;exact cQ (.inr ⟨_,aZ rfl,aqW n lq qE qF qG (gh++[ae.1]) nM nM 0 h⟩)
  .refine cK (dE 0 _ (bs 0 _ (dA _ (fa _ (.inl ?_)))));refine ay ai (λ_ v8 x4 _=>?_);refine ws _ ?_;refine bj x4 (λG9 _ uU s8 _=>?_);have G_:∀n xV xW rE xX xY qD,vW J n xV xW rE xX xY qD=some r->cD ah YA G9 (aq [(1,.slice (J.map bB)),(6,.aS (.agg [dQ xV,.slice (xW.map bB),.ag 4 (rE.map en),.cc (.mp xX)])),(7,.ag 1 (xY.map gv)),(68,.int .i64 (J.length:Int)),(69,.int .i64 qD)]):=by
    refine cS (λaqY Ha xV xW rE xX xY qD h=>cR uU (λ_ zU x5 zV=>?_));refine ws _ ?_;refine ay x5 (λ_ x6 _ Hj=>?_);refine aE h (λzW h=>?_) (λzW h=>?_)
    .refine aL (x6 _ (.inl ?_));refine ay x5 (λ_ zX v_ _=>?_);refine bj v_ (λ_ p3 rQ _ _=>?_);refine ws _ ?_;refine ws _ ?_;refine bj rQ (λaqZ _ aq0 p6 _=>?_);have aq1:∀n nL uO uP uQ qB qC p0 sX,zG (vW J aqY) J n nL uO uP uQ qB qC p0 sX=some r->cD ah Yz aqZ (aq [(1,.slice (J.map bB)),(6,.aS (.agg [dQ nL,.slice (uO.map bB),.ag 4 (uP.map en),.cc (.mp uQ)])),(7,.ag 1 (qB.map gv)),(17,.int .i64 qC),(18,.int .i64 p0),(68,.int .i64 (J.length:Int)),(69,.int .i64 sX)]):=by
      refine cS (λ_ aq2 nL uO uP uQ qB qC p0 sX h=>cR aq0 (λ_ RO K4 aq3=>?_));refine ay K4 (λ_ RP _ aq4=>?_);refine ws _ ?_;refine aE h (λSj h=>?_) (λSj h=>?_)
      .refine aL (RP _ (.inl ?_));refine ay K4 (λ_ K6 aq5 _=>?_);refine bj aq5 (λ_ aq6 _ _ _=>?_);obtain⟨bp,nT,h⟩:=al h;obtain⟨bs,rS,h⟩:=al h;obtain⟨cv,tb,h⟩:=al h;refine NK rfl (iU [(1,.slice (J.map bB)),(6,.aS (.agg [.agg [.slice (cv.1.map bx),.slice (cv.2.1.map eV),.slice (cv.2.2.1.map b3),.slice (cv.2.2.2.1.map bm),.slice (cv.2.2.2.2.1.map bm)],.slice (cv.2.2.2.2.2.1.map bB),.ag 4 (cv.2.2.2.2.2.2.1.map en),.cc (.mp cv.2.2.2.2.2.2.2)])),(7,.ag 1 (qB.map gv)),(17,.int .i64 qC),(18,.int .i64 p0),(68,.int .i64 (J.length:Int)),(69,.int .i64 sX)] (λP bl=>?_) ?_)
       ·(try simp only[c_.down,simprocAttr,nT,b2 nT,rS,b2 rS]);refine NS [⟨.h 6 [],true,_,_⟩,⟨.int .i64 qC,false,_,.hole⟩,⟨.int .i64 p0,false,_,.hole⟩,⟨.slice (bp.map cZ),false,_,.hole⟩,⟨.slice (bs.map cZ),false,_,.hole⟩] (aqQ nL.c8 nL.cL nL.cz nL.dj nL.dk uO uP uQ qC p0 bp bs _ tb) rfl rfl rfl (by simp only[c_.down,simprocAttr,nT,b2 nT,rS,b2 rS,mw,kW,ku,gN,gP,gQ,cG,or_true,true_or, @bV _ bx bx (λ_=>uR _), @bV _ eV eV (λ_=>C2 _), @bV _ b3 b3 (λ_=>qH _), @bV _ bm bm (λ_=>k5 _), @bV _ bm bm (λ_=>k5 _), @bV _ bB bB (λ_=>vX _), @bV _ en eW (λ_=>GQ _)]) rfl rfl (.inl rfl) ?_;simp only[c_.down,simprocAttr,nT,b2 nT,rS,b2 rS,j5];refine⟨hY (by kernel_rfl),?_⟩;exact bR (U nT (U (b2 nT) (U rS (b2 rS))))
       refine aq6 _ (K6 _ (.inl ?_));refine wr _ ?_;exact RO _ (.inr ⟨_,aZ rfl,aq2 (cE.mk cv.1 cv.2.1 cv.2.2.1 cv.2.2.2.1 cv.2.2.2.2.1) cv.2.2.2.2.2.1 cv.2.2.2.2.2.2.1 cv.2.2.2.2.2.2.2 qB qC (i64.wrap (p0+1)) sX h⟩)
      .refine cK (aq4 6 _ (aq3 6 _ (p6 _ (p3 _ (zX _ (.inl ?_))))));refine wr _ ?_;exact zU _ (.inr ⟨_,aZ rfl,Ha nL uO uP uQ qB (i64.wrap (sX+1)) h⟩)
     obtain⟨n,h⟩:=cC h;exact cQ (.inr ⟨_,aZ rfl,aq1 n xV xW rE xX xY qD (i64.wrap (qD+1)) qD h⟩)
    .refine cK (Hj 4 _ (zV 4 _ (s8 _ (v8 _ (.inl ?_)))));refine oT @WE _ ?_;exact aw (ai _ (.inl (Wc 4 [.ag 4 (rE.map en),.bool (decide ((rE.length:Int)<=200))])))
   obtain⟨n,h⟩:=cC h;exact cQ (.inr ⟨_,aZ rfl,G_ n lq qE qF qG gh 0 h⟩)
 obtain⟨n,h⟩:=cC h;exact cQ (.inr ⟨_,hW [] rfl (cF (t:=1) (d:=.slice (J.map bB)) rfl (cF (t:=2) (d:=.aS (dQ a0)) rfl (hJ (t:=6) (d:=.aS (.agg [dQ a0,.slice (J.map bB),.bg,.cc (.mp [])])) (bJ:=.aS (.agg [dQ a0,.slice (J.map bB),.ag 4 [],.cc (.mp [])])) rfl rfl (.aS (.agg (.cons (.refl _) (.cons (.refl _) (.cons (.iq _) (.cons (.refl _) (.nil))))))) (by decide) (hJ (t:=7) (d:=.bg) (bJ:=.ag 1 []) rfl rfl (.iq _) (by decide) (cF (t:=24) (d:=.slice (J.map bB)) rfl (cF (t:=25) (d:=.int .i64 (J.length:Int)) rfl (cF (t:=26) (d:=.int .i64 0) rfl (hX)))))))),zZ n a0 J [] [] [] 0 h⟩)
theorem ZR (a0 J r) (h:Gk a0 J=some r):aW ah 9 [dQ a0,.slice (J.map bB)] (.tuple [.ag 4 (r.1.map en),.int .i64 r.2]) []:=by
 refine bw [0,1] [.tmp 4,.tmp 5] Tryz.func9 c9 (λbq ai bo=>?_);refine ws _ ?_;refine ay ai (λ_ bA bc ae=>?_);obtain⟨R,b4,h⟩:=al h;refine cH (ap4 a0 J _ b4) _ ?_;refine aE h (λcV h=>?_) (λcV h=>?_)
 .refine ws _ ?_;exact aw (bc _ (.inr ⟨[(4,.ag 4 []),(5,.int .i64 1)],hW [] rfl (hJ (t:=4) (d:=.bg) rfl rfl (.iq _) (by decide) (cF rfl (hX))),az [.ag 4 [],.int .i64 1]⟩))
 .refine aL (bA _ (.inl ?_));obtain⟨ae,fJ,h⟩:=al h;refine cH (aqV a0 J _ fJ) _ ?_;refine ay ai (λ_ cq bW _=>?_);refine ws _ ?_;refine aE h (λoq h=>?_) (λoq h=>?_)
  .refine ws _ ?_;exact aw (bW _ (.inr ⟨[(4,.ag 4 []),(5,.int .i64 5)],hW [] rfl (hJ (t:=4) (d:=.bg) rfl rfl (.iq _) (by decide) (cF rfl (hX))),az [.ag 4 [],.int .i64 5]⟩))
  .refine aL (cq _ (.inl ?_));refine ws _ ?_;exact aw (ai _ (.inl (az [.ag 4 (ae.1.map en),.int .i64 0])))
theorem ZS (a0 J r) (h:Gl a0 J=some r):aW ah 72 [.slice (a0.map a8),.slice (J.map a8)] (.bool r) []:=by
 refine bw [0,1] [.tmp 4] Tryz.func72 c72 (λbq ai bo=>?_);refine ws _ ?_;refine ay ai (λ_ bA bc ae=>?_);refine ws _ ?_;refine aE h (λbM h=>?_) (λbM h=>?_)
 .refine ws _ ?_;exact aw (bc _ (.inl (az [.bool false])))
 .refine aL (bA _ (.inl ?_));refine ay ai (λ_ cB cW _=>?_);refine ws _ ?_;refine bj cW (λix _ hL b7 _=>?_);show bn ah (.loop ?gJ) _ _;have gK:∀n ca,Qq a0 J n ca=some r->cD ah ?gJ ix (aq [(0,.slice (a0.map a8)),(1,.slice (J.map a8)),(5,.int .i64 ca)]):=by
   refine cS (λ_ gw ca h=>cR hL (λ_ cq bW dE=>?_));refine ay bW (λ_ bT _ dI=>?_);refine ws _ ?_;refine aE h (λe1 h=>?_) (λe1 h=>?_)
   .refine aL (bT _ (.inl ?_));refine ay bW (λ_ fE fB _=>?_);refine bj fB (λ_ eH ef _ _=>?_);obtain⟨R,ck,h⟩:=al h;obtain⟨ae,dL,h⟩:=al h;refine oT (U ck dL) _ ?_;refine aE h (λh0 h=>?_) (λh0 h=>?_)
    .refine ws _ ?_;exact aw (ef _ (.inl (az [.bool false])))
    .refine aL (eH _ (fE _ (.inl ?_)));refine wr _ ?_;exact cq _ (.inr ⟨_,aZ rfl,gw (i64.wrap (ca+1)) h⟩)
   .refine cK (dI 0 _ (dE 0 _ (b7 _ (cB _ (.inl ?_)))));refine ws _ ?_;exact aw (ai _ (.inl (az [.bool true])))
  obtain⟨n,h⟩:=cC h;exact cQ (.inr ⟨_,aZ rfl,gK n 0 h⟩)
theorem aq7 (a0 J r) (h:Gm a0 J=some r):aW ah 36 [bB a0,bB J] (.bool r) []:=by
 refine bw [0,1] [.tmp 4] Tryz.func36 alQ (λbq ai bo=>?_);refine ws _ ?_;refine ay ai (λ_ bA bc _=>?_);refine ws _ ?_;refine aE h (λbM h=>?_) (λbM h=>?_)
 .refine ws _ ?_;exact aw (bc _ (.inl (az [.bool false])))
 .refine aL (bA _ (.inl ?_));refine ay ai (λ_ cB cW _=>?_);refine ws _ ?_;refine aE h (λb7 h=>?_) (λb7 h=>?_)
  .refine ws _ ?_;exact aw (cW _ (.inl (az [.bool false])))
  .refine aL (cB _ (.inl ?_));refine ay ai (λ_ bT cw _=>?_);obtain⟨R,dd,h⟩:=al h;refine cH (ZS a0.bH J.bH _ dd) _ ?_;refine aE h (λfh h=>?_) (λfh h=>?_)
   .refine ws _ ?_;exact aw (cw _ (.inl (az [.bool false])))
   .refine aL (bT _ (.inl ?_));refine ws _ ?_;exact aw (ai _ (.inl (az [.bool true])))
theorem ZT (a0 J r) (h:Gn a0 J=some r):aW ah 12 [.slice (a0.map bB),.slice (J.map bB)] (.bool r) []:=by
 refine bw [0,1] [.tmp 4] Tryz.func12 c12 (λbq ai bo=>?_);refine ws _ ?_;refine ay ai (λ_ bA bc ae=>?_);refine ws _ ?_;refine aE h (λbM h=>?_) (λbM h=>?_)
 .refine ws _ ?_;exact aw (bc _ (.inl (az [.bool false])))
 .refine aL (bA _ (.inl ?_));refine ay ai (λ_ cB cW _=>?_);refine ws _ ?_;refine bj cW (λix _ hL b7 _=>?_);show bn ah (.loop ?gJ) _ _;have gK:∀n ca,Qr a0 J n ca=some r->cD ah ?gJ ix (aq [(0,.slice (a0.map bB)),(1,.slice (J.map bB)),(5,.int .i64 ca)]):=by
   refine cS (λ_ gw ca h=>cR hL (λ_ cq bW dE=>?_));refine ay bW (λ_ bT _ dI=>?_);refine ws _ ?_;refine aE h (λe1 h=>?_) (λe1 h=>?_)
   .refine aL (bT _ (.inl ?_));refine ay bW (λ_ fE fB _=>?_);refine bj fB (λ_ eH ef _ _=>?_);obtain⟨R,ck,h⟩:=al h;obtain⟨ae,dL,h⟩:=al h;obtain⟨aD,eu,h⟩:=al h;refine lA (U ck dL) (aq7 R ae _ eu) _ ?_;refine aE h (λfO h=>?_) (λfO h=>?_)
    .refine ws _ ?_;exact aw (ef _ (.inl (az [.bool false])))
    .refine aL (eH _ (fE _ (.inl ?_)));refine wr _ ?_;exact cq _ (.inr ⟨_,aZ rfl,gw (i64.wrap (ca+1)) h⟩)
   .refine cK (dI 0 _ (dE 0 _ (b7 _ (cB _ (.inl ?_)))));refine ws _ ?_;exact aw (ai _ (.inl (az [.bool true])))
  obtain⟨n,h⟩:=cC h;exact cQ (.inr ⟨_,aZ rfl,gK n 0 h⟩)
theorem aq8 (a0 J r) (h:Gp a0 J=some r):aW ah 31 [eW a0,eW J] (.bool r) []:=by
 refine bw [0,1] [.tmp 4] Tryz.func31 c31 (λbq ai bo=>?_);refine ws _ ?_;refine ay ai (λ_ bA bc _=>?_);refine ws _ ?_;refine aE h (λbM h=>?_) (λbM h=>?_)
 .refine ws _ ?_;exact aw (bc _ (.inl (az [.bool false])))
 .refine aL (bA _ (.inl ?_));refine ay ai (λ_ cB cW _=>?_);refine ws _ ?_;refine aE h (λb7 h=>?_) (λb7 h=>?_)
  .refine ws _ ?_;exact aw (cW _ (.inl (az [.bool false])))
  .refine aL (cB _ (.inl ?_));refine ay ai (λ_ bT cw _=>?_);refine ws _ ?_;refine aE h (λe1 h=>?_) (λe1 h=>?_)
   .refine ws _ ?_;exact aw (cw _ (.inl (az [.bool false])))
   .refine aL (bT _ (.inl ?_));refine ay ai (λ_ eH ef _=>?_);obtain⟨R,ck,h⟩:=al h;refine cH (ZT a0.State J.State _ ck) _ ?_;refine aE h (λkb h=>?_) (λkb h=>?_)
    .refine ws _ ?_;exact aw (ef _ (.inl (az [.bool false])))
    .refine aL (eH _ (.inl ?_));refine ws _ ?_;exact aw (ai _ (.inl (az [.bool true])))
theorem Di (a0 J r) (h:CO a0 J=some r):aW ah 10 [.slice (a0.map eW),.slice (J.map eW)] (.bool r) []:=by
 refine bw [0,1] [.tmp 4] Tryz.func10 zK (λbq ai bo=>?_);refine ws _ ?_;refine ay ai (λ_ bA bc ae=>?_);refine ws _ ?_;refine aE h (λbM h=>?_) (λbM h=>?_)
 .refine ws _ ?_;exact aw (bc _ (.inl (az [.bool false])))
 .refine aL (bA _ (.inl ?_));refine ay ai (λ_ cB cW _=>?_);refine ws _ ?_;refine bj cW (λix _ hL b7 _=>?_);show bn ah (.loop ?gJ) _ _;have gK:∀n ca,Qs a0 J n ca=some r->cD ah ?gJ ix (aq [(0,.slice (a0.map eW)),(1,.slice (J.map eW)),(5,.int .i64 ca)]):=by
   refine cS (λ_ gw ca h=>cR hL (λ_ cq bW dE=>?_));refine ay bW (λ_ bT _ dI=>?_);refine ws _ ?_;refine aE h (λe1 h=>?_) (λe1 h=>?_)
   .refine aL (bT _ (.inl ?_));refine ay bW (λ_ fE fB _=>?_);refine bj fB (λ_ eH ef _ _=>?_);obtain⟨R,ck,h⟩:=al h;obtain⟨ae,dL,h⟩:=al h;obtain⟨aD,eu,h⟩:=al h;refine lA (U ck dL) (aq8 R ae _ eu) _ ?_;refine aE h (λfO h=>?_) (λfO h=>?_)
    .refine ws _ ?_;exact aw (ef _ (.inl (az [.bool false])))
    .refine aL (eH _ (fE _ (.inl ?_)));refine wr _ ?_;exact cq _ (.inr ⟨_,aZ rfl,gw (i64.wrap (ca+1)) h⟩)
   .refine cK (dI 0 _ (dE 0 _ (b7 _ (cB _ (.inl ?_)))));refine ws _ ?_;exact aw (ai _ (.inl (az [.bool true])))
  obtain⟨n,h⟩:=cC h;exact cQ (.inr ⟨_,aZ rfl,gK n 0 h⟩)
theorem aq9 (a0 J r) (h:Gq a0 J=some r):aW ah 253 [dR a0,dR J] (.bool r) []:=by
 refine bw [0,1] [.tmp 4] Tryz.func253 alR (λbq ai bo=>?_);refine ws _ ?_;refine ay ai (λ_ bA bc _=>?_);refine ws _ ?_;refine aE h (λbM h=>?_) (λbM h=>?_)
 .refine ws _ ?_;exact aw (bc _ (.inl (az [.bool false])))
 .refine aL (bA _ (.inl ?_));refine ay ai (λ_ cB cW _=>?_);refine ws _ ?_;refine aE h (λb7 h=>?_) (λb7 h=>?_)
  .refine ws _ ?_;exact aw (cW _ (.inl (az [.bool false])))
  .refine aL (cB _ (.inl ?_));refine ws _ ?_;exact aw (ai _ (.inl (az [.bool true])))
theorem aq_ (a0 J r) (h:Gr a0 J=some r):aW ah 224 [.slice (a0.map dR),.slice (J.map dR)] (.bool r) []:=by
 refine bw [0,1] [.tmp 4] Tryz.func224 alS (λbq ai bo=>?_);refine ws _ ?_;refine ay ai (λ_ bA bc ae=>?_);refine ws _ ?_;refine aE h (λbM h=>?_) (λbM h=>?_)
 .refine ws _ ?_;exact aw (bc _ (.inl (az [.bool false])))
 .refine aL (bA _ (.inl ?_));refine ay ai (λ_ cB cW _=>?_);refine ws _ ?_;refine bj cW (λix _ hL b7 _=>?_);show bn ah (.loop ?gJ) _ _;have gK:∀n ca,Qt a0 J n ca=some r->cD ah ?gJ ix (aq [(0,.slice (a0.map dR)),(1,.slice (J.map dR)),(5,.int .i64 ca)]):=by
   refine cS (λ_ gw ca h=>cR hL (λ_ cq bW dE=>?_));refine ay bW (λ_ bT _ dI=>?_);refine ws _ ?_;refine aE h (λe1 h=>?_) (λe1 h=>?_)
   .refine aL (bT _ (.inl ?_));refine ay bW (λ_ fE fB _=>?_);refine bj fB (λ_ eH ef _ _=>?_);obtain⟨R,ck,h⟩:=al h;obtain⟨ae,dL,h⟩:=al h;obtain⟨aD,eu,h⟩:=al h;refine lA (U ck dL) (aq9 R ae _ eu) _ ?_;refine aE h (λfO h=>?_) (λfO h=>?_)
    .refine ws _ ?_;exact aw (ef _ (.inl (az [.bool false])))
    .refine aL (eH _ (fE _ (.inl ?_)));refine wr _ ?_;exact cq _ (.inr ⟨_,aZ rfl,gw (i64.wrap (ca+1)) h⟩)
   .refine cK (dI 0 _ (dE 0 _ (b7 _ (cB _ (.inl ?_)))));refine ws _ ?_;exact aw (ai _ (.inl (az [.bool true])))
  obtain⟨n,h⟩:=cC h;exact cQ (.inr ⟨_,aZ rfl,gK n 0 h⟩)
theorem ara (a0 J r) (h:Kl a0 J=some r):aW ah 189 [.slice (a0.map iX),.slice (J.map iX)] (.bool r) []:=by
 refine bw [0,1] [.tmp 4] Tryz.func189 alT (λbq ai bo=>?_);refine ws _ ?_;refine ay ai (λ_ bA bc ae=>?_);refine ws _ ?_;refine aE h (λbM h=>?_) (λbM h=>?_)
 .refine ws _ ?_;exact aw (bc _ (.inl (az [.bool false])))
 .refine aL (bA _ (.inl ?_));refine ay ai (λ_ cB cW _=>?_);refine ws _ ?_;refine bj cW (λix _ hL b7 _=>?_);show bn ah (.loop ?gJ) _ _;have gK:∀n ca,Qu a0 J n ca=some r->cD ah ?gJ ix (aq [(0,.slice (a0.map iX)),(1,.slice (J.map iX)),(5,.int .i64 ca)]):=by
   refine cS (λ_ gw ca h=>cR hL (λ_ cq bW dE=>?_));refine ay bW (λ_ bT _ dI=>?_);refine ws _ ?_;refine aE h (λe1 h=>?_) (λe1 h=>?_)
   .refine aL (bT _ (.inl ?_));refine ay bW (λ_ fE fB _=>?_);refine bj fB (λ_ eH ef _ _=>?_);obtain⟨R,ck,h⟩:=al h;obtain⟨ae,dL,h⟩:=al h;obtain⟨aD,eu,h⟩:=al h;refine lA (U ck dL) (aq_ R ae _ eu) _ ?_;refine aE h (λfO h=>?_) (λfO h=>?_)
    .refine ws _ ?_;exact aw (ef _ (.inl (az [.bool false])))
    .refine aL (eH _ (fE _ (.inl ?_)));refine wr _ ?_;exact cq _ (.inr ⟨_,aZ rfl,gw (i64.wrap (ca+1)) h⟩)
   .refine cK (dI 0 _ (dE 0 _ (b7 _ (cB _ (.inl ?_)))));refine ws _ ?_;exact aw (ai _ (.inl (az [.bool true])))
  obtain⟨n,h⟩:=cC h;exact cQ (.inr ⟨_,aZ rfl,gK n 0 h⟩)
theorem arb (a0 J r) (h:Gs a0 J=some r):aW ah 155 [ep a0,ep J] (.bool r) []:=by
 refine bw [0,1] [.tmp 4] Tryz.func155 alU (λbq ai bo=>?_);refine ws _ ?_;refine ay ai (λ_ bA bc _=>?_);refine ws _ ?_;refine aE h (λbM h=>?_) (λbM h=>?_)
 .refine ws _ ?_;exact aw (bc _ (.inl (az [.bool false])))
 .refine aL (bA _ (.inl ?_));refine ay ai (λ_ cB cW _=>?_);refine ws _ ?_;refine aE h (λb7 h=>?_) (λb7 h=>?_)
  .refine ws _ ?_;exact aw (cW _ (.inl (az [.bool false])))
  .refine aL (cB _ (.inl ?_));refine ay ai (λ_ bT cw _=>?_);refine ws _ ?_;refine aE h (λe1 h=>?_) (λe1 h=>?_)
   .refine ws _ ?_;exact aw (cw _ (.inl (az [.bool false])))
   .refine aL (bT _ (.inl ?_));refine ay ai (λ_ eH ef _=>?_);obtain⟨R,ck,h⟩:=al h;refine cH (ara a0.cd J.cd _ ck) _ ?_;refine aE h (λkb h=>?_) (λkb h=>?_)
    .refine ws _ ?_;exact aw (ef _ (.inl (az [.bool false])))
    .refine aL (eH _ (.inl ?_));refine ws _ ?_;exact aw (ai _ (.inl (az [.bool true])))
theorem arc (a0 J r) (h:Km a0 J=some r):aW ah 105 [.slice (a0.map ep),.slice (J.map ep)] (.bool r) []:=by
 refine bw [0,1] [.tmp 4] Tryz.func105 c105 (λbq ai bo=>?_);refine ws _ ?_;refine ay ai (λ_ bA bc ae=>?_);refine ws _ ?_;refine aE h (λbM h=>?_) (λbM h=>?_)
 .refine ws _ ?_;exact aw (bc _ (.inl (az [.bool false])))
 .refine aL (bA _ (.inl ?_));refine ay ai (λ_ cB cW _=>?_);refine ws _ ?_;refine bj cW (λix _ hL b7 _=>?_);show bn ah (.loop ?gJ) _ _;have gK:∀n ca,Qv a0 J n ca=some r->cD ah ?gJ ix (aq [(0,.slice (a0.map ep)),(1,.slice (J.map ep)),(5,.int .i64 ca)]):=by
   refine cS (λ_ gw ca h=>cR hL (λ_ cq bW dE=>?_));refine ay bW (λ_ bT _ dI=>?_);refine ws _ ?_;refine aE h (λe1 h=>?_) (λe1 h=>?_)
   .refine aL (bT _ (.inl ?_));refine ay bW (λ_ fE fB _=>?_);refine bj fB (λ_ eH ef _ _=>?_);obtain⟨R,ck,h⟩:=al h;obtain⟨ae,dL,h⟩:=al h;obtain⟨aD,eu,h⟩:=al h;refine lA (U ck dL) (arb R ae _ eu) _ ?_;refine aE h (λfO h=>?_) (λfO h=>?_)
    .refine ws _ ?_;exact aw (ef _ (.inl (az [.bool false])))
    .refine aL (eH _ (fE _ (.inl ?_)));refine wr _ ?_;exact cq _ (.inr ⟨_,aZ rfl,gw (i64.wrap (ca+1)) h⟩)
   .refine cK (dI 0 _ (dE 0 _ (b7 _ (cB _ (.inl ?_)))));refine ws _ ?_;exact aw (ai _ (.inl (az [.bool true])))
  obtain⟨n,h⟩:=cC h;exact cQ (.inr ⟨_,aZ rfl,gK n 0 h⟩)
theorem ard (a0 J r) (h:Gt a0 J=some r):aW ah 69 [bx a0,bx J] (.bool r) []:=by
 refine bw [0,1] [.tmp 4] Tryz.func69 alV (λbq ai bo=>?_);refine ws _ ?_;refine ay ai (λ_ bA bc _=>?_);refine ws _ ?_;refine aE h (λbM h=>?_) (λbM h=>?_)
 .refine ws _ ?_;exact aw (bc _ (.inl (az [.bool false])))
 .refine aL (bA _ (.inl ?_));refine ay ai (λ_ cB cW _=>?_);refine ws _ ?_;refine aE h (λb7 h=>?_) (λb7 h=>?_)
  .refine ws _ ?_;exact aw (cW _ (.inl (az [.bool false])))
  .refine aL (cB _ (.inl ?_));refine ay ai (λ_ bT cw _=>?_);obtain⟨R,dd,h⟩:=al h;refine cH (arc a0.Body J.Body _ dd) _ ?_;refine aE h (λfh h=>?_) (λfh h=>?_)
   .refine ws _ ?_;exact aw (cw _ (.inl (az [.bool false])))
   .refine aL (bT _ (.inl ?_));refine ws _ ?_;exact aw (ai _ (.inl (az [.bool true])))
theorem arf (a0 J r) (h:Kn a0 J=some r):aW ah 32 [.slice (a0.map bx),.slice (J.map bx)] (.bool r) []:=by
 refine bw [0,1] [.tmp 4] Tryz.func32 alW (λbq ai bo=>?_);refine ws _ ?_;refine ay ai (λ_ bA bc ae=>?_);refine ws _ ?_;refine aE h (λbM h=>?_) (λbM h=>?_)
 .refine ws _ ?_;exact aw (bc _ (.inl (az [.bool false])))
 .refine aL (bA _ (.inl ?_));refine ay ai (λ_ cB cW _=>?_);refine ws _ ?_;refine bj cW (λix _ hL b7 _=>?_);show bn ah (.loop ?gJ) _ _;have gK:∀n ca,Qw a0 J n ca=some r->cD ah ?gJ ix (aq [(0,.slice (a0.map bx)),(1,.slice (J.map bx)),(5,.int .i64 ca)]):=by
   refine cS (λ_ gw ca h=>cR hL (λ_ cq bW dE=>?_));refine ay bW (λ_ bT _ dI=>?_);refine ws _ ?_;refine aE h (λe1 h=>?_) (λe1 h=>?_)
   .refine aL (bT _ (.inl ?_));refine ay bW (λ_ fE fB _=>?_);refine bj fB (λ_ eH ef _ _=>?_);obtain⟨R,ck,h⟩:=al h;obtain⟨ae,dL,h⟩:=al h;obtain⟨aD,eu,h⟩:=al h;refine lA (U ck dL) (ard R ae _ eu) _ ?_;refine aE h (λfO h=>?_) (λfO h=>?_)
    .refine ws _ ?_;exact aw (ef _ (.inl (az [.bool false])))
    .refine aL (eH _ (fE _ (.inl ?_)));refine wr _ ?_;exact cq _ (.inr ⟨_,aZ rfl,gw (i64.wrap (ca+1)) h⟩)
   .refine cK (dI 0 _ (dE 0 _ (b7 _ (cB _ (.inl ?_)))));refine ws _ ?_;exact aw (ai _ (.inl (az [.bool true])))
  obtain⟨n,h⟩:=cC h;exact cQ (.inr ⟨_,aZ rfl,gK n 0 h⟩)
theorem arh (a0 J r) (h:Gu a0 J=some r):aW ah 70 [eV a0,eV J] (.bool r) []:=by
 refine bw [0,1] [.tmp 4] Tryz.func70 c70 (λbq ai bo=>?_);refine ws _ ?_;refine ay ai (λ_ bA bc _=>?_);refine ws _ ?_;refine aE h (λbM h=>?_) (λbM h=>?_)
 .refine ws _ ?_;exact aw (bc _ (.inl (az [.bool false])))
 .refine aL (bA _ (.inl ?_));refine ay ai (λ_ cB cW _=>?_);obtain⟨R,fJ,h⟩:=al h;refine cH (ZS a0.bH J.bH _ fJ) _ ?_;refine aE h (λe7 h=>?_) (λe7 h=>?_)
  .refine ws _ ?_;exact aw (cW _ (.inl (az [.bool false])))
  .refine aL (cB _ (.inl ?_));refine ws _ ?_;exact aw (ai _ (.inl (az [.bool true])))
theorem ari (a0 J r) (h:Ko a0 J=some r):aW ah 33 [.slice (a0.map eV),.slice (J.map eV)] (.bool r) []:=by
 refine bw [0,1] [.tmp 4] Tryz.func33 alX (λbq ai bo=>?_);refine ws _ ?_;refine ay ai (λ_ bA bc ae=>?_);refine ws _ ?_;refine aE h (λbM h=>?_) (λbM h=>?_)
 .refine ws _ ?_;exact aw (bc _ (.inl (az [.bool false])))
 .refine aL (bA _ (.inl ?_));refine ay ai (λ_ cB cW _=>?_);refine ws _ ?_;refine bj cW (λix _ hL b7 _=>?_);show bn ah (.loop ?gJ) _ _;have gK:∀n ca,Qx a0 J n ca=some r->cD ah ?gJ ix (aq [(0,.slice (a0.map eV)),(1,.slice (J.map eV)),(5,.int .i64 ca)]):=by
   refine cS (λ_ gw ca h=>cR hL (λ_ cq bW dE=>?_));refine ay bW (λ_ bT _ dI=>?_);refine ws _ ?_;refine aE h (λe1 h=>?_) (λe1 h=>?_)
   .refine aL (bT _ (.inl ?_));refine ay bW (λ_ fE fB _=>?_);refine bj fB (λ_ eH ef _ _=>?_);obtain⟨R,ck,h⟩:=al h;obtain⟨ae,dL,h⟩:=al h;obtain⟨aD,eu,h⟩:=al h;refine lA (U ck dL) (arh R ae _ eu) _ ?_;refine aE h (λfO h=>?_) (λfO h=>?_)
    .refine ws _ ?_;exact aw (ef _ (.inl (az [.bool false])))
    .refine aL (eH _ (fE _ (.inl ?_)));refine wr _ ?_;exact cq _ (.inr ⟨_,aZ rfl,gw (i64.wrap (ca+1)) h⟩)
   .refine cK (dI 0 _ (dE 0 _ (b7 _ (cB _ (.inl ?_)))));refine ws _ ?_;exact aw (ai _ (.inl (az [.bool true])))
  obtain⟨n,h⟩:=cC h;exact cQ (.inr ⟨_,aZ rfl,gK n 0 h⟩)
theorem arj (a0 J r) (h:Gv a0 J=some r):aW ah 71 [b3 a0,b3 J] (.bool r) []:=by
 refine bw [0,1] [.tmp 4] Tryz.func71 alY (λbq ai bo=>?_);refine ws _ ?_;refine ay ai (λ_ bA bc _=>?_);refine ws _ ?_;refine aE h (λbM h=>?_) (λbM h=>?_)
 .refine ws _ ?_;exact aw (bc _ (.inl (az [.bool false])))
 .refine aL (bA _ (.inl ?_));refine ay ai (λ_ cB cW _=>?_);refine ws _ ?_;refine aE h (λb7 h=>?_) (λb7 h=>?_)
  .refine ws _ ?_;exact aw (cW _ (.inl (az [.bool false])))
  .refine aL (cB _ (.inl ?_));refine ay ai (λ_ bT cw _=>?_);refine ws _ ?_;refine aE h (λe1 h=>?_) (λe1 h=>?_)
   .refine ws _ ?_;exact aw (cw _ (.inl (az [.bool false])))
   .refine aL (bT _ (.inl ?_));refine ws _ ?_;exact aw (ai _ (.inl (az [.bool true])))
theorem ark (a0 J r) (h:Kp a0 J=some r):aW ah 34 [.slice (a0.map b3),.slice (J.map b3)] (.bool r) []:=by
 refine bw [0,1] [.tmp 4] Tryz.func34 GS (λbq ai bo=>?_);refine ws _ ?_;refine ay ai (λ_ bA bc ae=>?_);refine ws _ ?_;refine aE h (λbM h=>?_) (λbM h=>?_)
 .refine ws _ ?_;exact aw (bc _ (.inl (az [.bool false])))
 .refine aL (bA _ (.inl ?_));refine ay ai (λ_ cB cW _=>?_);refine ws _ ?_;refine bj cW (λix _ hL b7 _=>?_);show bn ah (.loop ?gJ) _ _;have gK:∀n ca,Qy a0 J n ca=some r->cD ah ?gJ ix (aq [(0,.slice (a0.map b3)),(1,.slice (J.map b3)),(5,.int .i64 ca)]):=by
   refine cS (λ_ gw ca h=>cR hL (λ_ cq bW dE=>?_));refine ay bW (λ_ bT _ dI=>?_);refine ws _ ?_;refine aE h (λe1 h=>?_) (λe1 h=>?_)
   .refine aL (bT _ (.inl ?_));refine ay bW (λ_ fE fB _=>?_);refine bj fB (λ_ eH ef _ _=>?_);obtain⟨R,ck,h⟩:=al h;obtain⟨ae,dL,h⟩:=al h;obtain⟨aD,eu,h⟩:=al h;refine lA (U ck dL) (arj R ae _ eu) _ ?_;refine aE h (λfO h=>?_) (λfO h=>?_)
    .refine ws _ ?_;exact aw (ef _ (.inl (az [.bool false])))
    .refine aL (eH _ (fE _ (.inl ?_)));refine wr _ ?_;exact cq _ (.inr ⟨_,aZ rfl,gw (i64.wrap (ca+1)) h⟩)
   .refine cK (dI 0 _ (dE 0 _ (b7 _ (cB _ (.inl ?_)))));refine ws _ ?_;exact aw (ai _ (.inl (az [.bool true])))
  obtain⟨n,h⟩:=cC h;exact cQ (.inr ⟨_,aZ rfl,gK n 0 h⟩)
theorem ZU (a0 J r) (h:Gw a0 J=some r):aW ah 35 [.slice (a0.map bm),.slice (J.map bm)] (.bool r) []:=by
 refine bw [0,1] [.tmp 4] Tryz.func35 alZ (λbq ai bo=>?_);refine ws _ ?_;refine ay ai (λ_ bA bc ae=>?_);refine ws _ ?_;refine aE h (λbM h=>?_) (λbM h=>?_)
 .refine ws _ ?_;exact aw (bc _ (.inl (az [.bool false])))
 .refine aL (bA _ (.inl ?_));refine ay ai (λ_ cB cW _=>?_);refine ws _ ?_;refine bj cW (λix _ hL b7 _=>?_);show bn ah (.loop ?gJ) _ _;have gK:∀n ca,Qz a0 J n ca=some r->cD ah ?gJ ix (aq [(0,.slice (a0.map bm)),(1,.slice (J.map bm)),(5,.int .i64 ca)]):=by
   refine cS (λ_ gw ca h=>cR hL (λ_ cq bW dE=>?_));refine ay bW (λ_ bT _ dI=>?_);refine ws _ ?_;refine aE h (λe1 h=>?_) (λe1 h=>?_)
   .refine aL (bT _ (.inl ?_));refine ay bW (λ_ fE fB _=>?_);refine bj fB (λ_ eH ef _ _=>?_);obtain⟨R,ck,h⟩:=al h;obtain⟨ae,dL,h⟩:=al h;refine oT (U ck dL) _ ?_;refine aE h (λh0 h=>?_) (λh0 h=>?_)
    .refine ws _ ?_;exact aw (ef _ (.inl (az [.bool false])))
    .refine aL (eH _ (fE _ (.inl ?_)));refine wr _ ?_;exact cq _ (.inr ⟨_,aZ rfl,gw (i64.wrap (ca+1)) h⟩)
   .refine cK (dI 0 _ (dE 0 _ (b7 _ (cB _ (.inl ?_)))));refine ws _ ?_;exact aw (ai _ (.inl (az [.bool true])))
  obtain⟨n,h⟩:=cC h;exact cQ (.inr ⟨_,aZ rfl,gK n 0 h⟩)
theorem arl (a0 J r) (h:Gx a0 J=some r):aW ah 11 [dQ a0,dQ J] (.bool r) []:=by
 refine bw [0,1] [.tmp 4] Tryz.func11 al0 (λbq ai bo=>?_);refine ws _ ?_;refine ay ai (λ_ bA bc ae=>?_);obtain⟨R,b4,h⟩:=al h;refine cH (arf a0.c8 J.c8 _ b4) _ ?_;refine aE h (λcV h=>?_) (λcV h=>?_)
 .refine ws _ ?_;exact aw (bc _ (.inl (az [.bool false])))
 .refine aL (bA _ (.inl ?_));refine ay ai (λ_ dK eK _=>?_);obtain⟨ae,jl,h⟩:=al h;refine cH (ari a0.cL J.cL _ jl) _ ?_;refine aE h (λfl h=>?_) (λfl h=>?_)
  .refine ws _ ?_;exact aw (eK _ (.inl (az [.bool false])))
  .refine aL (dK _ (.inl ?_));refine ay ai (λ_ hv mA _=>?_);obtain⟨aD,dO,h⟩:=al h;refine cH (ark a0.cz J.cz _ dO) _ ?_;refine aE h (λe0 h=>?_) (λe0 h=>?_)
   .refine ws _ ?_;exact aw (mA _ (.inl (az [.bool false])))
   .refine aL (hv _ (.inl ?_));refine ay ai (λ_ kc kP _=>?_);obtain⟨aX,eX,h⟩:=al h;refine cH (ZU a0.dj J.dj _ eX) _ ?_;refine aE h (λfY h=>?_) (λfY h=>?_)
    .refine ws _ ?_;exact aw (kP _ (.inl (az [.bool false])))
    .refine aL (kc _ (.inl ?_));refine ay ai (λ_ ot nR _=>?_);obtain⟨aT,lC,h⟩:=al h;refine cH (ZU a0.dk J.dk _ lC) _ ?_;refine aE h (λou h=>?_) (λou h=>?_)
     .refine ws _ ?_;exact aw (nR _ (.inl (az [.bool false])))
     .refine aL (ot _ (.inl ?_));refine ws _ ?_;exact aw (ai _ (.inl (az [.bool true])))
theorem yc (a0 r) (h:sY a0=some r):aW ah 42 [.int .i64 a0] (.str r) []:=by
 refine bw [] [.tmp 2] Tryz.func42 al1 (λbq ai bo=>?_);refine ws _ ?_;refine ay ai (λ_ bA bc _=>?_);refine ws _ ?_;refine aE h (λbM h=>?_) (λbM h=>?_)
 .refine ws _ ?_;exact aw (bc _ (.inl (az [.str ([109,48]:ayc)])))
 .refine aL (bA _ (.inl ?_));refine ws _ ?_;refine ay ai (λ_ dK eK _=>?_);refine bj eK (λix _ hL b7 _=>?_);have gK:∀n oo ek,zH n oo ek=some r->cD ah YB ix (aq [(0,.int .i64 oo),(3,.str ek)]):=by
   refine cS (λ_ gw oo ek h=>cR hL (λ_ cq bW dE=>?_));refine ay bW (λ_ bT _ dI=>?_);refine ws _ ?_;refine aE h (λe1 h=>?_) (λe1 h=>?_)
   .refine aL (bT _ (.inl ?_));refine bj bW (λ_ fE _ _ _=>?_);obtain⟨u16,dZ,h⟩:=al h;(try simp only[fN.down,Nat.zero_add,Nat.add_zero,reduceAdd]at dZ);refine cU (U (@xw .i64 10 (by decide)) (U (@ID ah 3 5 .u8 rfl rfl) (U (show∀s,dW ah s 134 1 [(0,.int .u8 (u8.wrap (i64.wrap (48+(Int.tmod oo 10)))))]=some (.ag 1 [.int .u8 (u8.wrap (i64.wrap (48+(Int.tmod oo 10))))],s)from λs=>by kernel_rfl) (U ((@Wg ah 134 9 5 rfl rfl rfl).2.2) (U @Wj (U @Wh (U dZ (U @vr @vt)))))))) [(0,.int .i64 oo),(3,.str ([(o3 (i64.wrap (48+(Int.tmod oo 10))))]++ek))] ?_;refine rH (@Wk .i64 10 (by decide)) [(0,.int .i64 (i64.wrap (Int.tdiv oo 10))),(3,.str ([(o3 (i64.wrap (48+(Int.tmod oo 10))))]++ek))] ?_;exact fE _ (cq _ (.inr ⟨_,aZ rfl,gw (i64.wrap (Int.tdiv oo 10)) ([(o3 (i64.wrap (48+(Int.tmod oo 10))))]++ek) h⟩))
   .refine cK (dI 0 _ (dE 0 _ (b7 _ (dK _ (.inl ?_)))));obtain⟨zM,eu,h⟩:=al h;(try simp only[fN.down,Nat.zero_add,Nat.add_zero,reduceAdd]at eu);refine cU (U eu (U @vr @vt)) [(2,.str (([109]:ayc)++ek))] ?_;exact aw (ai _ (.inl (az [.str (([109]:ayc)++ek)])))
  obtain⟨n,h⟩:=cC h;exact cQ (.inr ⟨_,aZ rfl,gK n a0 ([]:ayc) h⟩)
theorem arn (a0 J r) (h:Kr a0 J=some r):aW ah 156 [.ag 2 (a0.map dR),.int .i64 J] (.int .i64 r.1) [.ag 2 (r.2.map dR),.hole]:=by
 refine bw [0] [.tmp 4] Tryz.func156 c156 (λbq ai bo=>?_);refine ws _ ?_;refine ay ai (λ_ bA bc ae=>?_);refine ws _ ?_;refine bj bc (λeC _ bG bM _=>?_);show bn ah (.loop ?eG) _ _;have eT:∀n bO aR aA,CP n bO aR aA=some r->cD ah ?eG eC (aq [(0,.ag 2 (bO.map dR)),(1,.int .i64 aR),(5,.int .i64 aA)]):=by
  refine cS (λ_ ev bO aR aA h=>cR bG (λ_ dw cn aT=>?_));refine ay cn (λ_ cB _ bp=>?_);refine ws _ ?_;refine aE h (λb7 h=>?_) (λb7 h=>?_)
  .refine aL (cB _ (.inl ?_));refine ay cn (λ_ cq bW _=>?_);refine bj bW (λ_ bT _ _ _=>?_);obtain⟨R,dd,h⟩:=al h;refine dC (b6 [(0,.ag 2 ((List.set bO (Int.toNat aA) (bQ.mk aR R.Value)).map dR)),(1,.int .i64 aR),(5,.int .i64 aA)] (λP bl=>?_) ?_)
   .simp only[aK.down,simprocAttr,dd,b2 dd,cO,db];exact bR (U dd (U (b2 dd) @cO))
   refine ws [(0,.ag 2 ((List.set bO (Int.toNat aA) (bQ.mk aR R.Value)).map dR)),(1,.int .i64 (i64.wrap (aR+1))),(5,.int .i64 aA)] ?_;obtain⟨ae,dZ,h⟩:=al h;refine dC (b6 [(0,.ag 2 ((List.set (List.set bO (Int.toNat aA) (bQ.mk aR R.Value)) (Int.toNat aA) (bQ.mk ae.Kind (i64.wrap (aR+1)))).map dR)),(1,.int .i64 (i64.wrap (aR+1))),(5,.int .i64 aA)] (λP bl=>?_) ?_)
   .simp only[aK.down,simprocAttr,dZ,b2 dZ,cO,db];exact bR (U dZ (U (b2 dZ) @cO))
   refine wr [(0,.ag 2 ((List.set (List.set bO (Int.toNat aA) (bQ.mk aR R.Value)) (Int.toNat aA) (bQ.mk ae.Kind (i64.wrap (aR+1)))).map dR)),(1,.int .i64 (i64.wrap ((i64.wrap (aR+1))+1))),(5,.int .i64 aA)] ?_;refine bT _ (cq _ (.inl ?_));refine wr [(0,.ag 2 ((List.set (List.set bO (Int.toNat aA) (bQ.mk aR R.Value)) (Int.toNat aA) (bQ.mk ae.Kind (i64.wrap (aR+1)))).map dR)),(1,.int .i64 (i64.wrap ((i64.wrap (aR+1))+1))),(5,.int .i64 (i64.wrap (aA+1)))] ?_;exact dw _ (.inr ⟨_,aZ rfl,ev (List.set (List.set bO (Int.toNat aA) (bQ.mk aR R.Value)) (Int.toNat aA) (bQ.mk ae.Kind (i64.wrap (aR+1)))) (i64.wrap ((i64.wrap (aR+1))+1)) (i64.wrap (aA+1)) h⟩)
  .refine cK (bp 0 _ (aT 0 _ (bM _ (bA _ (.inl ?_)))));refine ws _ ?_;exact aw (ai _ (.inl (hI [.int .i64 aR] rfl (by cases eZ h;rfl) (by decide) (hP (kM (by cases eZ h;rfl) rfl rfl rfl (dn (hQ)))))))
 obtain⟨n,h⟩:=cC h;exact cQ (.inr ⟨_,aZ rfl,eT n a0 J 0 h⟩)
theorem aro (a0 J r) (h:Ks a0 J=some r):aW ah 106 [.ag 1 (a0.map lz),.int .i64 J] (.int .i64 r.1) [.ag 1 (r.2.map lz),.hole]:=by
 refine bw [0] [.tmp 4] Tryz.func106 al2 (λbq ai bo=>?_);refine ws _ ?_;refine ay ai (λ_ bA bc ae=>?_);refine ws _ ?_;refine bj bc (λeC _ bG bM _=>?_);show bn ah (.loop ?eG) _ _;have eT:∀n bO aR aA,CQ n bO aR aA=some r->cD ah ?eG eC (aq [(0,.ag 1 (bO.map lz)),(1,.int .i64 aR),(5,.int .i64 aA)]):=by
  refine cS (λ_ ev bO aR aA h=>cR bG (λ_ dw cn aT=>?_));refine ay cn (λ_ cB _ bp=>?_);refine ws _ ?_;refine aE h (λb7 h=>?_) (λb7 h=>?_)
  .refine aL (cB _ (.inl ?_));refine ay cn (λ_ cq bW _=>?_);refine bj bW (λ_ bT _ _ _=>?_);obtain⟨R,dd,h⟩:=al h;obtain⟨ae,dz,h⟩:=al h;refine h9 (b6 [(0,.ag 1 ((List.set bO (Int.toNat aA) ae.2).map lz)),(1,.int .i64 ae.1),(5,.int .i64 aA)] (λP bl=>?_) ?_)
   ·(try simp only[aK.down,simprocAttr,dd,b2 dd]);refine kL [⟨.h 0 [Int.toNat aA],true,_,_⟩,⟨.int .i64 aR,false,_,.hole⟩] (arn R aR _ dz) rfl rfl rfl (by simp only[aK.down,simprocAttr,dd,b2 dd,kW,ku,gN,gP,gQ,cG,or_true,true_or, @bV _ dR dR (λ_=>GF _)]) rfl rfl (.inl rfl) ?_;simp only[aK.down,simprocAttr,dd,b2 dd,j5,(Bk (b2 dd)),Bl];exact bR (U dd (b2 dd))
   refine bT _ (cq _ (.inl ?_));refine wr [(0,.ag 1 ((List.set bO (Int.toNat aA) ae.2).map lz)),(1,.int .i64 ae.1),(5,.int .i64 (i64.wrap (aA+1)))] ?_;exact dw _ (.inr ⟨_,aZ rfl,ev (List.set bO (Int.toNat aA) ae.2) ae.1 (i64.wrap (aA+1)) h⟩)
  .refine cK (bp 0 _ (aT 0 _ (bM _ (bA _ (.inl ?_)))));refine ws _ ?_;exact aw (ai _ (.inl (hI [.int .i64 aR] rfl (by cases eZ h;rfl) (by decide) (hP (kM (by cases eZ h;rfl) rfl rfl rfl (dn (hQ)))))))
 obtain⟨n,h⟩:=cC h;exact cQ (.inr ⟨_,aZ rfl,eT n a0 J 0 h⟩)
theorem arp (a0 J r) (h:Kt a0 J=some r):aW ah 73 [.ag 4 (a0.map je),.int .i64 J] (.int .i64 r.1) [.ag 4 (r.2.map je),.hole]:=by
 refine bw [0] [.tmp 4] Tryz.func73 al3 (λbq ai bo=>?_);refine ws _ ?_;refine ay ai (λ_ bA bc ae=>?_);refine ws _ ?_;refine bj bc (λeC _ bG bM aX=>?_);show bn ah (.loop ?eG) _ _;have eT:∀n bO aR aA,CR n bO aR aA=some r->cD ah ?eG eC (aq [(0,.ag 4 (bO.map je)),(1,.int .i64 aR),(5,.int .i64 aA)]):=by
  refine cS (λ_ ev bO aR aA h=>cR bG (λ_ dw cn aT=>?_));refine ay cn (λ_ cB _ bp=>?_);refine ws _ ?_;refine aE h (λb7 h=>?_) (λb7 h=>?_)
  .refine aL (cB _ (.inl ?_));refine ay cn (λ_ cq bW _=>?_);refine bj bW (λ_ bT _ _ _=>?_);obtain⟨R,dd,h⟩:=al h;refine dC (b6 [(0,.ag 4 ((List.set bO (Int.toNat aA) (b1.mk aR R.Number R.Name R.cd)).map je)),(1,.int .i64 aR),(5,.int .i64 aA)] (λP bl=>?_) ?_)
   .simp only[aK.down,simprocAttr,dd,b2 dd,cO,db];exact bR (U dd (U (b2 dd) @cO))
   refine ws [(0,.ag 4 ((List.set bO (Int.toNat aA) (b1.mk aR R.Number R.Name R.cd)).map je)),(1,.int .i64 (i64.wrap (aR+1))),(5,.int .i64 aA)] ?_;obtain⟨ae,dZ,h⟩:=al h;refine dC (b6 [(0,.ag 4 ((List.set (List.set bO (Int.toNat aA) (b1.mk aR R.Number R.Name R.cd)) (Int.toNat aA) (b1.mk ae.Kind (i64.wrap (aR+1)) ae.Name ae.cd)).map je)),(1,.int .i64 (i64.wrap (aR+1))),(5,.int .i64 aA)] (λP bl=>?_) ?_)
   .simp only[aK.down,simprocAttr,dZ,b2 dZ,cO,db];exact bR (U dZ (U (b2 dZ) @cO))
   refine ws [(0,.ag 4 ((List.set (List.set bO (Int.toNat aA) (b1.mk aR R.Number R.Name R.cd)) (Int.toNat aA) (b1.mk ae.Kind (i64.wrap (aR+1)) ae.Name ae.cd)).map je)),(1,.int .i64 (i64.wrap ((i64.wrap (aR+1))+1))),(5,.int .i64 aA)] ?_;obtain⟨aD,eu,h⟩:=al h;obtain⟨aX,eX,h⟩:=al h;refine dC (b6 [(0,.ag 4 ((List.set (List.set (List.set bO (Int.toNat aA) (b1.mk aR R.Number R.Name R.cd)) (Int.toNat aA) (b1.mk ae.Kind (i64.wrap (aR+1)) ae.Name ae.cd)) (Int.toNat aA) (b1.mk aX.Kind aX.Number aD aX.cd)).map je)),(1,.int .i64 (i64.wrap ((i64.wrap (aR+1))+1))),(5,.int .i64 aA)] (λP bl=>?_) ?_)
   ·(try simp only[aK.down,simprocAttr,eX,b2 eX,cO,db]);refine dD (yc (i64.wrap ((i64.wrap (aR+1))+1)) _ eu) rfl rfl rfl rfl (.inl (by rfl)) ?_;simp only[aK.down,simprocAttr,eX,b2 eX,cO,db];exact bR (U eX (U (b2 eX) @cO))
   refine ws [(0,.ag 4 ((List.set (List.set (List.set bO (Int.toNat aA) (b1.mk aR R.Number R.Name R.cd)) (Int.toNat aA) (b1.mk ae.Kind (i64.wrap (aR+1)) ae.Name ae.cd)) (Int.toNat aA) (b1.mk aX.Kind aX.Number aD aX.cd)).map je)),(1,.int .i64 (i64.wrap ((i64.wrap ((i64.wrap (aR+1))+1))+1))),(5,.int .i64 aA)] ?_;obtain⟨aT,e8,h⟩:=al h;obtain⟨bp,ie,h⟩:=al h;refine h9 (b6 [(0,.ag 4 ((List.set (List.set (List.set (List.set bO (Int.toNat aA) (b1.mk aR R.Number R.Name R.cd)) (Int.toNat aA) (b1.mk ae.Kind (i64.wrap (aR+1)) ae.Name ae.cd)) (Int.toNat aA) (b1.mk aX.Kind aX.Number aD aX.cd)) (Int.toNat aA) (b1.mk aT.Kind aT.Number aT.Name bp.2)).map je)),(1,.int .i64 bp.1),(5,.int .i64 aA)] (λP bl=>?_) ?_)
   ·(try simp only[aK.down,simprocAttr,e8,b2 e8]);refine kL [⟨.h 0 [Int.toNat aA,3],true,_,_⟩,⟨.int .i64 (i64.wrap ((i64.wrap ((i64.wrap (aR+1))+1))+1)),false,_,.hole⟩] (aro aT.cd (i64.wrap ((i64.wrap ((i64.wrap (aR+1))+1))+1)) _ ie) rfl rfl rfl (by simp only[aK.down,simprocAttr,e8,b2 e8,kW,ku,gN,gP,gQ,cG,or_true,true_or, @bV _ lz iX (λ_=>QU _)]) rfl rfl (.inl rfl) ?_;simp only[aK.down,simprocAttr,e8,b2 e8,j5,(Bk (b2 e8)),Bl];exact bR (U e8 (b2 e8))
   refine bT _ (cq _ (.inl ?_));refine wr [(0,.ag 4 ((List.set (List.set (List.set (List.set bO (Int.toNat aA) (b1.mk aR R.Number R.Name R.cd)) (Int.toNat aA) (b1.mk ae.Kind (i64.wrap (aR+1)) ae.Name ae.cd)) (Int.toNat aA) (b1.mk aX.Kind aX.Number aD aX.cd)) (Int.toNat aA) (b1.mk aT.Kind aT.Number aT.Name bp.2)).map je)),(1,.int .i64 bp.1),(5,.int .i64 (i64.wrap (aA+1)))] ?_;exact dw _ (.inr ⟨_,aZ rfl,ev (List.set (List.set (List.set (List.set bO (Int.toNat aA) (b1.mk aR R.Number R.Name R.cd)) (Int.toNat aA) (b1.mk ae.Kind (i64.wrap (aR+1)) ae.Name ae.cd)) (Int.toNat aA) (b1.mk aX.Kind aX.Number aD aX.cd)) (Int.toNat aA) (b1.mk aT.Kind aT.Number aT.Name bp.2)) bp.1 (i64.wrap (aA+1)) h⟩)
  .refine cK (bp 0 _ (aT 0 _ (bM _ (bA _ (.inl ?_)))));refine ws _ ?_;exact aw (ai _ (.inl (hI [.int .i64 aR] rfl (by cases eZ h;rfl) (by decide) (hP (kM (by cases eZ h;rfl) rfl rfl rfl (dn (hQ)))))))
 obtain⟨n,h⟩:=cC h;exact cQ (.inr ⟨_,aZ rfl,eT n a0 J 0 h⟩)
theorem arq (a0 J r) (h:Ku a0 J=some r):aW ah 37 [.ag 3 (a0.map hn),.int .i64 J] (.int .i64 r.1) [.ag 3 (r.2.map hn),.hole]:=by
 refine bw [0] [.tmp 4] Tryz.func37 c37 (λbq ai bo=>?_);refine ws _ ?_;refine ay ai (λ_ bA bc ae=>?_);refine ws _ ?_;refine bj bc (λeC _ bG bM aX=>?_);show bn ah (.loop ?eG) _ _;have eT:∀n bO aR aA,CS n bO aR aA=some r->cD ah ?eG eC (aq [(0,.ag 3 (bO.map hn)),(1,.int .i64 aR),(5,.int .i64 aA)]):=by
  refine cS (λ_ ev bO aR aA h=>cR bG (λ_ dw cn aT=>?_));refine ay cn (λ_ cB _ bp=>?_);refine ws _ ?_;refine aE h (λb7 h=>?_) (λb7 h=>?_)
  .refine aL (cB _ (.inl ?_));refine ay cn (λ_ cq bW _=>?_);refine bj bW (λ_ bT _ _ _=>?_);obtain⟨R,dd,h⟩:=al h;obtain⟨ae,dz,h⟩:=al h;refine dC (b6 [(0,.ag 3 ((List.set bO (Int.toNat aA) (bb.mk R ae.dP ae.Body)).map hn)),(1,.int .i64 aR),(5,.int .i64 aA)] (λP bl=>?_) ?_)
   ·(try simp only[aK.down,simprocAttr,dz,b2 dz,cO,db]);refine dD (yc aR _ dd) rfl rfl rfl rfl (.inl (by rfl)) ?_;simp only[aK.down,simprocAttr,dz,b2 dz,cO,db];exact bR (U dz (U (b2 dz) @cO))
   refine ws [(0,.ag 3 ((List.set bO (Int.toNat aA) (bb.mk R ae.dP ae.Body)).map hn)),(1,.int .i64 (i64.wrap (aR+1))),(5,.int .i64 aA)] ?_;obtain⟨aD,ck,h⟩:=al h;refine dC (b6 [(0,.ag 3 ((List.set (List.set bO (Int.toNat aA) (bb.mk R ae.dP ae.Body)) (Int.toNat aA) (bb.mk aD.Name (i64.wrap (aR+1)) aD.Body)).map hn)),(1,.int .i64 (i64.wrap (aR+1))),(5,.int .i64 aA)] (λP bl=>?_) ?_)
   .simp only[aK.down,simprocAttr,ck,b2 ck,cO,db];exact bR (U ck (U (b2 ck) @cO))
   refine ws [(0,.ag 3 ((List.set (List.set bO (Int.toNat aA) (bb.mk R ae.dP ae.Body)) (Int.toNat aA) (bb.mk aD.Name (i64.wrap (aR+1)) aD.Body)).map hn)),(1,.int .i64 (i64.wrap ((i64.wrap (aR+1))+1))),(5,.int .i64 aA)] ?_;obtain⟨aX,eX,h⟩:=al h;obtain⟨aT,gj,h⟩:=al h;refine h9 (b6 [(0,.ag 3 ((List.set (List.set (List.set bO (Int.toNat aA) (bb.mk R ae.dP ae.Body)) (Int.toNat aA) (bb.mk aD.Name (i64.wrap (aR+1)) aD.Body)) (Int.toNat aA) (bb.mk aX.Name aX.dP aT.2)).map hn)),(1,.int .i64 aT.1),(5,.int .i64 aA)] (λP bl=>?_) ?_)
   ·(try simp only[aK.down,simprocAttr,eX,b2 eX]);refine kL [⟨.h 0 [Int.toNat aA,2],true,_,_⟩,⟨.int .i64 (i64.wrap ((i64.wrap (aR+1))+1)),false,_,.hole⟩] (arp aX.Body (i64.wrap ((i64.wrap (aR+1))+1)) _ gj) rfl rfl rfl (by simp only[aK.down,simprocAttr,eX,b2 eX,kW,ku,gN,gP,gQ,cG,or_true,true_or, @bV _ je ep (λ_=>QV _)]) rfl rfl (.inl rfl) ?_;simp only[aK.down,simprocAttr,eX,b2 eX,j5,(Bk (b2 eX)),Bl];exact bR (U eX (b2 eX))
   refine bT _ (cq _ (.inl ?_));refine wr [(0,.ag 3 ((List.set (List.set (List.set bO (Int.toNat aA) (bb.mk R ae.dP ae.Body)) (Int.toNat aA) (bb.mk aD.Name (i64.wrap (aR+1)) aD.Body)) (Int.toNat aA) (bb.mk aX.Name aX.dP aT.2)).map hn)),(1,.int .i64 aT.1),(5,.int .i64 (i64.wrap (aA+1)))] ?_;exact dw _ (.inr ⟨_,aZ rfl,ev (List.set (List.set (List.set bO (Int.toNat aA) (bb.mk R ae.dP ae.Body)) (Int.toNat aA) (bb.mk aD.Name (i64.wrap (aR+1)) aD.Body)) (Int.toNat aA) (bb.mk aX.Name aX.dP aT.2)) aT.1 (i64.wrap (aA+1)) h⟩)
  .refine cK (bp 0 _ (aT 0 _ (bM _ (bA _ (.inl ?_)))));refine ws _ ?_;exact aw (ai _ (.inl (hI [.int .i64 aR] rfl (by cases eZ h;rfl) (by decide) (hP (kM (by cases eZ h;rfl) rfl rfl rfl (dn (hQ)))))))
 obtain⟨n,h⟩:=cC h;exact cQ (.inr ⟨_,aZ rfl,eT n a0 J 0 h⟩)
theorem ZV (a0 J r) (h:Gy a0 J=some r):aW ah 41 [.ag 1 (a0.map a8),.int .i64 J] (.int .i64 r.1) [.ag 1 (r.2.map a8),.hole]:=by
 refine bw [0] [.tmp 4] Tryz.func41 al4 (λbq ai bo=>?_);refine ws _ ?_;refine ay ai (λ_ bA bc _=>?_);refine ws _ ?_;refine bj bc (λeC _ bG bM _=>?_);show bn ah (.loop ?eG) _ _;have eT:∀n bO aR aA,CT n bO aR aA=some r->cD ah ?eG eC (aq [(0,.ag 1 (bO.map a8)),(1,.int .i64 aR),(5,.int .i64 aA)]):=by
  refine cS (λ_ ev bO aR aA h=>cR bG (λ_ dw cn aT=>?_));refine ay cn (λ_ cB _ bp=>?_);refine ws _ ?_;refine aE h (λb7 h=>?_) (λb7 h=>?_)
  .refine aL (cB _ (.inl ?_));refine ay cn (λ_ cq bW _=>?_);refine bj bW (λ_ bT _ _ _=>?_);obtain⟨R,dd,h⟩:=al h;refine dC (b6 [(0,.ag 1 ((List.set bO (Int.toNat aA) aR).map a8)),(1,.int .i64 aR),(5,.int .i64 aA)] (λP bl=>?_) ?_)
   .simp only[aK.down,simprocAttr,dd,b2 dd,cO,db];exact bR (U dd (U (b2 dd) @cO))
   refine wr [(0,.ag 1 ((List.set bO (Int.toNat aA) aR).map a8)),(1,.int .i64 (i64.wrap (aR+1))),(5,.int .i64 aA)] ?_;refine bT _ (cq _ (.inl ?_));refine wr [(0,.ag 1 ((List.set bO (Int.toNat aA) aR).map a8)),(1,.int .i64 (i64.wrap (aR+1))),(5,.int .i64 (i64.wrap (aA+1)))] ?_;exact dw _ (.inr ⟨_,aZ rfl,ev (List.set bO (Int.toNat aA) aR) (i64.wrap (aR+1)) (i64.wrap (aA+1)) h⟩)
  .refine cK (bp 0 _ (aT 0 _ (bM _ (bA _ (.inl ?_)))));refine ws _ ?_;exact aw (ai _ (.inl (hI [.int .i64 aR] rfl (by cases eZ h;rfl) (by decide) (hP (kM (by cases eZ h;rfl) rfl rfl rfl (dn (hQ)))))))
 obtain⟨n,h⟩:=cC h;exact cQ (.inr ⟨_,aZ rfl,eT n a0 J 0 h⟩)
theorem ars (a0 J r) (h:Kv a0 J=some r):aW ah 38 [.ag 2 (a0.map hC),.int .i64 J] (.int .i64 r.1) [.ag 2 (r.2.map hC),.hole]:=by
 refine bw [0] [.tmp 4] Tryz.func38 al5 (λbq ai bo=>?_);refine ws _ ?_;refine ay ai (λ_ bA bc ae=>?_);refine ws _ ?_;refine bj bc (λeC _ bG bM _=>?_);show bn ah (.loop ?eG) _ _;have eT:∀n bO aR aA,CU n bO aR aA=some r->cD ah ?eG eC (aq [(0,.ag 2 (bO.map hC)),(1,.int .i64 aR),(5,.int .i64 aA)]):=by
  refine cS (λ_ ev bO aR aA h=>cR bG (λ_ dw cn aT=>?_));refine ay cn (λ_ cB _ bp=>?_);refine ws _ ?_;refine aE h (λb7 h=>?_) (λb7 h=>?_)
  .refine aL (cB _ (.inl ?_));refine ay cn (λ_ cq bW _=>?_);refine bj bW (λ_ bT _ _ _=>?_);obtain⟨R,dd,h⟩:=al h;refine dC (b6 [(0,.ag 2 ((List.set bO (Int.toNat aA) (df.mk aR R.bH)).map hC)),(1,.int .i64 aR),(5,.int .i64 aA)] (λP bl=>?_) ?_)
   .simp only[aK.down,simprocAttr,dd,b2 dd,cO,db];exact bR (U dd (U (b2 dd) @cO))
   refine ws [(0,.ag 2 ((List.set bO (Int.toNat aA) (df.mk aR R.bH)).map hC)),(1,.int .i64 (i64.wrap (aR+1))),(5,.int .i64 aA)] ?_;obtain⟨ae,dZ,h⟩:=al h;obtain⟨aD,ck,h⟩:=al h;refine h9 (b6 [(0,.ag 2 ((List.set (List.set bO (Int.toNat aA) (df.mk aR R.bH)) (Int.toNat aA) (df.mk ae.cp aD.2)).map hC)),(1,.int .i64 aD.1),(5,.int .i64 aA)] (λP bl=>?_) ?_)
   ·(try simp only[aK.down,simprocAttr,dZ,b2 dZ]);refine kL [⟨.h 0 [Int.toNat aA,1],true,_,_⟩,⟨.int .i64 (i64.wrap (aR+1)),false,_,.hole⟩] (ZV ae.bH (i64.wrap (aR+1)) _ ck) rfl rfl rfl (by simp only[aK.down,simprocAttr,dZ,b2 dZ,YV.down]) rfl rfl (.inl rfl) ?_;simp only[aK.down,simprocAttr,dZ,b2 dZ,j5,(Bk (b2 dZ)),Bl];exact bR (U dZ (b2 dZ))
   refine bT _ (cq _ (.inl ?_));refine wr [(0,.ag 2 ((List.set (List.set bO (Int.toNat aA) (df.mk aR R.bH)) (Int.toNat aA) (df.mk ae.cp aD.2)).map hC)),(1,.int .i64 aD.1),(5,.int .i64 (i64.wrap (aA+1)))] ?_;exact dw _ (.inr ⟨_,aZ rfl,ev (List.set (List.set bO (Int.toNat aA) (df.mk aR R.bH)) (Int.toNat aA) (df.mk ae.cp aD.2)) aD.1 (i64.wrap (aA+1)) h⟩)
  .refine cK (bp 0 _ (aT 0 _ (bM _ (bA _ (.inl ?_)))));refine ws _ ?_;exact aw (ai _ (.inl (hI [.int .i64 aR] rfl (by cases eZ h;rfl) (by decide) (hP (kM (by cases eZ h;rfl) rfl rfl rfl (dn (hQ)))))))
 obtain⟨n,h⟩:=cC h;exact cQ (.inr ⟨_,aZ rfl,eT n a0 J 0 h⟩)
theorem art (a0 J r) (h:Kw a0 J=some r):aW ah 39 [.ag 3 (a0.map b3),.int .i64 J] (.int .i64 r.1) [.ag 3 (r.2.map b3),.hole]:=by
 refine bw [0] [.tmp 4] Tryz.func39 al6 (λbq ai bo=>?_);refine ws _ ?_;refine ay ai (λ_ bA bc ae=>?_);refine ws _ ?_;refine bj bc (λeC _ bG bM aX=>?_);show bn ah (.loop ?eG) _ _;have eT:∀n bO aR aA,CV n bO aR aA=some r->cD ah ?eG eC (aq [(0,.ag 3 (bO.map b3)),(1,.int .i64 aR),(5,.int .i64 aA)]):=by
  refine cS (λ_ ev bO aR aA h=>cR bG (λ_ dw cn aT=>?_));refine ay cn (λ_ cB _ bp=>?_);refine ws _ ?_;refine aE h (λb7 h=>?_) (λb7 h=>?_)
  .refine aL (cB _ (.inl ?_));refine ay cn (λ_ cq bW _=>?_);refine bj bW (λ_ bT _ _ _=>?_);obtain⟨R,dd,h⟩:=al h;obtain⟨ae,dz,h⟩:=al h;refine dC (b6 [(0,.ag 3 ((List.set bO (Int.toNat aA) (b0.mk R ae.cx ae.Result)).map b3)),(1,.int .i64 aR),(5,.int .i64 aA)] (λP bl=>?_) ?_)
   ·(try simp only[aK.down,simprocAttr,dz,b2 dz,cO,db]);refine dD (yc aR _ dd) rfl rfl rfl rfl (.inl (by rfl)) ?_;simp only[aK.down,simprocAttr,dz,b2 dz,cO,db];exact bR (U dz (U (b2 dz) @cO))
   refine ws [(0,.ag 3 ((List.set bO (Int.toNat aA) (b0.mk R ae.cx ae.Result)).map b3)),(1,.int .i64 (i64.wrap (aR+1))),(5,.int .i64 aA)] ?_;obtain⟨aD,ck,h⟩:=al h;obtain⟨aX,dL,h⟩:=al h;refine dC (b6 [(0,.ag 3 ((List.set (List.set bO (Int.toNat aA) (b0.mk R ae.cx ae.Result)) (Int.toNat aA) (b0.mk aX.Left aD aX.Result)).map b3)),(1,.int .i64 (i64.wrap (aR+1))),(5,.int .i64 aA)] (λP bl=>?_) ?_)
   ·(try simp only[aK.down,simprocAttr,dL,b2 dL,cO,db]);refine dD (yc (i64.wrap (aR+1)) _ ck) rfl rfl rfl rfl (.inl (by rfl)) ?_;simp only[aK.down,simprocAttr,dL,b2 dL,cO,db];exact bR (U dL (U (b2 dL) @cO))
   refine ws [(0,.ag 3 ((List.set (List.set bO (Int.toNat aA) (b0.mk R ae.cx ae.Result)) (Int.toNat aA) (b0.mk aX.Left aD aX.Result)).map b3)),(1,.int .i64 (i64.wrap ((i64.wrap (aR+1))+1))),(5,.int .i64 aA)] ?_;obtain⟨aT,gj,h⟩:=al h;obtain⟨bp,gW,h⟩:=al h;refine dC (b6 [(0,.ag 3 ((List.set (List.set (List.set bO (Int.toNat aA) (b0.mk R ae.cx ae.Result)) (Int.toNat aA) (b0.mk aX.Left aD aX.Result)) (Int.toNat aA) (b0.mk bp.Left bp.cx aT)).map b3)),(1,.int .i64 (i64.wrap ((i64.wrap (aR+1))+1))),(5,.int .i64 aA)] (λP bl=>?_) ?_)
   ·(try simp only[aK.down,simprocAttr,gW,b2 gW,cO,db]);refine dD (yc (i64.wrap ((i64.wrap (aR+1))+1)) _ gj) rfl rfl rfl rfl (.inl (by rfl)) ?_;simp only[aK.down,simprocAttr,gW,b2 gW,cO,db];exact bR (U gW (U (b2 gW) @cO))
   refine wr [(0,.ag 3 ((List.set (List.set (List.set bO (Int.toNat aA) (b0.mk R ae.cx ae.Result)) (Int.toNat aA) (b0.mk aX.Left aD aX.Result)) (Int.toNat aA) (b0.mk bp.Left bp.cx aT)).map b3)),(1,.int .i64 (i64.wrap ((i64.wrap ((i64.wrap (aR+1))+1))+1))),(5,.int .i64 aA)] ?_;refine bT _ (cq _ (.inl ?_));refine wr [(0,.ag 3 ((List.set (List.set (List.set bO (Int.toNat aA) (b0.mk R ae.cx ae.Result)) (Int.toNat aA) (b0.mk aX.Left aD aX.Result)) (Int.toNat aA) (b0.mk bp.Left bp.cx aT)).map b3)),(1,.int .i64 (i64.wrap ((i64.wrap ((i64.wrap (aR+1))+1))+1))),(5,.int .i64 (i64.wrap (aA+1)))] ?_;exact dw _ (.inr ⟨_,aZ rfl,ev (List.set (List.set (List.set bO (Int.toNat aA) (b0.mk R ae.cx ae.Result)) (Int.toNat aA) (b0.mk aX.Left aD aX.Result)) (Int.toNat aA) (b0.mk bp.Left bp.cx aT)) (i64.wrap ((i64.wrap ((i64.wrap (aR+1))+1))+1)) (i64.wrap (aA+1)) h⟩)
  .refine cK (bp 0 _ (aT 0 _ (bM _ (bA _ (.inl ?_)))));refine ws _ ?_;exact aw (ai _ (.inl (hI [.int .i64 aR] rfl (by cases eZ h;rfl) (by decide) (hP (kM (by cases eZ h;rfl) rfl rfl rfl (dn (hQ)))))))
 obtain⟨n,h⟩:=cC h;exact cQ (.inr ⟨_,aZ rfl,eT n a0 J 0 h⟩)
theorem ZW (a0 J r) (h:Gz a0 J=some r):aW ah 40 [.ag 1 (a0.map bm),.int .i64 J] (.int .i64 r.1) [.ag 1 (r.2.map bm),.hole]:=by
 refine bw [0] [.tmp 4] Tryz.func40 c40 (λbq ai bo=>?_);refine ws _ ?_;refine ay ai (λ_ bA bc ae=>?_);refine ws _ ?_;refine bj bc (λeC _ bG bM _=>?_);show bn ah (.loop ?eG) _ _;have eT:∀n bO aR aA,CW n bO aR aA=some r->cD ah ?eG eC (aq [(0,.ag 1 (bO.map bm)),(1,.int .i64 aR),(5,.int .i64 aA)]):=by
  refine cS (λ_ ev bO aR aA h=>cR bG (λ_ dw cn aT=>?_));refine ay cn (λ_ cB _ bp=>?_);refine ws _ ?_;refine aE h (λb7 h=>?_) (λb7 h=>?_)
  .refine aL (cB _ (.inl ?_));refine ay cn (λ_ cq bW _=>?_);refine bj bW (λ_ bT _ _ _=>?_);obtain⟨R,dd,h⟩:=al h;obtain⟨ae,dz,h⟩:=al h;refine dC (b6 [(0,.ag 1 ((List.set bO (Int.toNat aA) R).map bm)),(1,.int .i64 aR),(5,.int .i64 aA)] (λP bl=>?_) ?_)
   ·(try simp only[aK.down,simprocAttr,dz,b2 dz,cO,db]);refine dD (yc aR _ dd) rfl rfl rfl rfl (.inl (by rfl)) ?_;simp only[aK.down,simprocAttr,dz,b2 dz,cO,db];exact bR (U dz (U (b2 dz) @cO))
   refine wr [(0,.ag 1 ((List.set bO (Int.toNat aA) R).map bm)),(1,.int .i64 (i64.wrap (aR+1))),(5,.int .i64 aA)] ?_;refine bT _ (cq _ (.inl ?_));refine wr [(0,.ag 1 ((List.set bO (Int.toNat aA) R).map bm)),(1,.int .i64 (i64.wrap (aR+1))),(5,.int .i64 (i64.wrap (aA+1)))] ?_;exact dw _ (.inr ⟨_,aZ rfl,ev (List.set bO (Int.toNat aA) R) (i64.wrap (aR+1)) (i64.wrap (aA+1)) h⟩)
  .refine cK (bp 0 _ (aT 0 _ (bM _ (bA _ (.inl ?_)))));refine ws _ ?_;exact aw (ai _ (.inl (hI [.int .i64 aR] rfl (by cases eZ h;rfl) (by decide) (hP (kM (by cases eZ h;rfl) rfl rfl rfl (dn (hQ)))))))
 obtain⟨n,h⟩:=cC h;exact cQ (.inr ⟨_,aZ rfl,eT n a0 J 0 h⟩)
theorem aru (dF dv dq fD fu J r) (h:Kx dF dv dq fD fu J=some r):aW ah 13 [.agg [.ag 3 (dF.map hn),.ag 2 (dv.map hC),.ag 3 (dq.map b3),.ag 1 (fD.map bm),.ag 1 (fu.map bm)],.int .i64 J] (.int .i64 r.1) [.agg [.ag 3 (r.2.1.map hn),.ag 2 (r.2.2.1.map hC),.ag 3 (r.2.2.2.1.map b3),.ag 1 (r.2.2.2.2.1.map bm),.ag 1 (r.2.2.2.2.2.map bm)],.hole]:=by
 refine bw [0] [.tmp 4] Tryz.func13 al8 (λbq ai bo=>?_);refine dC (b6 [(0,.agg [.ag 3 (dF.map hn),.ag 2 (dv.map hC),.ag 3 (dq.map b3),.ag 1 (fD.map bm),.ag 1 (fu.map bm)]),(1,.int .i64 J),(2,.aa 0 0)] (λP bl=>?_) ?_)
 .simp only[aK.down,simprocAttr,rK.down,I.e5];exact bR rK.down
 obtain⟨R,aU,h⟩:=al h;refine dC (b6 [(0,.agg [.ag 3 (R.2.map hn),.ag 2 (dv.map hC),.ag 3 (dq.map b3),.ag 1 (fD.map bm),.ag 1 (fu.map bm)]),(1,.int .i64 R.1),(2,.aa 0 0)] (λP bl=>?_) ?_)
 ·(try simp only[aK.down,simprocAttr,rK.down,I.e5]);refine IH [⟨.h 0 [0],true,_,_⟩,⟨.int .i64 J,false,_,.hole⟩] (arq dF J _ aU) rfl rfl rfl (by simp only[aK.down,simprocAttr,xz,xB,I.e5,xA,mw,kW,ku,gN,gP,gQ,cG,or_true,true_or, @bV _ hn bx (λ_=>zI _)]) rfl rfl (.inl rfl) (by simp only[aK.down,simprocAttr,KT.down,I.e5,Bool.and_self,Bool.not_false,Bool.and_true]) ?_;simp only[aK.down,simprocAttr,KU.down,I.e5,eq_self,Bool.and_self];exact bR rK.down
 obtain⟨ae,cM,h⟩:=al h;refine dC (b6 [(0,.agg [.ag 3 (R.2.map hn),.ag 2 (ae.2.map hC),.ag 3 (dq.map b3),.ag 1 (fD.map bm),.ag 1 (fu.map bm)]),(1,.int .i64 ae.1),(2,.aa 0 0)] (λP bl=>?_) ?_)
 ·(try simp only[aK.down,simprocAttr,rK.down,I.e5]);refine IH [⟨.h 0 [1],true,_,_⟩,⟨.int .i64 R.1,false,_,.hole⟩] (ars dv R.1 _ cM) rfl rfl rfl (by simp only[aK.down,simprocAttr,xz,xB,I.e5,xA,mw,kW,ku,gN,gP,gQ,cG,or_true,true_or, @bV _ hC eV (λ_=>zJ _)]) rfl rfl (.inl rfl) (by simp only[aK.down,simprocAttr,KT.down,I.e5,Bool.and_self,Bool.not_false,Bool.and_true]) ?_;simp only[aK.down,simprocAttr,KU.down,I.e5,eq_self,Bool.and_self];exact bR rK.down
 obtain⟨aD,b9,h⟩:=al h;refine dC (b6 [(0,.agg [.ag 3 (R.2.map hn),.ag 2 (ae.2.map hC),.ag 3 (aD.2.map b3),.ag 1 (fD.map bm),.ag 1 (fu.map bm)]),(1,.int .i64 aD.1),(2,.aa 0 0)] (λP bl=>?_) ?_)
 ·(try simp only[aK.down,simprocAttr,rK.down,I.e5]);refine IH [⟨.h 0 [2],true,_,_⟩,⟨.int .i64 ae.1,false,_,.hole⟩] (art dq ae.1 _ b9) rfl rfl rfl (by simp only[aK.down,simprocAttr,xz,xB,I.e5,xA,mw,kW,ku,gN,gP,gQ,cG,or_true,true_or, @bV _ b3 b3 (λ_=>qH _)]) rfl rfl (.inl rfl) (by simp only[aK.down,simprocAttr,KT.down,I.e5,Bool.and_self,Bool.not_false,Bool.and_true]) ?_;simp only[aK.down,simprocAttr,KU.down,I.e5,eq_self,Bool.and_self];exact bR rK.down
 obtain⟨aX,jl,h⟩:=al h;refine dC (b6 [(0,.agg [.ag 3 (R.2.map hn),.ag 2 (ae.2.map hC),.ag 3 (aD.2.map b3),.ag 1 (aX.2.map bm),.ag 1 (fu.map bm)]),(1,.int .i64 aX.1),(2,.aa 0 0)] (λP bl=>?_) ?_)
 ·(try simp only[aK.down,simprocAttr,rK.down,I.e5]);refine IH [⟨.h 0 [3],true,_,_⟩,⟨.int .i64 aD.1,false,_,.hole⟩] (ZW fD aD.1 _ jl) rfl rfl rfl (by simp only[aK.down,simprocAttr,YW.down,I.e5]) rfl rfl (.inl rfl) (by simp only[aK.down,simprocAttr,KT.down,I.e5,Bool.and_self,Bool.not_false,Bool.and_true]) ?_;simp only[aK.down,simprocAttr,KU.down,I.e5,eq_self,Bool.and_self];exact bR rK.down
 obtain⟨aT,kn,h⟩:=al h;refine dC (b6 [(0,.agg [.ag 3 (R.2.map hn),.ag 2 (ae.2.map hC),.ag 3 (aD.2.map b3),.ag 1 (aX.2.map bm),.ag 1 (aT.2.map bm)]),(1,.int .i64 aT.1)] (λP bl=>?_) ?_)
 ·(try simp only[aK.down,simprocAttr,rK.down,I.e5]);refine kL [⟨.h 0 [4],true,_,_⟩,⟨.int .i64 aX.1,false,_,.hole⟩] (ZW fu aX.1 _ kn) rfl rfl rfl (by simp only[aK.down,simprocAttr,YW.down,I.e5]) rfl rfl (.inl rfl) ?_;simp only[aK.down,simprocAttr,xz,xB,I.e5,xA,j5];exact bR rK.down
 refine ws _ ?_;exact aw (ai _ (.inl (hI [.int .i64 aT.1] rfl (by cases eZ h;rfl) (by decide) (hP (kM (by cases eZ h;rfl) rfl rfl rfl (dn (hQ)))))))
theorem ZX (a0 J r) (h:GA a0 J=some r):aW ah 14 [.ag 3 (a0.map ea),.int .i64 J] (.int .i64 r.1) [.ag 3 (r.2.map ea),.hole]:=by
 refine bw [0] [.tmp 4] Tryz.func14 gJ (λbq ai bo=>?_);refine ws _ ?_;refine ay ai (λ_ bA bc ae=>?_);refine ws _ ?_;refine bj bc (λeC _ bG bM aX=>?_);show bn ah (.loop ?eG) _ _;have eT:∀n bO aR aA,CX n bO aR aA=some r->cD ah ?eG eC (aq [(0,.ag 3 (bO.map ea)),(1,.int .i64 aR),(5,.int .i64 aA)]):=by
  refine cS (λ_ ev bO aR aA h=>cR bG (λ_ dw cn aT=>?_));refine ay cn (λ_ cB _ bp=>?_);refine ws _ ?_;refine aE h (λb7 h=>?_) (λb7 h=>?_)
  .refine aL (cB _ (.inl ?_));refine ay cn (λ_ cq bW _=>?_);refine bj bW (λ_ bT _ _ _=>?_);obtain⟨R,dd,h⟩:=al h;refine dC (b6 [(0,.ag 3 ((List.set bO (Int.toNat aA) (bd.mk aR R.Part R.bH)).map ea)),(1,.int .i64 aR),(5,.int .i64 aA)] (λP bl=>?_) ?_)
   .simp only[aK.down,simprocAttr,dd,b2 dd,cO,db];exact bR (U dd (U (b2 dd) @cO))
   refine ws [(0,.ag 3 ((List.set bO (Int.toNat aA) (bd.mk aR R.Part R.bH)).map ea)),(1,.int .i64 (i64.wrap (aR+1))),(5,.int .i64 aA)] ?_;obtain⟨ae,dZ,h⟩:=al h;refine dC (b6 [(0,.ag 3 ((List.set (List.set bO (Int.toNat aA) (bd.mk aR R.Part R.bH)) (Int.toNat aA) (bd.mk ae.cp (i64.wrap (aR+1)) ae.bH)).map ea)),(1,.int .i64 (i64.wrap (aR+1))),(5,.int .i64 aA)] (λP bl=>?_) ?_)
   .simp only[aK.down,simprocAttr,dZ,b2 dZ,cO,db];exact bR (U dZ (U (b2 dZ) @cO))
   refine ws [(0,.ag 3 ((List.set (List.set bO (Int.toNat aA) (bd.mk aR R.Part R.bH)) (Int.toNat aA) (bd.mk ae.cp (i64.wrap (aR+1)) ae.bH)).map ea)),(1,.int .i64 (i64.wrap ((i64.wrap (aR+1))+1))),(5,.int .i64 aA)] ?_;obtain⟨aD,eu,h⟩:=al h;obtain⟨aX,eX,h⟩:=al h;refine h9 (b6 [(0,.ag 3 ((List.set (List.set (List.set bO (Int.toNat aA) (bd.mk aR R.Part R.bH)) (Int.toNat aA) (bd.mk ae.cp (i64.wrap (aR+1)) ae.bH)) (Int.toNat aA) (bd.mk aD.cp aD.Part aX.2)).map ea)),(1,.int .i64 aX.1),(5,.int .i64 aA)] (λP bl=>?_) ?_)
   ·(try simp only[aK.down,simprocAttr,eu,b2 eu]);refine kL [⟨.h 0 [Int.toNat aA,2],true,_,_⟩,⟨.int .i64 (i64.wrap ((i64.wrap (aR+1))+1)),false,_,.hole⟩] (ZV aD.bH (i64.wrap ((i64.wrap (aR+1))+1)) _ eX) rfl rfl rfl (by simp only[aK.down,simprocAttr,eu,b2 eu,YV.down]) rfl rfl (.inl rfl) ?_;simp only[aK.down,simprocAttr,eu,b2 eu,j5,(Bk (b2 eu)),Bl];exact bR (U eu (b2 eu))
   refine bT _ (cq _ (.inl ?_));refine wr [(0,.ag 3 ((List.set (List.set (List.set bO (Int.toNat aA) (bd.mk aR R.Part R.bH)) (Int.toNat aA) (bd.mk ae.cp (i64.wrap (aR+1)) ae.bH)) (Int.toNat aA) (bd.mk aD.cp aD.Part aX.2)).map ea)),(1,.int .i64 aX.1),(5,.int .i64 (i64.wrap (aA+1)))] ?_;exact dw _ (.inr ⟨_,aZ rfl,ev (List.set (List.set (List.set bO (Int.toNat aA) (bd.mk aR R.Part R.bH)) (Int.toNat aA) (bd.mk ae.cp (i64.wrap (aR+1)) ae.bH)) (Int.toNat aA) (bd.mk aD.cp aD.Part aX.2)) aX.1 (i64.wrap (aA+1)) h⟩)
  .refine cK (bp 0 _ (aT 0 _ (bM _ (bA _ (.inl ?_)))));refine ws _ ?_;exact aw (ai _ (.inl (hI [.int .i64 aR] rfl (by cases eZ h;rfl) (by decide) (hP (kM (by cases eZ h;rfl) rfl rfl rfl (dn (hQ)))))))
 obtain⟨n,h⟩:=cC h;exact cQ (.inr ⟨_,aZ rfl,eT n a0 J 0 h⟩)
theorem arv (a0 J r) (h:Ky a0 J=some r):aW ah 15 [.ag 4 (a0.map en),.int .i64 J] (.int .i64 r.1) [.ag 4 (r.2.map en),.hole]:=by
 refine bw [0] [.tmp 4] Tryz.func15 al9 (λbq ai bo=>?_);refine ws _ ?_;refine ay ai (λ_ bA bc ae=>?_);refine ws _ ?_;refine bj bc (λeC _ bG bM aX=>?_);show bn ah (.loop ?eG) _ _;have eT:∀n bO aR aA,CY n bO aR aA=some r->cD ah ?eG eC (aq [(0,.ag 4 (bO.map en)),(1,.int .i64 aR),(5,.int .i64 aA)]):=by
  refine cS (λ_ ev bO aR aA h=>cR bG (λ_ dw cn aT=>?_));refine ay cn (λ_ cB _ bp=>?_);refine ws _ ?_;refine aE h (λb7 h=>?_) (λb7 h=>?_)
  .refine aL (cB _ (.inl ?_));refine ay cn (λ_ cq bW _=>?_);refine bj bW (λ_ bT _ _ _=>?_);obtain⟨R,dd,h⟩:=al h;obtain⟨ae,dz,h⟩:=al h;refine dC (b6 [(0,.ag 4 ((List.set bO (Int.toNat aA) (a1.mk R ae.gH ae.Second ae.State)).map en)),(1,.int .i64 aR),(5,.int .i64 aA)] (λP bl=>?_) ?_)
   ·(try simp only[aK.down,simprocAttr,dz,b2 dz,cO,db]);refine dD (yc aR _ dd) rfl rfl rfl rfl (.inl (by rfl)) ?_;simp only[aK.down,simprocAttr,dz,b2 dz,cO,db];exact bR (U dz (U (b2 dz) @cO))
   refine ws [(0,.ag 4 ((List.set bO (Int.toNat aA) (a1.mk R ae.gH ae.Second ae.State)).map en)),(1,.int .i64 (i64.wrap (aR+1))),(5,.int .i64 aA)] ?_;obtain⟨aD,ck,h⟩:=al h;refine dC (b6 [(0,.ag 4 ((List.set (List.set bO (Int.toNat aA) (a1.mk R ae.gH ae.Second ae.State)) (Int.toNat aA) (a1.mk aD.Label (i64.wrap (aR+1)) aD.Second aD.State)).map en)),(1,.int .i64 (i64.wrap (aR+1))),(5,.int .i64 aA)] (λP bl=>?_) ?_)
   .simp only[aK.down,simprocAttr,ck,b2 ck,cO,db];exact bR (U ck (U (b2 ck) @cO))
   refine ws [(0,.ag 4 ((List.set (List.set bO (Int.toNat aA) (a1.mk R ae.gH ae.Second ae.State)) (Int.toNat aA) (a1.mk aD.Label (i64.wrap (aR+1)) aD.Second aD.State)).map en)),(1,.int .i64 (i64.wrap ((i64.wrap (aR+1))+1))),(5,.int .i64 aA)] ?_;obtain⟨aX,eX,h⟩:=al h;refine dC (b6 [(0,.ag 4 ((List.set (List.set (List.set bO (Int.toNat aA) (a1.mk R ae.gH ae.Second ae.State)) (Int.toNat aA) (a1.mk aD.Label (i64.wrap (aR+1)) aD.Second aD.State)) (Int.toNat aA) (a1.mk aX.Label aX.gH (i64.wrap ((i64.wrap (aR+1))+1)) aX.State)).map en)),(1,.int .i64 (i64.wrap ((i64.wrap (aR+1))+1))),(5,.int .i64 aA)] (λP bl=>?_) ?_)
   .simp only[aK.down,simprocAttr,eX,b2 eX,cO,db];exact bR (U eX (U (b2 eX) @cO))
   refine ws [(0,.ag 4 ((List.set (List.set (List.set bO (Int.toNat aA) (a1.mk R ae.gH ae.Second ae.State)) (Int.toNat aA) (a1.mk aD.Label (i64.wrap (aR+1)) aD.Second aD.State)) (Int.toNat aA) (a1.mk aX.Label aX.gH (i64.wrap ((i64.wrap (aR+1))+1)) aX.State)).map en)),(1,.int .i64 (i64.wrap ((i64.wrap ((i64.wrap (aR+1))+1))+1))),(5,.int .i64 aA)] ?_;obtain⟨aT,e8,h⟩:=al h;obtain⟨bp,ie,h⟩:=al h;refine h9 (b6 [(0,.ag 4 ((List.set (List.set (List.set (List.set bO (Int.toNat aA) (a1.mk R ae.gH ae.Second ae.State)) (Int.toNat aA) (a1.mk aD.Label (i64.wrap (aR+1)) aD.Second aD.State)) (Int.toNat aA) (a1.mk aX.Label aX.gH (i64.wrap ((i64.wrap (aR+1))+1)) aX.State)) (Int.toNat aA) (a1.mk aT.Label aT.gH aT.Second bp.2)).map en)),(1,.int .i64 bp.1),(5,.int .i64 aA)] (λP bl=>?_) ?_)
   ·(try simp only[aK.down,simprocAttr,e8,b2 e8]);refine kL [⟨.h 0 [Int.toNat aA,3],true,_,_⟩,⟨.int .i64 (i64.wrap ((i64.wrap ((i64.wrap (aR+1))+1))+1)),false,_,.hole⟩] (ZX aT.State (i64.wrap ((i64.wrap ((i64.wrap (aR+1))+1))+1)) _ ie) rfl rfl rfl (by simp only[aK.down,simprocAttr,e8,b2 e8,kW,ku,gN,gP,gQ,cG,or_true,true_or, @bV _ ea bB (λ_=>nO _)]) rfl rfl (.inl rfl) ?_;simp only[aK.down,simprocAttr,e8,b2 e8,j5,(Bk (b2 e8)),Bl];exact bR (U e8 (b2 e8))
   refine bT _ (cq _ (.inl ?_));refine wr [(0,.ag 4 ((List.set (List.set (List.set (List.set bO (Int.toNat aA) (a1.mk R ae.gH ae.Second ae.State)) (Int.toNat aA) (a1.mk aD.Label (i64.wrap (aR+1)) aD.Second aD.State)) (Int.toNat aA) (a1.mk aX.Label aX.gH (i64.wrap ((i64.wrap (aR+1))+1)) aX.State)) (Int.toNat aA) (a1.mk aT.Label aT.gH aT.Second bp.2)).map en)),(1,.int .i64 bp.1),(5,.int .i64 (i64.wrap (aA+1)))] ?_;exact dw _ (.inr ⟨_,aZ rfl,ev (List.set (List.set (List.set (List.set bO (Int.toNat aA) (a1.mk R ae.gH ae.Second ae.State)) (Int.toNat aA) (a1.mk aD.Label (i64.wrap (aR+1)) aD.Second aD.State)) (Int.toNat aA) (a1.mk aX.Label aX.gH (i64.wrap ((i64.wrap (aR+1))+1)) aX.State)) (Int.toNat aA) (a1.mk aT.Label aT.gH aT.Second bp.2)) bp.1 (i64.wrap (aA+1)) h⟩)
  .refine cK (bp 0 _ (aT 0 _ (bM _ (bA _ (.inl ?_)))));refine ws _ ?_;exact aw (ai _ (.inl (hI [.int .i64 aR] rfl (by cases eZ h;rfl) (by decide) (hP (kM (by cases eZ h;rfl) rfl rfl rfl (dn (hQ)))))))
 obtain⟨n,h⟩:=cC h;exact cQ (.inr ⟨_,aZ rfl,eT n a0 J 0 h⟩)
theorem arw (a0 J r) (h:Kz a0 J=some r):aW ah 74 [.slice (a0.map a8),.int .i64 J] (.int .i64 r) []:=by
 refine bw [0] [.tmp 4] Tryz.func74 al_ (λbq ai bo=>?_);refine ws _ ?_;refine ay ai (λ_ bA bc _=>?_);refine ws _ ?_;refine bj bc (λeC _ bG bM _=>?_);show bn ah (.loop ?eG) _ _;have eT:∀n aR aA,CZ a0 n aR aA=some r->cD ah ?eG eC (aq [(0,.slice (a0.map a8)),(1,.int .i64 aR),(5,.int .i64 aA)]):=by
  refine cS (λ_ ev aR aA h=>cR bG (λ_ dw cn aT=>?_));refine ay cn (λ_ cB _ bp=>?_);refine ws _ ?_;refine aE h (λb7 h=>?_) (λb7 h=>?_)
  .refine aL (cB _ (.inl ?_));refine ay cn (λ_ cq bW _=>?_);refine bj bW (λ_ bT cw _ _=>?_);refine ay cw (λ_ eE hM _=>?_);obtain⟨R,dz,h⟩:=al h;refine cU dz _ ?_;refine aE h (λgX h=>?_) (λgX h=>?_)
   .refine ws _ ?_;exact aw (hM _ (.inl (az [.int .i64 (-1)])))
   .refine aL (eE _ (.inl ?_));refine wr _ ?_;refine bT _ (cq _ (.inl ?_));refine wr _ ?_;exact dw _ (.inr ⟨_,aZ rfl,ev (i64.wrap (aR+1)) (i64.wrap (aA+1)) h⟩)
  .refine cK (bp 0 _ (aT 0 _ (bM _ (bA _ (.inl ?_)))));refine ws _ ?_;exact aw (ai _ (.inl (az [.int .i64 aR])))
 obtain⟨n,h⟩:=cC h;exact cQ (.inr ⟨_,aZ rfl,eT n J 0 h⟩)
theorem arx (a0 J r) (h:KA a0 J=some r):aW ah 43 [.slice (a0.map bB),.int .i64 J] (.int .i64 r) []:=by
 refine bw [0] [.tmp 4] Tryz.func43 ama (λbq ai bo=>?_);refine ws _ ?_;refine ay ai (λ_ bA bc ae=>?_);refine ws _ ?_;refine bj bc (λeC _ bG bM _=>?_);show bn ah (.loop ?eG) _ _;have eT:∀n aR aA,C0 a0 n aR aA=some r->cD ah ?eG eC (aq [(0,.slice (a0.map bB)),(1,.int .i64 aR),(5,.int .i64 aA)]):=by
  refine cS (λ_ ev aR aA h=>cR bG (λ_ dw cn aT=>?_));refine ay cn (λ_ cB _ bp=>?_);refine ws _ ?_;refine aE h (λb7 h=>?_) (λb7 h=>?_)
  .refine aL (cB _ (.inl ?_));refine ay cn (λ_ cq bW _=>?_);refine bj bW (λ_ bT cw _ _=>?_);refine ay cw (λ_ eE hM _=>?_);obtain⟨R,dz,h⟩:=al h;refine cU dz _ ?_;refine aE h (λgX h=>?_) (λgX h=>?_)
   .refine ws _ ?_;exact aw (hM _ (.inl (az [.int .i64 (-1)])))
   .refine aL (eE _ (.inl ?_));refine ws _ ?_;refine ay cw (λ_ kc kP _=>?_);refine cU dz _ ?_;refine aE h (λfO h=>?_) (λfO h=>?_)
    .refine ws _ ?_;exact aw (kP _ (.inl (az [.int .i64 (-1)])))
    .refine aL (kc _ (.inl ?_));refine ws _ ?_;obtain⟨ae,ie,h⟩:=al h;refine eO dz (arw R.bH (i64.wrap ((i64.wrap (aR+1))+1)) _ ie) _ ?_;refine ws _ ?_;refine aE h (λou h=>?_) (λou h=>?_)
     .refine ws _ ?_;exact aw (cw _ (.inl (az [.int .i64 (-1)])))
     .refine aL (bT _ (cq _ (.inl ?_)));refine wr _ ?_;exact dw _ (.inr ⟨_,aZ rfl,ev ae (i64.wrap (aA+1)) h⟩)
  .refine cK (bp 0 _ (aT 0 _ (bM _ (bA _ (.inl ?_)))));refine ws _ ?_;exact aw (ai _ (.inl (az [.int .i64 aR])))
 obtain⟨n,h⟩:=cC h;exact cQ (.inr ⟨_,aZ rfl,eT n J 0 h⟩)
theorem ZY (a0 J r) (h:GB a0 J=some r):aW ah 16 [.slice (a0.map eW),.int .i64 J] (.int .i64 r) []:=by
 refine bw [0] [.tmp 4] Tryz.func16 kz (λbq ai bo=>?_);refine ws _ ?_;refine ay ai (λ_ bA bc ae=>?_);refine ws _ ?_;refine bj bc (λeC _ bG bM _=>?_);show bn ah (.loop ?eG) _ _;have eT:∀n aR aA,C1 a0 n aR aA=some r->cD ah ?eG eC (aq [(0,.slice (a0.map eW)),(1,.int .i64 aR),(5,.int .i64 aA)]):=by
  refine cS (λ_ ev aR aA h=>cR bG (λ_ dw cn aT=>?_));refine ay cn (λ_ cB _ bp=>?_);refine ws _ ?_;refine aE h (λb7 h=>?_) (λb7 h=>?_)
  .refine aL (cB _ (.inl ?_));refine ay cn (λ_ cq bW _=>?_);refine bj bW (λ_ bT cw _ _=>?_);refine ay cw (λ_ eE hM _=>?_);obtain⟨R,dz,h⟩:=al h;obtain⟨ae,dO,h⟩:=al h;refine lA dz (yc aR _ dO) _ ?_;refine aE h (λe0 h=>?_) (λe0 h=>?_)
   .refine ws _ ?_;exact aw (hM _ (.inl (az [.int .i64 (-1)])))
   .refine aL (eE _ (.inl ?_));refine ws _ ?_;refine ay cw (λ_ p5 td _=>?_);refine cU dz _ ?_;refine aE h (λfY h=>?_) (λfY h=>?_)
    .refine ws _ ?_;exact aw (td _ (.inl (az [.int .i64 (-1)])))
    .refine aL (p5 _ (.inl ?_));refine ws _ ?_;refine ay cw (λ_ z6 Hf _=>?_);refine cU dz _ ?_;refine aE h (λou h=>?_) (λou h=>?_)
     .refine ws _ ?_;exact aw (Hf _ (.inl (az [.int .i64 (-1)])))
     .refine aL (z6 _ (.inl ?_));refine ws _ ?_;obtain⟨aD,qL,h⟩:=al h;refine eO dz (arx R.State (i64.wrap ((i64.wrap ((i64.wrap (aR+1))+1))+1)) _ qL) _ ?_;refine ws _ ?_;refine aE h (λgY h=>?_) (λgY h=>?_)
      .refine ws _ ?_;exact aw (cw _ (.inl (az [.int .i64 (-1)])))
      .refine aL (bT _ (cq _ (.inl ?_)));refine wr _ ?_;exact dw _ (.inr ⟨_,aZ rfl,ev aD (i64.wrap (aA+1)) h⟩)
  .refine cK (bp 0 _ (aT 0 _ (bM _ (bA _ (.inl ?_)))));refine ws _ ?_;exact aw (ai _ (.inl (az [.int .i64 aR])))
 obtain⟨n,h⟩:=cC h;exact cQ (.inr ⟨_,aZ rfl,eT n J 0 h⟩)
end Go.Proofs.YtmaepbgkcmjcjafGreatDoor
