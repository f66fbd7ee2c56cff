/- Part of a proof that a law returns true for every input. No condition. -/
import Derived.Test.YtmaepbgkcmjcjaiGreatDoorW1x3
namespace Go.Proofs.YtmaepbgkcmjcjaiGreatDoor
open Option Go.IntKind Nat
open Go Go.eg Go.l_
set_option maxRecDepth 100000
set_option maxHeartbeats 8800000
set_option linter.unusedSimpArgs false
set_option linter.unusedVariables false
theorem ap7 (pX:Int->dB->azE->a6->Option (Int×azE)) (ap8:∀a0 J a2 a3 r,pX a0 J a2 a3=some r->pk af 143 2 4 [.int .i64 a0,ff J,.aQ (.ak 2 (a2.map ff)),.ref (bg a3),.ref (.hole)] (.int .i64 r.1) [.hole,.hole,.aQ (.ak 2 (r.2.map ff)),.hole,.hole]) (a0 J a2 a3 r) (h:PF pX a0 J a2 a3=some r):pk af 143 2 4 [.int .i64 a0,ff J,.aQ (.ak 2 (a2.map ff)),.ref (bg a3),.ref (.hole)] (.int .i64 r.1) [.hole,.hole,.aQ (.ak 2 (r.2.map ff)),.hole,.hole]:=by
 refine pk.Oo (fx:=[0,1,2,3,4]) Ov [.tmp 7] [(0,.int .i64 a0),(1,ff J),(2,.aQ (.ak 2 (a2.map ff))),(3,.ref (bg a3)),(4,.ref (.hole))] Tryz.func143 rfl rfl akZ (le_of_ble_eq_true rfl) akY rfl rfl (λbn ag bm=>?_);refine ws _ ?_;obtain⟨U,aM,h⟩:=aj h;refine eb (cr [(0,.int .i64 a0),(2,.aQ (.ak 2 ((List.set a2 (Int.toNat a0) J).map ff))),(3,.ref (bg a3)),(4,.ref (.hole)),(6,.aQ (ff J))] (λP bq=>?_) ?_)
 .simp only[aN.down,simprocAttr,aM,dy aM,ee,dW];exact b3 (R aM (R (dy aM) @ee))
 obtain⟨ah,cv,h⟩:=aj h;refine cR cv [(0,.int .i64 a0),(2,.aQ (.ak 2 ((List.set a2 (Int.toNat a0) J).map ff))),(3,.ref (bg a3)),(4,.ref (.hole)),(6,.aQ (ff J)),(8,.aQ (ei ah))] ?_;refine cR (show∀s,gm af s 172 [(0,.int .i64 J.scope),(1,.bool (ah.Kind==1))]=some (.agg [.int .i64 J.scope,.bool (ah.Kind==1)],s)from λs=>by kernel_rfl) [(0,.int .i64 a0),(2,.aQ (.ak 2 ((List.set a2 (Int.toNat a0) J).map ff))),(3,.ref (bg a3)),(4,.ref (.hole)),(8,.aQ (ei ah)),(9,.aQ (.agg [.int .i64 J.scope,.bool (ah.Kind==1)]))] ?_;have ZF:∀od,JV pX a0 J a2 a3 ah od=some r->bj af Yz bn (aq [(0,.int .i64 a0),(2,.aQ (.ak 2 ((List.set a2 (Int.toNat a0) J).map ff))),(3,.ref (bg a3)),(4,.ref (.hole)),(8,.aQ (ei ah)),(9,.aQ (.agg [.int .i64 od,.bool (ah.Kind==1)]))]):=by
  intro od h;refine ws [(2,.aQ (.ak 2 ((List.set a2 (Int.toNat a0) J).map ff))),(3,.ref (bg a3)),(4,.ref (.hole)),(8,.aQ (ei ah)),(9,.aQ (.agg [.int .i64 od,.bool (ah.Kind==1)])),(10,.int .i64 (i64.wrap (a0+1)))] ?_;refine az ag (λ_ cV cb _=>?_);obtain⟨aK,kg,h⟩:=aj h;refine cu (ZD ah _ kg) [(2,.aQ (.ak 2 ((List.set a2 (Int.toNat a0) J).map ff))),(3,.ref (bg a3)),(4,.ref (.hole)),(9,.aQ (.agg [.int .i64 od,.bool (ah.Kind==1)])),(10,.int .i64 (i64.wrap (a0+1))),(36,.int .i64 aK),(37,.int .i64 0)] ?_;refine bc cb (λG7 _ mz eV _=>?_);have Sc:∀n wk sX uL,zM pX a3 od ah aK n wk sX uL=some r->cF af Yy G7 (aq [(2,.aQ (.ak 2 (wk.map ff))),(3,.ref (bg a3)),(4,.ref (.hole)),(9,.aQ (.agg [.int .i64 od,.bool (ah.Kind==1)])),(10,.int .i64 sX),(36,.int .i64 aK),(37,.int .i64 uL)]):=by
   refine cZ (λ_ Sd wk sX uL h=>cX mz (λ_ fb e5 lM=>?_));refine ws _ ?_;refine az e5 (λ_ fE _ gT=>?_);refine aD h (λlV h=>?_) (λlV h=>?_)
   .refine aI (fE _ (.inl ?_));refine az e5 (λ_ jz kT _=>?_);refine bc kT (λ_ rR _ _ _=>?_);obtain⟨bd,gZ,h⟩:=aj h;refine agR [(2,.aQ (.ak 2 (bd.2.map ff))),(3,.ref (bg a3)),(4,.ref (.hole)),(9,.aQ (.agg [.int .i64 od,.bool (ah.Kind==1)])),(10,.int .i64 bd.1),(36,.int .i64 aK),(37,.int .i64 uL)] (λP bq=>?_) ?_
    ·(try simp only[aN.down,simprocAttr,sK]);refine W9 [⟨.int .i64 sX,false,_,.hole⟩,⟨.agg [.int .i64 od,.bool (ah.Kind==1)],false,_,.hole⟩,⟨.h 2 [],true,_,_⟩,⟨.ref (bg a3),false,_,.hole⟩,⟨.ref (.hole),false,_,.hole⟩] (ap8 sX (dB.mk od (ah.Kind==1)) wk a3 _ gZ) rfl (by simp only[aN.down,simprocAttr,sK,pj,pP,pQ,h8,h9,h_,cS,or_true,true_or, @bZ _ ff ff (λ_=>X0 _)]) rfl rfl (.inl rfl) ?_;simp only[aN.down,simprocAttr,sK,n7];(try simp only[ka.down,simprocAttr,sK]at bq⊢);exact bq
    refine rR _ (jz _ (.inl ?_));refine wr _ ?_;exact fb _ (.inr ⟨_,aW rfl,Sd bd.2 bd.1 (i64.wrap (uL+1)) h⟩)
   .refine cP (gT 0 _ (lM 0 _ (eV _ (cV _ (.inl ?_)))));refine ws _ ?_;exact au (ag _ (.inl (km [.int .i64 sX] rfl (by cases gk h;rfl) (by decide) (kM (dO (dO (n8 (by cases gk h;rfl) rfl rfl rfl (dO (dO (kN))))))))))
  obtain⟨n,h⟩:=cC h;exact cW (.inr ⟨_,aW rfl,Sc n (List.set a2 (Int.toNat a0) J) (i64.wrap (a0+1)) 0 h⟩)
 refine az ag (λ_ dn _ _=>?_);refine ws [(0,.int .i64 a0),(2,.aQ (.ak 2 ((List.set a2 (Int.toNat a0) J).map ff))),(3,.ref (bg a3)),(4,.ref (.hole)),(8,.aQ (ei ah)),(9,.aQ (.agg [.int .i64 J.scope,.bool (ah.Kind==1)])),(28,.bool (ah.Kind==4))] ?_;refine aD h (λhz h=>?_) (λhz h=>?_)
 .refine wr [(0,.int .i64 a0),(2,.aQ (.ak 2 ((List.set a2 (Int.toNat a0) J).map ff))),(3,.ref (bg a3)),(4,.ref (.hole)),(8,.aQ (ei ah)),(9,.aQ (.agg [.int .i64 (i64.wrap (J.scope+1)),.bool (ah.Kind==1)]))] ?_;exact dn _ (.inr ⟨_,aW rfl,ZF (i64.wrap (J.scope+1)) h⟩)
 .exact aI (dn _ (.inr ⟨_,aW rfl,ZF J.scope h⟩))
theorem ap9:∀n a0 J a2 a3 r,zN n a0 J a2 a3=some r->pk af 143 2 4 [.int .i64 a0,ff J,.aQ (.ak 2 (a2.map ff)),.ref (bg a3),.ref (.hole)] (.int .i64 r.1) [.hole,.hole,.aQ (.ak 2 (r.2.map ff)),.hole,.hole]:=by
 intro n;induction n with
 |zero=>intro a0 J a2 a3 r h;cases(show none=some r from h)
 |succ n ih=>intro a0 J a2 a3 r h;exact ap7 (zN n) ih a0 J a2 a3 r h
theorem ap_ (a0 J a2 a3 r) (h:JW a0 J a2 a3=some r):pk af 143 2 4 [.int .i64 a0,ff J,.aQ (.ak 2 (a2.map ff)),.ref (bg a3),.ref (.hole)] (.int .i64 r.1) [.hole,.hole,.aQ (.ak 2 (r.2.map ff)),.hole,.hole]:=by
 obtain⟨n,h⟩:=cC h;exact ap9 n a0 J a2 a3 r h
theorem Se (a0 r) (h:CE a0=some r):aV af 101 [bg a0] (.ak 2 (r.map ff)) []:=by
 refine aV.ahB (fx:=[0]) Ov [.tmp 2] [(0,bg a0)] Tryz.func101 rfl rfl ak4 (le_of_ble_eq_true rfl) ak3 rfl rfl (λbn ag bm=>?_);refine ws _ ?_;obtain⟨Lj,aM,h⟩:=aj h;refine qK (R (qc aM) @List.map_replicate.{0,0}) [(1,.aQ (bg a0)),(3,.aQ (.ak 2 ((List.replicate (Int.toNat (a0.Body.length:Int)) (dB.mk 0 false)).map ff)))] ?_;obtain⟨U,cv,h⟩:=aj h;refine ahw [(3,.aQ (.ak 2 (U.2.map ff)))] (λP bq=>?_) ?_
 ·(try simp only[aN.down,simprocAttr,(show∀s,gm af s 172 [(0,.int .i64 a0.ek)]=some (.agg [.int .i64 a0.ek,.bool false],s)from λs=>by kernel_rfl),sK]);refine W9 [⟨.int .i64 0,false,_,.hole⟩,⟨.agg [.int .i64 a0.ek,.bool false],false,_,.hole⟩,⟨.h 3 [],true,_,_⟩,⟨.h 1 [],false,_,.hole⟩,⟨.ref (.hole),false,_,.hole⟩] (ap_ 0 (dB.mk a0.ek false) (List.replicate (Int.toNat (a0.Body.length:Int)) (dB.mk 0 false)) a0 _ cv) rfl (by simp only[aN.down,simprocAttr,(show∀s,gm af s 172 [(0,.int .i64 a0.ek)]=some (.agg [.int .i64 a0.ek,.bool false],s)from λs=>by kernel_rfl),sK,pj,pP,pQ,h8,h9,h_,cS,or_true,true_or, @bZ _ ff ff (λ_=>X0 _), @bZ _ ei ei (λ_=>KP _)]) rfl rfl ((.inr (by simp only[xQ,I.c1,I.gV,Bool.and_self, @k1 _ ff (λ_=>ajs _)]))) ?_;simp only[aN.down,simprocAttr,(show∀s,gm af s 172 [(0,.int .i64 a0.ek)]=some (.agg [.int .i64 a0.ek,.bool false],s)from λs=>by kernel_rfl),sK,n7];(try simp only[ka.down,simprocAttr,(show∀s,gm af s 172 [(0,.int .i64 a0.ek)]=some (.agg [.int .i64 a0.ek,.bool false],s)from λs=>by kernel_rfl),sK]at bq⊢);exact bq
 refine ws _ ?_;exact au (ag _ (.inl (aw [.ak 2 (U.2.map ff)])))
theorem aqa (a0 r) (h:PG a0=some r):aV af 241 [ei a0] (.bool r) []:=by
 refine bs [0] [.tmp 2] Tryz.func241 ak5 (λbn ag bm=>?_);refine ws _ ?_;refine mY (a0.Kind==4) [(1,.aQ (ei a0)),(3,.bool ((a0.Kind==4)||(a0.Kind==5)))] ?_;refine eb (cr [(1,.aQ (ei a0)),(3,.bool ((a0.Kind==4)||(a0.Kind==5))),(4,.bool (((a0.Kind==1)||(a0.Kind==3))||(a0.Kind==5)))] (λP bq=>?_) ?_)
 ·(rcases Bool.eq_false_or_eq_true (a0.Kind==1)with mM|mM)<;>(rcases Bool.eq_false_or_eq_true (a0.Kind==3)with Sf|Sf)<;>
   (simp only[aN.down,simprocAttr,mM,Sf]
    exact b3 (R mM Sf))
 obtain⟨U,bY,h⟩:=aj h;refine eb (cr [(2,.bool (((U&&(((a0.Kind==4)||(a0.Kind==5))||(a0.Number==0)))&&((a0.Kind==1)||(a0.Name==([]:azc))))&&((((a0.Kind==1)||(a0.Kind==3))||(a0.Kind==5))||((a0.cL.length:Int)==0))))] (λP bq=>?_) ?_)
 ·(rcases Bool.eq_false_or_eq_true (U)with yh|yh)<;>(rcases Bool.eq_false_or_eq_true (a0.Kind==4)with rM|rM)<;>(rcases Bool.eq_false_or_eq_true (a0.Kind==5)with yp|yp)<;>(rcases Bool.eq_false_or_eq_true (a0.Number==0)with Lk|Lk)<;>(rcases Bool.eq_false_or_eq_true (a0.Kind==1)with Ll|Ll)<;>(rcases Bool.eq_false_or_eq_true (a0.Name==([]:azc))with Lm|Lm)<;>(rcases Bool.eq_false_or_eq_true (a0.Kind==3)with Ln|Ln)<;>
   ((try simp only[aN.down,simprocAttr,yh,rM,yp,Lk,Ll,Lm,Ln])
    refine dk (ir a0.Kind 0 5 _ bY) rfl rfl rfl rfl (.inl (by rfl)) ?_;simp only[aN.down,simprocAttr,yh,rM,yp,Lk,Ll,Lm,Ln];exact b3 (R yh (R rM (R yp (R Lk (R Ll (R Lm Ln)))))))
 exact au (ag _ (.inl (aw [.bool (((U&&(((a0.Kind==4)||(a0.Kind==5))||(a0.Number==0)))&&((a0.Kind==1)||(a0.Name==([]:azc))))&&((((a0.Kind==1)||(a0.Kind==3))||(a0.Kind==5))||((a0.cL.length:Int)==0)))])))
theorem mb (a0 r) (h:rr a0=some r):aV af 157 [.str a0] (.bool r) []:=by
 refine bs [0] [.tmp 2] Tryz.func157 c157 (λbn ag bm=>?_);refine ws _ ?_;obtain⟨U,aM,h⟩:=aj h;refine eb (cr [(2,.bool (U&&(!(a0==([116,97,117]:azc)))))] (λP bq=>?_) ?_)
 .rcases Bool.eq_false_or_eq_true (U)with mM|mM
  ·(try simp only[aN.down,simprocAttr,mM]);refine dk (Li a0 _ aM) rfl rfl rfl rfl (.inl (by rfl)) ?_;simp only[aN.down,simprocAttr,mM];exact b3 mM
  ·(try simp only[aN.down,simprocAttr,mM]);refine dk (Li a0 _ aM) rfl rfl rfl rfl (.inl (by rfl)) ?_;simp only[aN.down,simprocAttr,mM];exact b3 mM
 exact au (ag _ (.inl (aw [.bool (U&&(!(a0==([116,97,117]:azc))))])))
theorem yq (a0 J r) (h:x6 a0 J=some r):aV af 100 [.int .i64 a0,.int .i64 J] (.bool r) []:=by
 refine bs [0,1] [.tmp 4] Tryz.func100 ak6 (λbn ag bm=>?_);refine ws _ ?_;obtain⟨U,aM,h⟩:=aj h;refine cu (ir a0 0 (i64.wrap (J-1)) _ aM) _ ?_;exact au (ag _ (.inl (aw [.bool U])))
theorem aqb (a0 J r) (h:PH a0 J=some r):aV af 242 [ei a0,.slice (J.map bg)] (.bool r) []:=by
 refine bs [0,1] [.tmp 4] Tryz.func242 ak8 (λbn ag bm=>?_);refine ws _ ?_;refine ws _ ?_;refine az ag (λ_ eM cN _=>?_);refine ws _ ?_;refine bc cN (λ_ dZ c6 _ _=>?_);refine ws _ ?_;refine aD h (λnZ h=>?_) (λnZ h=>?_)
 .refine eb (cr [(4,.bool (((a0.cL.length:Int)==0)||((!(a0.Name==([116,97,117]:azc)))&&(decide ((a0.cL.length:Int)<=2)))))] (λP bq=>?_) ?_)
  ·(rcases Bool.eq_false_or_eq_true ((a0.cL.length:Int)==0)with rM|rM)<;>(rcases Bool.eq_false_or_eq_true (a0.Name==([116,97,117]:azc))with yp|yp)<;>
    (simp only[aN.down,simprocAttr,rM,yp]
     exact b3 (R rM yp))
  exact au (c6 _ (.inl (aw [.bool (((a0.cL.length:Int)==0)||((!(a0.Name==([116,97,117]:azc)))&&(decide ((a0.cL.length:Int)<=2))))])))
 .refine ws _ ?_;refine aD h (λeV h=>?_) (λeV h=>?_)
  .refine ws _ ?_;exact au (c6 _ (.inl (aw [.bool ((a0.cL.length:Int)==1)])))
  .refine ws _ ?_;refine aD h (λeB h=>?_) (λeB h=>?_)
   .obtain⟨U,dI,h⟩:=aj h;refine cR dI _ ?_;exact au (c6 _ (.inl (aw [.bool ((a0.cL.length:Int)==U.ek)])))
   .refine aI (dZ _ (eM _ (.inl ?_)));refine ws _ ?_;exact au (ag _ (.inl (aw [.bool true])))
theorem ZG (a0 r) (h:CF a0=some r):aV af 147 [.int .i64 a0] (.bool r) []:=by
 refine bs [0] [.tmp 2] Tryz.func147 ak9 (λbn ag bm=>?_);refine ws _ ?_;obtain⟨U,aM,h⟩:=aj h;refine cu (ir a0 0 63 _ aM) _ ?_;exact au (ag _ (.inl (aw [.bool U])))
theorem aqc (a0 J r) (h:JX a0 J=some r):aV af 265 [ef a0,.int .i64 J] (.bool r) []:=by
 refine bs [0,1] [.tmp 4] Tryz.func265 ak_ (λbn ag bm=>?_);refine ws _ ?_;refine az ag (λ_ bI a_ ah=>?_);refine ws _ ?_;refine bc a_ (λ_ eU bN _ _=>?_);refine ws _ ?_;refine aD h (λcn h=>?_) (λcn h=>?_)
 .obtain⟨U,fh,h⟩:=aj h;refine cu (ZG a0.Value _ fh) _ ?_;exact au (bN _ (.inl (aw [.bool U])))
 .refine ws _ ?_;refine aD h (λeQ h=>?_) (λeQ h=>?_)
  .obtain⟨ah,eJ,h⟩:=aj h;refine cu (ir a0.Value 0 (i64.wrap (J-1)) _ eJ) _ ?_;exact au (bN _ (.inl (aw [.bool ah])))
  .refine ws _ ?_;refine aD h (λgL h=>?_) (λgL h=>?_)
   .obtain⟨aK,cp,h⟩:=aj h;refine cu (ir a0.Value 0 8 _ cp) _ ?_;exact au (bN _ (.inl (aw [.bool aK])))
   .refine ws _ ?_;refine aD h (λhr h=>?_) (λhr h=>?_)
    .refine ws _ ?_;exact au (bN _ (.inl (aw [.bool (a0.Value==0)])))
    .refine aI (eU _ (bI _ (.inl ?_)));refine ws _ ?_;exact au (ag _ (.inl (aw [.bool false])))
theorem ZH (a0 r) (h:JY a0=some r):aV af 247 [ef a0] (.int .i64 r) []:=by
 refine bs [0] [.tmp 2] Tryz.func247 ala (λbn ag bm=>?_);refine ws _ ?_;refine az ag (λ_ bI a_ _=>?_);refine ws _ ?_;refine bc a_ (λ_ eU bN _ _=>?_);refine ws _ ?_;refine aD h (λcn h=>?_) (λcn h=>?_)
 .refine ws _ ?_;exact au (bN _ (.inl (aw [.int .i64 2])))
 .refine ws _ ?_;refine aD h (λeP h=>?_) (λeP h=>?_)
  .refine ws _ ?_;exact au (bN _ (.inl (aw [.int .i64 1])))
  .refine aI (eU _ (bI _ (.inl ?_)));refine ws _ ?_;exact au (ag _ (.inl (aw [.int .i64 0])))
theorem aqd (a0 J a2 r) (h:JZ a0 J a2=some r):aV af 245 [.slice (a0.map ef),.int .i64 J,.int .i64 a2] (.bool r) []:=by
 refine bs [0,1,2] [.tmp 6] Tryz.func245 alb (λbn ag bm=>?_);refine ws _ ?_;refine az ag (λ_ bI a_ ah=>?_);obtain⟨U,bT,h⟩:=aj h;rcases dc h with⟨cI,h⟩|⟨cI,h⟩
 .refine ea (hf cI) (ir J 0 29 _ bT) _ ?_;refine iU rfl ?_;refine ws _ ?_;exact au (a_ _ (.inl (aw [.bool false])))
 .obtain⟨ah,bY,h⟩:=aj h;rcases dc h with⟨bW,h⟩|⟨bW,h⟩
  .refine eb (cr [(0,.slice (a0.map ef)),(1,.int .i64 J),(24,.bool true)] (λP bq=>?_) ?_)
   ·(try simp only[aN.down,simprocAttr,(b6 cI),(hf bW)]);refine dk (ir J 0 29 _ bT) rfl rfl rfl rfl (.inl (by rfl)) ?_;simp only[aN.down,simprocAttr,(b6 cI),(hf bW)];refine gB (ir a2 1 60 _ bY) rfl rfl rfl rfl (.inl (by rfl)) ?_;simp only[aN.down,simprocAttr,(b6 cI),(hf bW)];exact b3 (R (b6 cI) (hf bW))
   refine iU rfl ?_;refine ws _ ?_;exact au (a_ _ (.inl (aw [.bool false])))
  .obtain⟨aK,gG,h⟩:=aj h;refine eb (cr [(0,.slice (a0.map ef)),(1,.int .i64 J),(24,.bool (!aK))] (λP bq=>?_) ?_)
   ·(try simp only[aN.down,simprocAttr,(b6 cI),(b6 bW)]);refine dk (ir J 0 29 _ bT) rfl rfl rfl rfl (.inl (by rfl)) ?_;simp only[aN.down,simprocAttr,(b6 cI),(b6 bW)];refine gB (ir a2 1 60 _ bY) rfl rfl rfl rfl (.inl (by rfl)) ?_;simp only[aN.down,simprocAttr,(b6 cI),(b6 bW)];refine gB (ir (a0.length:Int) 1 a2 _ gG) rfl rfl rfl rfl (.inl (by rfl)) ?_;simp only[aN.down,simprocAttr,(b6 cI),(b6 bW)];exact b3 (R (b6 cI) (b6 bW))
   refine aD h (λnu h=>?_) (λnu h=>?_)
   .refine ws _ ?_;exact au (a_ _ (.inl (aw [.bool false])))
   .refine aI (bI _ (.inl ?_));refine ws _ ?_;refine az ag (λ_ ej dL _=>?_);refine ws _ ?_;refine bc dL (λaqe _ lT lV _=>?_);show bj af (.loop ?jk) _ _;have jW:∀n jQ uM,CG a0 J n jQ uM=some r->cF af ?jk aqe (aq [(1,.int .i64 J),(7,.int .i64 jQ),(25,.slice (a0.map ef)),(26,.int .i64 (a0.length:Int)),(27,.int .i64 uM)]):=by
     refine cZ (λ_ jX jQ uM h=>cX lT (λ_ jz kT k5=>?_));refine ws _ ?_;refine az kT (λ_ oq _ mS=>?_);refine aD h (λga h=>?_) (λga h=>?_)
     .refine aI (oq _ (.inl ?_));refine az kT (λ_ rV vc _=>?_);refine bc vc (λ_ nv my _ _=>?_);obtain⟨bd,lx,h⟩:=aj h;refine cR lx _ ?_;refine az my (λ_ Aq p5 _=>?_);rcases dc h with⟨ou,h⟩|⟨ou,h⟩
      .refine cR ou _ ?_;refine iU rfl ?_;refine ws _ ?_;exact au (p5 _ (.inl (aw [.bool false])))
      .obtain⟨bo,pz,h⟩:=aj h;refine ea ou (aqc bd J _ pz) _ ?_;refine aD h (λpx h=>?_) (λpx h=>?_)
       .refine ws _ ?_;exact au (p5 _ (.inl (aw [.bool false])))
       .refine aI (Aq _ (.inl ?_));obtain⟨b0,lU,h⟩:=aj h;refine YT (ZH bd _ lU) _ ?_;refine nv _ (rV _ (.inl ?_));refine wr _ ?_;exact jz _ (.inr ⟨_,aW rfl,jX (i64.wrap (jQ+(i64.wrap (b0-1)))) (i64.wrap (uM+1)) h⟩)
     .refine cP (mS 0 _ (k5 0 _ (lV _ (ej _ (.inl ?_)))));refine ws _ ?_;exact au (ag _ (.inl (aw [.bool (jQ==0)])))
    obtain⟨n,h⟩:=cC h;exact cW (.inr ⟨_,aW rfl,jW n 1 0 h⟩)
theorem aqf (a0 J r) (h:PJ a0 J=some r):aV af 244 [.slice (a0.map ef),.ref (ff J)] (.bool r) []:=by
 refine bs [0,1] [.tmp 3] Tryz.func244 alc (λbn ag bm=>?_);refine ws _ ?_;obtain⟨U,aM,h⟩:=aj h;refine cu (aqd a0 J.scope 15 _ aM) _ ?_;exact au (ag _ (.inl (aw [.bool (!U)])))
theorem aqg (a0 J r) (h:PL a0 J=some r):aV af 264 [.slice (a0.map iY),.fn 244 [.ref (ff J)]] (.int .i64 r) []:=by
 refine bs [0,1] [.tmp 4] Tryz.func264 ald (λbn ag bm=>?_);refine ws _ ?_;refine az ag (λ_ bI a_ ah=>?_);refine ws _ ?_;refine bc a_ (λfy _ bN bw _=>?_);show bj af (.loop ?ft) _ _;have fV:∀n b4,Gf a0 J n b4=some r->cF af ?ft fy (aq [(0,.slice (a0.map iY)),(1,.fn 244 [.ref (ff J)]),(7,.int .i64 (a0.length:Int)),(8,.int .i64 b4)]):=by
  refine cZ (λ_ fl b4 h=>cX bN (λ_ dZ c6 bo=>?_));refine ws _ ?_;refine az c6 (λ_ dn _ br=>?_);refine aD h (λbW h=>?_) (λbW h=>?_)
  .refine aI (dn _ (.inl ?_));refine az c6 (λ_ cV cb _=>?_);refine bc cb (λ_ b5 cx _ _=>?_);refine ws _ ?_;obtain⟨U,e0,h⟩:=aj h;obtain⟨ah,dp,h⟩:=aj h;refine ea e0 (aqf U J _ dp) _ ?_;refine aD h (λeB h=>?_) (λeB h=>?_)
   .refine ws _ ?_;exact au (cx _ (.inl (aw [.int .i64 b4])))
   .refine aI (b5 _ (cV _ (.inl ?_)));refine wr _ ?_;exact dZ _ (.inr ⟨_,aW rfl,fl (i64.wrap (b4+1)) h⟩)
  .refine cP (br 0 _ (bo 0 _ (bw _ (bI _ (.inl ?_)))));refine ws _ ?_;exact au (ag _ (.inl (aw [.int .i64 (-1)])))
 obtain⟨n,h⟩:=cC h;exact cW (.inr ⟨_,aW rfl,fV n 0 h⟩)
theorem aqh (a0 J r) (h:J0 a0 J=some r):aV af 243 [.slice (a0.map iY),.fn 244 [.ref (ff J)]] (.bool r) []:=by
 refine bs [0,1] [.tmp 4] Tryz.func243 ale (λbn ag bm=>?_);refine ws _ ?_;obtain⟨U,aM,h⟩:=aj h;refine cu (aqg a0 J _ aM) _ ?_;exact au (ag _ (.inl (aw [.bool (decide (0<=U))])))
theorem aqi (a0 J a2 r) (h:Gj a0 J a2=some r):aV af 213 [ei a0,.slice (J.map bg),ff a2] (.int .i64 r) []:=by
 refine bs [0,1,2] [.tmp 6] Tryz.func213 c213 (λbn ag bm=>?_);refine ws _ ?_;refine az ag (λ_ bI a_ ah=>?_);refine bc a_ (λZI eM cN _ aK=>?_);obtain⟨U,cv,h⟩:=aj h;refine cu (aqa a0 _ cv) _ ?_;refine aD h (λcn h=>?_) (λcn h=>?_)
 .refine ws _ ?_;exact au (cN _ (.inl (aw [.int .i64 2])))
 .skip;have rL:∀Gi,Gh a0 J a2 Gi=some r->bj af YC ZI (aq [(1,.slice (J.map bg)),(3,.aQ (ei a0)),(5,.aQ (ff a2)),(11,.bool Gi)]):=by
   intro Gi h;refine aD h (λbW h=>?_) (λbW h=>?_)
   .refine ws _ ?_;exact au (cN _ (.inl (aw [.int .i64 3])))
   .skip;have Hq:∀Gg,zO a0 J a2 Gg=some r->bj af YB ZI (aq [(1,.slice (J.map bg)),(3,.aQ (ei a0)),(5,.aQ (ff a2)),(26,.bool Gg)]):=by
     intro Gg h;refine aD h (λeQ h=>?_) (λeQ h=>?_)
     .refine ws _ ?_;exact au (cN _ (.inl (aw [.int .i64 4])))
     .obtain⟨ah,e0,h⟩:=aj h;refine cu (aqb a0 J _ e0) _ ?_;refine aD h (λgL h=>?_) (λgL h=>?_)
      .refine ws _ ?_;exact au (cN _ (.inl (aw [.int .i64 5])))
      .refine mY (a0.Kind==5) [(3,.aQ (ei a0)),(5,.aQ (ff a2)),(54,.bool ((a0.Kind==5)&&(!a2.behind)))] ?_;refine aD h (λkS h=>?_) (λkS h=>?_)
       .refine ws _ ?_;exact au (cN _ (.inl (aw [.int .i64 6])))
       .refine mY (a0.Kind==4) [(3,.aQ (ei a0)),(5,.aQ (ff a2)),(63,.bool ((a0.Kind==4)&&(decide (6<=a2.scope))))] ?_;refine aD h (λga h=>?_) (λga h=>?_)
        .refine ws _ ?_;exact au (cN _ (.inl (aw [.int .i64 7])))
        .obtain⟨aK,iA,h⟩:=aj h;refine eb (cr [(72,.bool aK)] (λP bq=>?_) ?_)
         ·(try simp only[aN.down,simprocAttr]);refine dk (aqh a0.cL a2 _ iA) rfl rfl (by simp only[aN.down,simprocAttr,yg.down]<;>rfl) rfl (.inr (by rfl)) ?_;simp only[aN.down,simprocAttr];exact b3 trivial
         refine aD h (λhz h=>?_) (λhz h=>?_)
         .refine ws _ ?_;exact au (cN _ (.inl (aw [.int .i64 8])))
         .refine aI (eM _ (bI _ (.inl ?_)));refine ws _ ?_;exact au (ag _ (.inl (aw [.int .i64 0])))
    rcases dc h with⟨jA,h⟩|⟨jA,h⟩
    .obtain⟨bd,pz,h⟩:=aj h;rcases dc h with⟨px,h⟩|⟨px,h⟩
     .refine l9 (cr (K:=eI _) [(1,.slice (J.map bg)),(3,.aQ (ei a0)),(5,.aQ (ff a2)),(26,.bool true)] (λP bq=>?_) ?_)
      ·(try simp only[aN.down,simprocAttr,jA,(hf px)]);refine gB (ir a0.Number 1 7 _ pz) rfl rfl rfl rfl (.inl (by rfl)) ?_;simp only[aN.down,simprocAttr,jA,(hf px)];exact b3 (R jA (hf px))
      exact .inr ⟨_,aW rfl,Hq true h⟩
     .rcases dc h with⟨g_,h⟩|⟨g_,h⟩
      .obtain⟨bo,tk,h⟩:=aj h;refine l9 (cr (K:=eI _) [(1,.slice (J.map bg)),(3,.aQ (ei a0)),(5,.aQ (ff a2)),(26,.bool (!bo))] (λP bq=>?_) ?_)
       ·(try simp only[aN.down,simprocAttr,jA,(b6 px),g_]);refine gB (ir a0.Number 1 7 _ pz) rfl rfl rfl rfl (.inl (by rfl)) ?_;simp only[aN.down,simprocAttr,jA,(b6 px),g_];refine gB (yq a0.Number (J.length:Int) _ tk) rfl rfl rfl rfl (.inl (by rfl)) ?_;simp only[aN.down,simprocAttr,jA,(b6 px),g_];exact b3 (R jA (R (b6 px) g_))
       exact .inr ⟨_,aW rfl,Hq (!bo) h⟩
      .refine l9 (cr (K:=eI _) [(1,.slice (J.map bg)),(3,.aQ (ei a0)),(5,.aQ (ff a2)),(26,.bool false)] (λP bq=>?_) ?_)
       ·(try simp only[aN.down,simprocAttr,jA,(b6 px),g_]);refine gB (ir a0.Number 1 7 _ pz) rfl rfl rfl rfl (.inl (by rfl)) ?_;simp only[aN.down,simprocAttr,jA,(b6 px),g_];exact b3 (R jA (R (b6 px) g_))
       exact .inr ⟨_,aW rfl,Hq false h⟩
    .rcases dc h with⟨jq,h⟩|⟨jq,h⟩
     .obtain⟨b0,jo,h⟩:=aj h;refine l9 (cr (K:=eI _) [(1,.slice (J.map bg)),(3,.aQ (ei a0)),(5,.aQ (ff a2)),(26,.bool (!b0))] (λP bq=>?_) ?_)
      ·(try simp only[aN.down,simprocAttr,jA,jq]);refine gB (yq a0.Number (J.length:Int) _ jo) rfl rfl rfl rfl (.inl (by rfl)) ?_;simp only[aN.down,simprocAttr,jA,jq];exact b3 (R jA jq)
      exact .inr ⟨_,aW rfl,Hq (!b0) h⟩
     .refine l9 (cr (K:=eI _) [(1,.slice (J.map bg)),(3,.aQ (ei a0)),(5,.aQ (ff a2)),(26,.bool false)] (λP bq=>?_) ?_)
      .simp only[aN.down,simprocAttr,jA,jq];exact b3 (R jA jq)
      exact .inr ⟨_,aW rfl,Hq false h⟩
  rcases dc h with⟨nN,h⟩|⟨nN,h⟩
  .rcases dc h with⟨p6,h⟩|⟨p6,h⟩
   .obtain⟨br,tm,h⟩:=aj h;refine l9 (cr (K:=eI _) [(1,.slice (J.map bg)),(3,.aQ (ei a0)),(5,.aQ (ff a2)),(11,.bool (!br))] (λP bq=>?_) ?_)
    ·(try simp only[aN.down,simprocAttr,nN,p6]);refine gB (mb a0.Name _ tm) rfl rfl rfl rfl (.inl (by rfl)) ?_;simp only[aN.down,simprocAttr,nN,p6];exact b3 (R nN p6)
    exact .inr ⟨_,aW rfl,rL (!br) h⟩
   .refine l9 (cr (K:=eI _) [(1,.slice (J.map bg)),(3,.aQ (ei a0)),(5,.aQ (ff a2)),(11,.bool false)] (λP bq=>?_) ?_)
    .simp only[aN.down,simprocAttr,nN,p6];exact b3 (R nN p6)
    exact .inr ⟨_,aW rfl,rL false h⟩
  .refine l9 (cr (K:=eI _) [(1,.slice (J.map bg)),(3,.aQ (ei a0)),(5,.aQ (ff a2)),(11,.bool false)] (λP bq=>?_) ?_)
   .simp only[aN.down,simprocAttr,nN];exact b3 nN
   exact .inr ⟨_,aW rfl,rL false h⟩
theorem aqj (a0 J r) (h:Gk a0 J=some r):aV af 177 [.slice (a0.map bg),bg J] (.tuple [.int .i64 r.1,.int .i64 r.2]) []:=by
 refine bs [0,1] [.tmp 4,.tmp 5] Tryz.func177 ali (λbn ag bm=>?_);refine ws _ ?_;refine az ag (λ_ bI a_ ah=>?_);obtain⟨U,bT,h⟩:=aj h;rcases dc h with⟨cI,h⟩|⟨cI,h⟩
 .refine lS (hf cI) (ir (J.Body.length:Int) 1 20 _ bT) _ ?_;refine iU rfl ?_;refine ws _ ?_;exact au (a_ _ (.inl (aw [.int .i64 0,.int .i64 1])))
 .obtain⟨ah,bY,h⟩:=aj h;refine iT rfl (h7 [(0,.slice (a0.map bg)),(3,.aQ (bg J)),(22,.bool (ah !=(J.Body.length:Int)))] (λP bq=>?_) ?_)
  ·(try simp only[cU.down,simprocAttr,(b6 cI)]);refine hx (ir (J.Body.length:Int) 1 20 _ bT) rfl rfl rfl rfl (.inl (by rfl)) ?_;simp only[cU.down,simprocAttr,(b6 cI)];refine lI (ZE J 0 _ bY) rfl rfl rfl rfl (.inl (by rfl)) ?_;simp only[cU.down,simprocAttr,(b6 cI)];refine⟨hE (by kernel_rfl),?_⟩;exact b3 (b6 cI)
  refine aD h (λbW h=>?_) (λbW h=>?_)
  .refine ws _ ?_;exact au (a_ _ (.inl (aw [.int .i64 0,.int .i64 1])))
  .refine aI (bI _ (.inl ?_));obtain⟨aK,kg,h⟩:=aj h;refine cu (Se J _ kg) _ ?_;refine az ag (λ_ gY mz _=>?_);refine ws _ ?_;refine bc mz (λAc _ dL gL _=>?_);show bj af (.loop ?jk) _ _;have jW:∀n qx,zP a0 J aK n qx=some r->cF af ?jk Ac (aq [(0,.slice (a0.map bg)),(6,.ak 2 (aK.map ff)),(26,.slice (J.Body.map ei)),(27,.int .i64 (J.Body.length:Int)),(28,.int .i64 qx)]):=by
    refine cZ (λ_ jX qx h=>cX dL (λ_ fE fK gT=>?_));refine ws _ ?_;refine az fK (λ_ jz _ k5=>?_);refine aD h (λhr h=>?_) (λhr h=>?_)
    .refine aI (jz _ (.inl ?_));refine az fK (λ_ oq wC _=>?_);refine bc wC (λ_ u9 u_ _ _=>?_);obtain⟨bd,gN,h⟩:=aj h;refine cR gN _ ?_;obtain⟨bo,lx,h⟩:=aj h;obtain⟨b0,h2,h⟩:=aj h;refine lS (R lx (dy lx)) (aqi bd a0 bo _ h2) _ ?_;refine ws _ ?_;refine aD h (λou h=>?_) (λou h=>?_)
     .refine ws _ ?_;exact au (u_ _ (.inl (aw [.int .i64 qx,.int .i64 b0])))
     .refine aI (u9 _ (oq _ (.inl ?_)));refine wr _ ?_;exact fE _ (.inr ⟨_,aW rfl,jX (i64.wrap (qx+1)) h⟩)
    .refine cP (k5 0 _ (gT 0 _ (gL _ (gY _ (.inl ?_)))));refine ws _ ?_;exact au (ag _ (.inl (aw [.int .i64 0,.int .i64 0])))
   obtain⟨n,h⟩:=cC h;exact cW (.inr ⟨_,aW rfl,jW n 0 h⟩)
theorem aqk (a0 r) (h:J2 a0=some r):aV af 137 [.slice (a0.map bg)] (.bool r) []:=by
 refine bs [0] [.tmp 2] Tryz.func137 alj (λbn ag bm=>?_);refine ws _ ?_;refine az ag (λ_ bI a_ ah=>?_);obtain⟨U,bT,h⟩:=aj h;rcases dc h with⟨cI,h⟩|⟨cI,h⟩
 .refine ea (hf cI) (ir (a0.length:Int) 1 4 _ bT) _ ?_;refine iU rfl ?_;refine ws _ ?_;exact au (a_ _ (.inl (aw [.bool false])))
 .obtain⟨ah,bY,h⟩:=aj h;refine eb (cr [(0,.slice (a0.map bg)),(15,.bool (!ah))] (λP bq=>?_) ?_)
  ·(try simp only[aN.down,simprocAttr,(b6 cI)]);refine dk (ir (a0.length:Int) 1 4 _ bT) rfl rfl rfl rfl (.inl (by rfl)) ?_;simp only[aN.down,simprocAttr,(b6 cI)];refine gB (ap2 a0 _ bY) rfl rfl rfl rfl (.inl (by rfl)) ?_;simp only[aN.down,simprocAttr,(b6 cI)];exact b3 (b6 cI)
  refine aD h (λbW h=>?_) (λbW h=>?_)
  .refine ws _ ?_;exact au (a_ _ (.inl (aw [.bool false])))
  .refine aI (bI _ (.inl ?_));refine az ag (λ_ b5 cx _=>?_);refine ws _ ?_;refine bc cx (λG7 _ mz eV _=>?_);show bj af (.loop ?gw) _ _;have gM:∀n ru,CH a0 n ru=some r->cF af ?gw G7 (aq [(0,.slice (a0.map bg)),(16,.slice (a0.map bg)),(17,.int .i64 (a0.length:Int)),(18,.int .i64 ru)]):=by
    refine cZ (λ_ gx ru h=>cX mz (λ_ fb e5 lM=>?_));refine ws _ ?_;refine az e5 (λ_ fE _ gT=>?_);refine aD h (λlV h=>?_) (λlV h=>?_)
    .refine aI (fE _ (.inl ?_));refine az e5 (λ_ jz kT _=>?_);refine bc kT (λ_ rR wK _ _=>?_);obtain⟨aK,gZ,h⟩:=aj h;refine cR gZ _ ?_;refine az wK (λ_ rV vc _=>?_);obtain⟨bd,iA,h⟩:=aj h;rcases dc h with⟨hz,h⟩|⟨hz,h⟩
     .refine lS (hf hz) (Li aK.Name _ iA) _ ?_;refine iU rfl ?_;refine ws _ ?_;exact au (vc _ (.inl (aw [.bool false])))
     .obtain⟨bo,ti,h⟩:=aj h;obtain⟨b0,tc,h⟩:=aj h;refine iT rfl (h7 [(0,.slice (a0.map bg)),(4,.aQ (bg aK)),(16,.slice (a0.map bg)),(17,.int .i64 (a0.length:Int)),(18,.int .i64 ru),(35,.bool (decide (0<=b0)))] (λP bq=>?_) ?_)
      ·(try simp only[cU.down,simprocAttr,(b6 hz),ti, @jN _ bg 3 (λ_=>rfl)]);refine hx (Li aK.Name _ iA) rfl rfl rfl rfl (.inl (by rfl)) ?_;simp only[cU.down,simprocAttr,(b6 hz),ti, @jN _ bg 3 (λ_=>rfl)];refine lI (ap6 bo aK.Name _ tc) rfl rfl rfl rfl (.inl (by rfl)) ?_;simp only[cU.down,simprocAttr,(b6 hz),ti, @jN _ bg 3 (λ_=>rfl)];refine⟨hE (by kernel_rfl),?_⟩;exact b3 (R (b6 hz) (R ti (@jN _ bg 3 (λ_=>rfl))))
      refine aD h (λjA h=>?_) (λjA h=>?_)
      .refine ws _ ?_;exact au (vc _ (.inl (aw [.bool false])))
      .refine aI (rV _ (.inl ?_));obtain⟨br,rS,h⟩:=aj h;refine cu (aqj a0 aK _ rS) _ ?_;refine ws _ ?_;refine aD h (λjq h=>?_) (λjq h=>?_)
       .refine ws _ ?_;exact au (wK _ (.inl (aw [.bool false])))
       .refine aI (rR _ (jz _ (.inl ?_)));refine wr _ ?_;exact fb _ (.inr ⟨_,aW rfl,gx (i64.wrap (ru+1)) h⟩)
    .refine cP (gT 0 _ (lM 0 _ (eV _ (b5 _ (.inl ?_)))));refine ws _ ?_;exact au (ag _ (.inl (aw [.bool true])))
   obtain⟨n,h⟩:=cC h;exact cW (.inr ⟨_,aW rfl,gM n 0 h⟩)
theorem aql (a0 r) (h:J3 a0=some r):aV af 146 [.int .i64 a0] (.bool r) []:=by
 refine bs [0] [.tmp 2] Tryz.func146 c146 (λbn ag bm=>?_);refine ws _ ?_;obtain⟨U,aM,h⟩:=aj h;refine cu (ZG a0 _ aM) _ ?_;exact au (ag _ (.inl (aw [.bool (!U)])))
theorem aqm (a0 r) (h:J4 a0=some r):aV af 182 [.slice (a0.map a1),.fn 146 []] (.int .i64 r) []:=by
 refine bs [0,1] [.tmp 4] Tryz.func182 c182 (λbn ag bm=>?_);refine ws _ ?_;refine az ag (λ_ bI a_ ah=>?_);refine ws _ ?_;refine bc a_ (λfy _ bN bw _=>?_);show bj af (.loop ?ft) _ _;have fV:∀n b4,x7 a0 n b4=some r->cF af ?ft fy (aq [(0,.slice (a0.map a1)),(1,.fn 146 []),(7,.int .i64 (a0.length:Int)),(8,.int .i64 b4)]):=by
  refine cZ (λ_ fl b4 h=>cX bN (λ_ dZ c6 bo=>?_));refine ws _ ?_;refine az c6 (λ_ dn _ br=>?_);refine aD h (λbW h=>?_) (λbW h=>?_)
  .refine aI (dn _ (.inl ?_));refine az c6 (λ_ cV cb _=>?_);refine bc cb (λ_ b5 cx _ _=>?_);refine ws _ ?_;obtain⟨U,e0,h⟩:=aj h;obtain⟨ah,dp,h⟩:=aj h;refine ea e0 (aql U _ dp) _ ?_;refine aD h (λeB h=>?_) (λeB h=>?_)
   .refine ws _ ?_;exact au (cx _ (.inl (aw [.int .i64 b4])))
   .refine aI (b5 _ (cV _ (.inl ?_)));refine wr _ ?_;exact dZ _ (.inr ⟨_,aW rfl,fl (i64.wrap (b4+1)) h⟩)
  .refine cP (br 0 _ (bo 0 _ (bw _ (bI _ (.inl ?_)))));refine ws _ ?_;exact au (ag _ (.inl (aw [.int .i64 (-1)])))
 obtain⟨n,h⟩:=cC h;exact cW (.inr ⟨_,aW rfl,fV n 0 h⟩)
theorem aqn (a0 r) (h:J5 a0=some r):aV af 145 [.slice (a0.map a1),.fn 146 []] (.bool r) []:=by
 refine bs [0,1] [.tmp 4] Tryz.func145 c145 (λbn ag bm=>?_);refine ws _ ?_;obtain⟨U,aM,h⟩:=aj h;refine cu (aqm a0 _ aM) _ ?_;exact au (ag _ (.inl (aw [.bool (decide (0<=U))])))
theorem Sg (a0 r) (h:x8 a0=some r):aV af 102 [.slice (a0.map a1)] (.bool r) []:=by
 refine bs [0] [.tmp 2] Tryz.func102 alk (λbn ag bm=>?_);refine ws _ ?_;obtain⟨U,aM,h⟩:=aj h;refine cu (aqn a0 _ aM) _ ?_;exact au (ag _ (.inl (aw [.bool (!U)])))
theorem aqo (a0 J r) (h:J6 a0 J=some r):aV af 140 [.slice (a0.map bg),dm J] (.bool r) []:=by
 refine bs [0,1] [.tmp 4] Tryz.func140 alm (λbn ag bm=>?_);refine ws _ ?_;obtain⟨U,aM,h⟩:=aj h;rcases dc h with⟨bw,h⟩|⟨bw,h⟩
 .obtain⟨ah,cv,h⟩:=aj h;rcases dc h with⟨cn,h⟩|⟨cn,h⟩
  .obtain⟨aK,bY,h⟩:=aj h;refine iT rfl (h7 [(4,.bool aK)] (λP bq=>?_) ?_)
   ·(try simp only[cU.down,simprocAttr,bw,cv,cn]);refine hx (yq J.cE (a0.length:Int) _ aM) rfl rfl rfl rfl (.inl (by rfl)) ?_;simp only[cU.down,simprocAttr,bw,cv,cn];refine lI (Sg J.bV _ bY) rfl rfl rfl rfl (.inl (by rfl)) ?_;simp only[cU.down,simprocAttr,bw,cv,cn];refine⟨hE (by kernel_rfl),?_⟩;exact b3 (R bw (R cv cn))
   exact au (ag _ (.inl (aw [.bool aK])))
  .refine lS (R bw (R cv cn)) (yq J.cE (a0.length:Int) _ aM) _ ?_;exact au (ag _ (.inl (aw [.bool false])))
 .refine lS bw (yq J.cE (a0.length:Int) _ aM) _ ?_;exact au (ag _ (.inl (aw [.bool false])))
theorem aqp (a0 J r) (h:PN a0 J=some r):aV af 139 [dm a0,.ref (fk J)] (.bool r) []:=by
 refine bs [0,1] [.tmp 3] Tryz.func139 c139 (λbn ag bm=>?_);refine ws _ ?_;obtain⟨U,aM,h⟩:=aj h;refine cu (aqo J.cw a0 _ aM) _ ?_;exact au (ag _ (.inl (aw [.bool (!U)])))
theorem aqq (a0 J r) (h:PQ a0 J=some r):aV af 178 [.slice (a0.map dm),.fn 139 [.ref (fk J)]] (.int .i64 r) []:=by
 refine bs [0,1] [.tmp 4] Tryz.func178 aln (λbn ag bm=>?_);refine ws _ ?_;refine az ag (λ_ bI a_ ah=>?_);refine ws _ ?_;refine bc a_ (λfy _ bN bw _=>?_);show bj af (.loop ?ft) _ _;have fV:∀n b4,Gm a0 J n b4=some r->cF af ?ft fy (aq [(0,.slice (a0.map dm)),(1,.fn 139 [.ref (fk J)]),(7,.int .i64 (a0.length:Int)),(8,.int .i64 b4)]):=by
  refine cZ (λ_ fl b4 h=>cX bN (λ_ dZ c6 bo=>?_));refine ws _ ?_;refine az c6 (λ_ dn _ br=>?_);refine aD h (λbW h=>?_) (λbW h=>?_)
  .refine aI (dn _ (.inl ?_));refine az c6 (λ_ cV cb _=>?_);refine bc cb (λ_ b5 cx _ _=>?_);refine ws _ ?_;obtain⟨U,e0,h⟩:=aj h;obtain⟨ah,dp,h⟩:=aj h;refine ea e0 (aqp U J _ dp) _ ?_;refine aD h (λeB h=>?_) (λeB h=>?_)
   .refine ws _ ?_;exact au (cx _ (.inl (aw [.int .i64 b4])))
   .refine aI (b5 _ (cV _ (.inl ?_)));refine wr _ ?_;exact dZ _ (.inr ⟨_,aW rfl,fl (i64.wrap (b4+1)) h⟩)
  .refine cP (br 0 _ (bo 0 _ (bw _ (bI _ (.inl ?_)))));refine ws _ ?_;exact au (ag _ (.inl (aw [.int .i64 (-1)])))
 obtain⟨n,h⟩:=cC h;exact cW (.inr ⟨_,aW rfl,fV n 0 h⟩)
theorem aqr (a0 J r) (h:J7 a0 J=some r):aV af 138 [.slice (a0.map dm),.fn 139 [.ref (fk J)]] (.bool r) []:=by
 refine bs [0,1] [.tmp 4] Tryz.func138 c138 (λbn ag bm=>?_);refine ws _ ?_;obtain⟨U,aM,h⟩:=aj h;refine cu (aqq a0 J _ aM) _ ?_;exact au (ag _ (.inl (aw [.bool (decide (0<=U))])))
theorem ZJ (a0 r) (h:J8 a0=some r):aV af 266 [.str a0] (.bool r) []:=by
 refine bs [0] [.tmp 2] Tryz.func266 alo (λbn ag bm=>?_);refine ws _ ?_;refine ws _ ?_;exact au (ag _ (.inl (aw [.bool false])))
theorem aqs (a0 J r) (h:J9 a0 J=some r):aV af 246 [.str a0,.str J] (.int .i64 r) []:=by
 refine bs [0,1] [.tmp 4] Tryz.func246 alp (λbn ag bm=>?_);refine ws _ ?_;obtain⟨U,aM,h⟩:=aj h;refine cu (ZJ a0 _ aM) _ ?_;obtain⟨ah,cv,h⟩:=aj h;refine cu (ZJ J _ cv) _ ?_;refine az ag (λ_ db cO _=>?_);refine ws _ ?_;refine aD h (λbW h=>?_) (λbW h=>?_)
 .refine az cO (λ_ cV cb _=>?_);refine ws _ ?_;refine aD h (λnu h=>?_) (λnu h=>?_)
  .refine ws _ ?_;exact au (cb _ (.inl (aw [.int .i64 0])))
  .refine aI (cV _ (.inl ?_));refine ws _ ?_;exact au (cO _ (.inl (aw [.int .i64 (-1)])))
 .refine aI (db _ (.inl ?_));refine az ag (λ_ ej dL _=>?_);refine ws _ ?_;refine aD h (λlV h=>?_) (λlV h=>?_)
  .refine ws _ ?_;exact au (dL _ (.inl (aw [.int .i64 1])))
  .refine aI (ej _ (.inl ?_));refine az ag (λ_ rR wK _=>?_);refine ws _ ?_;refine aD h (λga h=>?_) (λga h=>?_)
   .refine ws _ ?_;exact au (wK _ (.inl (aw [.int .i64 (-1)])))
   .refine aI (rR _ (.inl ?_));refine az ag (λ_ nv my _=>?_);refine ws _ ?_;refine aD h (λhz h=>?_) (λhz h=>?_)
    .refine ws _ ?_;exact au (my _ (.inl (aw [.int .i64 1])))
    .refine aI (nv _ (.inl ?_));refine ws _ ?_;exact au (ag _ (.inl (aw [.int .i64 0])))
theorem aqt (a0 J r) (h:Ka a0 J=some r):aV af 214 [.slice (a0.map aX),.slice (J.map aX)] (.int .i64 r) []:=by
 refine bs [0,1] [.tmp 4] Tryz.func214 alq (λbn ag bm=>?_);refine ws _ ?_;refine az ag (λ_ bI a_ ah=>?_);refine ws _ ?_;refine bc a_ (λfy _ bN bw _=>?_);show bj af (.loop ?ft) _ _;have fV:∀n rv,J_ a0 J n rv=some r->cF af ?ft fy (aq [(0,.slice (a0.map aX)),(1,.slice (J.map aX)),(9,.slice (a0.map aX)),(10,.int .i64 (a0.length:Int)),(11,.int .i64 rv)]):=by
  refine cZ (λ_ fl rv h=>cX bN (λ_ dZ c6 bo=>?_));refine ws _ ?_;refine az c6 (λ_ dn _ br=>?_);refine aD h (λbW h=>?_) (λbW h=>?_)
  .refine aI (dn _ (.inl ?_));refine az c6 (λ_ cV cb _=>?_);refine bc cb (λ_ b5 cx _ _=>?_);obtain⟨U,eJ,h⟩:=aj h;refine cR eJ _ ?_;refine az cx (λ_ fb e5 _=>?_);refine ws _ ?_;refine aD h (λeB h=>?_) (λeB h=>?_)
   .refine ws _ ?_;exact au (e5 _ (.inl (aw [.int .i64 1])))
   .refine aI (fb _ (.inl ?_));obtain⟨ah,eT,h⟩:=aj h;refine cR eT _ ?_;obtain⟨aK,gZ,h⟩:=aj h;refine cu (aqs U ah _ gZ) _ ?_;refine ws _ ?_;refine aD h (λtd h=>?_) (λtd h=>?_)
    .refine ws _ ?_;exact au (cx _ (.inl (aw [.int .i64 aK])))
    .refine aI (b5 _ (cV _ (.inl ?_)));refine wr _ ?_;exact dZ _ (.inr ⟨_,aW rfl,fl (i64.wrap (rv+1)) h⟩)
  .refine cP (br 0 _ (bo 0 _ (bw _ (bI _ (.inl ?_)))));refine az ag (λ_ Aq p5 _=>?_);refine ws _ ?_;refine aD h (λou h=>?_) (λou h=>?_)
   .refine ws _ ?_;exact au (p5 _ (.inl (aw [.int .i64 (-1)])))
   .refine aI (Aq _ (.inl ?_));refine ws _ ?_;exact au (ag _ (.inl (aw [.int .i64 0])))
 obtain⟨n,h⟩:=cC h;exact cW (.inr ⟨_,aW rfl,fV n 0 h⟩)
theorem aqu (a0 J r) (h:Kb a0 J=some r):aV af 179 [bS a0,bS J] (.int .i64 r) []:=by
 refine bs [0,1] [.tmp 4] Tryz.func179 alr (λbn ag bm=>?_);refine ws _ ?_;obtain⟨U,aM,h⟩:=aj h;refine eb (cr [(4,.int .i64 U)] (λP bq=>?_) ?_)
 ·(try simp only[aN.down,simprocAttr,(show∀s,dS af s 25 2 [(0,.str a0.Left),(1,.str a0.cY)]=some (.ak 1 [.str a0.Left,.str a0.cY],s)from λs=>by kernel_rfl),(show∀s,dS af s 25 2 [(0,.str J.Left),(1,.str J.cY)]=some (.ak 1 [.str J.Left,.str J.cY],s)from λs=>by kernel_rfl)]);refine dk (aqt [a0.Left,a0.cY] [J.Left,J.cY] _ aM) rfl rfl (by simp only[aN.down,simprocAttr,(show∀s,dS af s 25 2 [(0,.str a0.Left),(1,.str a0.cY)]=some (.ak 1 [.str a0.Left,.str a0.cY],s)from λs=>by kernel_rfl),(show∀s,dS af s 25 2 [(0,.str J.Left),(1,.str J.cY)]=some (.ak 1 [.str J.Left,.str J.cY],s)from λs=>by kernel_rfl),h8,h9,h_,cS,I.shares, @bZ _ aX aX (λ_=>lu _), @bZ _ aX aX (λ_=>lu _)]<;>rfl) rfl (.inr (by rfl)) ?_;simp only[aN.down,simprocAttr,(show∀s,dS af s 25 2 [(0,.str a0.Left),(1,.str a0.cY)]=some (.ak 1 [.str a0.Left,.str a0.cY],s)from λs=>by kernel_rfl),(show∀s,dS af s 25 2 [(0,.str J.Left),(1,.str J.cY)]=some (.ak 1 [.str J.Left,.str J.cY],s)from λs=>by kernel_rfl)];exact b3 (R (show∀s,dS af s 25 2 [(0,.str a0.Left),(1,.str a0.cY)]=some (.ak 1 [.str a0.Left,.str a0.cY],s)from λs=>by kernel_rfl) (show∀s,dS af s 25 2 [(0,.str J.Left),(1,.str J.cY)]=some (.ak 1 [.str J.Left,.str J.cY],s)from λs=>by kernel_rfl))
 exact au (ag _ (.inl (aw [.int .i64 U])))
theorem aqv (a0 J r) (h:PR a0 J=some r):aV af 181 [bS a0,.ref (bS J)] (.bool r) []:=by
 refine bs [0,1] [.tmp 3] Tryz.func181 als (λbn ag bm=>?_);refine ws _ ?_;refine mY (a0.Left==J.Result) [(3,.bool ((a0.Left==J.Result)||(a0.cY==J.Result)))] ?_;exact au (ag _ (.inl (aw [.bool ((a0.Left==J.Result)||(a0.cY==J.Result))])))
theorem aqw (a0 J r) (h:PT a0 J=some r):aV af 162 [.slice (a0.map bS),.fn 181 [.ref (bS J)]] (.int .i64 r) []:=by
 refine bs [0,1] [.tmp 4] Tryz.func162 c162 (λbn ag bm=>?_);refine ws _ ?_;refine az ag (λ_ bI a_ ah=>?_);refine ws _ ?_;refine bc a_ (λfy _ bN bw _=>?_);show bj af (.loop ?ft) _ _;have fV:∀n b4,Gn a0 J n b4=some r->cF af ?ft fy (aq [(0,.slice (a0.map bS)),(1,.fn 181 [.ref (bS J)]),(7,.int .i64 (a0.length:Int)),(8,.int .i64 b4)]):=by
  refine cZ (λ_ fl b4 h=>cX bN (λ_ dZ c6 bo=>?_));refine ws _ ?_;refine az c6 (λ_ dn _ br=>?_);refine aD h (λbW h=>?_) (λbW h=>?_)
  .refine aI (dn _ (.inl ?_));refine az c6 (λ_ cV cb _=>?_);refine bc cb (λ_ b5 cx _ _=>?_);refine ws _ ?_;obtain⟨U,e0,h⟩:=aj h;obtain⟨ah,dp,h⟩:=aj h;refine ea e0 (aqv U J _ dp) _ ?_;refine aD h (λeB h=>?_) (λeB h=>?_)
   .refine ws _ ?_;exact au (cx _ (.inl (aw [.int .i64 b4])))
   .refine aI (b5 _ (cV _ (.inl ?_)));refine wr _ ?_;exact dZ _ (.inr ⟨_,aW rfl,fl (i64.wrap (b4+1)) h⟩)
  .refine cP (br 0 _ (bo 0 _ (bw _ (bI _ (.inl ?_)))));refine ws _ ?_;exact au (ag _ (.inl (aw [.int .i64 (-1)])))
 obtain⟨n,h⟩:=cC h;exact cW (.inr ⟨_,aW rfl,fV n 0 h⟩)
theorem ZK (a0 J r) (h:Gp a0 J=some r):aV af 180 [.slice (a0.map bS),.fn 181 [.ref (bS J)]] (.bool r) []:=by
 refine bs [0,1] [.tmp 4] Tryz.func180 alu (λbn ag bm=>?_);refine ws _ ?_;obtain⟨U,aM,h⟩:=aj h;refine cu (aqw a0 J _ aM) _ ?_;exact au (ag _ (.inl (aw [.bool (decide (0<=U))])))
theorem aqx (a0 r) (h:Kc a0=some r):aV af 141 [.slice (a0.map bS)] (.bool r) []:=by
 refine bs [0] [.tmp 2] Tryz.func141 c141 (λbn ag bm=>?_);refine ws _ ?_;refine az ag (λ_ bI a_ _=>?_);refine ws _ ?_;refine bc a_ (λfy _ bN bw _=>?_);show bj af (.loop ?ft) _ _;have fV:∀n fP,CI a0 n fP=some r->cF af ?ft fy (aq [(0,.slice (a0.map bS)),(5,.slice (a0.map bS)),(6,.int .i64 (a0.length:Int)),(7,.int .i64 fP)]):=by
  refine cZ (λ_ fl fP h=>cX bN (λ_ dZ c6 bo=>?_));refine ws _ ?_;refine az c6 (λ_ dn _ br=>?_);refine aD h (λbW h=>?_) (λbW h=>?_)
  .refine aI (dn _ (.inl ?_));refine az c6 (λ_ cV cb dj=>?_);refine bc cb (λ_ b5 cx _ df=>?_);obtain⟨U,eJ,h⟩:=aj h;refine cR eJ _ ?_;refine az cx (λ_ fb e5 _=>?_);obtain⟨bo,gN,h⟩:=aj h;rcases dc h with⟨gg,h⟩|⟨gg,h⟩
   .refine lS (hf gg) (mb U.Left _ gN) _ ?_;refine iU rfl ?_;refine ws _ ?_;exact au (e5 _ (.inl (aw [.bool false])))
   .obtain⟨b0,h2,h⟩:=aj h;rcases dc h with⟨jy,h⟩|⟨jy,h⟩
    .refine iT rfl (h7 [(0,.slice (a0.map bS)),(4,.aQ (bS U)),(5,.slice (a0.map bS)),(6,.int .i64 (a0.length:Int)),(7,.int .i64 fP),(48,.bool true)] (λP bq=>?_) ?_)
     ·(try simp only[cU.down,simprocAttr,(b6 gg),(hf jy)]);refine hx (mb U.Left _ gN) rfl rfl rfl rfl (.inl (by rfl)) ?_;simp only[cU.down,simprocAttr,(b6 gg),(hf jy)];refine lI (mb U.cY _ h2) rfl rfl rfl rfl (.inl (by rfl)) ?_;simp only[cU.down,simprocAttr,(b6 gg),(hf jy)];refine⟨hE (by kernel_rfl),?_⟩;exact b3 (R (b6 gg) (hf jy))
     refine iU rfl ?_;refine ws _ ?_;exact au (e5 _ (.inl (aw [.bool false])))
    .obtain⟨br,vd,h⟩:=aj h;rcases dc h with⟨iq,h⟩|⟨iq,h⟩
     .refine iT rfl (h7 [(0,.slice (a0.map bS)),(4,.aQ (bS U)),(5,.slice (a0.map bS)),(6,.int .i64 (a0.length:Int)),(7,.int .i64 fP),(48,.bool true)] (λP bq=>?_) ?_)
      ·(try simp only[cU.down,simprocAttr,(b6 gg),(b6 jy),(hf iq)]);refine hx (mb U.Left _ gN) rfl rfl rfl rfl (.inl (by rfl)) ?_;simp only[cU.down,simprocAttr,(b6 gg),(b6 jy),(hf iq)];refine lI (mb U.cY _ h2) rfl rfl rfl rfl (.inl (by rfl)) ?_;simp only[cU.down,simprocAttr,(b6 gg),(b6 jy),(hf iq)];refine lI (mb U.Result _ vd) rfl rfl rfl rfl (.inl (by rfl)) ?_;simp only[cU.down,simprocAttr,(b6 gg),(b6 jy),(hf iq)];refine⟨hE (by kernel_rfl),?_⟩;exact b3 (R (b6 gg) (R (b6 jy) (hf iq)))
      refine iU rfl ?_;refine ws _ ?_;exact au (e5 _ (.inl (aw [.bool false])))
     .rcases dc h with⟨g_,h⟩|⟨g_,h⟩
      .refine iT rfl (h7 [(0,.slice (a0.map bS)),(4,.aQ (bS U)),(5,.slice (a0.map bS)),(6,.int .i64 (a0.length:Int)),(7,.int .i64 fP),(48,.bool true)] (λP bq=>?_) ?_)
       ·(try simp only[cU.down,simprocAttr,(b6 gg),(b6 jy),(b6 iq),g_]);refine hx (mb U.Left _ gN) rfl rfl rfl rfl (.inl (by rfl)) ?_;simp only[cU.down,simprocAttr,(b6 gg),(b6 jy),(b6 iq),g_];refine lI (mb U.cY _ h2) rfl rfl rfl rfl (.inl (by rfl)) ?_;simp only[cU.down,simprocAttr,(b6 gg),(b6 jy),(b6 iq),g_];refine lI (mb U.Result _ vd) rfl rfl rfl rfl (.inl (by rfl)) ?_;simp only[cU.down,simprocAttr,(b6 gg),(b6 jy),(b6 iq),g_];refine⟨hE (by kernel_rfl),?_⟩;exact b3 (R (b6 gg) (R (b6 jy) (R (b6 iq) g_)))
       refine iU rfl ?_;refine ws _ ?_;exact au (e5 _ (.inl (aw [.bool false])))
      .rcases dc h with⟨jq,h⟩|⟨jq,h⟩
       .obtain⟨cT,jo,h⟩:=aj h;obtain⟨dj,qO,h⟩:=aj h;refine iT rfl (h7 [(0,.slice (a0.map bS)),(4,.aQ (bS U)),(5,.slice (a0.map bS)),(6,.int .i64 (a0.length:Int)),(7,.int .i64 fP),(48,.bool (decide (0<=dj)))] (λP bq=>?_) ?_)
        ·(try simp only[cU.down,simprocAttr,(b6 gg),(b6 jy),(b6 iq),g_,jq,jo]);refine hx (mb U.Left _ gN) rfl rfl rfl rfl (.inl (by rfl)) ?_;simp only[cU.down,simprocAttr,(b6 gg),(b6 jy),(b6 iq),g_,jq,jo];refine lI (mb U.cY _ h2) rfl rfl rfl rfl (.inl (by rfl)) ?_;simp only[cU.down,simprocAttr,(b6 gg),(b6 jy),(b6 iq),g_,jq,jo];refine lI (mb U.Result _ vd) rfl rfl rfl rfl (.inl (by rfl)) ?_;simp only[cU.down,simprocAttr,(b6 gg),(b6 jy),(b6 iq),g_,jq,jo];refine lI (aqu cT U _ qO) rfl rfl rfl rfl (.inl (by rfl)) ?_;simp only[cU.down,simprocAttr,(b6 gg),(b6 jy),(b6 iq),g_,jq,jo];refine⟨hE (by kernel_rfl),?_⟩;exact b3 (R (b6 gg) (R (b6 jy) (R (b6 iq) (R g_ (R jq jo)))))
        refine aD h (λnN h=>?_) (λnN h=>?_)
        .refine ws _ ?_;exact au (e5 _ (.inl (aw [.bool false])))
        .refine aI (fb _ (.inl ?_));obtain⟨df,As,h⟩:=aj h;refine eb (cr [(0,.slice (a0.map bS)),(5,.slice (a0.map bS)),(6,.int .i64 (a0.length:Int)),(7,.int .i64 fP),(51,.bool df)] (λP bq=>?_) ?_)
         ·(try simp only[aN.down,simprocAttr]);refine dk (ZK a0 U _ As) rfl rfl (by simp only[aN.down,simprocAttr,yg.down]<;>rfl) rfl (.inr (by rfl)) ?_;simp only[aN.down,simprocAttr];exact b3 trivial
         refine aD h (λHm h=>?_) (λHm h=>?_)
         .refine ws _ ?_;exact au (cx _ (.inl (aw [.bool false])))
         .refine aI (b5 _ (cV _ (.inl ?_)));refine wr _ ?_;exact dZ _ (.inr ⟨_,aW rfl,fl (i64.wrap (fP+1)) h⟩)
       .refine iT rfl (h7 [(0,.slice (a0.map bS)),(4,.aQ (bS U)),(5,.slice (a0.map bS)),(6,.int .i64 (a0.length:Int)),(7,.int .i64 fP),(48,.bool false)] (λP bq=>?_) ?_)
        ·(try simp only[cU.down,simprocAttr,(b6 gg),(b6 jy),(b6 iq),g_,jq]);refine hx (mb U.Left _ gN) rfl rfl rfl rfl (.inl (by rfl)) ?_;simp only[cU.down,simprocAttr,(b6 gg),(b6 jy),(b6 iq),g_,jq];refine lI (mb U.cY _ h2) rfl rfl rfl rfl (.inl (by rfl)) ?_;simp only[cU.down,simprocAttr,(b6 gg),(b6 jy),(b6 iq),g_,jq];refine lI (mb U.Result _ vd) rfl rfl rfl rfl (.inl (by rfl)) ?_;simp only[cU.down,simprocAttr,(b6 gg),(b6 jy),(b6 iq),g_,jq];refine⟨hE (by kernel_rfl),?_⟩;exact b3 (R (b6 gg) (R (b6 jy) (R (b6 iq) (R g_ jq))))
        refine n4 rfl ?_;refine aI (fb _ (.inl ?_));obtain⟨eA,aqy,h⟩:=aj h;refine eb (cr [(0,.slice (a0.map bS)),(5,.slice (a0.map bS)),(6,.int .i64 (a0.length:Int)),(7,.int .i64 fP),(51,.bool eA)] (λP bq=>?_) ?_)
        ·(try simp only[aN.down,simprocAttr]);refine dk (ZK a0 U _ aqy) rfl rfl (by simp only[aN.down,simprocAttr,yg.down]<;>rfl) rfl (.inr (by rfl)) ?_;simp only[aN.down,simprocAttr];exact b3 trivial
        refine aD h (λAk h=>?_) (λAk h=>?_)
        .refine ws _ ?_;exact au (cx _ (.inl (aw [.bool false])))
        .refine aI (b5 _ (cV _ (.inl ?_)));refine wr _ ?_;exact dZ _ (.inr ⟨_,aW rfl,fl (i64.wrap (fP+1)) h⟩)
  .refine cP (br 0 _ (bo 0 _ (bw _ (bI _ (.inl ?_)))));refine ws _ ?_;exact au (ag _ (.inl (aw [.bool (decide ((a0.length:Int)<=6))])))
 obtain⟨n,h⟩:=cC h;exact cW (.inr ⟨_,aW rfl,fV n 0 h⟩)
theorem ZL (a0 r) (h:Gq a0=some r):aV af 142 [.slice (a0.map aX)] (.bool r) []:=by
 refine bs [0] [.tmp 2] Tryz.func142 alv (λbn ag bm=>?_);refine ws _ ?_;refine az ag (λ_ bI a_ ah=>?_);refine ws _ ?_;refine bc a_ (λfy _ bN bw _=>?_);show bj af (.loop ?ft) _ _;have fV:∀n fP,CJ a0 n fP=some r->cF af ?ft fy (aq [(0,.slice (a0.map aX)),(5,.slice (a0.map aX)),(6,.int .i64 (a0.length:Int)),(7,.int .i64 fP)]):=by
  refine cZ (λ_ fl fP h=>cX bN (λ_ dZ c6 bo=>?_));refine ws _ ?_;refine az c6 (λ_ dn _ br=>?_);refine aD h (λbW h=>?_) (λbW h=>?_)
  .refine aI (dn _ (.inl ?_));refine az c6 (λ_ cV cb _=>?_);refine bc cb (λ_ b5 cx _ _=>?_);obtain⟨U,eJ,h⟩:=aj h;refine cR eJ _ ?_;obtain⟨ah,dp,h⟩:=aj h;rcases dc h with⟨eB,h⟩|⟨eB,h⟩
   .refine ea (hf eB) (mb U _ dp) _ ?_;refine iU rfl ?_;refine ws _ ?_;exact au (cx _ (.inl (aw [.bool false])))
   .rcases dc h with⟨kS,h⟩|⟨kS,h⟩
    .obtain⟨aK,eT,h⟩:=aj h;refine ea (R (b6 eB) (R kS eT)) (mb U _ dp) _ ?_;refine aD h (λfF h=>?_) (λfF h=>?_)
     .refine ws _ ?_;exact au (cx _ (.inl (aw [.bool false])))
     .refine aI (b5 _ (cV _ (.inl ?_)));refine wr _ ?_;exact dZ _ (.inr ⟨_,aW rfl,fl (i64.wrap (fP+1)) h⟩)
    .refine ea (R (b6 eB) kS) (mb U _ dp) _ ?_;refine n4 rfl ?_;refine aI (b5 _ (cV _ (.inl ?_)));refine wr _ ?_;exact dZ _ (.inr ⟨_,aW rfl,fl (i64.wrap (fP+1)) h⟩)
  .refine cP (br 0 _ (bo 0 _ (bw _ (bI _ (.inl ?_)))));refine ws _ ?_;exact au (ag _ (.inl (aw [.bool (decide ((a0.length:Int)<=12))])))
 obtain⟨n,h⟩:=cC h;exact cW (.inr ⟨_,aW rfl,fV n 0 h⟩)
theorem aqz (a0 r) (h:Kd a0=some r):aV af 98 [fk a0] (.int .i64 r) []:=by
 refine bs [0] [.tmp 2] Tryz.func98 alw (λbn ag bm=>?_);refine ws _ ?_;refine az ag (λ_ bI a_ ah=>?_);refine bc a_ (λ_ eM cN _ aK=>?_);obtain⟨U,cv,h⟩:=aj h;refine cu (aqk a0.cw _ cv) _ ?_;refine aD h (λcn h=>?_) (λcn h=>?_)
 .refine ws _ ?_;exact au (cN _ (.inl (aw [.int .i64 1])))
 .obtain⟨ah,iH,h⟩:=aj h;rcases dc h with⟨eQ,h⟩|⟨eQ,h⟩
  .refine ea (hf eQ) (ir (a0.cg.length:Int) 1 3 _ iH) _ ?_;refine iU rfl ?_;refine ws _ ?_;exact au (cN _ (.inl (aw [.int .i64 2])))
  .obtain⟨aK,eJ,h⟩:=aj h;refine eb (cr [(1,.aQ (fk a0)),(8,.bool aK)] (λP bq=>?_) ?_)
   ·(try simp only[aN.down,simprocAttr,(b6 eQ)]);refine dk (ir (a0.cg.length:Int) 1 3 _ iH) rfl rfl rfl rfl (.inl (by rfl)) ?_;simp only[aN.down,simprocAttr,(b6 eQ)];refine gB (aqr a0.cg a0 _ eJ) rfl rfl (by simp only[aN.down,simprocAttr,(b6 eQ),K4.down]<;>rfl) rfl (.inr (by rfl)) ?_;simp only[aN.down,simprocAttr,(b6 eQ)];exact b3 (b6 eQ)
   refine aD h (λe1 h=>?_) (λe1 h=>?_)
   .refine ws _ ?_;exact au (cN _ (.inl (aw [.int .i64 2])))
   .obtain⟨bd,cp,h⟩:=aj h;refine cu (aqx a0.b8 _ cp) _ ?_;refine aD h (λkS h=>?_) (λkS h=>?_)
    .refine ws _ ?_;exact au (cN _ (.inl (aw [.int .i64 3])))
    .obtain⟨bo,gZ,h⟩:=aj h;refine cu (ZL a0.cB _ gZ) _ ?_;refine aD h (λrQ h=>?_) (λrQ h=>?_)
     .refine ws _ ?_;exact au (cN _ (.inl (aw [.int .i64 4])))
     .obtain⟨b0,lx,h⟩:=aj h;refine cu (ZL a0.cy _ lx) _ ?_;refine aD h (λot h=>?_) (λot h=>?_)
      .refine ws _ ?_;exact au (cN _ (.inl (aw [.int .i64 5])))
      .refine aI (eM _ (bI _ (.inl ?_)));refine ws _ ?_;exact au (ag _ (.inl (aw [.int .i64 0])))
theorem Sh (a0 r) (h:Ke a0=some r):aV af 64 [fk a0] (.bool r) []:=by
 refine bs [0] [.tmp 2] Tryz.func64 alx (λbn ag bm=>?_);refine ws _ ?_;obtain⟨U,aM,h⟩:=aj h;refine cu (aqz a0 _ aM) _ ?_;exact au (ag _ (.inl (aw [.bool (U==0)])))
theorem aqA (a0 J r) (h:Gr a0 J=some r):aV af 67 [.slice (a0.map bg),bC J] (.bool r) []:=by
 refine bs [0,1] [.tmp 4] Tryz.func67 aly (λbn ag bm=>?_);refine ws _ ?_;refine az ag (λ_ bI a_ ah=>?_);obtain⟨U,bT,h⟩:=aj h;rcases dc h with⟨cI,h⟩|⟨cI,h⟩
 .refine lS (hf cI) (yq J.cE (a0.length:Int) _ bT) _ ?_;refine iU rfl ?_;refine ws _ ?_;exact au (a_ _ (.inl (aw [.bool false])))
 .obtain⟨ah,bY,h⟩:=aj h;obtain⟨aK,fh,h⟩:=aj h;refine iT rfl (h7 [(0,.slice (a0.map bg)),(3,.aQ (bC J)),(24,.bool (!aK))] (λP bq=>?_) ?_)
  ·(try simp only[cU.down,simprocAttr,(b6 cI),bY]);refine hx (yq J.cE (a0.length:Int) _ bT) rfl rfl rfl rfl (.inl (by rfl)) ?_;simp only[cU.down,simprocAttr,(b6 cI),bY];refine lI (yq J.Part (ah.Body.length:Int) _ fh) rfl rfl rfl rfl (.inl (by rfl)) ?_;simp only[cU.down,simprocAttr,(b6 cI),bY];refine⟨hE (by kernel_rfl),?_⟩;exact b3 (R (b6 cI) bY)
  refine aD h (λeP h=>?_) (λeP h=>?_)
  .refine ws _ ?_;exact au (a_ _ (.inl (aw [.bool false])))
  .refine aI (bI _ (.inl ?_));refine cR bY _ ?_;obtain⟨bd,e0,h⟩:=aj h;rcases dc h with⟨gL,h⟩|⟨gL,h⟩
   .obtain⟨bo,e6,h⟩:=aj h;obtain⟨b0,cp,h⟩:=aj h;rcases dc h with⟨kS,h⟩|⟨kS,h⟩
    .obtain⟨br,eT,h⟩:=aj h;refine iT rfl (h7 [(4,.bool br)] (λP bq=>?_) ?_)
     ·(try simp only[cU.down,simprocAttr,e0,gL,cp,dy cp,kS]);refine lI (Se ah _ e6) rfl rfl rfl rfl (.inl (by rfl)) ?_;simp only[cU.down,simprocAttr,e0,gL,cp,dy cp,kS];refine lI (Sg J.bV _ eT) rfl rfl rfl rfl (.inl (by rfl)) ?_;simp only[cU.down,simprocAttr,e0,gL,cp,dy cp,kS];refine⟨hE (by kernel_rfl),?_⟩;exact b3 (R e0 (R gL (R cp (R (dy cp) kS))))
     exact au (ag _ (.inl (aw [.bool br])))
    .refine lS (R e0 (R gL (R cp (R (dy cp) kS)))) (Se ah _ e6) _ ?_;exact au (ag _ (.inl (aw [.bool false])))
   .refine oT (R e0 gL) _ ?_;exact au (ag _ (.inl (aw [.bool false])))
theorem aqB (a0 J r) (h:PW a0 J=some r):aV af 66 [bC a0,.ref (fk J)] (.bool r) []:=by
 refine bs [0,1] [.tmp 3] Tryz.func66 alz (λbn ag bm=>?_);refine ws _ ?_;obtain⟨U,aM,h⟩:=aj h;refine cu (aqA J.cw a0 _ aM) _ ?_;exact au (ag _ (.inl (aw [.bool (!U)])))
theorem aqC (a0 J r) (h:PY a0 J=some r):aV af 99 [.slice (a0.map bC),.fn 66 [.ref (fk J)]] (.int .i64 r) []:=by
 refine bs [0,1] [.tmp 4] Tryz.func99 alA (λbn ag bm=>?_);refine ws _ ?_;refine az ag (λ_ bI a_ ah=>?_);refine ws _ ?_;refine bc a_ (λfy _ bN bw _=>?_);show bj af (.loop ?ft) _ _;have fV:∀n b4,Gs a0 J n b4=some r->cF af ?ft fy (aq [(0,.slice (a0.map bC)),(1,.fn 66 [.ref (fk J)]),(7,.int .i64 (a0.length:Int)),(8,.int .i64 b4)]):=by
  refine cZ (λ_ fl b4 h=>cX bN (λ_ dZ c6 bo=>?_));refine ws _ ?_;refine az c6 (λ_ dn _ br=>?_);refine aD h (λbW h=>?_) (λbW h=>?_)
  .refine aI (dn _ (.inl ?_));refine az c6 (λ_ cV cb _=>?_);refine bc cb (λ_ b5 cx _ _=>?_);refine ws _ ?_;obtain⟨U,e0,h⟩:=aj h;obtain⟨ah,dp,h⟩:=aj h;refine ea e0 (aqB U J _ dp) _ ?_;refine aD h (λeB h=>?_) (λeB h=>?_)
   .refine ws _ ?_;exact au (cx _ (.inl (aw [.int .i64 b4])))
   .refine aI (b5 _ (cV _ (.inl ?_)));refine wr _ ?_;exact dZ _ (.inr ⟨_,aW rfl,fl (i64.wrap (b4+1)) h⟩)
  .refine cP (br 0 _ (bo 0 _ (bw _ (bI _ (.inl ?_)))));refine ws _ ?_;exact au (ag _ (.inl (aw [.int .i64 (-1)])))
 obtain⟨n,h⟩:=cC h;exact cW (.inr ⟨_,aW rfl,fV n 0 h⟩)
theorem aqD (a0 J r) (h:Kf a0 J=some r):aV af 65 [.slice (a0.map bC),.fn 66 [.ref (fk J)]] (.bool r) []:=by
 refine bs [0,1] [.tmp 4] Tryz.func65 alB (λbn ag bm=>?_);refine ws _ ?_;obtain⟨U,aM,h⟩:=aj h;refine cu (aqC a0 J _ aM) _ ?_;exact au (ag _ (.inl (aw [.bool (decide (0<=U))])))
theorem aqE (a0 J r) (h:Kg a0 J=some r):aV af 32 [fk a0,.slice (J.map bC)] (.bool r) []:=by
 refine bs [0,1] [.tmp 4] Tryz.func32 Q0 (λbn ag bm=>?_);refine ws _ ?_;obtain⟨ah,bT,h⟩:=aj h;rcases dc h with⟨cI,h⟩|⟨cI,h⟩
 .rcases dc h with⟨cn,h⟩|⟨cn,h⟩
  .obtain⟨aK,bY,h⟩:=aj h;refine eb (cr [(4,.bool (!aK))] (λP bq=>?_) ?_)
   ·(try simp only[aN.down,simprocAttr,cI,cn]);refine dk (Sh a0 _ bT) rfl rfl rfl rfl (.inl (by rfl)) ?_;simp only[aN.down,simprocAttr,cI,cn];refine gB (aqD J a0 _ bY) rfl rfl (by simp only[aN.down,simprocAttr,cI,cn,K4.down]<;>rfl) rfl (.inr (by rfl)) ?_;simp only[aN.down,simprocAttr,cI,cn];exact b3 (R cI cn)
   exact au (ag _ (.inl (aw [.bool (!aK)])))
  .refine ea (R cI cn) (Sh a0 _ bT) _ ?_;exact au (ag _ (.inl (aw [.bool false])))
 .refine ea cI (Sh a0 _ bT) _ ?_;exact au (ag _ (.inl (aw [.bool false])))
theorem aqF (a0 r) (h:Kh a0=some r):aV af 33 [ye a0] (.bool r) []:=by
 refine bs [0] [.tmp 2] Tryz.func33 alC (λbn ag bm=>?_);refine ws _ ?_;obtain⟨U,aM,h⟩:=aj h;rcases dc h with⟨bw,h⟩|⟨bw,h⟩
 .obtain⟨ah,cv,h⟩:=aj h;refine eb (cr [(2,.bool ah)] (λP bq=>?_) ?_)
  ·(try simp only[aN.down,simprocAttr,bw]);refine dk (ir a0.uk 0 2 _ aM) rfl rfl rfl rfl (.inl (by rfl)) ?_;simp only[aN.down,simprocAttr,bw];refine gB (ir a0.zt 0 65535 _ cv) rfl rfl rfl rfl (.inl (by rfl)) ?_;simp only[aN.down,simprocAttr,bw];exact b3 bw
  exact au (ag _ (.inl (aw [.bool ah])))
 .refine ea bw (ir a0.uk 0 2 _ aM) _ ?_;exact au (ag _ (.inl (aw [.bool false])))
theorem ZM:∀a c,sY a c=Lib.indexByte a c
 |[],_=>rfl
 |a::x,c=>by simp only[sY,Lib.indexByte,ZM x c]
theorem aqG (a0:azc) (J:UInt8) (r:Int) (h:PZ a0 J=some r):aV af 248 [.str a0,.int .u8 J.toNat] (.int .i64 r) []:=by
 rw[show r=Lib.indexByte a0 J from(gk h).trans (ZM _ _)];exact WG Tryz.func248 (by kernel_rfl) (by kernel_rfl) (by kernel_rfl) (E:=Extern.BytealgIndexByte.indexByte) (by kernel_rfl) a0 J _ λw=>by
  rw[Lib.run_indexByteString,show((J.toNat:Int).toNat).toUInt8=J from by simp]
theorem aqH (a0 J r) (h:P0 a0 J=some r):aV af 218 [.str a0,.int .u8 (J.toNat:Int)] (.int .i64 r) []:=by
 refine bs [0,1] [.tmp 4] Tryz.func218 c218 (λbn ag bm=>?_);refine ws _ ?_;obtain⟨U,aM,h⟩:=aj h;refine cu (aqG a0 J _ aM) _ ?_;exact au (ag _ (.inl (aw [.int .i64 U])))
theorem ZN (a0 J r) (h:wm a0 J=some r):aV af 185 [.str a0,.str J] (.int .i64 r) []:=by
 refine bs [0,1] [.tmp 4] Tryz.func185 alD (λbn ag bm=>?_);refine ws _ ?_;refine ws _ ?_;refine az ag (λ_ _ cN _=>?_);refine bc cN (λ_ _ bN _ _=>?_);refine mY ((J.length:Int)==0) [(0,.str a0),(1,.str J),(5,.int .i64 (J.length:Int)),(16,.bool (((J.length:Int)==0)||(J==a0)))] ?_;refine aD h (λcn h=>?_) (λcn h=>?_)
 .refine ws _ ?_;exact au (bN _ (.inl (aw [.int .i64 0])))
 .refine ws _ ?_;refine aD h (λeP h=>?_) (λeP h=>?_)
  .obtain⟨U,kg,h⟩:=aj h;obtain⟨ah,eJ,h⟩:=aj h;refine ea kg (aqH a0 U _ eJ) _ ?_;exact au (bN _ (.inl (aw [.int .i64 ah])))
  .refine ws _ ?_;refine aD h (λgL h=>?_) (λgL h=>?_)
   .refine ws _ ?_;exact au (bN _ (.inl (aw [.int .i64 (-1)])))
   .cases h
theorem aqI (a0 J r) (h:Ki a0 J=some r):aV af 153 [.str a0,.str J] (.tuple [.str r.1,.str r.2.1,.bool r.2.2]) []:=by
 refine bs [0,1] [.tmp 4,.tmp 5,.tmp 6] Tryz.func153 alE (λbn ag bm=>?_);refine ws _ ?_;refine az ag (λ_ bI a_ ah=>?_);obtain⟨U,bT,h⟩:=aj h;refine cu (ZN a0 J _ bT) _ ?_;refine ws _ ?_;refine aD h (λcn h=>?_) (λcn h=>?_)
 .obtain⟨ah,fh,h⟩:=aj h;obtain⟨aK,iH,h⟩:=aj h;refine oT (R fh iH) _ ?_;exact au (a_ _ (.inl (aw [.str ah,.str aK,.bool true])))
 .refine aI (bI _ (.inl ?_));refine ws _ ?_;exact au (ag _ (.inl (aw [.str a0,.str ([]:azc),.bool false])))
theorem aqJ (a0 J r) (h:CK a0 J=some r):aV af 106 [.str a0,.str J] (.tuple [.str r.1,.str r.2.1,.bool r.2.2]) []:=by
 refine bs [0,1] [.tmp 4,.tmp 5,.tmp 6] Tryz.func106 alF (λbn ag bm=>?_);refine ws _ ?_;obtain⟨U,aM,h⟩:=aj h;refine cu (aqI a0 J _ aM) _ ?_;exact au (ag _ (.inl (aw [.str U.1,.str U.2.1,.bool U.2.2])))
theorem aqK (a0 J r) (h:Kj a0 J=some r):aV af 191 [.str a0,.str J] (.bool r) []:=by
 refine bs [0,1] [.tmp 4] Tryz.func191 alG (λbn ag bm=>?_);refine ws _ ?_;rcases dc h with⟨fY,h⟩|⟨fY,h⟩
 .obtain⟨U,bT,h⟩:=aj h;refine cR (R fY bT) _ ?_;exact au (ag _ (.inl (aw [.bool (U==J)])))
 .refine cR fY _ ?_;exact au (ag _ (.inl (aw [.bool false])))
theorem aqL (a0 J r) (h:Kk a0 J=some r):aV af 156 [.str a0,.str J] (.str r) []:=by
 refine bs [0,1] [.tmp 4] Tryz.func156 c156 (λbn ag bm=>?_);refine ws _ ?_;refine az ag (λ_ bI a_ ah=>?_);obtain⟨U,bT,h⟩:=aj h;refine cu (aqK a0 J _ bT) _ ?_;refine aD h (λcI h=>?_) (λcI h=>?_)
 .obtain⟨ah,bY,h⟩:=aj h;refine cR bY _ ?_;exact au (a_ _ (.inl (aw [.str ah])))
 .refine aI (bI _ (.inl ?_));refine ws _ ?_;exact au (ag _ (.inl (aw [.str a0])))
theorem aqM (a0 J r) (h:strings_TrimSuffix a0 J=some r):aV af 109 [.str a0,.str J] (.str r) []:=by
 refine bs [0,1] [.tmp 4] Tryz.func109 c109 (λbn ag bm=>?_);refine ws _ ?_;obtain⟨U,aM,h⟩:=aj h;refine cu (aqL a0 J _ aM) _ ?_;exact au (ag _ (.inl (aw [.str U])))
theorem aqN (a0:azc) (J:UInt8) (r:Int) (h:P1 a0 J=some r):aV af 227 [.str a0,.int .u8 J.toNat] (.int .i64 r) []:=by
 rw[show r=((Lib.countByte a0 J:Nat):Int)from gk h];exact WG Tryz.func227 (by kernel_rfl) (by kernel_rfl) (by kernel_rfl) (E:=Extern.BytealgCount.count) (by kernel_rfl) a0 J _ λw=>by
  rw[Lib.run_countString,show((J.toNat:Int).toNat).toUInt8=J from by simp]
theorem ZO (a0 J r) (h:Gt a0 J=some r):aV af 190 [.str a0,.str J] (.int .i64 r) []:=by
 refine bs [0,1] [.tmp 4] Tryz.func190 alH (λbn ag bm=>?_);refine ws _ ?_;obtain⟨U,aM,h⟩:=aj h;refine cu (ZN a0 J _ aM) _ ?_;exact au (ag _ (.inl (aw [.int .i64 U])))
theorem aqO (a0 J r) (h:P3 a0 J=some r):aV af 189 [.str a0,.str J] (.int .i64 r) []:=by
 refine bs [1] [.tmp 4] Tryz.func189 alI (λbn ag bm=>?_);refine ws _ ?_;refine az ag (λ_ bI _ ah=>?_);refine ws _ ?_;refine aD h (λbw h=>?_) (λbw h=>?_)
 .cases h
 .refine aI (bI _ (.inl ?_));refine az ag (λ_ db cO _=>?_);refine ws _ ?_;refine aD h (λbW h=>?_) (λbW h=>?_)
  .obtain⟨U,gG,h⟩:=aj h;obtain⟨ah,kg,h⟩:=aj h;refine ea gG (aqN a0 U _ kg) _ ?_;exact au (cO _ (.inl (aw [.int .i64 ah])))
  .refine aI (db _ (.inl ?_));refine ws _ ?_;refine bc ag (λR2 _ e5 _ _=>?_);show bj af (.loop ?c21) _ _;have aqP:∀n uN uO,P2 J n uN uO=some r->cF af ?c21 R2 (aq [(0,.str uN),(1,.str J),(5,.int .i64 uO)]):=by
    refine cZ (λ_ aqQ uN uO h=>cX e5 (λ_ ej dL _=>?_));refine bc dL (λ_ fE fK _ _=>?_);obtain⟨aK,dI,h⟩:=aj h;refine cu (ZO uN J _ dI) _ ?_;refine az fK (λ_ rR wK _=>?_);refine ws _ ?_;refine aD h (λga h=>?_) (λga h=>?_)
    .refine ws _ ?_;exact au (wK _ (.inl (aw [.int .i64 uO])))
    .refine aI (rR _ (.inl ?_));refine ws _ ?_;obtain⟨bd,lx,h⟩:=aj h;refine tb lx _ ?_;exact fE _ (ej _ (.inr ⟨_,aW rfl,aqQ bd (i64.wrap (uO+1)) h⟩))
   obtain⟨n,h⟩:=cC h;exact cW (.inr ⟨_,aW rfl,aqP n a0 0 h⟩)
theorem aqR (a0 J a2 a3 r) (h:P5 a0 J a2 a3=some r):aV af 155 [.str a0,.str J,.int .i64 a2,.int .i64 a3] (.ak 1 (r.map aX)) []:=by
 refine bs [1,2] [.tmp 8] Tryz.func155 alJ (λbn ag bm=>?_);refine ws _ ?_;refine az ag (λ_ bI a_ ah=>?_);refine ws _ ?_;refine aD h (λbw h=>?_) (λbw h=>?_)
 .refine ws _ ?_;exact au (a_ _ (.inr ⟨[(8,.ak 1 [])],iV [] rfl (iN (t:=8) (d:=.a8) rfl rfl (.jf _) (by decide) (iW)),aw [.ak 1 []]⟩))
 .refine aI (bI _ (.inl ?_));refine az ag (λ_ db _ b0=>?_);refine ws _ ?_;refine aD h (λbW h=>?_) (λbW h=>?_)
  .cases h
  .refine aI (db _ (.inl ?_));show bj af (.seq _ ?c24) _ _;have yr:∀jT,Kl a0 J a2 jT=some r->bj af ?c24 bn (aq [(0,.str a0),(1,.str J),(2,.int .i64 a2),(3,.int .i64 jT)]):=by
    intro jT h;refine cR (R @N4 @WR) _ ?_;obtain⟨ayG,e0,h⟩:=aj h;refine qK (R (qc e0) @List.map_replicate.{0,0}) [(0,.str a0),(1,.str J),(2,.int .i64 a2),(3,.int .i64 (jr false jT (i64.wrap ((a0.length:Int)+1)))),(9,.ak 1 ((List.replicate (Int.toNat (jr false jT (i64.wrap ((a0.length:Int)+1)))) ([]:azc)).map aX))] ?_;refine ws [(0,.str a0),(1,.str J),(2,.int .i64 a2),(3,.int .i64 (i64.wrap ((jr false jT (i64.wrap ((a0.length:Int)+1)))-1))),(9,.ak 1 ((List.replicate (Int.toNat (jr false jT (i64.wrap ((a0.length:Int)+1)))) ([]:azc)).map aX))] ?_;refine ws [(0,.str a0),(1,.str J),(2,.int .i64 a2),(3,.int .i64 (i64.wrap ((jr false jT (i64.wrap ((a0.length:Int)+1)))-1))),(9,.ak 1 ((List.replicate (Int.toNat (jr false jT (i64.wrap ((a0.length:Int)+1)))) ([]:azc)).map aX)),(10,.int .i64 0)] ?_;show bj af (.seq _ ?QY) _ _;have ZP:∀CL zQ wo,Gu a0 J a2 jT CL zQ wo=some r->bj af ?QY bn (aq [(0,.str CL),(1,.str J),(2,.int .i64 a2),(3,.int .i64 (i64.wrap ((jr false jT (i64.wrap ((a0.length:Int)+1)))-1))),(9,.ak 1 (zQ.map aX)),(10,.int .i64 wo)]):=by
     intro CL zQ wo h;obtain⟨U,eT,h⟩:=aj h;refine eb (cr [(9,.ak 1 ((List.set zQ (Int.toNat wo) CL).map aX)),(10,.int .i64 wo)] (λP bq=>?_) ?_)
     .simp only[aN.down,simprocAttr,eT,dy eT,ee,dW];exact b3 (R eT (R (dy eT) @ee))
     obtain⟨ah,gZ,h⟩:=aj h;refine eb (cr [(8,.ak 1 (ah.map aX))] (λP bq=>?_) ?_)
     .simp only[aN.down,simprocAttr,gZ,Y0.down,xS];(try simp only[ka.down,simprocAttr,gZ,Y0.down,xS]at bq⊢);exact bq
     exact au (ag _ (.inl (aw [.ak 1 (ah.map aX)])))
    refine az ag (λ_ jx lT _=>?_);refine bc lT (λSi _ vc rQ _=>?_);show bj af (.loop ?G4) _ _;have RB:∀n oO nI lq,zR a0 J a2 jT n oO nI lq=some r->cF af ?G4 Si (aq [(0,.str oO),(1,.str J),(2,.int .i64 a2),(3,.int .i64 (i64.wrap ((jr false jT (i64.wrap ((a0.length:Int)+1)))-1))),(9,.ak 1 (nI.map aX)),(10,.int .i64 lq)]):=by
     refine cZ (λ_ RC oO nI lq h=>cX vc (λ_ nv my nH=>?_));refine az my (λ_ Hj _ ns=>?_);refine ws _ ?_;refine aD h (λot h=>?_) (λot h=>?_)
     .refine aI (Hj _ (.inl ?_));refine bc my (λ_ p3 qM _ rl=>?_);obtain⟨aK,vd,h⟩:=aj h;refine cu (ZO oO J _ vd) _ ?_;refine az qM (λ_ rN _ G9=>?_);refine ws _ ?_;refine aD h (λg_ h=>?_) (λg_ h=>?_)
      .exact cP (G9 0 _ (rl 0 _ (by decide) (nH 0 _ (rQ _ (jx _ (.inr ⟨_,aW rfl,ZP oO nI lq h⟩))))))
      .refine aI (rN _ (.inl ?_));obtain⟨bd,lU,h⟩:=aj h;obtain⟨bo,jo,h⟩:=aj h;refine eb (cr [(0,.str oO),(1,.str J),(2,.int .i64 a2),(3,.int .i64 (i64.wrap ((jr false jT (i64.wrap ((a0.length:Int)+1)))-1))),(9,.ak 1 ((List.set nI (Int.toNat lq) bd).map aX)),(10,.int .i64 lq),(11,.int .i64 aK)] (λP bq=>?_) ?_)
       .simp only[aN.down,simprocAttr,lU,jo,dy jo,ee,dW,(show(List.map aX nI).set (Int.toNat lq) (.str bd)=List.map aX (List.set nI (Int.toNat lq) bd)from(List.map_set ..).symm)];exact b3 (R lU (R jo (R (dy jo) @ee)))
       obtain⟨b0,py,h⟩:=aj h;refine cR py [(0,.str b0),(1,.str J),(2,.int .i64 a2),(3,.int .i64 (i64.wrap ((jr false jT (i64.wrap ((a0.length:Int)+1)))-1))),(9,.ak 1 ((List.set nI (Int.toNat lq) bd).map aX)),(10,.int .i64 lq)] ?_;refine wr [(0,.str b0),(1,.str J),(2,.int .i64 a2),(3,.int .i64 (i64.wrap ((jr false jT (i64.wrap ((a0.length:Int)+1)))-1))),(9,.ak 1 ((List.set nI (Int.toNat lq) bd).map aX)),(10,.int .i64 (i64.wrap (lq+1)))] ?_;exact p3 _ (nv _ (.inr ⟨_,aW rfl,RC b0 (List.set nI (Int.toNat lq) bd) (i64.wrap (lq+1)) h⟩))
     .exact cP (ns 0 _ (nH 0 _ (rQ _ (jx _ (.inr ⟨_,aW rfl,ZP oO nI lq h⟩)))))
    obtain⟨n,h⟩:=cC h;exact cW (.inr ⟨_,aW rfl,RB n a0 (List.replicate (Int.toNat (jr false jT (i64.wrap ((a0.length:Int)+1)))) ([]:azc)) 0 h⟩)
   refine az ag (λ_ b5 _ _=>?_);refine ws _ ?_;refine aD h (λAr h=>?_) (λAr h=>?_)
   .obtain⟨br,Sj,h⟩:=aj h;refine YT (aqO a0 J _ Sj) _ ?_;exact b5 _ (.inr ⟨_,aW rfl,yr (i64.wrap (br+1)) h⟩)
   .exact aI (b5 _ (.inr ⟨_,aW rfl,yr a3 h⟩))
theorem aqS (a0 J r) (h:Km a0 J=some r):aV af 108 [.str a0,.str J] (.ak 1 (r.map aX)) []:=by
 refine bs [0,1] [.tmp 4] Tryz.func108 alK (λbn ag bm=>?_);refine ws _ ?_;obtain⟨U,aM,h⟩:=aj h;refine cu (aqR a0 J 0 (-1) _ aM) _ ?_;exact au (ag _ (.inl (aw [.ak 1 (U.map aX)])))
theorem aqT (a0:azc) (r:Int×Bool) (h:Kn a0=some r):aV af 154 [.str a0] (.tuple [.int .i64 r.1,.bool r.2]) []:=am0 a0 r h
theorem aqU (a0 r) (h:Ko a0=some r):aV af 107 [.slice (a0.map aX)] (.tuple [.ak 1 (r.1.map a1),.bool r.2]) []:=by
 refine bs [0] [.tmp 2,.tmp 3] Tryz.func107 c107 (λbn ag bm=>?_);refine ws _ ?_;refine ws _ ?_;refine az ag (λ_ eM cN _=>?_);refine ws _ ?_;refine bc cN (λqL _ c6 cI _=>?_);show bj af (.loop ?hQ) _ _;have ik:∀n bB ry,CM a0 n bB ry=some r->cF af ?hQ qL (aq [(4,.ak 1 (bB.map a1)),(9,.slice (a0.map aX)),(10,.int .i64 (a0.length:Int)),(11,.int .i64 ry)]):=by
  refine cZ (λ_ il bB ry h=>cX c6 (λ_ db cO b0=>?_));refine ws _ ?_;refine az cO (λ_ hq _ cT=>?_);refine aD h (λeP h=>?_) (λeP h=>?_)
  .refine aI (hq _ (.inl ?_));refine az cO (λ_ b5 cx _=>?_);refine bc cx (λ_ eu hM _ _=>?_);obtain⟨U,e0,h⟩:=aj h;refine cR e0 _ ?_;obtain⟨ah,e6,h⟩:=aj h;refine cu (aqT U _ e6) _ ?_;refine az hM (λ_ jx lT _=>?_);refine ws _ ?_;refine aD h (λhr h=>?_) (λhr h=>?_)
   .refine ws _ ?_;exact au (lT _ (.inr ⟨[(2,.ak 1 []),(3,.bool false)],iV [] rfl (iN (t:=2) (d:=.a8) rfl rfl (.jf _) (by decide) (cJ rfl (iW))),aw [.ak 1 [],.bool false]⟩))
   .refine aI (jx _ (.inl ?_));obtain⟨aoJ,h1,h⟩:=aj h;(try simp only[fD.down,Nat.zero_add,Nat.add_zero,reduceAdd]at h1);refine tb (R (show∀s,dS af s 54 1 [(0,.int .i64 ah.1)]=some (.ak 1 [.int .i64 ah.1],s)from λs=>by kernel_rfl) (R (@kn af 54 54 2 rfl rfl) (R @ko (R @kp (R @gI (R @all_cons (R @all_nil (R h1 (@jN _ a1 1 (λ_=>rfl)))))))))) [(4,.ak 1 ((bB++[ah.1]).map a1)),(9,.slice (a0.map aX)),(10,.int .i64 (a0.length:Int)),(11,.int .i64 ry)] ?_;refine eu _ (b5 _ (.inl ?_));refine wr [(4,.ak 1 ((bB++[ah.1]).map a1)),(9,.slice (a0.map aX)),(10,.int .i64 (a0.length:Int)),(11,.int .i64 (i64.wrap (ry+1)))] ?_;exact db _ (.inr ⟨_,aW rfl,il (bB++[ah.1]) (i64.wrap (ry+1)) h⟩)
  .refine cP (cT 0 _ (b0 0 _ (cI _ (eM _ (.inl ?_)))));refine ws _ ?_;exact au (ag _ (.inl (aw [.ak 1 (bB.map a1),.bool true])))
 obtain⟨n,h⟩:=cC h;exact cW (.inr ⟨_,iV [] rfl (iN (t:=4) (d:=.a8) (bM:=.ak 1 []) rfl rfl (.jf _) (by decide) (cJ (t:=9) (d:=.slice (a0.map aX)) rfl (cJ (t:=10) (d:=.int .i64 (a0.length:Int)) rfl (cJ (t:=11) (d:=.int .i64 0) rfl (iW))))),ik n [] 0 h⟩)
theorem aqV (a0 J:Int) (r:azc) (h:zS a0 J=some r):aV af 117 [.int .i64 a0,.int .i64 J] (.str r) []:=amO a0 J r h
theorem wQ (a0 r) (h:oQ a0=some r):aV af 77 [.int .i64 a0] (.str r) []:=by
 refine bs [0] [.tmp 2] Tryz.func77 alL (λbn ag bm=>?_);refine ws _ ?_;obtain⟨U,aM,h⟩:=aj h;refine cu (aqV a0 10 _ aM) _ ?_;exact au (ag _ (.inl (aw [.str U])))
theorem ZQ (a0:azb) (J:azc) (r:azc) (h:strings_Join a0 J=some r):aV af 161 [.slice (a0.map aX),.str J] (.str r) []:=amP a0 J r h
theorem ZR (a0 J r) (h:zT a0 J=some r):aV af 158 [.slice (a0.map a1),.str J] (.str r) []:=by
 refine bs [0,1] [.tmp 4] Tryz.func158 alM (λbn ag bm=>?_);refine ws _ ?_;obtain⟨RO,aM,h⟩:=aj h;refine qK (R (qc aM) @List.map_replicate.{0,0}) [(0,.slice (a0.map a1)),(1,.str J),(5,.ak 1 ((List.replicate (Int.toNat (a0.length:Int)) ([]:azc)).map aX))] ?_;refine az ag (λ_ eU bN bd=>?_);refine ws [(1,.str J),(5,.ak 1 ((List.replicate (Int.toNat (a0.length:Int)) ([]:azc)).map aX)),(11,.slice (a0.map a1)),(12,.int .i64 (a0.length:Int)),(13,.int .i64 0)] ?_;refine bc bN (λjn _ cO cn _=>?_);show bj af (.loop ?hQ) _ _;have ik:∀n fz oe,CN a0 J n fz oe=some r->cF af ?hQ jn (aq [(1,.str J),(5,.ak 1 (fz.map aX)),(11,.slice (a0.map a1)),(12,.int .i64 (a0.length:Int)),(13,.int .i64 oe)]):=by
  refine cZ (λ_ il fz oe h=>cX cO (λ_ dn el br=>?_));refine ws _ ?_;refine az el (λ_ cV _ dj=>?_);refine aD h (λeQ h=>?_) (λeQ h=>?_)
  .refine aI (cV _ (.inl ?_));refine az el (λ_ eu hM _=>?_);refine bc hM (λ_ gY _ _ _=>?_);obtain⟨U,dp,h⟩:=aj h;refine cR dp _ ?_;obtain⟨ah,cp,h⟩:=aj h;obtain⟨aK,dI,h⟩:=aj h;refine jg (cr [(1,.str J),(5,.ak 1 ((List.set fz (Int.toNat oe) ah).map aX)),(11,.slice (a0.map a1)),(12,.int .i64 (a0.length:Int)),(13,.int .i64 oe)] (λP bq=>?_) ?_)
   ·(try simp only[aN.down,simprocAttr,dI,dy dI,ee,dW]);refine dk (wQ U _ cp) rfl rfl rfl rfl (.inl (by rfl)) ?_;simp only[aN.down,simprocAttr,dI,dy dI,ee,dW];exact b3 (R dI (R (dy dI) @ee))
   refine gY _ (eu _ (.inl ?_));refine wr [(1,.str J),(5,.ak 1 ((List.set fz (Int.toNat oe) ah).map aX)),(11,.slice (a0.map a1)),(12,.int .i64 (a0.length:Int)),(13,.int .i64 (i64.wrap (oe+1)))] ?_;exact dn _ (.inr ⟨_,aW rfl,il (List.set fz (Int.toNat oe) ah) (i64.wrap (oe+1)) h⟩)
  .refine cP (dj 0 _ (br 0 _ (cn _ (eU _ (.inl ?_)))));obtain⟨bd,gZ,h⟩:=aj h;refine eb (cr [(4,.str bd)] (λP bq=>?_) ?_)
   ·(try simp only[aN.down,simprocAttr]);refine dk (ZQ fz J _ gZ) rfl rfl (by simp only[aN.down,simprocAttr,Rd.down]<;>rfl) rfl (.inr (by rfl)) ?_;simp only[aN.down,simprocAttr];exact b3 trivial
   exact au (ag _ (.inl (aw [.str bd])))
 obtain⟨n,h⟩:=cC h;exact cW (.inr ⟨_,aW rfl,ik n (List.replicate (Int.toNat (a0.length:Int)) ([]:azc)) 0 h⟩)
theorem Lo (a0 J r) (h:wq a0 J=some r):aV af 110 [.str a0,.slice (J.map a1)] (.tuple [.str r.1,.bool r.2]) []:=by
 refine bs [0,1] [.tmp 4,.tmp 5] Tryz.func110 alO (λbn ag bm=>?_);refine ws _ ?_;refine az ag (λ_ bI a_ ah=>?_);refine bc a_ (λ_ eM cN _ aK=>?_);refine ws _ ?_;refine aD h (λcI h=>?_) (λcI h=>?_)
 .refine ws _ ?_;exact au (cN _ (.inl (aw [.str ([116,97,117]:azc),.bool ((J.length:Int)==0)])))
 .obtain⟨ah,iH,h⟩:=aj h;rcases dc h with⟨eQ,h⟩|⟨eQ,h⟩
  .refine ea (hf eQ) (mb a0 _ iH) _ ?_;refine iU rfl ?_;refine ws _ ?_;exact au (cN _ (.inl (aw [.str ([]:azc),.bool false])))
  .rcases dc h with⟨eV,h⟩|⟨eV,h⟩
   .refine ea (R (b6 eQ) eV) (mb a0 _ iH) _ ?_;refine iU rfl ?_;refine ws _ ?_;exact au (cN _ (.inl (aw [.str ([]:azc),.bool false])))
   .obtain⟨aK,dp,h⟩:=aj h;refine eb (cr [(0,.str a0),(1,.slice (J.map a1)),(12,.bool (!aK))] (λP bq=>?_) ?_)
    ·(try simp only[aN.down,simprocAttr,(b6 eQ),eV]);refine dk (mb a0 _ iH) rfl rfl rfl rfl (.inl (by rfl)) ?_;simp only[aN.down,simprocAttr,(b6 eQ),eV];refine gB (Sg J _ dp) rfl rfl rfl rfl (.inl (by rfl)) ?_;simp only[aN.down,simprocAttr,(b6 eQ),eV];exact b3 (R (b6 eQ) eV)
    refine aD h (λeB h=>?_) (λeB h=>?_)
    .refine ws _ ?_;exact au (cN _ (.inl (aw [.str ([]:azc),.bool false])))
    .refine ws _ ?_;refine aD h (λhr h=>?_) (λhr h=>?_)
     .refine ws _ ?_;exact au (cN _ (.inl (aw [.str a0,.bool true])))
     .refine aI (eM _ (bI _ (.inl ?_)));obtain⟨ZS,h1,h⟩:=aj h;(try simp only[fD.down,Nat.zero_add,Nat.add_zero,reduceAdd]at h1);obtain⟨bd,gN,h⟩:=aj h;obtain⟨ZS,iA,h⟩:=aj h;(try simp only[fD.down,Nat.zero_add,Nat.add_zero,reduceAdd]at iA);obtain⟨ZS,lx,h⟩:=aj h;(try simp only[fD.down,Nat.zero_add,Nat.add_zero,reduceAdd]at lx);refine ea (R h1 (R @zl (R @zm (R iA lx)))) (ZR J ([44]:azc) _ gN) [(4,.str (((a0++([40]:azc))++bd)++([41]:azc))),(5,.bool true)] ?_;exact au (ag _ (.inl (aw [.str (((a0++([40]:azc))++bd)++([41]:azc)),.bool true])))
theorem Lp (a0 r) (h:uR a0=some r):aV af 73 [.str a0] (.tuple [.str r.1,.ak 1 (r.2.1.map a1),.bool r.2.2]) []:=by
 refine bs [0] [.tmp 2,.tmp 3,.tmp 4] Tryz.func73 alQ (λbn ag bm=>?_);refine ws _ ?_;obtain⟨U,aM,h⟩:=aj h;refine cu (aqJ a0 ([40]:azc) _ aM) _ ?_;refine ws _ ?_;have wD:∀uQ,zU a0 U uQ=some r->bj af YD bn (aq [(0,.str a0),(5,.str U.1),(8,.ak 1 (uQ.map a1))]):=by
  intro uQ h;refine az ag (λ_ db cO _=>?_);obtain⟨ah,fh,h⟩:=aj h;refine eb (cr [(0,.str a0),(5,.str U.1),(8,.ak 1 (uQ.map a1)),(10,.str ah.1),(11,.bool ah.2)] (λP bq=>?_) ?_)
  ·(try simp only[aN.down,simprocAttr]);refine dk (Lo U.1 uQ _ fh) rfl rfl (by simp only[aN.down,simprocAttr,K3.down]<;>rfl) rfl (.inr (by rfl)) ?_;simp only[aN.down,simprocAttr];exact b3 trivial
  refine mY (ah.2) [(5,.str U.1),(8,.ak 1 (uQ.map a1)),(40,.bool ((!ah.2)||(!(ah.1==a0))))] ?_;refine aD h (λeQ h=>?_) (λeQ h=>?_)
  .refine ws _ ?_;exact au (cO _ (.inr ⟨[(2,.str ([]:azc)),(3,.ak 1 []),(4,.bool false)],iV [] rfl (cJ rfl (iN (t:=3) (d:=.a8) rfl rfl (.jf _) (by decide) (cJ rfl (iW)))),aw [.str ([]:azc),.ak 1 [],.bool false]⟩))
  .refine aI (db _ (.inl ?_));refine ws _ ?_;exact au (ag _ (.inl (aw [.str U.1,.ak 1 (uQ.map a1),.bool true])))
 refine az ag (λ_ dZ c6 bo=>?_);refine ws _ ?_;refine aD h (λgL h=>?_) (λgL h=>?_)
 .refine ws _ ?_;obtain⟨aK,dI,h⟩:=aj h;obtain⟨bd,eT,h⟩:=aj h;obtain⟨bo,gb,h⟩:=aj h;refine eb (cr [(0,.str a0),(5,.str U.1),(8,.ak 1 (bo.1.map a1)),(9,.bool bo.2)] (λP bq=>?_) ?_)
  ·(try simp only[aN.down,simprocAttr]);refine dk (aqM U.2.1 ([41]:azc) _ dI) rfl rfl rfl rfl (.inl (by rfl)) ?_;simp only[aN.down,simprocAttr];refine dk (aqS aK ([44]:azc) _ eT) rfl rfl rfl rfl (.inl (by rfl)) ?_;simp only[aN.down,simprocAttr];refine dk (aqU bd _ gb) rfl rfl (by simp only[aN.down,simprocAttr,Rd.down]<;>rfl) rfl (.inr (by simp only[I.c1,I.gV, @k1 _ a1 (λ_=>KN _),Bool.and_self])) ?_;simp only[aN.down,simprocAttr];exact b3 trivial
  refine ws _ ?_;refine aD h (λrQ h=>?_) (λrQ h=>?_)
  .refine ws _ ?_;exact au (c6 _ (.inr ⟨[(2,.str ([]:azc)),(3,.ak 1 []),(4,.bool false)],iV [] rfl (cJ rfl (iN (t:=3) (d:=.a8) rfl rfl (.jf _) (by decide) (cJ rfl (iW)))),aw [.str ([]:azc),.ak 1 [],.bool false]⟩))
  .exact aI (dZ _ (.inr ⟨_,aW rfl,wD bo.1 h⟩))
 .exact aI (dZ _ (.inr ⟨_,iV [] rfl (cJ (t:=0) (d:=.str a0) rfl (cJ (t:=5) (d:=.str U.1) rfl (iN (t:=8) (d:=.a8) (bM:=.ak 1 []) rfl rfl (.jf _) (by decide) (iW)))),wD [] h⟩))
theorem aqW (a0 r) (h:zV a0=some r):aV af 104 [.str a0] (.bool r) []:=by
 refine bs [0] [.tmp 2] Tryz.func104 alR (λbn ag bm=>?_);refine ws _ ?_;obtain⟨U,aM,h⟩:=aj h;refine cu (Lp a0 _ aM) _ ?_;refine ws _ ?_;exact au (ag _ (.inl (aw [.bool U.2.2])))
theorem aqX (a0 r) (h:Kp a0=some r):aV af 71 [fC a0] (.bool r) []:=by
 refine bs [0] [.tmp 2] Tryz.func71 alS (λbn ag bm=>?_);refine ws _ ?_;obtain⟨U,aM,h⟩:=aj h;rcases dc h with⟨bw,h⟩|⟨bw,h⟩
 .obtain⟨ah,cv,h⟩:=aj h;rcases dc h with⟨cn,h⟩|⟨cn,h⟩
  .obtain⟨aK,bY,h⟩:=aj h;rcases dc h with⟨bW,h⟩|⟨bW,h⟩
   .obtain⟨bd,iH,h⟩:=aj h;refine eb (cr [(2,.bool bd)] (λP bq=>?_) ?_)
    ·(try simp only[aN.down,simprocAttr,bw,cn,bW]);refine dk (ir a0.Choice 0 199 _ aM) rfl rfl rfl rfl (.inl (by rfl)) ?_;simp only[aN.down,simprocAttr,bw,cn,bW];refine gB (ir a0.fa 0 2 _ cv) rfl rfl rfl rfl (.inl (by rfl)) ?_;simp only[aN.down,simprocAttr,bw,cn,bW];refine gB (ir a0.Second (-1) 2 _ bY) rfl rfl rfl rfl (.inl (by rfl)) ?_;simp only[aN.down,simprocAttr,bw,cn,bW];refine gB (aqW a0.Label _ iH) rfl rfl rfl rfl (.inl (by rfl)) ?_;simp only[aN.down,simprocAttr,bw,cn,bW];exact b3 (R bw (R cn bW))
    exact au (ag _ (.inl (aw [.bool bd])))
   .refine eb (cr [(2,.bool false)] (λP bq=>?_) ?_)
    ·(try simp only[aN.down,simprocAttr,bw,cn,bW]);refine dk (ir a0.Choice 0 199 _ aM) rfl rfl rfl rfl (.inl (by rfl)) ?_;simp only[aN.down,simprocAttr,bw,cn,bW];refine gB (ir a0.fa 0 2 _ cv) rfl rfl rfl rfl (.inl (by rfl)) ?_;simp only[aN.down,simprocAttr,bw,cn,bW];refine gB (ir a0.Second (-1) 2 _ bY) rfl rfl rfl rfl (.inl (by rfl)) ?_;simp only[aN.down,simprocAttr,bw,cn,bW];exact b3 (R bw (R cn bW))
    exact au (ag _ (.inl (aw [.bool false])))
  .refine eb (cr [(2,.bool false)] (λP bq=>?_) ?_)
   ·(try simp only[aN.down,simprocAttr,bw,cn]);refine dk (ir a0.Choice 0 199 _ aM) rfl rfl rfl rfl (.inl (by rfl)) ?_;simp only[aN.down,simprocAttr,bw,cn];refine gB (ir a0.fa 0 2 _ cv) rfl rfl rfl rfl (.inl (by rfl)) ?_;simp only[aN.down,simprocAttr,bw,cn];exact b3 (R bw cn)
   exact au (ag _ (.inl (aw [.bool false])))
 .refine ea bw (ir a0.Choice 0 199 _ aM) _ ?_;exact au (ag _ (.inl (aw [.bool false])))
theorem aqY (a0 r) (h:P8 a0=some r):aV af 70 [fC a0] (.bool r) []:=by
 refine bs [0] [.tmp 2] Tryz.func70 c70 (λbn ag bm=>?_);refine ws _ ?_;obtain⟨U,aM,h⟩:=aj h;refine cu (aqX a0 _ aM) _ ?_;exact au (ag _ (.inl (aw [.bool (!U)])))
theorem aqZ (a0 r) (h:P_ a0=some r):aV af 103 [.slice (a0.map fC),.fn 70 []] (.int .i64 r) []:=by
 refine bs [0,1] [.tmp 4] Tryz.func103 alT (λbn ag bm=>?_);refine ws _ ?_;refine az ag (λ_ bI a_ ah=>?_);refine ws _ ?_;refine bc a_ (λfy _ bN bw _=>?_);show bj af (.loop ?ft) _ _;have fV:∀n b4,CO a0 n b4=some r->cF af ?ft fy (aq [(0,.slice (a0.map fC)),(1,.fn 70 []),(7,.int .i64 (a0.length:Int)),(8,.int .i64 b4)]):=by
  refine cZ (λ_ fl b4 h=>cX bN (λ_ dZ c6 bo=>?_));refine ws _ ?_;refine az c6 (λ_ dn _ br=>?_);refine aD h (λbW h=>?_) (λbW h=>?_)
  .refine aI (dn _ (.inl ?_));refine az c6 (λ_ cV cb _=>?_);refine bc cb (λ_ b5 cx _ _=>?_);refine ws _ ?_;obtain⟨U,e0,h⟩:=aj h;obtain⟨ah,dp,h⟩:=aj h;refine ea e0 (aqY U _ dp) _ ?_;refine aD h (λeB h=>?_) (λeB h=>?_)
   .refine ws _ ?_;exact au (cx _ (.inl (aw [.int .i64 b4])))
   .refine aI (b5 _ (cV _ (.inl ?_)));refine wr _ ?_;exact dZ _ (.inr ⟨_,aW rfl,fl (i64.wrap (b4+1)) h⟩)
  .refine cP (br 0 _ (bo 0 _ (bw _ (bI _ (.inl ?_)))));refine ws _ ?_;exact au (ag _ (.inl (aw [.int .i64 (-1)])))
 obtain⟨n,h⟩:=cC h;exact cW (.inr ⟨_,aW rfl,fV n 0 h⟩)
theorem aq0 (a0 r) (h:Qa a0=some r):aV af 69 [.slice (a0.map fC),.fn 70 []] (.bool r) []:=by
 refine bs [0,1] [.tmp 4] Tryz.func69 alU (λbn ag bm=>?_);refine ws _ ?_;obtain⟨U,aM,h⟩:=aj h;refine cu (aqZ a0 _ aM) _ ?_;exact au (ag _ (.inl (aw [.bool (decide (0<=U))])))
theorem aq1 (a0 r) (h:Kq a0=some r):aV af 34 [.slice (a0.map fC)] (.bool r) []:=by
 refine bs [0] [.tmp 2] Tryz.func34 G4 (λbn ag bm=>?_);refine ws _ ?_;rcases dc h with⟨fY,h⟩|⟨fY,h⟩
 .obtain⟨U,bT,h⟩:=aj h;refine ea fY (aq0 a0 _ bT) _ ?_;exact au (ag _ (.inl (aw [.bool (!U)])))
 .refine cR fY _ ?_;exact au (ag _ (.inl (aw [.bool false])))
theorem aq2 (uS:azv->Option (ca×(List dq)×azv)) (aq3:∀a0 r,uS a0=some r->aV af 215 [.slice (a0.map ef)] (.tuple [.aQ (.agg [ef r.1,.ak 1 (r.2.1.map lR)]),.slice (r.2.2.map ef)]) []) (a0 r) (h:Qc uS a0=some r):aV af 215 [.slice (a0.map ef)] (.tuple [.aQ (.agg [ef r.1,.ak 1 (r.2.1.map lR)]),.slice (r.2.2.map ef)]) []:=by
 refine bs [0] [.tmp 2,.tmp 3] Tryz.func215 alV (λbn ag bm=>?_);refine ws _ ?_;obtain⟨U,aM,h⟩:=aj h;refine cR (R aM (show∀s,gm af s 288 [(0,.agg [.int .i64 U.Kind,.int .i64 U.Value])]=some (.agg [.agg [.int .i64 U.Kind,.int .i64 U.Value],.a8],s)from λs=>by kernel_rfl)) _ ?_;obtain⟨ah,cv,h⟩:=aj h;refine cR (R cv (@jN _ ef 2 (λ_=>rfl))) _ ?_;refine az ag (λ_ db cO _=>?_);obtain⟨aK,fh,h⟩:=aj h;refine ea aM (ZH U _ fh) _ ?_;refine bc cO (λjm _ cb eP _=>?_);show bj af (.loop ?z_) _ _;have Am:∀n hZ j9 sZ,zW uS U aK n hZ j9 sZ=some r->cF af ?z_ jm (aq [(4,.aQ (.agg [ef U,.ak 1 (hZ.map lR)])),(5,.slice (j9.map ef)),(17,.int .i64 aK),(18,.int .i64 sZ)]):=by
  refine cZ (λ_ An hZ j9 sZ h=>cX cb (λ_ b5 cx df=>?_));refine ws _ ?_;refine az cx (λ_ gY _ kq=>?_);refine aD h (λe1 h=>?_) (λe1 h=>?_)
  .refine aI (gY _ (.inl ?_));refine az cx (λ_ ej dL _=>?_);refine bc dL (λ_ fE _ _ _=>?_);refine ws _ ?_;obtain⟨bd,eT,h⟩:=aj h;refine cu (aq3 j9 _ eT) _ ?_;obtain⟨aos,gZ,h⟩:=aj h;(try simp only[fD.down,Nat.zero_add,Nat.add_zero,reduceAdd]at gZ);refine jg (cr [(4,.aQ (.agg [ef U,.ak 1 ((hZ++[(dq.mk bd.1 bd.2.1)]).map lR)])),(5,.slice (bd.2.2.map ef)),(17,.int .i64 aK),(18,.int .i64 sZ)] (λP bq=>?_) ?_)
   .simp only[aN.down,simprocAttr,Y1.down,n6,dK,gZ];(try simp only[ka.down,simprocAttr,Y1.down,n6,dK,gZ]at bq⊢);exact bq
   refine fE _ (ej _ (.inl ?_));refine wr [(4,.aQ (.agg [ef U,.ak 1 ((hZ++[(dq.mk bd.1 bd.2.1)]).map lR)])),(5,.slice (bd.2.2.map ef)),(17,.int .i64 aK),(18,.int .i64 (i64.wrap (sZ+1)))] ?_;exact b5 _ (.inr ⟨_,aW rfl,An (hZ++[(dq.mk bd.1 bd.2.1)]) bd.2.2 (i64.wrap (sZ+1)) h⟩)
  .refine cP (kq 0 _ (df 0 _ (eP _ (db _ (.inl ?_)))));refine ws _ ?_;exact au (ag _ (.inl (aw [.aQ (.agg [ef U,.ak 1 (hZ.map lR)]),.slice (j9.map ef)])))
 obtain⟨n,h⟩:=cC h;exact cW (.inr ⟨_,iV [] rfl (iN (t:=4) (d:=.aQ (.agg [ef U,.a8])) (bM:=.aQ (.agg [ef U,.ak 1 []])) rfl rfl (.aQ (.agg (.cons (.refl _) (.cons (.jf _) (.nil))))) (by decide) (cJ (t:=5) (d:=.slice (ah.map ef)) rfl (cJ (t:=17) (d:=.int .i64 aK) rfl (cJ (t:=18) (d:=.int .i64 0) rfl (iW))))),Am n [] ah 0 h⟩)
theorem aq4:∀n a0 r,CP n a0=some r->aV af 215 [.slice (a0.map ef)] (.tuple [.aQ (.agg [ef r.1,.ak 1 (r.2.1.map lR)]),.slice (r.2.2.map ef)]) []:=by
 intro n;induction n with
 |zero=>intro a0 r h;cases(show none=some r from h)
 |succ n ih=>intro a0 r h;exact aq2 (CP n) ih a0 r h
theorem aq5 (a0 r) (h:Qd a0=some r):aV af 215 [.slice (a0.map ef)] (.tuple [.aQ (.agg [ef r.1,.ak 1 (r.2.1.map lR)]),.slice (r.2.2.map ef)]) []:=by
 obtain⟨n,h⟩:=cC h;exact aq4 n a0 r h
theorem aq6 (a0 r) (h:Kr a0=some r):aV af 183 [.slice (a0.map ef)] (.aQ (.agg [ef r.1,.ak 1 (r.2.map lR)])) []:=by
 refine bs [0] [.tmp 2] Tryz.func183 c183 (λbn ag bm=>?_);refine ws _ ?_;obtain⟨U,aM,h⟩:=aj h;refine cu (aq5 a0 _ aM) _ ?_;refine ws _ ?_;exact au (ag _ (.inl (aw [.aQ (.agg [ef U.1,.ak 1 (U.2.1.map lR)])])))
theorem wR (a0 r) (h:rz a0=some r):aV af 216 [.bool a0] (.int .i64 r) []:=by
 refine bs [0] [.tmp 2] Tryz.func216 alW (λbn ag bm=>?_);refine ws _ ?_;refine az ag (λ_ bI a_ _=>?_);refine ws _ ?_;refine aD h (λbw h=>?_) (λbw h=>?_)
 .refine ws _ ?_;exact au (a_ _ (.inl (aw [.int .i64 1])))
 .refine aI (bI _ (.inl ?_));refine ws _ ?_;exact au (ag _ (.inl (aw [.int .i64 0])))
theorem aq7 (a0 J a2 r) (h:Ks a0 J a2=some r):aV af 217 [.int .i64 a0,.int .i64 J,.int .i64 a2] (.int .i64 r) []:=by
 refine bs [0,1,2] [.tmp 6] Tryz.func217 alX (λbn ag bm=>?_);refine ws _ ?_;refine az ag (λ_ bI a_ ah=>?_);refine ws _ ?_;refine bc a_ (λ_ eU bN _ bd=>?_);refine ws _ ?_;refine aD h (λcn h=>?_) (λcn h=>?_)
 .refine cR (@n5 .i64 64 (by decide)) _ ?_;exact au (bN _ (.inl (aw [.int .i64 (Int.tmod (i64.wrap (J+a2)) 64)])))
 .refine ws _ ?_;refine aD h (λeP h=>?_) (λeP h=>?_)
  .refine cR (@n5 .i64 64 (by decide)) _ ?_;exact au (bN _ (.inl (aw [.int .i64 (Int.tmod (i64.wrap ((i64.wrap (J-a2))+64)) 64)])))
  .refine ws _ ?_;refine aD h (λeV h=>?_) (λeV h=>?_)
   .refine cR (@n5 .i64 64 (by decide)) _ ?_;exact au (bN _ (.inl (aw [.int .i64 (Int.tmod (i64.wrap (J*a2)) 64)])))
   .refine ws _ ?_;refine aD h (λeB h=>?_) (λeB h=>?_)
    .obtain⟨U,dI,h⟩:=aj h;refine cu (wR (J==a2) _ dI) _ ?_;exact au (bN _ (.inl (aw [.int .i64 U])))
    .refine ws _ ?_;refine aD h (λfF h=>?_) (λfF h=>?_)
     .obtain⟨ah,h1,h⟩:=aj h;refine cu (wR (J !=a2) _ h1) _ ?_;exact au (bN _ (.inl (aw [.int .i64 ah])))
     .refine ws _ ?_;refine aD h (λgg h=>?_) (λgg h=>?_)
      .obtain⟨aK,h2,h⟩:=aj h;refine cu (wR (decide (J<a2)) _ h2) _ ?_;exact au (bN _ (.inl (aw [.int .i64 aK])))
      .refine ws _ ?_;refine aD h (λou h=>?_) (λou h=>?_)
       .obtain⟨bd,pz,h⟩:=aj h;refine cu (wR (decide (J<=a2)) _ pz) _ ?_;exact au (bN _ (.inl (aw [.int .i64 bd])))
       .refine ws _ ?_;refine aD h (λg_ h=>?_) (λg_ h=>?_)
        .rcases dc h with⟨jq,h⟩|⟨jq,h⟩
         .obtain⟨bo,jo,h⟩:=aj h;refine ea jq (wR (a2 !=0) _ jo) _ ?_;exact au (bN _ (.inl (aw [.int .i64 bo])))
         .obtain⟨b0,qO,h⟩:=aj h;refine ea jq (wR false _ qO) _ ?_;exact au (bN _ (.inl (aw [.int .i64 b0])))
        .refine aI (eU _ (bI _ (.inl ?_)));rcases dc h with⟨p6,h⟩|⟨p6,h⟩
         .obtain⟨br,tm,h⟩:=aj h;refine ea p6 (wR true _ tm) _ ?_;exact au (ag _ (.inl (aw [.int .i64 br])))
         .obtain⟨cT,As,h⟩:=aj h;refine ea p6 (wR (a2 !=0) _ As) _ ?_;exact au (ag _ (.inl (aw [.int .i64 cT])))
theorem aq8 (CQ:dq->aze->azh) (Sk:∀a0 J r,CQ a0 J=some r->aV af 184 [.ref (qJ a0),.slice (J.map a1)] (.int .i64 r) []) (a0 J r) (h:Qe CQ a0 J=some r):aV af 184 [.ref (qJ a0),.slice (J.map a1)] (.int .i64 r) []:=by
 refine bs [0,1] [.tmp 4] Tryz.func184 alY (λbn ag bm=>?_);refine ws _ ?_;refine az ag (λ_ bI a_ ah=>?_);refine ws _ ?_;refine bc a_ (λ_ eU bN _ bd=>?_);refine ws _ ?_;refine aD h (λcn h=>?_) (λcn h=>?_)
 .refine ws _ ?_;exact au (bN _ (.inl (aw [.int .i64 a0.term.Value])))
 .refine ws _ ?_;refine aD h (λeP h=>?_) (λeP h=>?_)
  .obtain⟨U,kg,h⟩:=aj h;refine cR kg _ ?_;exact au (bN _ (.inl (aw [.int .i64 U])))
  .refine ws _ ?_;refine aD h (λe1 h=>?_) (λe1 h=>?_)
   .obtain⟨ah,e6,h⟩:=aj h;obtain⟨aK,cp,h⟩:=aj h;obtain⟨bd,dI,h⟩:=aj h;refine eb (cr [(4,.int .i64 bd)] (λP bq=>?_) ?_)
    ·(try simp only[aN.down,simprocAttr,e6]);refine dk (Sk ah J _ cp) rfl rfl (by simp only[aN.down,simprocAttr,e6,yg.down]<;>rfl) rfl (.inl (by rfl)) ?_;simp only[aN.down,simprocAttr,e6];refine dk (wR (aK==0) _ dI) rfl rfl rfl rfl (.inl (by rfl)) ?_;simp only[aN.down,simprocAttr,e6];exact b3 e6
    exact au (bN _ (.inl (aw [.int .i64 bd])))
   .refine aI (eU _ (bI _ (.inl ?_)));obtain⟨bo,gb,h⟩:=aj h;obtain⟨b0,gZ,h⟩:=aj h;obtain⟨br,h1,h⟩:=aj h;obtain⟨cT,gN,h⟩:=aj h;obtain⟨dj,iA,h⟩:=aj h;refine iT rfl (h7 [(4,.int .i64 dj)] (λP bq=>?_) ?_)
    ·(try simp only[cU.down,simprocAttr,gb,h1]);refine hx (Sk bo J _ gZ) rfl rfl (by simp only[cU.down,simprocAttr,gb,h1,yg.down]<;>rfl) rfl (.inl (by rfl)) ?_;simp only[cU.down,simprocAttr,gb,h1];refine hx (Sk br J _ gN) rfl rfl (by simp only[cU.down,simprocAttr,gb,h1,yg.down]<;>rfl) rfl (.inl (by rfl)) ?_;simp only[cU.down,simprocAttr,gb,h1];refine hx (aq7 a0.term.Value b0 cT _ iA) rfl rfl rfl rfl (.inl (by rfl)) ?_;simp only[cU.down,simprocAttr,gb,h1];refine⟨hE (by kernel_rfl),?_⟩;exact b3 (R gb h1)
    exact au (ag _ (.inl (aw [.int .i64 dj])))
theorem aq9:∀n a0 J r,zX n a0 J=some r->aV af 184 [.ref (qJ a0),.slice (J.map a1)] (.int .i64 r) []:=by
 intro n;induction n with
 |zero=>intro a0 J r h;cases(show none=some r from h)
 |succ n ih=>intro a0 J r h;exact aq8 (zX n) ih a0 J r h
theorem aq_ (a0 J r) (h:Qf a0 J=some r):aV af 184 [.ref (qJ a0),.slice (J.map a1)] (.int .i64 r) []:=by
 obtain⟨n,h⟩:=cC h;exact aq9 n a0 J r h
theorem ZT (a0 J r) (h:CR a0 J=some r):aV af 152 [.slice (a0.map ef),.slice (J.map a1)] (.int .i64 r) []:=by
 refine bs [0,1] [.tmp 4] Tryz.func152 c152 (λbn ag bm=>?_);refine ws _ ?_;obtain⟨U,aM,h⟩:=aj h;obtain⟨ah,bT,h⟩:=aj h;refine eb (cr [(4,.int .i64 ah)] (λP bq=>?_) ?_)
 ·(try simp only[aN.down,simprocAttr]);refine dk (aq6 a0 _ aM) rfl rfl rfl rfl (.inl (by rfl)) ?_;simp only[aN.down,simprocAttr];refine dk (aq_ (dq.mk U.1 U.2) J _ bT) rfl rfl (by simp only[aN.down,simprocAttr,h8,h9,h_,cS, @bZ _ lR p2 (λ_=>X7 _)]<;>rfl) rfl (.inr (by rfl)) ?_;simp only[aN.down,simprocAttr];exact b3 trivial
 exact au (ag _ (.inl (aw [.int .i64 ah])))
theorem ZU (a0 J r) (h:Gv a0 J=some r):aV af 148 [.slice (a0.map iY),.slice (J.map a1)] (.ak 1 (r.map a1)) []:=by
 refine bs [0,1] [.tmp 4] Tryz.func148 c148 (λbn ag bm=>?_);refine ws _ ?_;refine ws _ ?_;refine az ag (λ_ eM cN _=>?_);refine ws _ ?_;refine bc cN (λqL _ c6 cI _=>?_);show bj af (.loop ?hQ) _ _;have ik:∀n fz rA,CS a0 J n fz rA=some r->cF af ?hQ qL (aq [(1,.slice (J.map a1)),(5,.ak 1 (fz.map a1)),(8,.slice (a0.map iY)),(9,.int .i64 (a0.length:Int)),(10,.int .i64 rA)]):=by
  refine cZ (λ_ il fz rA h=>cX c6 (λ_ db cO b0=>?_));refine ws _ ?_;refine az cO (λ_ hq _ cT=>?_);refine aD h (λeP h=>?_) (λeP h=>?_)
  .refine aI (hq _ (.inl ?_));refine az cO (λ_ b5 cx _=>?_);refine bc cx (λ_ eu _ _ _=>?_);obtain⟨U,e0,h⟩:=aj h;refine cR e0 _ ?_;obtain⟨ah,e6,h⟩:=aj h;obtain⟨K9,cp,h⟩:=aj h;(try simp only[fD.down,Nat.zero_add,Nat.add_zero,reduceAdd]at cp);refine Aa (R (show∀s,dS af s 54 1 [(0,.int .i64 ah)]=some (.ak 1 [.int .i64 ah],s)from λs=>by kernel_rfl) (R (@kn af 54 54 2 rfl rfl) (R @ko (R @kp (R @gI (R @all_cons (R @all_nil (R cp (@jN _ a1 1 (λ_=>rfl)))))))))) (ZT U J _ e6) [(1,.slice (J.map a1)),(5,.ak 1 ((fz++[ah]).map a1)),(8,.slice (a0.map iY)),(9,.int .i64 (a0.length:Int)),(10,.int .i64 rA)] ?_;refine eu _ (b5 _ (.inl ?_));refine wr [(1,.slice (J.map a1)),(5,.ak 1 ((fz++[ah]).map a1)),(8,.slice (a0.map iY)),(9,.int .i64 (a0.length:Int)),(10,.int .i64 (i64.wrap (rA+1)))] ?_;exact db _ (.inr ⟨_,aW rfl,il (fz++[ah]) (i64.wrap (rA+1)) h⟩)
  .refine cP (cT 0 _ (b0 0 _ (cI _ (eM _ (.inl ?_)))));refine ws _ ?_;exact au (ag _ (.inl (aw [.ak 1 (fz.map a1)])))
 obtain⟨n,h⟩:=cC h;exact cW (.inr ⟨_,iV [] rfl (cJ (t:=1) (d:=.slice (J.map a1)) rfl (iN (t:=5) (d:=.a8) (bM:=.ak 1 []) rfl rfl (.jf _) (by decide) (cJ (t:=8) (d:=.slice (a0.map iY)) rfl (cJ (t:=9) (d:=.int .i64 (a0.length:Int)) rfl (cJ (t:=10) (d:=.int .i64 0) rfl (iW)))))),ik n [] 0 h⟩)
theorem Sl (a0 r) (h:CT a0=some r):aV af 149 [.slice (a0.map a1)] (.ak 1 (r.map a1)) []:=by
 refine bs [0] [.tmp 2] Tryz.func149 alZ (λbn ag bm=>?_);refine ws _ ?_;refine az ag (λ_ bI a_ _=>?_);rcases dc h with⟨bw,h⟩|⟨bw,h⟩
 .refine eb (cr [(0,.slice (a0.map a1)),(4,.gA)] (λP bq=>?_) ?_)
  .simp only[aN.down,simprocAttr,IL,(WI bw),IM];exact b3 (R @IL (R (WI bw) @IM))
  obtain⟨b2,h⟩:=acD h;refine af1 rfl ?_ ?_
  .replace h:=b2;refine ws _ ?_;exact au (a_ _ (.inr ⟨[(2,.ak 1 [])],iV [] rfl (iN (t:=2) (d:=.a8) rfl rfl (.jf _) (by decide) (iW)),aw [.ak 1 []]⟩))
  .refine aI (bI _ (.inl ?_));obtain⟨u8,fh,h⟩:=aj h;(try simp only[fD.down,Nat.zero_add,Nat.add_zero,reduceAdd]at fh);refine cR (R (show∀s,dS af s 54 0 []=some (.ak 1 [],s)from λs=>by kernel_rfl) (R (@kn af 54 54 2 rfl rfl) (R @ko (R @kp (R @gI (R @all_cons (R @all_nil (R fh (@jN _ a1 1 (λ_=>rfl)))))))))) _ ?_;exact au (ag _ (.inl (aw [.ak 1 (a0.map a1)])))
 .refine eb (cr [(0,.slice (a0.map a1)),(4,.bool false)] (λP bq=>?_) ?_)
  .simp only[aN.down,simprocAttr,IL,(WJ bw),IM];exact b3 (R @IL (R (WJ bw) @IM))
  refine n4 rfl ?_;refine aI (bI _ (.inl ?_));obtain⟨Dt,gG,h⟩:=aj h;(try simp only[fD.down,Nat.zero_add,Nat.add_zero,reduceAdd]at gG);refine cR (R (show∀s,dS af s 54 0 []=some (.ak 1 [],s)from λs=>by kernel_rfl) (R (@kn af 54 54 2 rfl rfl) (R @ko (R @kp (R @gI (R @all_cons (R @all_nil (R gG (@jN _ a1 1 (λ_=>rfl)))))))))) _ ?_;exact au (ag _ (.inl (aw [.ak 1 (a0.map a1)])))
theorem ara (a0 r) (h:Qh a0=some r):aV af 272 [.int .i64 a0] (.bool r) []:=by
 refine bs [0] [.tmp 2] Tryz.func272 al0 (λbn ag bm=>?_);refine ws _ ?_;obtain⟨U,aM,h⟩:=aj h;refine cu (ir a0 (-1000000000000) 1000000000000 _ aM) _ ?_;exact au (ag _ (.inl (aw [.bool (!U)])))
theorem arb (a0 r) (h:Qj a0=some r):aV af 182 [.slice (a0.map a1),.fn 272 []] (.int .i64 r) []:=by
 refine bs [0,1] [.tmp 4] Tryz.func182 al1 (λbn ag bm=>?_);refine ws _ ?_;refine az ag (λ_ bI a_ ah=>?_);refine ws _ ?_;refine bc a_ (λfy _ bN bw _=>?_);show bj af (.loop ?ft) _ _;have fV:∀n b4,CU a0 n b4=some r->cF af ?ft fy (aq [(0,.slice (a0.map a1)),(1,.fn 272 []),(7,.int .i64 (a0.length:Int)),(8,.int .i64 b4)]):=by
  refine cZ (λ_ fl b4 h=>cX bN (λ_ dZ c6 bo=>?_));refine ws _ ?_;refine az c6 (λ_ dn _ br=>?_);refine aD h (λbW h=>?_) (λbW h=>?_)
  .refine aI (dn _ (.inl ?_));refine az c6 (λ_ cV cb _=>?_);refine bc cb (λ_ b5 cx _ _=>?_);refine ws _ ?_;obtain⟨U,e0,h⟩:=aj h;obtain⟨ah,dp,h⟩:=aj h;refine ea e0 (ara U _ dp) _ ?_;refine aD h (λeB h=>?_) (λeB h=>?_)
   .refine ws _ ?_;exact au (cx _ (.inl (aw [.int .i64 b4])))
   .refine aI (b5 _ (cV _ (.inl ?_)));refine wr _ ?_;exact dZ _ (.inr ⟨_,aW rfl,fl (i64.wrap (b4+1)) h⟩)
  .refine cP (br 0 _ (bo 0 _ (bw _ (bI _ (.inl ?_)))));refine ws _ ?_;exact au (ag _ (.inl (aw [.int .i64 (-1)])))
 obtain⟨n,h⟩:=cC h;exact cW (.inr ⟨_,aW rfl,fV n 0 h⟩)
theorem arc (a0 r) (h:Qk a0=some r):aV af 145 [.slice (a0.map a1),.fn 272 []] (.bool r) []:=by
 refine bs [0,1] [.tmp 4] Tryz.func145 al2 (λbn ag bm=>?_);refine ws _ ?_;obtain⟨U,aM,h⟩:=aj h;refine cu (arb a0 _ aM) _ ?_;exact au (ag _ (.inl (aw [.bool (decide (0<=U))])))
theorem ard (a0 r) (h:Kt a0=some r):aV af 257 [.slice (a0.map a1)] (.bool r) []:=by
 refine bs [0] [.tmp 2] Tryz.func257 al3 (λbn ag bm=>?_);refine ws _ ?_;rcases dc h with⟨fY,h⟩|⟨fY,h⟩
 .obtain⟨U,bT,h⟩:=aj h;refine ea fY (arc a0 _ bT) _ ?_;exact au (ag _ (.inl (aw [.bool (!U)])))
 .refine cR fY _ ?_;exact au (ag _ (.inl (aw [.bool false])))
theorem arf (a0 r) (h:Gw a0=some r):aV af 228 [.slice (a0.map a1)] (.str r) []:=by
 refine bs [0] [.tmp 2] Tryz.func228 c228 (λbn ag bm=>?_);refine ws _ ?_;refine az ag (λ_ bI a_ ah=>?_);refine bc a_ (λ_ eM cN _ _=>?_);obtain⟨U,cv,h⟩:=aj h;refine cu (ard a0 _ cv) _ ?_;refine aD h (λcn h=>?_) (λcn h=>?_)
 .refine ws _ ?_;exact au (cN _ (.inl (aw [.str ([]:azc)])))
 .refine ws _ ?_;refine aD h (λeP h=>?_) (λeP h=>?_)
  .refine ws _ ?_;exact au (cN _ (.inl (aw [.str ([45]:azc)])))
  .refine aI (eM _ (bI _ (.inl ?_)));obtain⟨ah,eJ,h⟩:=aj h;refine cu (ZR a0 ([44]:azc) _ eJ) _ ?_;exact au (ag _ (.inl (aw [.str ah])))
theorem arh (a0 r) (h:Ku a0=some r):aV af 192 [bC a0] (.str r) []:=by
 refine bs [0] [.tmp 2] Tryz.func192 al4 (λbn ag bm=>?_);refine ws _ ?_;obtain⟨U,aM,h⟩:=aj h;obtain⟨Lj,bT,h⟩:=aj h;(try simp only[fD.down,Nat.zero_add,Nat.add_zero,reduceAdd]at bT);obtain⟨ah,cv,h⟩:=aj h;obtain⟨Lj,ck,h⟩:=aj h;(try simp only[fD.down,Nat.zero_add,Nat.add_zero,reduceAdd]at ck);refine iT rfl (h7 [(2,.str ((U++([58]:azc))++ah))] (λP bq=>?_) ?_)
 ·(try simp only[cU.down,simprocAttr,bT,jl.down,ck]);refine hx (wQ a0.Part _ aM) rfl rfl rfl rfl (.inl (by rfl)) ?_;simp only[cU.down,simprocAttr,bT,jl.down,ck];refine hx (arf a0.bV _ cv) rfl rfl rfl rfl (.inl (by rfl)) ?_;simp only[cU.down,simprocAttr,bT,jl.down,ck];refine⟨hE (by kernel_rfl),?_⟩;exact b3 (R bT (R jl.down ck))
 exact au (ag _ (.inl (aw [.str ((U++([58]:azc))++ah)])))
theorem ZV (a0 r) (h:zY a0=some r):aV af 160 [bC a0] (.str r) []:=by
 refine bs [0] [.tmp 2] Tryz.func160 c160 (λbn ag bm=>?_);refine ws _ ?_;obtain⟨U,aM,h⟩:=aj h;obtain⟨Lj,bT,h⟩:=aj h;(try simp only[fD.down,Nat.zero_add,Nat.add_zero,reduceAdd]at bT);obtain⟨ah,cv,h⟩:=aj h;obtain⟨Lj,ck,h⟩:=aj h;(try simp only[fD.down,Nat.zero_add,Nat.add_zero,reduceAdd]at ck);refine iT rfl (h7 [(2,.str ((U++([58]:azc))++ah))] (λP bq=>?_) ?_)
 ·(try simp only[cU.down,simprocAttr,bT,jl.down,ck]);refine hx (wQ a0.cE _ aM) rfl rfl rfl rfl (.inl (by rfl)) ?_;simp only[cU.down,simprocAttr,bT,jl.down,ck];refine hx (arh a0 _ cv) rfl rfl rfl rfl (.inl (by rfl)) ?_;simp only[cU.down,simprocAttr,bT,jl.down,ck];refine⟨hE (by kernel_rfl),?_⟩;exact b3 (R bT (R jl.down ck))
 exact au (ag _ (.inl (aw [.str ((U++([58]:azc))++ah)])))
theorem ari (bu bz bx iz ku pY uT r) (h:Kv bu bz bx iz ku pY uT=some r):aV af 150 [.aQ (.agg [.slice (bu.map bg),.ak 4 (bz.map hF),.b9 (.mp bx)]),.agg [.str iz,.agg [.int .i64 ku,.int .i64 pY,.ak 1 (uT.map a1)]]] (.tuple []) [.aQ (.agg [.slice (r.1.map bg),.ak 4 (r.2.1.map hF),.b9 (.mp r.2.2)]),.hole]:=by
 refine bs [0,1] [] Tryz.func150 al6 (λbn ag bm=>?_);refine ws _ ?_;obtain⟨Dt,aM,h⟩:=aj h;(try simp only[fD.down,Nat.zero_add,Nat.add_zero,reduceAdd]at aM);obtain⟨U,bT,h⟩:=aj h;obtain⟨Dt,cv,h⟩:=aj h;(try simp only[fD.down,Nat.zero_add,Nat.add_zero,reduceAdd]at cv);refine iT rfl (h7 [(0,.aQ (.agg [.slice (bu.map bg),.ak 4 (bz.map hF),.b9 (.mp bx)])),(1,.agg [.str iz,.agg [.int .i64 ku,.int .i64 pY,.hole]]),(3,.aQ (.agg [.str iz,.agg [.int .i64 ku,.int .i64 pY,.ak 1 (uT.map a1)]])),(4,.str ((iz++([32]:azc))++U))] (λP bq=>?_) ?_)
 ·(try simp only[cU.down,simprocAttr,aM,jl.down,cv]);refine hx (ZV (bp.mk ku pY uT) _ bT) rfl rfl (by simp only[cU.down,simprocAttr,aM,zl,zm,cv,h8,h9,h_,cS, @bZ _ a1 a1 (λ_=>j_ _)]<;>rfl) rfl (.inr (by rfl)) ?_;simp only[cU.down,simprocAttr,aM,jl.down,cv];refine⟨hE (by kernel_rfl),?_⟩;exact b3 (R aM (R jl.down cv))
 refine cR (R @N2 (R @BD (show q0 af 137=true from by kernel_rfl))) [(0,.aQ (.agg [.slice (bu.map bg),.ak 4 (bz.map hF),.b9 (.mp bx)])),(1,.agg [.str iz,.agg [.int .i64 ku,.int .i64 pY,.hole]]),(3,.aQ (.agg [.str iz,.agg [.int .i64 ku,.int .i64 pY,.ak 1 (uT.map a1)]])),(4,.str ((iz++([32]:azc))++U)),(18,.bool (!(j0 ((iz++([32]:azc))++U) bx)))] ?_;refine aD h (λnZ h=>?_) (λnZ h=>?_)
 .refine cR (R @N3 (R @BD (show q0 af 137=true from by kernel_rfl))) [(0,.aQ (.agg [.slice (bu.map bg),.ak 4 (bz.map hF),.b9 (.mp (kb ((iz++([32]:azc))++U) true bx))])),(1,.agg [.str iz,.agg [.int .i64 ku,.int .i64 pY,.hole]]),(3,.aQ (.agg [.str iz,.agg [.int .i64 ku,.int .i64 pY,.ak 1 (uT.map a1)]]))] ?_;obtain⟨Dt,gG,h⟩:=aj h;(try simp only[fD.down,Nat.zero_add,Nat.add_zero,reduceAdd]at gG);refine ahI 0 7 [1,2,3,4,5,6,7,0,8,9,10] rfl rfl [(0,.aQ (.agg [.slice (bu.map bg),.ak 4 ((bz++[(bb.mk iz (bp.mk ku pY uT))]).map hF),.b9 (.mp (kb ((iz++([32]:azc))++U) true bx))])),(1,.agg [.str iz,.agg [.int .i64 ku,.int .i64 pY,.hole]])] (λP bq=>?_) (λP bq=>?_) ?_
  .simp only[cU.down,simprocAttr,K5.down,n6,dK,gG];refine⟨hE (by kernel_rfl),?_⟩;(try simp only[ka.down,simprocAttr,K5.down,n6,dK,gG]at bq⊢);exact bq
  .simp only[vR,List.map_cons,List.map_nil,List.getD_cons_zero,List.getD_cons_succ,simprocAttr];simp only[cU.down,simprocAttr,K5.down,n6,dK,gG];refine⟨hE (by kernel_rfl),?_⟩;(try simp only[ka.down,simprocAttr,K5.down,n6,dK,gG]at bq⊢);exact bq
  exact bm _ (.inl (km [] rfl (by cases gk h;rfl) (by decide) (kM (n8 (by cases gk h;rfl) rfl rfl rfl (dO (kN))))))
 .exact aI (bm _ (.inl (km [] rfl (by cases gk h;rfl) (by decide) (kM (n8 (by cases gk h;rfl) rfl rfl rfl (dO (kN)))))))
theorem arj (og:azx->azD->aza->Int->Int->aze->Option (azx×azD×aza)) (Lq:∀bu bz bx J a2 a3 r,og bu bz bx J a2 a3=some r->aV af 105 [.aQ (.agg [.slice (bu.map bg),.ak 4 (bz.map hF),.b9 (.mp bx)]),.int .i64 J,.int .i64 a2,.slice (a3.map a1)] (.tuple []) [.aQ (.agg [.slice (r.1.map bg),.ak 4 (r.2.1.map hF),.b9 (.mp r.2.2)]),.hole,.hole,.hole]) (bu bz bx J a2 a3 r) (h:x9 og bu bz bx J a2 a3=some r):aV af 105 [.aQ (.agg [.slice (bu.map bg),.ak 4 (bz.map hF),.b9 (.mp bx)]),.int .i64 J,.int .i64 a2,.slice (a3.map a1)] (.tuple []) [.aQ (.agg [.slice (r.1.map bg),.ak 4 (r.2.1.map hF),.b9 (.mp r.2.2)]),.hole,.hole,.hole]:=by
 refine bs [0,1,2,3] [] Tryz.func105 c105 (λbn ag bm=>?_);obtain⟨U,aU,h⟩:=aj h;refine cR aU _ ?_;obtain⟨ah,bT,h⟩:=aj h;refine cR bT _ ?_;refine ws _ ?_;refine bc ag (λjn db cO _ b0=>?_);refine ws _ ?_;refine aD h (λbW h=>?_) (λbW h=>?_)
 .obtain⟨aK,gG,h⟩:=aj h;obtain⟨bd,kg,h⟩:=aj h;refine iT rfl (h7 [(0,.aQ (.agg [.slice (bu.map bg),.ak 4 (bz.map hF),.b9 (.mp bx)])),(1,.int .i64 J),(2,.int .i64 a2),(3,.slice (a3.map a1)),(8,.aQ (bg U)),(10,.str bd.1)] (λP bq=>?_) ?_)
  ·(try simp only[cU.down,simprocAttr]);refine hx (ZU ah.cL a3 _ gG) rfl rfl rfl rfl (.inl (by rfl)) ?_;simp only[cU.down,simprocAttr];refine hx (Lo ah.Name aK _ kg) rfl rfl (by simp only[cU.down,simprocAttr,K3.down]<;>rfl) rfl (.inr (by rfl)) ?_;simp only[cU.down,simprocAttr];refine⟨hE (by kernel_rfl),?_⟩;exact b3 trivial
  obtain⟨bo,e0,h⟩:=aj h;refine ea (R (@mP af 72 [(2,0),(2,1),(54,2)] [(.int .i64 0),(.int .i64 0),.a8] rfl rfl (by kernel_rfl)) (R @lJ (R @lK (R @ee (R @gI (R @List.nil_append.{0} @List.cons_append.{0})))))) (Sl a3 _ e0) _ ?_;have wD:∀CV CW CX,Kw og bu bz bx bd CV CW CX=some r->bj af YE jn (aq [(0,.aQ (.agg [.slice (bu.map bg),.ak 4 (bz.map hF),.b9 (.mp bx)])),(10,.str bd.1),(12,.aQ (.agg [.int .i64 CV,.int .i64 CW,.ak 1 (CX.map a1)]))]):=by
   intro CV CW CX h;obtain⟨b0,cp,h⟩:=aj h;refine jg (cr [(0,.aQ (.agg [.slice (b0.1.map bg),.ak 4 (b0.2.1.map hF),.b9 (.mp b0.2.2)]))] (λP bq=>?_) ?_)
   ·(try simp only[aN.down,simprocAttr,Y2.down,ed,dK]);refine oI [⟨.h 0 [],true,_,_⟩,⟨.h 66 [],true,_,.hole⟩] (ari bu bz bx bd.1 CV CW CX _ cp) rfl rfl rfl (by simp only[aN.down,simprocAttr, @mP af 110 [(9,0),(72,1)] [(.str []),(.agg [(.int .i64 0),(.int .i64 0),.a8])] rfl rfl (by kernel_rfl),ed,lJ,dK,lK,ee,gI,List.nil_append,List.cons_append,pj,pP,pQ,h8,h9,h_,cS,or_true,true_or, @bZ _ bg bg (λ_=>s_ _), @bZ _ hF c8 (λ_=>GZ _), @bZ _ a1 a1 (λ_=>j_ _)]) rfl rfl (.inl rfl) ?_;simp only[aN.down,simprocAttr, @mP af 110 [(9,0),(72,1)] [(.str []),(.agg [(.int .i64 0),(.int .i64 0),.a8])] rfl rfl (by kernel_rfl),ed,lJ,dK,lK,ee,gI,List.nil_append,List.cons_append,n7];exact b3 Y2.down
   exact db _ (bm _ (.inl (km [] rfl (by cases gk h;rfl) (by decide) (kM (n8 (by cases gk h;rfl) rfl rfl rfl (dO (dO (dO (kN)))))))))
  refine az cO (λ_ ej _ jj=>?_);obtain⟨br,eT,h⟩:=aj h;refine cR eT _ ?_;refine ws _ ?_;refine aD h (λga h=>?_) (λga h=>?_)
  .obtain⟨cT,gN,h⟩:=aj h;refine YU (R (@mP af 72 [(2,0),(2,1),(54,2)] [(.int .i64 0),(.int .i64 0),.a8] rfl rfl (by kernel_rfl)) (R @lJ (R @lK (R @ee (R @gI (R @List.nil_append.{0} @List.cons_append.{0})))))) (ZU br.cL a3 _ gN) _ ?_;exact ej _ (.inr ⟨_,aW rfl,wD br.Number 0 cT h⟩)
  .exact aI (ej _ (.inr ⟨_,aW rfl,wD J (i64.wrap (a2+1)) bo h⟩))
 .refine ws _ ?_;refine aD h (λhz h=>?_) (λhz h=>?_)
  .obtain⟨dj,ti,h⟩:=aj h;refine eb (cr [(0,.aQ (.agg [.slice (dj.1.map bg),.ak 4 (dj.2.1.map hF),.b9 (.mp dj.2.2)])),(1,.int .i64 J),(2,.int .i64 a2),(3,.slice (a3.map a1)),(8,.aQ (bg U))] (λP bq=>?_) ?_)
   ·(try simp only[aN.down,simprocAttr]);refine oI [⟨.h 0 [],true,_,_⟩,⟨.int .i64 J,false,_,.hole⟩,⟨.int .i64 (i64.wrap (a2+1)),false,_,.hole⟩,⟨.slice (a3.map a1),false,_,.hole⟩] (Lq bu bz bx J (i64.wrap (a2+1)) a3 _ ti) rfl rfl rfl (by simp only[aN.down,simprocAttr,Re.down]) rfl rfl (.inl rfl) ?_;simp only[aN.down,simprocAttr,n7];exact b3 trivial
   obtain⟨df,vd,h⟩:=aj h;obtain⟨eA,pz,h⟩:=aj h;refine jg (cr [(0,.aQ (.agg [.slice (eA.1.map bg),.ak 4 (eA.2.1.map hF),.b9 (.mp eA.2.2)]))] (λP bq=>?_) ?_)
   ·(try simp only[aN.down,simprocAttr]);refine dk (ZE U (i64.wrap (a2+1)) _ vd) rfl rfl rfl rfl (.inl (by rfl)) ?_;simp only[aN.down,simprocAttr];refine oI [⟨.h 0 [],true,_,_⟩,⟨.int .i64 J,false,_,.hole⟩,⟨.int .i64 df,false,_,.hole⟩,⟨.slice (a3.map a1),false,_,.hole⟩] (Lq dj.1 dj.2.1 dj.2.2 J df a3 _ pz) rfl rfl rfl (by simp only[aN.down,simprocAttr,Re.down]) rfl rfl (.inl rfl) ?_;simp only[aN.down,simprocAttr,n7];exact b3 trivial
   exact db _ (bm _ (.inl (km [] rfl (by cases gk h;rfl) (by decide) (kM (n8 (by cases gk h;rfl) rfl rfl rfl (dO (dO (dO (kN)))))))))
  .refine ws _ ?_;refine aD h (λg_ h=>?_) (λg_ h=>?_)
   .obtain⟨kq,lU,h⟩:=aj h;obtain⟨lM,jo,h⟩:=aj h;refine ea lU (ZT kq a3 _ jo) _ ?_;refine aD h (λAh h=>?_) (λAh h=>?_)
    .obtain⟨jj,tg,h⟩:=aj h;refine jg (cr [(0,.aQ (.agg [.slice (jj.1.map bg),.ak 4 (jj.2.1.map hF),.b9 (.mp jj.2.2)]))] (λP bq=>?_) ?_)
     ·(try simp only[aN.down,simprocAttr]);refine oI [⟨.h 0 [],true,_,_⟩,⟨.int .i64 J,false,_,.hole⟩,⟨.int .i64 (i64.wrap (a2+1)),false,_,.hole⟩,⟨.slice (a3.map a1),false,_,.hole⟩] (Lq bu bz bx J (i64.wrap (a2+1)) a3 _ tg) rfl rfl rfl (by simp only[aN.down,simprocAttr,Re.down]) rfl rfl (.inl rfl) ?_;simp only[aN.down,simprocAttr,n7];exact b3 trivial
     exact db _ (bm _ (.inl (km [] rfl (by cases gk h;rfl) (by decide) (kM (n8 (by cases gk h;rfl) rfl rfl rfl (dO (dO (dO (kN)))))))))
    .exact aI (db _ (bm _ (.inl (km [] rfl (by cases gk h;rfl) (by decide) (kM (n8 (by cases gk h;rfl) rfl rfl rfl (dO (dO (dO (kN))))))))))
   .refine ws _ ?_;refine aD h (λAr h=>?_) (λAr h=>?_)
    .refine ws _ ?_;refine bc cO (λHe _ va wI _=>?_);have ark:∀n wt wu wv k6,CY og J a2 a3 ah n wt wu wv k6=some r->cF af YF He (aq [(0,.aQ (.agg [.slice (wt.map bg),.ak 4 (wu.map hF),.b9 (.mp wv)])),(1,.int .i64 J),(2,.int .i64 a2),(3,.slice (a3.map a1)),(103,.int .i64 (i64.wrap (ah.Number+1))),(104,.int .i64 k6)]):=by
      refine cZ (λ_ arl wt wu wv k6 h=>cX va (λ_ Ai yl Aj=>?_));refine ws _ ?_;refine az yl (λ_ vb _ Ho=>?_);refine aD h (λAk h=>?_) (λAk h=>?_)
      .refine aI (vb _ (.inl ?_));refine az yl (λ_ Al wJ _=>?_);refine bc wJ (λ_ p4 _ _ _=>?_);refine ws _ ?_;obtain⟨gT,Hh,h⟩:=aj h;obtain⟨ayH,wO,h⟩:=aj h;(try simp only[fD.down,Nat.zero_add,Nat.add_zero,reduceAdd]at wO);obtain⟨ic,tn,h⟩:=aj h;refine jg (cr [(0,.aQ (.agg [.slice (ic.1.map bg),.ak 4 (ic.2.1.map hF),.b9 (.mp ic.2.2)])),(1,.int .i64 J),(2,.int .i64 a2),(3,.slice (a3.map a1)),(103,.int .i64 (i64.wrap (ah.Number+1))),(104,.int .i64 k6)] (λP bq=>?_) ?_)
       ·(try simp only[aN.down,simprocAttr,(show∀s,dS af s 54 1 [(0,.int .i64 k6)]=some (.ak 1 [.int .i64 k6],s)from λs=>by kernel_rfl),Dm.down,wO,I.shares]);refine dk (Sl a3 _ Hh) rfl rfl rfl rfl (.inl (by rfl)) ?_;simp only[aN.down,simprocAttr,(show∀s,dS af s 54 1 [(0,.int .i64 k6)]=some (.ak 1 [.int .i64 k6],s)from λs=>by kernel_rfl),Dm.down,wO,I.shares];refine oI [⟨.h 0 [],true,_,_⟩,⟨.int .i64 J,false,_,.hole⟩,⟨.int .i64 (i64.wrap (a2+1)),false,_,.hole⟩,⟨.slice ((gT++[k6]).map a1),false,_,.hole⟩] (Lq wt wu wv J (i64.wrap (a2+1)) (gT++[k6]) _ tn) rfl rfl (by simp only[aN.down,simprocAttr,(show∀s,dS af s 54 1 [(0,.int .i64 k6)]=some (.ak 1 [.int .i64 k6],s)from λs=>by kernel_rfl),YY.down,wO,I.shares]) (by simp only[aN.down,simprocAttr,(show∀s,dS af s 54 1 [(0,.int .i64 k6)]=some (.ak 1 [.int .i64 k6],s)from λs=>by kernel_rfl), @kn af 54 54 2 rfl rfl,ko,kp,gI,all_cons,all_nil,wO, @jN _ a1 1 (λ_=>rfl),oa,n_,I.shares,cS,n9, @bZ _ a1 a1 (λ_=>j_ _),pj,pP,pQ,h8,h9,h_,cS,or_true,true_or, @bZ _ bg bg (λ_=>s_ _), @bZ _ hF c8 (λ_=>GZ _)]) rfl rfl (.inl rfl) ?_;simp only[aN.down,simprocAttr,(show∀s,dS af s 54 1 [(0,.int .i64 k6)]=some (.ak 1 [.int .i64 k6],s)from λs=>by kernel_rfl),YZ.down,wO,I.shares];exact b3 (R (show∀s,dS af s 54 1 [(0,.int .i64 k6)]=some (.ak 1 [.int .i64 k6],s)from λs=>by kernel_rfl) (R Dm.down wO))
       refine p4 _ (Al _ (.inl ?_));refine wr _ ?_;exact Ai _ (.inr ⟨_,aW rfl,arl ic.1 ic.2.1 ic.2.2 (i64.wrap (k6+1)) h⟩)
      .exact cP (Ho 1 _ (Aj 1 _ (wI _ (db _ (bm _ (.inl (km [] rfl (by cases gk h;rfl) (by decide) (kM (n8 (by cases gk h;rfl) rfl rfl rfl (dO (dO (dO (kN)))))))))))))
     obtain⟨n,h⟩:=cC h;exact cW (.inr ⟨_,aW rfl,ark n bu bz bx 0 h⟩)
    .exact aI (db _ (bm _ (.inl (km [] rfl (by cases gk h;rfl) (by decide) (kM (n8 (by cases gk h;rfl) rfl rfl rfl (dO (dO (dO (kN))))))))))
theorem arn:∀n bu bz bx J a2 a3 r,rB n bu bz bx J a2 a3=some r->aV af 105 [.aQ (.agg [.slice (bu.map bg),.ak 4 (bz.map hF),.b9 (.mp bx)]),.int .i64 J,.int .i64 a2,.slice (a3.map a1)] (.tuple []) [.aQ (.agg [.slice (r.1.map bg),.ak 4 (r.2.1.map hF),.b9 (.mp r.2.2)]),.hole,.hole,.hole]:=by
 intro n;induction n with
 |zero=>intro bu bz bx J a2 a3 r h;cases(show none=some r from h)
 |succ n ih=>intro bu bz bx J a2 a3 r h;exact arj (rB n) ih bu bz bx J a2 a3 r h
theorem aro (bu bz bx J a2 a3 r) (h:Kx bu bz bx J a2 a3=some r):aV af 105 [.aQ (.agg [.slice (bu.map bg),.ak 4 (bz.map hF),.b9 (.mp bx)]),.int .i64 J,.int .i64 a2,.slice (a3.map a1)] (.tuple []) [.aQ (.agg [.slice (r.1.map bg),.ak 4 (r.2.1.map hF),.b9 (.mp r.2.2)]),.hole,.hole,.hole]:=by
 obtain⟨n,h⟩:=cC h;exact arn n bu bz bx J a2 a3 r h
theorem arp (a0 J r) (h:uU a0 J=some r):aV af 72 [.slice (a0.map bg),bC J] (.tuple [.ak 4 (r.1.map hF),.bool r.2]) []:=by
 refine bs [0,1] [.tmp 4,.tmp 5] Tryz.func72 c72 (λbn ag bm=>?_);refine ws _ ?_;refine cR (R @WM (R (@mP af 179 [(35,0),(105,1),(137,2)] [.a8,.a8,(.b9 .kc)] rfl rfl (by kernel_rfl)) (R @lJ (R @lK (R @ee (R @gI (R @List.nil_append.{0} @List.cons_append.{0}))))))) _ ?_;obtain⟨U,bT,h⟩:=aj h;refine eb (cr [(6,.aQ (.agg [.slice (U.1.map bg),.ak 4 (U.2.1.map hF),.b9 (.mp U.2.2)]))] (λP bq=>?_) ?_)
 ·(try simp only[aN.down,simprocAttr]);refine oI [⟨.h 6 [],true,_,_⟩,⟨.int .i64 J.cE,false,_,.hole⟩,⟨.int .i64 J.Part,false,_,.hole⟩,⟨.slice (J.bV.map a1),false,_,.hole⟩] (aV.agu (aro a0 [] [] J.cE J.Part J.bV _ bT) (.wd (.aQ (.agg (.cons (.refl _) (.cons (.jf _) (.cons (.refl _) (.nil)))))) rfl rfl (.eq rfl (.eq rfl (.eq rfl (.nil)))))) rfl rfl rfl (by simp only[aN.down,simprocAttr,pj,pP,pQ,h8,h9,h_,cS,or_true,true_or, @bZ _ bg bg (λ_=>s_ _)]) rfl rfl (.inl rfl) ?_;simp only[aN.down,simprocAttr,n7];exact b3 trivial
 refine oT @WL _ ?_;exact au (ag _ (.inl (Wl 4 [.ak 4 (U.2.1.map hF),.bool (decide ((U.2.1.length:Int)<=200))])))
theorem arq (a0 J r) (h:Qn a0 J=some r):aV af 159 [.slice (a0.map aX),.str J] (.int .i64 r) []:=by
 refine bs [0,1] [.tmp 4] Tryz.func159 c159 (λbn ag bm=>?_);refine ws _ ?_;refine az ag (λ_ bI a_ _=>?_);refine ws _ ?_;refine bc a_ (λfy _ bN bw _=>?_);show bj af (.loop ?ft) _ _;have fV:∀n b4,zZ a0 J n b4=some r->cF af ?ft fy (aq [(0,.slice (a0.map aX)),(1,.str J),(7,.int .i64 (a0.length:Int)),(8,.int .i64 b4)]):=by
  refine cZ (λ_ fl b4 h=>cX bN (λ_ dZ c6 bo=>?_));refine ws _ ?_;refine az c6 (λ_ dn _ br=>?_);refine aD h (λbW h=>?_) (λbW h=>?_)
  .refine aI (dn _ (.inl ?_));refine az c6 (λ_ cV cb _=>?_);refine bc cb (λ_ b5 cx _ _=>?_);refine ws _ ?_;obtain⟨U,e0,h⟩:=aj h;refine cR e0 _ ?_;refine aD h (λgL h=>?_) (λgL h=>?_)
   .refine ws _ ?_;exact au (cx _ (.inl (aw [.int .i64 b4])))
   .refine aI (b5 _ (cV _ (.inl ?_)));refine wr _ ?_;exact dZ _ (.inr ⟨_,aW rfl,fl (i64.wrap (b4+1)) h⟩)
  .refine cP (br 0 _ (bo 0 _ (bw _ (bI _ (.inl ?_)))));refine ws _ ?_;exact au (ag _ (.inl (aw [.int .i64 (-1)])))
 obtain⟨n,h⟩:=cC h;exact cW (.inr ⟨_,aW rfl,fV n 0 h⟩)
theorem Sm (a0 J r) (h:CZ a0 J=some r):aV af 111 [.slice (a0.map aX),.str J] (.bool r) []:=by
 refine bs [0,1] [.tmp 4] Tryz.func111 ama (λbn ag bm=>?_);refine ws _ ?_;obtain⟨U,aM,h⟩:=aj h;refine cu (arq a0 J _ aM) _ ?_;exact au (ag _ (.inl (aw [.bool (decide (0<=U))])))
theorem Hr (a0 r) (h:z1 a0=some r):aV af 113 [bC a0] (eO r) []:=by
 refine bs [0] [.cell 2 72] Tryz.func113 amb (λbn ag bm=>?_);refine ws _ ?_;obtain⟨U,aM,h⟩:=aj h;refine cu (Sl a0.bV _ aM) _ ?_;refine ws _ ?_;exact au (ag _ (.inl (aw [eO (bp.mk a0.cE a0.Part U)])))
theorem ZW (a0 r) (h:Ky a0=some r):aV af 112 [.slice (a0.map bC)] (.ak 3 (r.map eO)) []:=by
 refine bs [0] [.tmp 2] Tryz.func112 amc (λbn ag bm=>?_);refine ws _ ?_;refine ws _ ?_;refine az ag (λ_ eM cN _=>?_);refine ws _ ?_;refine bc cN (λqL _ c6 cI _=>?_);show bj af (.loop ?hQ) _ _;have ik:∀n bP k7,C0 a0 n bP k7=some r->cF af ?hQ qL (aq [(3,.ak 3 (bP.map eO)),(6,.slice (a0.map bC)),(7,.int .i64 (a0.length:Int)),(8,.int .i64 k7)]):=by
  refine cZ (λ_ il bP k7 h=>cX c6 (λ_ db cO b0=>?_));refine ws _ ?_;refine az cO (λ_ hq _ cT=>?_);refine aD h (λeP h=>?_) (λeP h=>?_)
  .refine aI (hq _ (.inl ?_));refine az cO (λ_ b5 cx _=>?_);refine bc cx (λ_ eu _ _ _=>?_);obtain⟨U,e0,h⟩:=aj h;refine cR e0 _ ?_;obtain⟨ah,e6,h⟩:=aj h;obtain⟨K9,cp,h⟩:=aj h;(try simp only[fD.down,Nat.zero_add,Nat.add_zero,reduceAdd]at cp);refine jg (cr [(3,.ak 3 ((bP++[ah]).map eO)),(6,.slice (a0.map bC)),(7,.int .i64 (a0.length:Int)),(8,.int .i64 k7)] (λP bq=>?_) ?_)
   ·(try simp only[aN.down,simprocAttr,Rf.down,n6,dK,cp]);refine dk (Hr U _ e6) rfl rfl rfl rfl (.inl (by rfl)) ?_;simp only[aN.down,simprocAttr,Rf.down,n6,dK,cp];(try simp only[ka.down,simprocAttr,Rf.down,n6,dK,cp]at bq⊢);exact bq
   refine eu _ (b5 _ (.inl ?_));refine wr [(3,.ak 3 ((bP++[ah]).map eO)),(6,.slice (a0.map bC)),(7,.int .i64 (a0.length:Int)),(8,.int .i64 (i64.wrap (k7+1)))] ?_;exact db _ (.inr ⟨_,aW rfl,il (bP++[ah]) (i64.wrap (k7+1)) h⟩)
  .refine cP (cT 0 _ (b0 0 _ (cI _ (eM _ (.inl ?_)))));refine ws _ ?_;exact au (ag _ (.inl (aw [.ak 3 (bP.map eO)])))
 obtain⟨n,h⟩:=cC h;exact cW (.inr ⟨_,iV [] rfl (iN (t:=3) (d:=.a8) (bM:=.ak 3 []) rfl rfl (.jf _) (by decide) (cJ (t:=6) (d:=.slice (a0.map bC)) rfl (cJ (t:=7) (d:=.int .i64 (a0.length:Int)) rfl (cJ (t:=8) (d:=.int .i64 0) rfl (iW))))),ik n [] 0 h⟩)
theorem ZX (a0 r) (h:Kz a0=some r):aV af 114 [.slice (a0.map bC)] (.str r) []:=by
 refine bs [0] [.tmp 2] Tryz.func114 amd (λbn ag bm=>?_);refine ws _ ?_;refine ws _ ?_;refine az ag (λ_ eM cN aK=>?_);refine ws _ ?_;refine bc cN (λqL _ c6 cI _=>?_);have ik:∀n bP k7,C1 a0 n bP k7=some r->cF af YG qL (aq [(3,.ak 1 (bP.map aX)),(6,.slice (a0.map bC)),(7,.int .i64 (a0.length:Int)),(8,.int .i64 k7)]):=by
  refine cZ (λ_ il bP k7 h=>cX c6 (λ_ db cO b0=>?_));refine ws _ ?_;refine az cO (λ_ hq _ cT=>?_);refine aD h (λeP h=>?_) (λeP h=>?_)
  .refine aI (hq _ (.inl ?_));refine az cO (λ_ b5 cx _=>?_);refine bc cx (λ_ eu _ _ _=>?_);obtain⟨U,e0,h⟩:=aj h;refine cR e0 _ ?_;obtain⟨ah,e6,h⟩:=aj h;obtain⟨K9,cp,h⟩:=aj h;(try simp only[fD.down,Nat.zero_add,Nat.add_zero,reduceAdd]at cp);refine Aa (R (show∀s,dS af s 25 1 [(0,.str ah)]=some (.ak 1 [.str ah],s)from λs=>by kernel_rfl) (R (@kn af 25 25 9 rfl rfl) (R @ko (R @kp (R @gI (R @all_cons (R @all_nil (R cp (@jN _ aX 1 (λ_=>rfl)))))))))) (ZV U _ e6) [(3,.ak 1 ((bP++[ah]).map aX)),(6,.slice (a0.map bC)),(7,.int .i64 (a0.length:Int)),(8,.int .i64 k7)] ?_;refine eu _ (b5 _ (.inl ?_));refine wr [(3,.ak 1 ((bP++[ah]).map aX)),(6,.slice (a0.map bC)),(7,.int .i64 (a0.length:Int)),(8,.int .i64 (i64.wrap (k7+1)))] ?_;exact db _ (.inr ⟨_,aW rfl,il (bP++[ah]) (i64.wrap (k7+1)) h⟩)
  .refine cP (cT 0 _ (b0 0 _ (cI _ (eM _ (.inl ?_)))));obtain⟨aK,gb,h⟩:=aj h;refine eb (cr [(2,.str aK)] (λP bq=>?_) ?_)
   ·(try simp only[aN.down,simprocAttr]);refine dk (ZQ bP ([32]:azc) _ gb) rfl rfl (by simp only[aN.down,simprocAttr,Rd.down]<;>rfl) rfl (.inr (by rfl)) ?_;simp only[aN.down,simprocAttr];exact b3 trivial
   exact au (ag _ (.inl (aw [.str aK])))
 obtain⟨n,h⟩:=cC h;exact cW (.inr ⟨_,iV [] rfl (iN (t:=3) (d:=.a8) (bM:=.ak 1 []) rfl rfl (.jf _) (by decide) (cJ (t:=6) (d:=.slice (a0.map bC)) rfl (cJ (t:=7) (d:=.int .i64 (a0.length:Int)) rfl (cJ (t:=8) (d:=.int .i64 0) rfl (iW))))),ik n [] 0 h⟩)
theorem ZY (bu bz bx bQ bR gu gJ gv J a2 a3 a4 a5 r) (h:C3 bu bz bx bQ bR gu gJ gv J a2 a3 a4 a5=some r):aV af 74 [.aQ (.agg [.agg [.slice (bu.map bg),.slice (bz.map dm),.slice (bx.map bS),.slice (bQ.map aX),.slice (bR.map aX)],.slice (gu.map bC),.ak 4 (gJ.map fQ),.b9 (.mp gv)]),.str J,.slice (a2.map a1),.int .i64 a3,.int .i64 a4,.slice (a5.map bC)] (.tuple []) [.aQ (.agg [.agg [.slice (r.1.map bg),.slice (r.2.1.map dm),.slice (r.2.2.1.map bS),.slice (r.2.2.2.1.map aX),.slice (r.2.2.2.2.1.map aX)],.slice (r.2.2.2.2.2.1.map bC),.ak 4 (r.2.2.2.2.2.2.1.map fQ),.b9 (.mp r.2.2.2.2.2.2.2)]),.hole,.hole,.hole,.hole,.hole]:=by
 refine bs [0,3,4,5] [] Tryz.func74 amg (λbn ag bm=>?_);refine az ag (λ_ mu dU U=>?_);rcases dc h with⟨fY,h⟩|⟨fY,h⟩
 .obtain⟨U,bT,h⟩:=aj h;refine ea fY (Sm bQ J _ bT) _ ?_;refine aD h (λcI h=>?_) (λcI h=>?_)
  .exact au (dU _ (.inl (km [] rfl (by cases gk h;rfl) (by decide) (kM (n8 (by cases gk h;rfl) rfl rfl rfl (dO (dO (dO (dO (dO (kN)))))))))))
  .refine aI (mu _ (.inl ?_));have rL:∀s0 s3,qy a3 a4 a5 bu bz bx bQ bR gu gJ gv s0 s3=some r->bj af Q2 bn (aq [(0,.aQ (.agg [.agg [.slice (bu.map bg),.slice (bz.map dm),.slice (bx.map bS),.slice (bQ.map aX),.slice (bR.map aX)],.slice (gu.map bC),.ak 4 (gJ.map fQ),.b9 (.mp gv)])),(1,.str s0),(2,.slice (s3.map a1)),(3,.int .i64 a3),(4,.int .i64 a4),(5,.slice (a5.map bC))]):=by
    intro s0 s3 h;obtain⟨ah,fh,h⟩:=aj h;refine cu (Lo s0 s3 _ fh) _ ?_;obtain⟨aK,gG,h⟩:=aj h;refine cu (ZW gu _ gG) _ ?_;obtain⟨bd,eJ,h⟩:=aj h;obtain⟨bo,e0,h⟩:=aj h;obtain⟨b0,dp,h⟩:=aj h;refine eb (cr [(0,.aQ (.agg [.agg [.slice (bu.map bg),.slice (bz.map dm),.slice (bx.map bS),.slice (bQ.map aX),.slice (bR.map aX)],.slice (gu.map bC),.ak 4 (gJ.map fQ),.b9 (.mp gv)])),(3,.int .i64 a3),(4,.int .i64 a4),(5,.slice (a5.map bC)),(12,.str ah.1),(14,.ak 3 ((List.set aK (Int.toNat a3) bo).map eO))] (λP bq=>?_) ?_)
    ·(try simp only[aN.down,simprocAttr,eJ,dp,dy dp,ee,dW]);refine dk (Hr bd _ e0) rfl rfl rfl rfl (.inl (by rfl)) ?_;simp only[aN.down,simprocAttr,eJ,dp,dy dp,ee,dW];exact b3 (R eJ (R dp (R (dy dp) @ee)))
    have yr:∀ij mU,C2 a3 a4 bu bz bx bQ bR gu gJ gv ij mU=some r->bj af Q1 bn (aq [(0,.aQ (.agg [.agg [.slice (bu.map bg),.slice (bz.map dm),.slice (bx.map bS),.slice (bQ.map aX),.slice (bR.map aX)],.slice (gu.map bC),.ak 4 (gJ.map fQ),.b9 (.mp gv)])),(3,.int .i64 a3),(4,.int .i64 a4),(12,.str ij),(14,.ak 3 (mU.map eO))]):=by
     intro ij mU h;obtain⟨Dx,dI,h⟩:=aj h;(try simp only[fD.down,Nat.zero_add,Nat.add_zero,reduceAdd]at dI);obtain⟨br,eT,h⟩:=aj h;obtain⟨Dx,gb,h⟩:=aj h;(try simp only[fD.down,Nat.zero_add,Nat.add_zero,reduceAdd]at gb);obtain⟨Dx,gZ,h⟩:=aj h;(try simp only[fD.down,Nat.zero_add,Nat.add_zero,reduceAdd]at gZ);obtain⟨cT,h1,h⟩:=aj h;obtain⟨Dx,gN,h⟩:=aj h;(try simp only[fD.down,Nat.zero_add,Nat.add_zero,reduceAdd]at gN);obtain⟨Dx,iA,h⟩:=aj h;(try simp only[fD.down,Nat.zero_add,Nat.add_zero,reduceAdd]at iA);obtain⟨dj,lx,h⟩:=aj h;obtain⟨Dx,h2,h⟩:=aj h;(try simp only[fD.down,Nat.zero_add,Nat.add_zero,reduceAdd]at h2);refine eb (cr [(0,.aQ (.agg [.agg [.slice (bu.map bg),.slice (bz.map dm),.slice (bx.map bS),.slice (bQ.map aX),.slice (bR.map aX)],.slice (gu.map bC),.ak 4 (gJ.map fQ),.b9 (.mp gv)])),(3,.int .i64 a3),(4,.int .i64 a4),(12,.str ij),(14,.ak 3 (mU.map eO)),(15,.str ((((((ij++([32]:azc))++br)++([32]:azc))++cT)++([32]:azc))++dj))] (λP bq=>?_) ?_)
     ·(try simp only[aN.down,simprocAttr,dI,jl.down,gb,gZ,gN,iA,h2]);refine dk (wQ a3 _ eT) rfl rfl rfl rfl (.inl (by rfl)) ?_;simp only[aN.down,simprocAttr,dI,jl.down,gb,gZ,gN,iA,h2];refine dk (wQ a4 _ h1) rfl rfl rfl rfl (.inl (by rfl)) ?_;simp only[aN.down,simprocAttr,dI,jl.down,gb,gZ,gN,iA,h2];refine dk (ZX mU _ lx) rfl rfl (by simp only[aN.down,simprocAttr,dI,Y3.down,gb,gZ,gN,iA,h2]<;>rfl) rfl (.inr (by rfl)) ?_;simp only[aN.down,simprocAttr,dI,jl.down,gb,gZ,gN,iA,h2];exact b3 (R dI (R jl.down (R gb (R gZ (R gN (R iA h2))))))
     refine cR (R @N2 (R @BD (show q0 af 137=true from by kernel_rfl))) [(0,.aQ (.agg [.agg [.slice (bu.map bg),.slice (bz.map dm),.slice (bx.map bS),.slice (bQ.map aX),.slice (bR.map aX)],.slice (gu.map bC),.ak 4 (gJ.map fQ),.b9 (.mp gv)])),(3,.int .i64 a3),(4,.int .i64 a4),(12,.str ij),(14,.ak 3 (mU.map eO)),(15,.str ((((((ij++([32]:azc))++br)++([32]:azc))++cT)++([32]:azc))++dj)),(81,.bool (!(j0 ((((((ij++([32]:azc))++br)++([32]:azc))++cT)++([32]:azc))++dj) gv)))] ?_;refine aD h (λou h=>?_) (λou h=>?_)
     .refine cR (R @N3 (R @BD (show q0 af 137=true from by kernel_rfl))) [(0,.aQ (.agg [.agg [.slice (bu.map bg),.slice (bz.map dm),.slice (bx.map bS),.slice (bQ.map aX),.slice (bR.map aX)],.slice (gu.map bC),.ak 4 (gJ.map fQ),.b9 (.mp (kb ((((((ij++([32]:azc))++br)++([32]:azc))++cT)++([32]:azc))++dj) true gv))])),(3,.int .i64 a3),(4,.int .i64 a4),(12,.str ij),(14,.ak 3 (mU.map eO))] ?_;obtain⟨Dx,Av,h⟩:=aj h;(try simp only[fD.down,Nat.zero_add,Nat.add_zero,reduceAdd]at Av);refine jg (cr [(0,.aQ (.agg [.agg [.slice (bu.map bg),.slice (bz.map dm),.slice (bx.map bS),.slice (bQ.map aX),.slice (bR.map aX)],.slice (gu.map bC),.ak 4 ((gJ++[(bf.mk ij a3 a4 mU)]).map fQ),.b9 (.mp (kb ((((((ij++([32]:azc))++br)++([32]:azc))++cT)++([32]:azc))++dj) true gv))]))] (λP bq=>?_) ?_)
      .simp only[aN.down,simprocAttr,K6.down,ed,dK,n6,Av];(try simp only[ka.down,simprocAttr,K6.down,ed,dK,n6,Av]at bq⊢);exact bq
      exact bm _ (.inl (km [] rfl (by cases gk h;rfl) (by decide) (kM (n8 (by cases gk h;rfl) rfl rfl rfl (dO (dO (dO (dO (dO (kN))))))))))
     .exact aI (bm _ (.inl (km [] rfl (by cases gk h;rfl) (by decide) (kM (n8 (by cases gk h;rfl) rfl rfl rfl (dO (dO (dO (dO (dO (kN)))))))))))
    refine az ag (λ_ fE _ gT=>?_);refine ws [(0,.aQ (.agg [.agg [.slice (bu.map bg),.slice (bz.map dm),.slice (bx.map bS),.slice (bQ.map aX),.slice (bR.map aX)],.slice (gu.map bC),.ak 4 (gJ.map fQ),.b9 (.mp gv)])),(3,.int .i64 a3),(4,.int .i64 a4),(5,.slice (a5.map bC)),(12,.str ah.1),(14,.ak 3 ((List.set aK (Int.toNat a3) bo).map eO)),(54,.bool (decide (0<=a4)))] ?_;refine aD h (λG_ h=>?_) (λG_ h=>?_)
    .obtain⟨df,jo,h⟩:=aj h;obtain⟨eA,qO,h⟩:=aj h;obtain⟨kq,py,h⟩:=aj h;refine jg (cr [(0,.aQ (.agg [.agg [.slice (bu.map bg),.slice (bz.map dm),.slice (bx.map bS),.slice (bQ.map aX),.slice (bR.map aX)],.slice (gu.map bC),.ak 4 (gJ.map fQ),.b9 (.mp gv)])),(3,.int .i64 a3),(4,.int .i64 a4),(12,.str ah.1),(14,.ak 3 ((List.set (List.set aK (Int.toNat a3) bo) (Int.toNat a4) eA).map eO))] (λP bq=>?_) ?_)
     ·(try simp only[aN.down,simprocAttr,jo,py,dy py,ee,dW]);refine dk (Hr df _ qO) rfl rfl rfl rfl (.inl (by rfl)) ?_;simp only[aN.down,simprocAttr,jo,py,dy py,ee,dW];exact b3 (R jo (R py (R (dy py) @ee)))
     exact fE _ (.inr ⟨_,aW rfl,yr ah.1 (List.set (List.set aK (Int.toNat a3) bo) (Int.toNat a4) eA) h⟩)
    .exact aI (fE _ (.inr ⟨_,aW rfl,yr ah.1 (List.set aK (Int.toNat a3) bo) h⟩))
   refine az ag (λ_ db _ b0=>?_);obtain⟨lM,tm,h⟩:=aj h;refine cu (Sm bR J _ tm) _ ?_;refine aD h (λAr h=>?_) (λAr h=>?_)
   .refine wr _ ?_;exact db _ (.inr ⟨_,iV [] rfl (cJ (t:=0) (d:=.aQ (.agg [.agg [.slice (bu.map bg),.slice (bz.map dm),.slice (bx.map bS),.slice (bQ.map aX),.slice (bR.map aX)],.slice (gu.map bC),.ak 4 (gJ.map fQ),.b9 (.mp gv)])) rfl (cJ (t:=1) (d:=.str ([116,97,117]:azc)) rfl (iN (t:=2) (d:=.a8) (bM:=.slice []) rfl rfl (.xE) (by decide) (cJ (t:=3) (d:=.int .i64 a3) rfl (cJ (t:=4) (d:=.int .i64 a4) rfl (cJ (t:=5) (d:=.slice (a5.map bC)) rfl (iW))))))),rL ([116,97,117]:azc) [] h⟩)
   .exact aI (db _ (.inr ⟨_,aW rfl,rL J a2 h⟩))
 .refine cR fY _ ?_;refine n4 rfl ?_;refine aI (mu _ (.inl ?_));have rL:∀s0 s3,qy a3 a4 a5 bu bz bx bQ bR gu gJ gv s0 s3=some r->bj af Q2 bn (aq [(0,.aQ (.agg [.agg [.slice (bu.map bg),.slice (bz.map dm),.slice (bx.map bS),.slice (bQ.map aX),.slice (bR.map aX)],.slice (gu.map bC),.ak 4 (gJ.map fQ),.b9 (.mp gv)])),(1,.str s0),(2,.slice (s3.map a1)),(3,.int .i64 a3),(4,.int .i64 a4),(5,.slice (a5.map bC))]):=by
   intro s0 s3 h;obtain⟨jj,Ds,h⟩:=aj h;refine cu (Lo s0 s3 _ Ds) _ ?_;obtain⟨gT,Dp,h⟩:=aj h;refine cu (ZW gu _ Dp) _ ?_;obtain⟨ic,At,h⟩:=aj h;obtain⟨k5,Sa,h⟩:=aj h;obtain⟨wb,th,h⟩:=aj h;refine eb (cr [(0,.aQ (.agg [.agg [.slice (bu.map bg),.slice (bz.map dm),.slice (bx.map bS),.slice (bQ.map aX),.slice (bR.map aX)],.slice (gu.map bC),.ak 4 (gJ.map fQ),.b9 (.mp gv)])),(3,.int .i64 a3),(4,.int .i64 a4),(5,.slice (a5.map bC)),(12,.str jj.1),(14,.ak 3 ((List.set gT (Int.toNat a3) k5).map eO))] (λP bq=>?_) ?_)
   ·(try simp only[aN.down,simprocAttr,At,th,dy th,ee,dW]);refine dk (Hr ic _ Sa) rfl rfl rfl rfl (.inl (by rfl)) ?_;simp only[aN.down,simprocAttr,At,th,dy th,ee,dW];exact b3 (R At (R th (R (dy th) @ee)))
   have yr:∀ij mU,C2 a3 a4 bu bz bx bQ bR gu gJ gv ij mU=some r->bj af Q1 bn (aq [(0,.aQ (.agg [.agg [.slice (bu.map bg),.slice (bz.map dm),.slice (bx.map bS),.slice (bQ.map aX),.slice (bR.map aX)],.slice (gu.map bC),.ak 4 (gJ.map fQ),.b9 (.mp gv)])),(3,.int .i64 a3),(4,.int .i64 a4),(12,.str ij),(14,.ak 3 (mU.map eO))]):=by
    intro ij mU h;obtain⟨Dy,tn,h⟩:=aj h;(try simp only[fD.down,Nat.zero_add,Nat.add_zero,reduceAdd]at tn);obtain⟨mS,yo,h⟩:=aj h;obtain⟨Dy,wN,h⟩:=aj h;(try simp only[fD.down,Nat.zero_add,Nat.add_zero,reduceAdd]at wN);obtain⟨Dy,ov,h⟩:=aj h;(try simp only[fD.down,Nat.zero_add,Nat.add_zero,reduceAdd]at ov);obtain⟨mT,Hn,h⟩:=aj h;obtain⟨Dy,wP,h⟩:=aj h;(try simp only[fD.down,Nat.zero_add,Nat.add_zero,reduceAdd]at wP);obtain⟨Dy,oU,h⟩:=aj h;(try simp only[fD.down,Nat.zero_add,Nat.add_zero,reduceAdd]at oU);obtain⟨oM,rT,h⟩:=aj h;obtain⟨Dy,tl,h⟩:=aj h;(try simp only[fD.down,Nat.zero_add,Nat.add_zero,reduceAdd]at tl);refine eb (cr [(0,.aQ (.agg [.agg [.slice (bu.map bg),.slice (bz.map dm),.slice (bx.map bS),.slice (bQ.map aX),.slice (bR.map aX)],.slice (gu.map bC),.ak 4 (gJ.map fQ),.b9 (.mp gv)])),(3,.int .i64 a3),(4,.int .i64 a4),(12,.str ij),(14,.ak 3 (mU.map eO)),(15,.str ((((((ij++([32]:azc))++mS)++([32]:azc))++mT)++([32]:azc))++oM))] (λP bq=>?_) ?_)
    ·(try simp only[aN.down,simprocAttr,tn,jl.down,wN,ov,wP,oU,tl]);refine dk (wQ a3 _ yo) rfl rfl rfl rfl (.inl (by rfl)) ?_;simp only[aN.down,simprocAttr,tn,jl.down,wN,ov,wP,oU,tl];refine dk (wQ a4 _ Hn) rfl rfl rfl rfl (.inl (by rfl)) ?_;simp only[aN.down,simprocAttr,tn,jl.down,wN,ov,wP,oU,tl];refine dk (ZX mU _ rT) rfl rfl (by simp only[aN.down,simprocAttr,tn,Y3.down,wN,ov,wP,oU,tl]<;>rfl) rfl (.inr (by rfl)) ?_;simp only[aN.down,simprocAttr,tn,jl.down,wN,ov,wP,oU,tl];exact b3 (R tn (R jl.down (R wN (R ov (R wP (R oU tl))))))
    refine cR (R @N2 (R @BD (show q0 af 137=true from by kernel_rfl))) [(0,.aQ (.agg [.agg [.slice (bu.map bg),.slice (bz.map dm),.slice (bx.map bS),.slice (bQ.map aX),.slice (bR.map aX)],.slice (gu.map bC),.ak 4 (gJ.map fQ),.b9 (.mp gv)])),(3,.int .i64 a3),(4,.int .i64 a4),(12,.str ij),(14,.ak 3 (mU.map eO)),(15,.str ((((((ij++([32]:azc))++mS)++([32]:azc))++mT)++([32]:azc))++oM)),(81,.bool (!(j0 ((((((ij++([32]:azc))++mS)++([32]:azc))++mT)++([32]:azc))++oM) gv)))] ?_;refine aD h (λars h=>?_) (λars h=>?_)
    .refine cR (R @N3 (R @BD (show q0 af 137=true from by kernel_rfl))) [(0,.aQ (.agg [.agg [.slice (bu.map bg),.slice (bz.map dm),.slice (bx.map bS),.slice (bQ.map aX),.slice (bR.map aX)],.slice (gu.map bC),.ak 4 (gJ.map fQ),.b9 (.mp (kb ((((((ij++([32]:azc))++mS)++([32]:azc))++mT)++([32]:azc))++oM) true gv))])),(3,.int .i64 a3),(4,.int .i64 a4),(12,.str ij),(14,.ak 3 (mU.map eO))] ?_;obtain⟨Dy,Hp,h⟩:=aj h;(try simp only[fD.down,Nat.zero_add,Nat.add_zero,reduceAdd]at Hp);refine jg (cr [(0,.aQ (.agg [.agg [.slice (bu.map bg),.slice (bz.map dm),.slice (bx.map bS),.slice (bQ.map aX),.slice (bR.map aX)],.slice (gu.map bC),.ak 4 ((gJ++[(bf.mk ij a3 a4 mU)]).map fQ),.b9 (.mp (kb ((((((ij++([32]:azc))++mS)++([32]:azc))++mT)++([32]:azc))++oM) true gv))]))] (λP bq=>?_) ?_)
     .simp only[aN.down,simprocAttr,K6.down,ed,dK,n6,Hp];(try simp only[ka.down,simprocAttr,K6.down,ed,dK,n6,Hp]at bq⊢);exact bq
     exact bm _ (.inl (km [] rfl (by cases gk h;rfl) (by decide) (kM (n8 (by cases gk h;rfl) rfl rfl rfl (dO (dO (dO (dO (dO (kN))))))))))
    .exact aI (bm _ (.inl (km [] rfl (by cases gk h;rfl) (by decide) (kM (n8 (by cases gk h;rfl) rfl rfl rfl (dO (dO (dO (dO (dO (kN)))))))))))
   refine az ag (λ_ Lr _ _=>?_);refine ws [(0,.aQ (.agg [.agg [.slice (bu.map bg),.slice (bz.map dm),.slice (bx.map bS),.slice (bQ.map aX),.slice (bR.map aX)],.slice (gu.map bC),.ak 4 (gJ.map fQ),.b9 (.mp gv)])),(3,.int .i64 a3),(4,.int .i64 a4),(5,.slice (a5.map bC)),(12,.str jj.1),(14,.ak 3 ((List.set gT (Int.toNat a3) k5).map eO)),(54,.bool (decide (0<=a4)))] ?_;refine aD h (λnM h=>?_) (λnM h=>?_)
   .obtain⟨nH,So,h⟩:=aj h;obtain⟨ns,art,h⟩:=aj h;obtain⟨F6,yj,h⟩:=aj h;refine jg (cr [(0,.aQ (.agg [.agg [.slice (bu.map bg),.slice (bz.map dm),.slice (bx.map bS),.slice (bQ.map aX),.slice (bR.map aX)],.slice (gu.map bC),.ak 4 (gJ.map fQ),.b9 (.mp gv)])),(3,.int .i64 a3),(4,.int .i64 a4),(12,.str jj.1),(14,.ak 3 ((List.set (List.set gT (Int.toNat a3) k5) (Int.toNat a4) ns).map eO))] (λP bq=>?_) ?_)
    ·(try simp only[aN.down,simprocAttr,So,yj,dy yj,ee,dW]);refine dk (Hr nH _ art) rfl rfl rfl rfl (.inl (by rfl)) ?_;simp only[aN.down,simprocAttr,So,yj,dy yj,ee,dW];exact b3 (R So (R yj (R (dy yj) @ee)))
    exact Lr _ (.inr ⟨_,aW rfl,yr jj.1 (List.set (List.set gT (Int.toNat a3) k5) (Int.toNat a4) ns) h⟩)
   .exact aI (Lr _ (.inr ⟨_,aW rfl,yr jj.1 (List.set gT (Int.toNat a3) k5) h⟩))
  refine az ag (λ_ Ap _ _=>?_);obtain⟨wc,Rz,h⟩:=aj h;refine cu (Sm bR J _ Rz) _ ?_;refine aD h (λaru h=>?_) (λaru h=>?_)
  .refine wr _ ?_;exact Ap _ (.inr ⟨_,iV [] rfl (cJ (t:=0) (d:=.aQ (.agg [.agg [.slice (bu.map bg),.slice (bz.map dm),.slice (bx.map bS),.slice (bQ.map aX),.slice (bR.map aX)],.slice (gu.map bC),.ak 4 (gJ.map fQ),.b9 (.mp gv)])) rfl (cJ (t:=1) (d:=.str ([116,97,117]:azc)) rfl (iN (t:=2) (d:=.a8) (bM:=.slice []) rfl rfl (.xE) (by decide) (cJ (t:=3) (d:=.int .i64 a3) rfl (cJ (t:=4) (d:=.int .i64 a4) rfl (cJ (t:=5) (d:=.slice (a5.map bC)) rfl (iW))))))),rL ([116,97,117]:azc) [] h⟩)
  .exact aI (Ap _ (.inr ⟨_,aW rfl,rL J a2 h⟩))
theorem arv (a0 J a2 r) (h:XJ a0 J a2=some r):aV af 163 [bS a0,.ref (.str J),.ref (.str a2)] (.bool r) []:=by
 refine bs [0,1,2] [.tmp 4] Tryz.func163 amh (λbn ag bm=>?_);refine ws _ ?_;refine K1 (a0.Left==(hO false J a2)) (R @N4 @agt) [(4,.bool ((a0.Left==(hO false J a2))&&(a0.cY==(hO true J a2))))] ?_;exact au (ag _ (.inl (aw [.bool ((a0.Left==(hO false J a2))&&(a0.cY==(hO true J a2)))])))
theorem arw (a0 iz ku r) (h:Qr a0 iz ku=some r):aV af 162 [.slice (a0.map bS),.fn 163 [.ref (.str iz),.ref (.str ku)]] (.int .i64 r) []:=by
 refine bs [0,1] [.tmp 4] Tryz.func162 ami (λbn ag bm=>?_);refine ws _ ?_;refine az ag (λ_ bI a_ ah=>?_);refine ws _ ?_;refine bc a_ (λfy _ bN bw _=>?_);show bj af (.loop ?ft) _ _;have fV:∀n b4,C4 a0 iz ku n b4=some r->cF af ?ft fy (aq [(0,.slice (a0.map bS)),(1,.fn 163 [.ref (.str iz),.ref (.str ku)]),(7,.int .i64 (a0.length:Int)),(8,.int .i64 b4)]):=by
  refine cZ (λ_ fl b4 h=>cX bN (λ_ dZ c6 bo=>?_));refine ws _ ?_;refine az c6 (λ_ dn _ br=>?_);refine aD h (λbW h=>?_) (λbW h=>?_)
  .refine aI (dn _ (.inl ?_));refine az c6 (λ_ cV cb _=>?_);refine bc cb (λ_ b5 cx _ _=>?_);refine ws _ ?_;obtain⟨U,e0,h⟩:=aj h;obtain⟨ah,dp,h⟩:=aj h;refine ea e0 (arv U iz ku _ dp) _ ?_;refine aD h (λeB h=>?_) (λeB h=>?_)
   .refine ws _ ?_;exact au (cx _ (.inl (aw [.int .i64 b4])))
   .refine aI (b5 _ (cV _ (.inl ?_)));refine wr _ ?_;exact dZ _ (.inr ⟨_,aW rfl,fl (i64.wrap (b4+1)) h⟩)
  .refine cP (br 0 _ (bo 0 _ (bw _ (bI _ (.inl ?_)))));refine ws _ ?_;exact au (ag _ (.inl (aw [.int .i64 (-1)])))
 obtain⟨n,h⟩:=cC h;exact cW (.inr ⟨_,aW rfl,fV n 0 h⟩)
theorem arx (a0 J a2 r) (h:z6 a0 J a2=some r):aV af 115 [fk a0,.str J,.str a2] (.tuple [.str r.1,.bool r.2]) []:=by
 refine bs [0,1,2] [.tmp 6,.tmp 7] Tryz.func115 amj (λbn ag bm=>?_);refine ws _ ?_;obtain⟨U,aM,h⟩:=aj h;refine eb (cr [(3,.aQ (fk a0)),(8,.int .i64 U)] (λP bq=>?_) ?_)
 ·(try simp only[aN.down,simprocAttr]);refine dk (arw a0.b8 J a2 _ aM) rfl rfl (by simp only[aN.down,simprocAttr,yg.down]<;>rfl) rfl (.inr (by rfl)) ?_;simp only[aN.down,simprocAttr];exact b3 trivial
 refine az ag (λ_ eU bN _=>?_);refine ws _ ?_;refine aD h (λcn h=>?_) (λcn h=>?_)
 .refine ws _ ?_;exact au (bN _ (.inl (aw [.str ([]:azc),.bool false])))
 .refine aI (eU _ (.inl ?_));obtain⟨ah,iH,h⟩:=aj h;refine cR iH _ ?_;exact au (ag _ (.inl (aw [.str ah.Result,.bool true])))
theorem ary (a0 J r) (h:Gx a0 J=some r):aV af 116 [.slice (a0.map a1),.slice (J.map a1)] (.bool r) []:=by
 refine bs [0,1] [.tmp 4] Tryz.func116 c116 (λbn ag bm=>?_);refine ws _ ?_;refine az ag (λ_ bI a_ ah=>?_);refine ws _ ?_;refine aD h (λbw h=>?_) (λbw h=>?_)
 .refine ws _ ?_;exact au (a_ _ (.inl (aw [.bool false])))
 .refine aI (bI _ (.inl ?_));refine az ag (λ_ db cO _=>?_);refine ws _ ?_;refine bc cO (λim _ gK bW _=>?_);show bj af (.loop ?gw) _ _;have gM:∀n s4,C5 a0 J n s4=some r->cF af ?gw im (aq [(0,.slice (a0.map a1)),(1,.slice (J.map a1)),(12,.int .i64 (a0.length:Int)),(13,.int .i64 s4)]):=by
   refine cZ (λ_ gx s4 h=>cX gK (λ_ cV cb dj=>?_));refine ws _ ?_;refine az cb (λ_ eu _ eA=>?_);refine aD h (λeV h=>?_) (λeV h=>?_)
   .refine aI (eu _ (.inl ?_));refine az cb (λ_ fb e5 _=>?_);refine bc e5 (λ_ ej dL _ _=>?_);refine ws _ ?_;obtain⟨U,dI,h⟩:=aj h;obtain⟨ah,eT,h⟩:=aj h;refine oT (R dI eT) _ ?_;refine aD h (λfF h=>?_) (λfF h=>?_)
    .refine ws _ ?_;exact au (dL _ (.inl (aw [.bool false])))
    .refine aI (ej _ (fb _ (.inl ?_)));refine wr _ ?_;exact cV _ (.inr ⟨_,aW rfl,gx (i64.wrap (s4+1)) h⟩)
   .refine cP (eA 0 _ (dj 0 _ (bW _ (db _ (.inl ?_)))));refine ws _ ?_;exact au (ag _ (.inl (aw [.bool true])))
  obtain⟨n,h⟩:=cC h;exact cW (.inr ⟨_,aW rfl,gM n 0 h⟩)
theorem arz (bu bz bx bQ bR gu gJ gv J a2 a3 a4 r) (h:Qv bu bz bx bQ bR gu gJ gv J a2 a3 a4=some r):aV af 75 [.aQ (.agg [.agg [.slice (bu.map bg),.slice (bz.map dm),.slice (bx.map bS),.slice (bQ.map aX),.slice (bR.map aX)],.slice (gu.map bC),.ak 4 (gJ.map fQ),.b9 (.mp gv)]),.int .i64 J,.int .i64 a2,.slice (a3.map c8),.slice (a4.map c8)] (.tuple []) [.aQ (.agg [.agg [.slice (r.1.map bg),.slice (r.2.1.map dm),.slice (r.2.2.1.map bS),.slice (r.2.2.2.1.map aX),.slice (r.2.2.2.2.1.map aX)],.slice (r.2.2.2.2.2.1.map bC),.ak 4 (r.2.2.2.2.2.2.1.map fQ),.b9 (.mp r.2.2.2.2.2.2.2)]),.hole,.hole,.hole,.hole]:=by
 refine bs [0,1,2,3,4] [] Tryz.func75 c75 (λbn ag bm=>?_);refine ws _ ?_;refine bc ag (λNv _ a_ gd ah=>?_);have arA:∀n uV uW uX uY uZ u0 u1 u2 s5,s6 J a2 a3 a4 n uV uW uX uY uZ u0 u1 u2 s5=some r->cF af YJ Nv (aq [(0,.aQ (.agg [.agg [.slice (uV.map bg),.slice (uW.map dm),.slice (uX.map bS),.slice (uY.map aX),.slice (uZ.map aX)],.slice (u0.map bC),.ak 4 (u1.map fQ),.b9 (.mp u2)])),(1,.int .i64 J),(2,.int .i64 a2),(4,.slice (a4.map c8)),(22,.slice (a3.map c8)),(23,.int .i64 (a3.length:Int)),(24,.int .i64 s5)]):=by
  refine cZ (λm3 arB uV uW uX uY uZ u0 u1 u2 s5 h=>cX a_ (λ_ eM cN aK=>?_));refine ws _ ?_;refine az cN (λ_ dZ _ bo=>?_);refine aD h (λcn h=>?_) (λcn h=>?_)
  .refine aI (dZ _ (.inl ?_));refine az cN (λ_ dn el br=>?_);refine bc el (λ_ hq gK _ _=>?_);obtain⟨U,gG,h⟩:=aj h;refine cR gG _ ?_;obtain⟨ah,eJ,h⟩:=aj h;refine cu (Lp U.Label _ eJ) _ ?_;refine ws _ ?_;refine bc gK (λAc _ dL gL _=>?_);have arC:∀n oh oi oj om oo pr pt pv oR oS,wx (s6 J a2 a3 a4 m3) J a2 a3 a4 U ah n oh oi oj om oo pr pt pv oR oS=some r->cF af YI Ac (aq [(0,.aQ (.agg [.agg [.slice (oh.map bg),.slice (oi.map dm),.slice (oj.map bS),.slice (om.map aX),.slice (oo.map aX)],.slice (pr.map bC),.ak 4 (pt.map fQ),.b9 (.mp pv)])),(1,.int .i64 J),(2,.int .i64 a2),(4,.slice (a4.map c8)),(11,.aQ (c8 U)),(12,.str ah.1),(13,.slice (ah.2.1.map a1)),(22,.slice (a3.map c8)),(23,.int .i64 (a3.length:Int)),(24,.int .i64 oR),(35,.slice (a4.map c8)),(36,.int .i64 (a4.length:Int)),(37,.int .i64 oS)]):=by
    refine cZ (λm19 arD oh oi oj om oo pr pt pv oR oS h=>cX dL (λwM fE fK gT=>?_));refine ws _ ?_;refine az fK (λ_ jz _ k5=>?_);refine aD h (λhr h=>?_) (λhr h=>?_)
    .refine aI (jz _ (.inl ?_));have Sp:∀C6 C7 C8 C9 C_ Da Db Dc Dd De,Gy (s6 J a2 a3 a4 m3) (wx (s6 J a2 a3 a4 m3) J a2 a3 a4 U ah m19) J a2 a3 a4 U ah C6 C7 C8 C9 C_ Da Db Dc Dd De=some r->bj af YH wM (aq [(0,.aQ (.agg [.agg [.slice (C6.map bg),.slice (C7.map dm),.slice (C8.map bS),.slice (C9.map aX),.slice (C_.map aX)],.slice (Da.map bC),.ak 4 (Db.map fQ),.b9 (.mp Dc)])),(1,.int .i64 J),(2,.int .i64 a2),(4,.slice (a4.map c8)),(11,.aQ (c8 U)),(12,.str ah.1),(13,.slice (ah.2.1.map a1)),(22,.slice (a3.map c8)),(23,.int .i64 (a3.length:Int)),(24,.int .i64 Dd),(35,.slice (a4.map c8)),(36,.int .i64 (a4.length:Int)),(37,.int .i64 De)]):=by
      intro C6 C7 C8 C9 C_ Da Db Dc Dd De h;refine wr _ ?_;exact fE _ (.inr ⟨_,aW rfl,arD C6 C7 C8 C9 C_ Da Db Dc Dd (i64.wrap (De+1)) h⟩)
     refine az fK (λ_ oq wC _=>?_);refine bc wC (λ_ rV _ _ _=>?_);obtain⟨aK,iA,h⟩:=aj h;refine cR iA _ ?_;obtain⟨bd,h2,h⟩:=aj h;refine cu (Lp aK.Label _ h2) _ ?_;obtain⟨bo,tc,h⟩:=aj h;refine cu (arx (cM.mk oh oi oj om oo) ah.1 bd.1 _ tc) _ ?_;rcases dc h with⟨iq,h⟩|⟨iq,h⟩
     .obtain⟨b0,Av,h⟩:=aj h;refine eb (cr [(0,.aQ (.agg [.agg [.slice (oh.map bg),.slice (oi.map dm),.slice (oj.map bS),.slice (om.map aX),.slice (oo.map aX)],.slice (pr.map bC),.ak 4 (pt.map fQ),.b9 (.mp pv)])),(1,.int .i64 J),(2,.int .i64 a2),(4,.slice (a4.map c8)),(11,.aQ (c8 U)),(12,.str ah.1),(13,.slice (ah.2.1.map a1)),(16,.aQ (c8 aK)),(20,.str bo.1),(22,.slice (a3.map c8)),(23,.int .i64 (a3.length:Int)),(24,.int .i64 oR),(35,.slice (a4.map c8)),(36,.int .i64 (a4.length:Int)),(37,.int .i64 oS),(63,.bool b0)] (λP bq=>?_) ?_)
      ·(try simp only[aN.down,simprocAttr,iq]);refine gB (ary ah.2.1 bd.2.1 _ Av) rfl rfl (by simp only[aN.down,simprocAttr,iq,K3.down]<;>rfl) rfl (.inr (by rfl)) ?_;simp only[aN.down,simprocAttr,iq];exact b3 iq
      refine aD h (λg_ h=>?_) (λg_ h=>?_)
      .obtain⟨br,lU,h⟩:=aj h;refine jg (cr [(0,.aQ (.agg [.agg [.slice (br.1.map bg),.slice (br.2.1.map dm),.slice (br.2.2.1.map bS),.slice (br.2.2.2.1.map aX),.slice (br.2.2.2.2.1.map aX)],.slice (br.2.2.2.2.2.1.map bC),.ak 4 (br.2.2.2.2.2.2.1.map fQ),.b9 (.mp br.2.2.2.2.2.2.2)])),(1,.int .i64 J),(2,.int .i64 a2),(4,.slice (a4.map c8)),(11,.aQ (c8 U)),(12,.str ah.1),(13,.slice (ah.2.1.map a1)),(22,.slice (a3.map c8)),(23,.int .i64 (a3.length:Int)),(24,.int .i64 oR),(35,.slice (a4.map c8)),(36,.int .i64 (a4.length:Int)),(37,.int .i64 oS)] (λP bq=>?_) ?_)
       ·(try simp only[aN.down,simprocAttr,(show∀s,dS af s 41 2 [(0,.agg [.int .i64 U.Next.cE,.int .i64 U.Next.Part,.slice (U.Next.bV.map a1)]),(1,.agg [.int .i64 aK.Next.cE,.int .i64 aK.Next.Part,.slice (aK.Next.bV.map a1)])]=some (.ak 3 [.agg [.int .i64 U.Next.cE,.int .i64 U.Next.Part,.slice (U.Next.bV.map a1)],.agg [.int .i64 aK.Next.cE,.int .i64 aK.Next.Part,.slice (aK.Next.bV.map a1)]],s)from λs=>by kernel_rfl),K7.down,I.shares]);refine oI [⟨.h 0 [],true,_,_⟩,⟨.str bo.1,false,_,.hole⟩,⟨.slice (ah.2.1.map a1),false,_,.hole⟩,⟨.int .i64 J,false,_,.hole⟩,⟨.int .i64 a2,false,_,.hole⟩,⟨.slice ([U.Next,aK.Next].map bC),false,_,.hole⟩] (ZY oh oi oj om oo pr pt pv bo.1 ah.2.1 J a2 [U.Next,aK.Next] _ lU) rfl rfl rfl (by simp only[aN.down,simprocAttr,(show∀s,dS af s 41 2 [(0,.agg [.int .i64 U.Next.cE,.int .i64 U.Next.Part,.slice (U.Next.bV.map a1)]),(1,.agg [.int .i64 aK.Next.cE,.int .i64 aK.Next.Part,.slice (aK.Next.bV.map a1)])]=some (.ak 3 [.agg [.int .i64 U.Next.cE,.int .i64 U.Next.Part,.slice (U.Next.bV.map a1)],.agg [.int .i64 aK.Next.cE,.int .i64 aK.Next.Part,.slice (aK.Next.bV.map a1)]],s)from λs=>by kernel_rfl),Y4.down,I.shares]) rfl rfl (.inl rfl) ?_;simp only[aN.down,simprocAttr,(show∀s,dS af s 41 2 [(0,.agg [.int .i64 U.Next.cE,.int .i64 U.Next.Part,.slice (U.Next.bV.map a1)]),(1,.agg [.int .i64 aK.Next.cE,.int .i64 aK.Next.Part,.slice (aK.Next.bV.map a1)])]=some (.ak 3 [.agg [.int .i64 U.Next.cE,.int .i64 U.Next.Part,.slice (U.Next.bV.map a1)],.agg [.int .i64 aK.Next.cE,.int .i64 aK.Next.Part,.slice (aK.Next.bV.map a1)]],s)from λs=>by kernel_rfl),Y5.down,I.shares];exact b3 (R (show∀s,dS af s 41 2 [(0,.agg [.int .i64 U.Next.cE,.int .i64 U.Next.Part,.slice (U.Next.bV.map a1)]),(1,.agg [.int .i64 aK.Next.cE,.int .i64 aK.Next.Part,.slice (aK.Next.bV.map a1)])]=some (.ak 3 [.agg [.int .i64 U.Next.cE,.int .i64 U.Next.Part,.slice (U.Next.bV.map a1)],.agg [.int .i64 aK.Next.cE,.int .i64 aK.Next.Part,.slice (aK.Next.bV.map a1)]],s)from λs=>by kernel_rfl) K7.down)
       exact rV _ (oq _ (.inr ⟨_,aW rfl,Sp br.1 br.2.1 br.2.2.1 br.2.2.2.1 br.2.2.2.2.1 br.2.2.2.2.2.1 br.2.2.2.2.2.2.1 br.2.2.2.2.2.2.2 oR oS h⟩))
      .exact aI (rV _ (oq _ (.inr ⟨_,aW rfl,Sp oh oi oj om oo pr pt pv oR oS h⟩)))
     .refine cR iq _ ?_;refine n4 rfl ?_;exact aI (rV _ (oq _ (.inr ⟨_,aW rfl,Sp oh oi oj om oo pr pt pv oR oS h⟩)))
    .refine cP (k5 2 _ (gT 2 _ (gL _ (hq _ (dn _ (.inl ?_))))));refine wr _ ?_;exact eM _ (.inr ⟨_,aW rfl,arB oh oi oj om oo pr pt pv (i64.wrap (oR+1)) h⟩)
   obtain⟨n,h⟩:=cC h;exact cW (.inr ⟨_,iV [] rfl (cJ (t:=0) (d:=.aQ (.agg [.agg [.slice (uV.map bg),.slice (uW.map dm),.slice (uX.map bS),.slice (uY.map aX),.slice (uZ.map aX)],.slice (u0.map bC),.ak 4 (u1.map fQ),.b9 (.mp u2)])) rfl (cJ (t:=1) (d:=.int .i64 J) rfl (cJ (t:=2) (d:=.int .i64 a2) rfl (cJ (t:=4) (d:=.slice (a4.map c8)) rfl (cJ (t:=11) (d:=.aQ (c8 U)) rfl (cJ (t:=12) (d:=.str ah.1) rfl (iN (t:=13) (d:=.ak 1 (ah.2.1.map a1)) (bM:=.slice (ah.2.1.map a1)) rfl rfl (af6 rfl rfl (congrArg I.slice (bZ (λ_=>j_ _) _))) (by decide) (cJ (t:=22) (d:=.slice (a3.map c8)) rfl (cJ (t:=23) (d:=.int .i64 (a3.length:Int)) rfl (cJ (t:=24) (d:=.int .i64 s5) rfl (cJ (t:=35) (d:=.slice (a4.map c8)) rfl (cJ (t:=36) (d:=.int .i64 (a4.length:Int)) rfl (cJ (t:=37) (d:=.int .i64 0) rfl (iW)))))))))))))),arC n uV uW uX uY uZ u0 u1 u2 s5 0 h⟩)
  .exact cP (bo 0 _ (aK 0 _ (gd _ (bm _ (.inl (km [] rfl (by cases gk h;rfl) (by decide) (kM (n8 (by cases gk h;rfl) rfl rfl rfl (dO (dO (dO (dO (kN)))))))))))))
 obtain⟨n,h⟩:=cC h;exact cW (.inr ⟨_,aW rfl,arA n bu bz bx bQ bR gu gJ gv 0 h⟩)
theorem arE (a0 J r) (h:KA a0 J=some r):aV af 35 [fk a0,.slice (J.map bC)] (.tuple [.ak 4 (r.1.map fQ),.bool r.2]) []:=by
 refine bs [0,1] [.tmp 4,.tmp 5] Tryz.func35 amo (λbn ag bm=>?_);refine ws _ ?_;refine cR (R @WM (R (@mP af 139 [(39,0),(41,5),(64,6),(137,7)] [(.agg [.a8,.a8,.a8,.a8,.a8]),.a8,.a8,(.b9 .kc)] rfl rfl (by kernel_rfl)) (R @lJ (R @lK (R @ee (R @gI (R @List.nil_append.{0} @List.cons_append.{0}))))))) _ ?_;refine ws _ ?_;refine az ag (λ_ eU bN bd=>?_);refine ws _ ?_;refine bc bN (λjn _ cO cn b0=>?_);have Am:∀n lp qF qG qH gf nK,p1 a0 J n lp qF qG qH gf nK=some r->cF af YL jn (aq [(1,.slice (J.map bC)),(2,.aQ (fk a0)),(6,.aQ (.agg [fk lp,.slice (qF.map bC),.ak 4 (qG.map fQ),.b9 (.mp qH)])),(7,.ak 1 (gf.map gj)),(24,.slice (J.map bC)),(25,.int .i64 (J.length:Int)),(26,.int .i64 nK)]):=by
  refine cZ (λm10 An lp qF qG qH gf nK h=>cX cO (λ_ dn el br=>?_));refine ws _ ?_;refine az el (λ_ cV _ dj=>?_);refine aD h (λeQ h=>?_) (λeQ h=>?_)
  .refine aI (cV _ (.inl ?_));refine az el (λ_ eu hM _=>?_);refine bc hM (λ_ gY mz _ _=>?_);obtain⟨U,dp,h⟩:=aj h;refine cR dp _ ?_;obtain⟨ah,cp,h⟩:=aj h;refine cu (arp a0.cw U _ cp) _ ?_;refine az mz (λ_ jz kT _=>?_);refine ws _ ?_;refine aD h (λfF h=>?_) (λfF h=>?_)
   .refine ws _ ?_;exact au (kT _ (.inr ⟨[(4,.ak 4 []),(5,.bool false)],iV [] rfl (iN (t:=4) (d:=.a8) rfl rfl (.jf _) (by decide) (cJ rfl (iW))),aw [.ak 4 [],.bool false]⟩))
   .refine aI (jz _ (.inr ⟨[(1,.slice (J.map bC)),(2,.aQ (fk a0)),(6,.aQ (.agg [fk lp,.slice (qF.map bC),.ak 4 (qG.map fQ),.b9 (.mp qH)])),(7,.ak 1 (gf.map gj)),(8,.int .i64 nK),(10,.slice (ah.1.map c8)),(24,.slice (J.map bC)),(25,.int .i64 (J.length:Int)),(26,.int .i64 nK),(39,.bool (!ah.2))],iV [] rfl (cJ rfl (cJ rfl (cJ rfl (cJ rfl (cJ rfl (iN (t:=10) (d:=.ak 4 (ah.1.map hF)) (bM:=.slice (ah.1.map c8)) rfl rfl (BA rfl rfl (by simp only[cS,I.share,I.shares, @bZ _ hF c8 (λ_=>GZ _)]<;>rfl)) (by decide) (cJ rfl (cJ rfl (cJ rfl (cJ rfl (iW))))))))))),?_⟩));obtain⟨aoq,gN,h⟩:=aj h;(try simp only[fD.down,Nat.zero_add,Nat.add_zero,reduceAdd]at gN);refine cR (R (show∀s,dS af s 104 1 [(0,.slice (ah.1.map c8))]=some (.ak 1 [.slice (ah.1.map c8)],s)from λs=>by kernel_rfl) (R (@kn af 104 104 105 rfl rfl) (R @ko (R @kp (R @gI (R @all_cons (R @all_nil (R gN (@jN _ gj 1 (λ_=>rfl)))))))))) [(1,.slice (J.map bC)),(2,.aQ (fk a0)),(6,.aQ (.agg [fk lp,.slice (qF.map bC),.ak 4 (qG.map fQ),.b9 (.mp qH)])),(7,.ak 1 ((gf++[ah.1]).map gj)),(8,.int .i64 nK),(10,.slice (ah.1.map c8)),(24,.slice (J.map bC)),(25,.int .i64 (J.length:Int)),(26,.int .i64 nK)] ?_;refine ws [(1,.slice (J.map bC)),(2,.aQ (fk a0)),(6,.aQ (.agg [fk lp,.slice (qF.map bC),.ak 4 (qG.map fQ),.b9 (.mp qH)])),(7,.ak 1 ((gf++[ah.1]).map gj)),(8,.int .i64 nK),(24,.slice (J.map bC)),(25,.int .i64 (J.length:Int)),(26,.int .i64 nK),(44,.slice (ah.1.map c8)),(45,.int .i64 (ah.1.length:Int)),(46,.int .i64 0)] ?_;refine bc mz (λRW _ Ao hz _=>?_);have arF:∀n ks rC rD rE qz pZ qA qB,x_ (p1 a0 J m10) a0 J ah n ks rC rD rE qz pZ qA qB=some r->cF af YK RW (aq [(1,.slice (J.map bC)),(2,.aQ (fk a0)),(6,.aQ (.agg [fk ks,.slice (rC.map bC),.ak 4 (rD.map fQ),.b9 (.mp rE)])),(7,.ak 1 (qz.map gj)),(8,.int .i64 pZ),(24,.slice (J.map bC)),(25,.int .i64 (J.length:Int)),(26,.int .i64 qA),(44,.slice (ah.1.map c8)),(45,.int .i64 (ah.1.length:Int)),(46,.int .i64 qB)]):=by
     refine cZ (λ_ arG ks rC rD rE qz pZ qA qB h=>cX Ao (λ_ Aq p5 wc=>?_));refine ws _ ?_;refine az p5 (λ_ Hc _ uC=>?_);refine aD h (λjA h=>?_) (λjA h=>?_)
     .refine aI (Hc _ (.inl ?_));refine az p5 (λ_ rN te _=>?_);refine bc te (λ_ tf _ _ _=>?_);obtain⟨aK,tk,h⟩:=aj h;refine cR tk _ ?_;obtain⟨bd,jo,h⟩:=aj h;refine l9 (cr (K:=eI _) [(1,.slice (J.map bC)),(2,.aQ (fk a0)),(6,.aQ (.agg [fk ks,.slice (rC.map bC),.ak 4 (rD.map fQ),.b9 (.mp rE)])),(7,.ak 1 (qz.map gj)),(8,.int .i64 pZ),(13,.aQ (c8 aK)),(14,.str bd.1),(15,.ak 1 (bd.2.1.map a1)),(24,.slice (J.map bC)),(25,.int .i64 (J.length:Int)),(26,.int .i64 qA),(44,.slice (ah.1.map c8)),(45,.int .i64 (ah.1.length:Int)),(46,.int .i64 qB)] (λP bq=>?_) (IK [(1,.slice (J.map bC)),(2,.aQ (fk a0)),(6,.aQ (.agg [fk ks,.slice (rC.map bC),.ak 4 (rD.map fQ),.b9 (.mp rE)])),(7,.ak 1 (qz.map gj)),(8,.int .i64 pZ),(13,.aQ (c8 aK)),(14,.str bd.1),(15,.slice (bd.2.1.map a1)),(24,.slice (J.map bC)),(25,.int .i64 (J.length:Int)),(26,.int .i64 qA),(44,.slice (ah.1.map c8)),(45,.int .i64 (ah.1.length:Int)),(46,.int .i64 qB)] (iV [] rfl (cJ rfl (cJ rfl (cJ rfl (cJ rfl (cJ rfl (cJ rfl (cJ rfl (iN (t:=15) (d:=.ak 1 (bd.2.1.map a1)) (bM:=.slice (bd.2.1.map a1)) rfl rfl (BA rfl rfl (by simp only[cS,I.share,I.shares, @bZ _ a1 a1 (λ_=>j_ _)]<;>rfl)) (by decide) (cJ rfl (cJ rfl (cJ rfl (cJ rfl (cJ rfl (cJ rfl (iW)))))))))))))))) ?_))
      ·(try simp only[aN.down,simprocAttr]);refine dk (Lp aK.Label _ jo) rfl rfl rfl rfl (.inl (by rfl)) ?_;simp only[aN.down,simprocAttr];exact b3 trivial
      obtain⟨bo,py,h⟩:=aj h;refine jg (cr [(1,.slice (J.map bC)),(2,.aQ (fk a0)),(6,.aQ (.agg [.agg [.slice (bo.1.map bg),.slice (bo.2.1.map dm),.slice (bo.2.2.1.map bS),.slice (bo.2.2.2.1.map aX),.slice (bo.2.2.2.2.1.map aX)],.slice (bo.2.2.2.2.2.1.map bC),.ak 4 (bo.2.2.2.2.2.2.1.map fQ),.b9 (.mp bo.2.2.2.2.2.2.2)])),(7,.ak 1 (qz.map gj)),(8,.int .i64 pZ),(24,.slice (J.map bC)),(25,.int .i64 (J.length:Int)),(26,.int .i64 qA),(44,.slice (ah.1.map c8)),(45,.int .i64 (ah.1.length:Int)),(46,.int .i64 qB)] (λP bq=>?_) ?_)
      ·(try simp only[aN.down,simprocAttr,(show∀s,dS af s 41 1 [(0,.agg [.int .i64 aK.Next.cE,.int .i64 aK.Next.Part,.slice (aK.Next.bV.map a1)])]=some (.ak 3 [.agg [.int .i64 aK.Next.cE,.int .i64 aK.Next.Part,.slice (aK.Next.bV.map a1)]],s)from λs=>by kernel_rfl),K7.down,I.shares]);refine oI [⟨.h 6 [],true,_,_⟩,⟨.str bd.1,false,_,.hole⟩,⟨.slice (bd.2.1.map a1),false,_,.hole⟩,⟨.int .i64 pZ,false,_,.hole⟩,⟨.int .i64 (-1),false,_,.hole⟩,⟨.slice ([aK.Next].map bC),false,_,.hole⟩] (ZY ks.cw ks.cg ks.b8 ks.cB ks.cy rC rD rE bd.1 bd.2.1 pZ (-1) [aK.Next] _ py) rfl rfl rfl (by simp only[aN.down,simprocAttr,(show∀s,dS af s 41 1 [(0,.agg [.int .i64 aK.Next.cE,.int .i64 aK.Next.Part,.slice (aK.Next.bV.map a1)])]=some (.ak 3 [.agg [.int .i64 aK.Next.cE,.int .i64 aK.Next.Part,.slice (aK.Next.bV.map a1)]],s)from λs=>by kernel_rfl),Y4.down,I.shares]) rfl rfl (.inl rfl) ?_;simp only[aN.down,simprocAttr,(show∀s,dS af s 41 1 [(0,.agg [.int .i64 aK.Next.cE,.int .i64 aK.Next.Part,.slice (aK.Next.bV.map a1)])]=some (.ak 3 [.agg [.int .i64 aK.Next.cE,.int .i64 aK.Next.Part,.slice (aK.Next.bV.map a1)]],s)from λs=>by kernel_rfl),Y5.down,I.shares];exact b3 (R (show∀s,dS af s 41 1 [(0,.agg [.int .i64 aK.Next.cE,.int .i64 aK.Next.Part,.slice (aK.Next.bV.map a1)])]=some (.ak 3 [.agg [.int .i64 aK.Next.cE,.int .i64 aK.Next.Part,.slice (aK.Next.bV.map a1)]],s)from λs=>by kernel_rfl) K7.down)
      refine tf _ (rN _ (.inl ?_));refine wr _ ?_;exact Aq _ (.inr ⟨_,aW rfl,arG (cM.mk bo.1 bo.2.1 bo.2.2.1 bo.2.2.2.1 bo.2.2.2.2.1) bo.2.2.2.2.2.1 bo.2.2.2.2.2.2.1 bo.2.2.2.2.2.2.2 qz pZ qA (i64.wrap (qB+1)) h⟩)
     .refine cP (uC 2 _ (wc 2 _ (hz _ (gY _ (eu _ (.inl ?_))))));refine wr _ ?_;exact dn _ (.inr ⟨_,aW rfl,An ks rC rD rE qz (i64.wrap (qA+1)) h⟩)
    obtain⟨n,h⟩:=cC h;exact cW (.inr ⟨_,aW rfl,arF n lp qF qG qH (gf++[ah.1]) nK nK 0 h⟩)
  .refine cP (dj 0 _ (br 0 _ (cn _ (eU _ (.inl ?_)))));refine az ag (λ_ wH yk _=>?_);refine ws _ ?_;refine bc yk (λHe _ va wI _=>?_);have Hf:∀n ya yb rF yc yd qE,wy J n ya yb rF yc yd qE=some r->cF af YN He (aq [(1,.slice (J.map bC)),(6,.aQ (.agg [fk ya,.slice (yb.map bC),.ak 4 (rF.map fQ),.b9 (.mp yc)])),(7,.ak 1 (yd.map gj)),(68,.int .i64 (J.length:Int)),(69,.int .i64 qE)]):=by
    refine cZ (λarH Hg ya yb rF yc yd qE h=>cX va (λ_ Ai yl Aj=>?_));refine ws _ ?_;refine az yl (λ_ vb _ Ho=>?_);refine aD h (λAk h=>?_) (λAk h=>?_)
    .refine aI (vb _ (.inl ?_));refine az yl (λ_ Al wJ _=>?_);refine bc wJ (λ_ p4 rO _ _=>?_);refine ws _ ?_;refine ws _ ?_;refine bc rO (λarI _ Sq R3 _=>?_);have arJ:∀n nJ u3 u4 u5 qC qD p0 s7,z7 (wy J arH) J n nJ u3 u4 u5 qC qD p0 s7=some r->cF af YM arI (aq [(1,.slice (J.map bC)),(6,.aQ (.agg [fk nJ,.slice (u3.map bC),.ak 4 (u4.map fQ),.b9 (.mp u5)])),(7,.ak 1 (qC.map gj)),(17,.int .i64 qD),(18,.int .i64 p0),(68,.int .i64 (J.length:Int)),(69,.int .i64 s7)]):=by
      refine cZ (λ_ arK nJ u3 u4 u5 qC qD p0 s7 h=>cX Sq (λ_ R4 Ld arL=>?_));refine az Ld (λ_ R5 _ arM=>?_);refine ws _ ?_;refine aD h (λSr h=>?_) (λSr h=>?_)
      .refine aI (R5 _ (.inl ?_));refine az Ld (λ_ La arN _=>?_);refine bc arN (λ_ arO _ _ _=>?_);obtain⟨b0,oU,h⟩:=aj h;obtain⟨br,rT,h⟩:=aj h;obtain⟨cT,tl,h⟩:=aj h;refine NR rfl (h7 [(1,.slice (J.map bC)),(6,.aQ (.agg [.agg [.slice (cT.1.map bg),.slice (cT.2.1.map dm),.slice (cT.2.2.1.map bS),.slice (cT.2.2.2.1.map aX),.slice (cT.2.2.2.2.1.map aX)],.slice (cT.2.2.2.2.2.1.map bC),.ak 4 (cT.2.2.2.2.2.2.1.map fQ),.b9 (.mp cT.2.2.2.2.2.2.2)])),(7,.ak 1 (qC.map gj)),(17,.int .i64 qD),(18,.int .i64 p0),(68,.int .i64 (J.length:Int)),(69,.int .i64 s7)] (λP bq=>?_) ?_)
       ·(try simp only[cU.down,simprocAttr,oU,dy oU,rT,dy rT]);refine N1 [⟨.h 6 [],true,_,_⟩,⟨.int .i64 qD,false,_,.hole⟩,⟨.int .i64 p0,false,_,.hole⟩,⟨.slice (b0.map c8),false,_,.hole⟩,⟨.slice (br.map c8),false,_,.hole⟩] (arz nJ.cw nJ.cg nJ.b8 nJ.cB nJ.cy u3 u4 u5 qD p0 b0 br _ tl) rfl rfl rfl (by simp only[cU.down,simprocAttr,oU,dy oU,rT,dy rT,pj,pP,pQ,h8,h9,h_,cS,or_true,true_or, @bZ _ bg bg (λ_=>s_ _), @bZ _ dm dm (λ_=>z8 _), @bZ _ bS bS (λ_=>rH _), @bZ _ aX aX (λ_=>lu _), @bZ _ aX aX (λ_=>lu _), @bZ _ bC bC (λ_=>wB _), @bZ _ fQ fw (λ_=>QT _)]) rfl rfl (.inl rfl) ?_;simp only[cU.down,simprocAttr,oU,dy oU,rT,dy rT,n7];refine⟨hE (by kernel_rfl),?_⟩;exact b3 (R oU (R (dy oU) (R rT (dy rT))))
       refine arO _ (La _ (.inl ?_));refine wr _ ?_;exact R4 _ (.inr ⟨_,aW rfl,arK (cM.mk cT.1 cT.2.1 cT.2.2.1 cT.2.2.2.1 cT.2.2.2.2.1) cT.2.2.2.2.2.1 cT.2.2.2.2.2.2.1 cT.2.2.2.2.2.2.2 qC qD (i64.wrap (p0+1)) s7 h⟩)
      .refine cP (arM 6 _ (arL 6 _ (R3 _ (p4 _ (Al _ (.inl ?_))))));refine wr _ ?_;exact Ai _ (.inr ⟨_,aW rfl,Hg nJ u3 u4 u5 qC (i64.wrap (s7+1)) h⟩)
     obtain⟨n,h⟩:=cC h;exact cW (.inr ⟨_,aW rfl,arJ n ya yb rF yc yd qE (i64.wrap (qE+1)) qE h⟩)
    .refine cP (Ho 4 _ (Aj 4 _ (wI _ (wH _ (.inl ?_)))));refine oT @WL _ ?_;exact au (ag _ (.inl (Wl 4 [.ak 4 (rF.map fQ),.bool (decide ((rF.length:Int)<=200))])))
   obtain⟨n,h⟩:=cC h;exact cW (.inr ⟨_,aW rfl,Hf n lp qF qG qH gf 0 h⟩)
 obtain⟨n,h⟩:=cC h;exact cW (.inr ⟨_,iV [] rfl (cJ (t:=1) (d:=.slice (J.map bC)) rfl (cJ (t:=2) (d:=.aQ (fk a0)) rfl (iN (t:=6) (d:=.aQ (.agg [fk a0,.slice (J.map bC),.a8,.b9 (.mp [])])) (bM:=.aQ (.agg [fk a0,.slice (J.map bC),.ak 4 [],.b9 (.mp [])])) rfl rfl (.aQ (.agg (.cons (.refl _) (.cons (.refl _) (.cons (.jf _) (.cons (.refl _) (.nil))))))) (by decide) (iN (t:=7) (d:=.a8) (bM:=.ak 1 []) rfl rfl (.jf _) (by decide) (cJ (t:=24) (d:=.slice (J.map bC)) rfl (cJ (t:=25) (d:=.int .i64 (J.length:Int)) rfl (cJ (t:=26) (d:=.int .i64 0) rfl (iW)))))))),Am n a0 J [] [] [] 0 h⟩)
theorem arP (a0 J r) (h:GB a0 J=some r):aV af 76 [.str a0,.int .i64 J] (.int .i64 r) []:=by
 refine bs [0,1] [.tmp 4] Tryz.func76 c76 (λbn ag bm=>?_);refine ws _ ?_;refine az ag (λ_ bI a_ ah=>?_);obtain⟨U,bT,h⟩:=aj h;refine cu (ir J 0 65535 _ bT) _ ?_;refine aD h (λcI h=>?_) (λcI h=>?_)
 .refine ws _ ?_;exact au (a_ _ (.inl (aw [.int .i64 0])))
 .refine aI (bI _ (.inl ?_));refine ws _ ?_;refine az ag (λ_ hq gK _=>?_);refine ws _ ?_;refine bc gK (λarQ _ cx eQ _=>?_);show bj af (.loop ?jk) _ _;have jW:∀n dh u6,wz a0 n dh u6=some r->cF af ?jk arQ (aq [(0,.str a0),(5,.int .i64 dh),(12,.int .i64 (a0.length:Int)),(13,.int .i64 u6)]):=by
   refine cZ (λm16 jX dh u6 h=>cX cx (λ_ eu hM eA=>?_));refine ws _ ?_;refine az hM (λ_ fb _ lM=>?_);refine aD h (λgL h=>?_) (λgL h=>?_)
   .refine aI (fb _ (.inl ?_));refine az hM (λ_ fE fK _=>?_);refine bc fK (λ_ jx lT _ _=>?_);refine ws _ ?_;obtain⟨ah,gb,h⟩:=aj h;refine cR (R gb (@E6 af 5 2 .i64 rfl rfl)) _ ?_;refine ws _ ?_;refine bc lT (λSi _ vc rQ _=>?_);show bj af (.loop ?Q0) _ _;have arR:∀n qI rG s8,Di (wz a0 m16) a0 n qI rG s8=some r->cF af ?Q0 Si (aq [(0,.str a0),(5,.int .i64 qI),(12,.int .i64 (a0.length:Int)),(13,.int .i64 rG),(23,.int .i64 s8)]):=by
     refine cZ (λm32 arS qI rG s8 h=>cX vc (λarT nv my nH=>?_));refine ws _ ?_;refine az my (λ_ ym _ F6=>?_);refine aD h (λot h=>?_) (λot h=>?_)
     .refine aI (ym _ (.inl ?_));show bj af (.seq _ ?QV) _ _;have ZZ:∀Df Dg Dh,KB (wz a0 m16) (Di (wz a0 m16) a0 m32) a0 Df Dg Dh=some r->bj af ?QV arT (aq [(0,.str a0),(5,.int .i64 Df),(12,.int .i64 (a0.length:Int)),(13,.int .i64 Dg),(23,.int .i64 Dh)]):=by
       intro Df Dg Dh h;refine wr _ ?_;exact nv _ (.inr ⟨_,aW rfl,arS Df Dg (i64.wrap (Dh+1)) h⟩)
      refine az my (λ_ p3 qM _=>?_);refine bc qM (λ_ K8 _ _ _=>?_);refine ws _ ?_;refine ws _ ?_;refine aD h (λg_ h=>?_) (λg_ h=>?_)
      .refine wr _ ?_;exact K8 _ (p3 _ (.inr ⟨_,aW rfl,ZZ (bitsOf .xor .i64 (bitsOf .and .i64 (i64.wrap (qI*2)) 65535) 4129) rG s8 h⟩))
      .exact aI (K8 _ (p3 _ (.inr ⟨_,aW rfl,ZZ (i64.wrap (qI*2)) rG s8 h⟩)))
     .refine cP (F6 2 _ (nH 2 _ (rQ _ (jx _ (fE _ (.inl ?_))))));refine wr _ ?_;exact eu _ (.inr ⟨_,aW rfl,jX qI (i64.wrap (rG+1)) h⟩)
    obtain⟨n,h⟩:=cC h;exact cW (.inr ⟨_,aW rfl,arR n (bitsOf .xor .i64 dh (i64.wrap ((ah.toNat:Int)*256))) u6 0 h⟩)
   .refine cP (lM 0 _ (eA 0 _ (eQ _ (hq _ (.inl ?_)))));refine ws _ ?_;exact au (ag _ (.inl (aw [.int .i64 dh])))
  obtain⟨n,h⟩:=cC h;exact cW (.inr ⟨_,aW rfl,jW n J 0 h⟩)
theorem arU (a0 r) (h:Qz a0=some r):aV af 80 [.slice (a0.map fC)] (fC r) []:=by
 refine bs [0] [.cell 2 74] Tryz.func80 c80 (λbn ag bm=>?_);refine ws _ ?_;obtain⟨U,aM,h⟩:=aj h;refine cR aM _ ?_;exact au (ag _ (.inl (aw [fC U])))
theorem arV (a0 J r) (h:QA a0 J=some r):aV af 79 [fw a0,.ref (.slice (J.map fC))] (.bool r) []:=by
 refine bs [0,1] [.tmp 3] Tryz.func79 amp (λbn ag bm=>?_);refine ws _ ?_;obtain⟨U,aM,h⟩:=aj h;refine lS (R @ags (R @agr (show∀s,jd af s 74 (.agg [.int .i64 U.Choice,.int .i64 U.fa,.int .i64 U.Second,.str U.Label]) 1=some (.int .i64 U.fa)from λs=>by kernel_rfl))) (arU J _ aM) _ ?_;exact au (ag _ (.inl (aw [.bool (decide (U.fa<a0.fa))])))
theorem arW (a0 J r) (h:KD a0 J=some r):aV af 78 [.slice (a0.map fw),.fn 79 [.ref (.slice (J.map fC))]] (.int .i64 r) []:=by
 refine bs [0,1] [.tmp 4] Tryz.func78 amq (λbn ag bm=>?_);refine ws _ ?_;refine az ag (λ_ bI a_ ah=>?_);refine ws _ ?_;refine bc a_ (λfy _ bN bw _=>?_);show bj af (.loop ?ft) _ _;have fV:∀n b4,Dj a0 J n b4=some r->cF af ?ft fy (aq [(0,.slice (a0.map fw)),(1,.fn 79 [.ref (.slice (J.map fC))]),(7,.int .i64 (a0.length:Int)),(8,.int .i64 b4)]):=by
  refine cZ (λ_ fl b4 h=>cX bN (λ_ dZ c6 bo=>?_));refine ws _ ?_;refine az c6 (λ_ dn _ br=>?_);refine aD h (λbW h=>?_) (λbW h=>?_)
  .refine aI (dn _ (.inl ?_));refine az c6 (λ_ cV cb _=>?_);refine bc cb (λ_ b5 cx _ _=>?_);refine ws _ ?_;obtain⟨U,e0,h⟩:=aj h;obtain⟨ah,dp,h⟩:=aj h;refine ea e0 (arV U J _ dp) _ ?_;refine aD h (λeB h=>?_) (λeB h=>?_)
   .refine ws _ ?_;exact au (cx _ (.inl (aw [.int .i64 b4])))
   .refine aI (b5 _ (cV _ (.inl ?_)));refine wr _ ?_;exact dZ _ (.inr ⟨_,aW rfl,fl (i64.wrap (b4+1)) h⟩)
  .refine cP (br 0 _ (bo 0 _ (bw _ (bI _ (.inl ?_)))));refine ws _ ?_;exact au (ag _ (.inl (aw [.int .i64 (-1)])))
 obtain⟨n,h⟩:=cC h;exact cW (.inr ⟨_,aW rfl,fV n 0 h⟩)
theorem arX (a0 J a2 r) (h:KE a0 J a2=some r):aV af 36 [ye a0,.slice (J.map fw),.slice (a2.map fC)] (.int .i64 r) []:=by
 refine bs [0,1,2] [.tmp 6] Tryz.func36 Q3 (λbn ag bm=>?_);refine ws _ ?_;refine az ag (λ_ bI a_ ah=>?_);refine bc a_ (λ_ eM cN _ aK=>?_);refine ws _ ?_;refine aD h (λcI h=>?_) (λcI h=>?_)
 .obtain⟨U,bY,h⟩:=aj h;obtain⟨Z0,fh,h⟩:=aj h;(try simp only[fD.down,Nat.zero_add,Nat.add_zero,reduceAdd]at fh);obtain⟨ah,iH,h⟩:=aj h;obtain⟨Z0,gG,h⟩:=aj h;(try simp only[fD.down,Nat.zero_add,Nat.add_zero,reduceAdd]at gG);obtain⟨aK,kg,h⟩:=aj h;obtain⟨Z0,eJ,h⟩:=aj h;refine iT rfl (h7 [(6,.int .i64 (Int.tmod aK (J.length:Int)))] (λP bq=>?_) ?_)
  ·(try simp only[cU.down,simprocAttr,fh,jl.down,gG, @n5 .i64 (J.length:Int) (uc eJ)]);refine hx (wQ a0.zt _ bY) rfl rfl rfl rfl (.inl (by rfl)) ?_;simp only[cU.down,simprocAttr,fh,jl.down,gG, @n5 .i64 (J.length:Int) (uc eJ)];refine hx (wQ (a2.length:Int) _ iH) rfl rfl rfl rfl (.inl (by rfl)) ?_;simp only[cU.down,simprocAttr,fh,jl.down,gG, @n5 .i64 (J.length:Int) (uc eJ)];refine hx (arP ((U++([45]:azc))++ah) 65535 _ kg) rfl rfl rfl rfl (.inl (by rfl)) ?_;simp only[cU.down,simprocAttr,fh,jl.down,gG, @n5 .i64 (J.length:Int) (uc eJ)];refine⟨hE (by kernel_rfl),?_⟩;exact b3 (R fh (R jl.down (R gG (@n5 .i64 (J.length:Int) (uc eJ)))))
  exact au (cN _ (.inl (aw [.int .i64 (Int.tmod aK (J.length:Int))])))
 .refine mY (a0.uk==1) [(1,.slice (J.map fw)),(5,.aQ (.slice (a2.map fC))),(24,.bool ((a0.uk==1)&&(decide (0<(a2.length:Int)))))] ?_;refine aD h (λgL h=>?_) (λgL h=>?_)
  .obtain⟨bd,cp,h⟩:=aj h;refine eb (cr [(7,.int .i64 bd)] (λP bq=>?_) ?_)
   ·(try simp only[aN.down,simprocAttr]);refine dk (arW J a2 _ cp) rfl rfl (by simp only[aN.down,simprocAttr,h8,h9,h_,cS, @bZ _ fC fC (λ_=>KX _)]<;>rfl) rfl (.inr (by rfl)) ?_;simp only[aN.down,simprocAttr];exact b3 trivial
   refine cR (R @N4 @WR) _ ?_;exact au (cN _ (.inl (aw [.int .i64 (jr true bd 0)])))
  .refine aI (eM _ (bI _ (.inl ?_)));refine ws _ ?_;exact au (ag _ (.inl (aw [.int .i64 0])))
theorem arY (a0 J a2 a3 a4 r) (h:KF a0 J a2 a3 a4=some r):aV af 11 [fk a0,.slice (J.map bC),.slice (a2.map fC),.int .i64 a3,.int .i64 a4] (.tuple [.int .i64 r.1,.int .i64 r.2]) []:=by
 refine bs [0,1,2,3,4] [.tmp 10,.tmp 11] Tryz.func11 ams (λbn ag bm=>?_);refine ws _ ?_;refine cR (show∀s,gm af s 77 [(0,.int .i64 a3),(1,.int .i64 a4)]=some (.agg [.int .i64 a3,.int .i64 a4],s)from λs=>by kernel_rfl) _ ?_;refine az ag (λ_ eM cN aK=>?_);refine bc cN (λ_ eU bN _ bd=>?_);obtain⟨U,ck,h⟩:=aj h;refine cu (aqE a0 J _ ck) _ ?_;refine aD h (λnZ h=>?_) (λnZ h=>?_)
 .refine ws _ ?_;exact au (bN _ (.inl (aw [.int .i64 0,.int .i64 1])))
 .obtain⟨ah,gG,h⟩:=aj h;refine cu (aqF (uj.mk a3 a4) _ gG) _ ?_;refine aD h (λnu h=>?_) (λnu h=>?_)
  .refine ws _ ?_;exact au (bN _ (.inl (aw [.int .i64 0,.int .i64 2])))
  .obtain⟨aK,dp,h⟩:=aj h;refine cu (aq1 a2 _ dp) _ ?_;refine aD h (λeB h=>?_) (λeB h=>?_)
   .refine ws _ ?_;exact au (bN _ (.inl (aw [.int .i64 0,.int .i64 7])))
   .refine aI (eU _ (eM _ (.inl ?_)));obtain⟨bd,eT,h⟩:=aj h;refine cu (arE a0 J _ eT) _ ?_;refine az ag (λ_ oq wC _=>?_);refine bc wC (λ_ u9 u_ _ _=>?_);refine ws _ ?_;refine aD h (λtd h=>?_) (λtd h=>?_)
    .refine ws _ ?_;exact au (u_ _ (.inl (aw [.int .i64 0,.int .i64 5])))
    .refine ws _ ?_;refine aD h (λot h=>?_) (λot h=>?_)
     .refine ws _ ?_;exact au (u_ _ (.inl (aw [.int .i64 0,.int .i64 3])))
     .refine aI (u9 _ (oq _ (.inl ?_)));obtain⟨bo,vd,h⟩:=aj h;refine eb (cr [(10,.int .i64 bo),(11,.int .i64 0)] (λP bq=>?_) ?_)
      ·(try simp only[aN.down,simprocAttr]);refine dk (arX (uj.mk a3 a4) bd.1 a2 _ vd) rfl rfl (by simp only[aN.down,simprocAttr,h8,h9,h_,cS, @bZ _ fQ fw (λ_=>QT _)]<;>rfl) rfl (.inr (by rfl)) ?_;simp only[aN.down,simprocAttr];exact b3 trivial
      exact au (ag _ (.inl (aw [.int .i64 bo,.int .i64 0])))
theorem arZ (a0 J r) (h:GC a0 J=some r):aV af 262 [ef a0,ef J] (.bool r) []:=by
 refine bs [0,1] [.tmp 4] Tryz.func262 amt (λbn ag bm=>?_);refine ws _ ?_;refine az ag (λ_ bI a_ _=>?_);refine ws _ ?_;refine aD h (λbw h=>?_) (λbw h=>?_)
 .refine ws _ ?_;exact au (a_ _ (.inl (aw [.bool false])))
 .refine aI (bI _ (.inl ?_));refine az ag (λ_ db cO _=>?_);refine ws _ ?_;refine aD h (λbW h=>?_) (λbW h=>?_)
  .refine ws _ ?_;exact au (cO _ (.inl (aw [.bool false])))
  .refine aI (db _ (.inl ?_));refine ws _ ?_;exact au (ag _ (.inl (aw [.bool true])))
theorem ar0 (a0 J r) (h:GD a0 J=some r):aV af 236 [.slice (a0.map ef),.slice (J.map ef)] (.bool r) []:=by
 refine bs [0,1] [.tmp 4] Tryz.func236 c236 (λbn ag bm=>?_);refine ws _ ?_;refine az ag (λ_ bI a_ ah=>?_);refine ws _ ?_;refine aD h (λbw h=>?_) (λbw h=>?_)
 .refine ws _ ?_;exact au (a_ _ (.inl (aw [.bool false])))
 .refine aI (bI _ (.inl ?_));refine az ag (λ_ db cO _=>?_);refine ws _ ?_;refine bc cO (λim _ gK bW _=>?_);show bj af (.loop ?gw) _ _;have gM:∀n b7,QC a0 J n b7=some r->cF af ?gw im (aq [(0,.slice (a0.map ef)),(1,.slice (J.map ef)),(5,.int .i64 b7)]):=by
   refine cZ (λ_ gx b7 h=>cX gK (λ_ cV cb dj=>?_));refine az cb (λ_ b5 _ df=>?_);refine ws _ ?_;refine aD h (λeV h=>?_) (λeV h=>?_)
   .refine aI (b5 _ (.inl ?_));refine az cb (λ_ fb e5 _=>?_);refine bc e5 (λ_ ej dL _ _=>?_);obtain⟨U,cp,h⟩:=aj h;obtain⟨ah,dI,h⟩:=aj h;obtain⟨aK,eT,h⟩:=aj h;refine lS (R cp dI) (arZ U ah _ eT) _ ?_;refine aD h (λfF h=>?_) (λfF h=>?_)
    .refine ws _ ?_;exact au (dL _ (.inl (aw [.bool false])))
    .refine aI (ej _ (fb _ (.inl ?_)));refine wr _ ?_;exact cV _ (.inr ⟨_,aW rfl,gx (i64.wrap (b7+1)) h⟩)
   .refine cP (df 0 _ (dj 0 _ (bW _ (db _ (.inl ?_)))));refine ws _ ?_;exact au (ag _ (.inl (aw [.bool true])))
  obtain⟨n,h⟩:=cC h;exact cW (.inr ⟨_,aW rfl,gM n 0 h⟩)
theorem ar1 (a0 J r) (h:KG a0 J=some r):aV af 200 [.slice (a0.map iY),.slice (J.map iY)] (.bool r) []:=by
 refine bs [0,1] [.tmp 4] Tryz.func200 amu (λbn ag bm=>?_);refine ws _ ?_;refine az ag (λ_ bI a_ ah=>?_);refine ws _ ?_;refine aD h (λbw h=>?_) (λbw h=>?_)
 .refine ws _ ?_;exact au (a_ _ (.inl (aw [.bool false])))
 .refine aI (bI _ (.inl ?_));refine az ag (λ_ db cO _=>?_);refine ws _ ?_;refine bc cO (λim _ gK bW _=>?_);show bj af (.loop ?gw) _ _;have gM:∀n b7,QD a0 J n b7=some r->cF af ?gw im (aq [(0,.slice (a0.map iY)),(1,.slice (J.map iY)),(5,.int .i64 b7)]):=by
   refine cZ (λ_ gx b7 h=>cX gK (λ_ cV cb dj=>?_));refine az cb (λ_ b5 _ df=>?_);refine ws _ ?_;refine aD h (λeV h=>?_) (λeV h=>?_)
   .refine aI (b5 _ (.inl ?_));refine az cb (λ_ fb e5 _=>?_);refine bc e5 (λ_ ej dL _ _=>?_);obtain⟨U,cp,h⟩:=aj h;obtain⟨ah,dI,h⟩:=aj h;obtain⟨aK,eT,h⟩:=aj h;refine lS (R cp dI) (ar0 U ah _ eT) _ ?_;refine aD h (λfF h=>?_) (λfF h=>?_)
    .refine ws _ ?_;exact au (dL _ (.inl (aw [.bool false])))
    .refine aI (ej _ (fb _ (.inl ?_)));refine wr _ ?_;exact cV _ (.inr ⟨_,aW rfl,gx (i64.wrap (b7+1)) h⟩)
   .refine cP (df 0 _ (dj 0 _ (bW _ (db _ (.inl ?_)))));refine ws _ ?_;exact au (ag _ (.inl (aw [.bool true])))
  obtain⟨n,h⟩:=cC h;exact cW (.inr ⟨_,aW rfl,gM n 0 h⟩)
theorem ar2 (a0 J r) (h:GF a0 J=some r):aV af 165 [ei a0,ei J] (.bool r) []:=by
 refine bs [0,1] [.tmp 4] Tryz.func165 amv (λbn ag bm=>?_);refine ws _ ?_;refine az ag (λ_ bI a_ _=>?_);refine ws _ ?_;refine aD h (λbw h=>?_) (λbw h=>?_)
 .refine ws _ ?_;exact au (a_ _ (.inl (aw [.bool false])))
 .refine aI (bI _ (.inl ?_));refine az ag (λ_ db cO _=>?_);refine ws _ ?_;refine aD h (λbW h=>?_) (λbW h=>?_)
  .refine ws _ ?_;exact au (cO _ (.inl (aw [.bool false])))
  .refine aI (db _ (.inl ?_));refine az ag (λ_ b5 cx _=>?_);refine ws _ ?_;refine aD h (λeV h=>?_) (λeV h=>?_)
   .refine ws _ ?_;exact au (cx _ (.inl (aw [.bool false])))
   .refine aI (b5 _ (.inl ?_));refine az ag (λ_ ej dL _=>?_);obtain⟨U,cp,h⟩:=aj h;refine cu (ar1 a0.cL J.cL _ cp) _ ?_;refine aD h (λkS h=>?_) (λkS h=>?_)
    .refine ws _ ?_;exact au (dL _ (.inl (aw [.bool false])))
    .refine aI (ej _ (.inl ?_));refine ws _ ?_;exact au (ag _ (.inl (aw [.bool true])))
theorem ar3 (a0 J r) (h:KH a0 J=some r):aV af 118 [.slice (a0.map ei),.slice (J.map ei)] (.bool r) []:=by
 refine bs [0,1] [.tmp 4] Tryz.func118 amw (λbn ag bm=>?_);refine ws _ ?_;refine az ag (λ_ bI a_ ah=>?_);refine ws _ ?_;refine aD h (λbw h=>?_) (λbw h=>?_)
 .refine ws _ ?_;exact au (a_ _ (.inl (aw [.bool false])))
 .refine aI (bI _ (.inl ?_));refine az ag (λ_ db cO _=>?_);refine ws _ ?_;refine bc cO (λim _ gK bW _=>?_);show bj af (.loop ?gw) _ _;have gM:∀n b7,QE a0 J n b7=some r->cF af ?gw im (aq [(0,.slice (a0.map ei)),(1,.slice (J.map ei)),(5,.int .i64 b7)]):=by
   refine cZ (λ_ gx b7 h=>cX gK (λ_ cV cb dj=>?_));refine az cb (λ_ b5 _ df=>?_);refine ws _ ?_;refine aD h (λeV h=>?_) (λeV h=>?_)
   .refine aI (b5 _ (.inl ?_));refine az cb (λ_ fb e5 _=>?_);refine bc e5 (λ_ ej dL _ _=>?_);obtain⟨U,cp,h⟩:=aj h;obtain⟨ah,dI,h⟩:=aj h;obtain⟨aK,eT,h⟩:=aj h;refine lS (R cp dI) (ar2 U ah _ eT) _ ?_;refine aD h (λfF h=>?_) (λfF h=>?_)
    .refine ws _ ?_;exact au (dL _ (.inl (aw [.bool false])))
    .refine aI (ej _ (fb _ (.inl ?_)));refine wr _ ?_;exact cV _ (.inr ⟨_,aW rfl,gx (i64.wrap (b7+1)) h⟩)
   .refine cP (df 0 _ (dj 0 _ (bW _ (db _ (.inl ?_)))));refine ws _ ?_;exact au (ag _ (.inl (aw [.bool true])))
  obtain⟨n,h⟩:=cC h;exact cW (.inr ⟨_,aW rfl,gM n 0 h⟩)
theorem ar4 (a0 J r) (h:GG a0 J=some r):aV af 81 [bg a0,bg J] (.bool r) []:=by
 refine bs [0,1] [.tmp 4] Tryz.func81 amx (λbn ag bm=>?_);refine ws _ ?_;refine az ag (λ_ bI a_ _=>?_);refine ws _ ?_;refine aD h (λbw h=>?_) (λbw h=>?_)
 .refine ws _ ?_;exact au (a_ _ (.inl (aw [.bool false])))
 .refine aI (bI _ (.inl ?_));refine az ag (λ_ db cO _=>?_);refine ws _ ?_;refine aD h (λbW h=>?_) (λbW h=>?_)
  .refine ws _ ?_;exact au (cO _ (.inl (aw [.bool false])))
  .refine aI (db _ (.inl ?_));refine az ag (λ_ b5 cx _=>?_);obtain⟨U,eJ,h⟩:=aj h;refine cu (ar3 a0.Body J.Body _ eJ) _ ?_;refine aD h (λe1 h=>?_) (λe1 h=>?_)
   .refine ws _ ?_;exact au (cx _ (.inl (aw [.bool false])))
   .refine aI (b5 _ (.inl ?_));refine ws _ ?_;exact au (ag _ (.inl (aw [.bool true])))
theorem ar5 (a0 J r) (h:KI a0 J=some r):aV af 37 [.slice (a0.map bg),.slice (J.map bg)] (.bool r) []:=by
 refine bs [0,1] [.tmp 4] Tryz.func37 c37 (λbn ag bm=>?_);refine ws _ ?_;refine az ag (λ_ bI a_ ah=>?_);refine ws _ ?_;refine aD h (λbw h=>?_) (λbw h=>?_)
 .refine ws _ ?_;exact au (a_ _ (.inl (aw [.bool false])))
 .refine aI (bI _ (.inl ?_));refine az ag (λ_ db cO _=>?_);refine ws _ ?_;refine bc cO (λim _ gK bW _=>?_);show bj af (.loop ?gw) _ _;have gM:∀n b7,QF a0 J n b7=some r->cF af ?gw im (aq [(0,.slice (a0.map bg)),(1,.slice (J.map bg)),(5,.int .i64 b7)]):=by
   refine cZ (λ_ gx b7 h=>cX gK (λ_ cV cb dj=>?_));refine az cb (λ_ b5 _ df=>?_);refine ws _ ?_;refine aD h (λeV h=>?_) (λeV h=>?_)
   .refine aI (b5 _ (.inl ?_));refine az cb (λ_ fb e5 _=>?_);refine bc e5 (λ_ ej dL _ _=>?_);obtain⟨U,cp,h⟩:=aj h;obtain⟨ah,dI,h⟩:=aj h;obtain⟨aK,eT,h⟩:=aj h;refine lS (R cp dI) (ar4 U ah _ eT) _ ?_;refine aD h (λfF h=>?_) (λfF h=>?_)
    .refine ws _ ?_;exact au (dL _ (.inl (aw [.bool false])))
    .refine aI (ej _ (fb _ (.inl ?_)));refine wr _ ?_;exact cV _ (.inr ⟨_,aW rfl,gx (i64.wrap (b7+1)) h⟩)
   .refine cP (df 0 _ (dj 0 _ (bW _ (db _ (.inl ?_)))));refine ws _ ?_;exact au (ag _ (.inl (aw [.bool true])))
  obtain⟨n,h⟩:=cC h;exact cW (.inr ⟨_,aW rfl,gM n 0 h⟩)
theorem Z1 (a0 J r) (h:GH a0 J=some r):aV af 84 [.slice (a0.map a1),.slice (J.map a1)] (.bool r) []:=by
 refine bs [0,1] [.tmp 4] Tryz.func84 amy (λbn ag bm=>?_);refine ws _ ?_;refine az ag (λ_ bI a_ ah=>?_);refine ws _ ?_;refine aD h (λbw h=>?_) (λbw h=>?_)
 .refine ws _ ?_;exact au (a_ _ (.inl (aw [.bool false])))
 .refine aI (bI _ (.inl ?_));refine az ag (λ_ db cO _=>?_);refine ws _ ?_;refine bc cO (λim _ gK bW _=>?_);show bj af (.loop ?gw) _ _;have gM:∀n b7,QG a0 J n b7=some r->cF af ?gw im (aq [(0,.slice (a0.map a1)),(1,.slice (J.map a1)),(5,.int .i64 b7)]):=by
   refine cZ (λ_ gx b7 h=>cX gK (λ_ cV cb dj=>?_));refine az cb (λ_ b5 _ df=>?_);refine ws _ ?_;refine aD h (λeV h=>?_) (λeV h=>?_)
   .refine aI (b5 _ (.inl ?_));refine az cb (λ_ fb e5 _=>?_);refine bc e5 (λ_ ej dL _ _=>?_);obtain⟨U,cp,h⟩:=aj h;obtain⟨ah,dI,h⟩:=aj h;refine oT (R cp dI) _ ?_;refine aD h (λhr h=>?_) (λhr h=>?_)
    .refine ws _ ?_;exact au (dL _ (.inl (aw [.bool false])))
    .refine aI (ej _ (fb _ (.inl ?_)));refine wr _ ?_;exact cV _ (.inr ⟨_,aW rfl,gx (i64.wrap (b7+1)) h⟩)
   .refine cP (df 0 _ (dj 0 _ (bW _ (db _ (.inl ?_)))));refine ws _ ?_;exact au (ag _ (.inl (aw [.bool true])))
  obtain⟨n,h⟩:=cC h;exact cW (.inr ⟨_,aW rfl,gM n 0 h⟩)
theorem ar6 (a0 J r) (h:GI a0 J=some r):aV af 82 [dm a0,dm J] (.bool r) []:=by
 refine bs [0,1] [.tmp 4] Tryz.func82 amz (λbn ag bm=>?_);refine ws _ ?_;refine az ag (λ_ bI a_ _=>?_);refine ws _ ?_;refine aD h (λbw h=>?_) (λbw h=>?_)
 .refine ws _ ?_;exact au (a_ _ (.inl (aw [.bool false])))
 .refine aI (bI _ (.inl ?_));refine az ag (λ_ db cO _=>?_);obtain⟨U,fh,h⟩:=aj h;refine cu (Z1 a0.bV J.bV _ fh) _ ?_;refine aD h (λeP h=>?_) (λeP h=>?_)
  .refine ws _ ?_;exact au (cO _ (.inl (aw [.bool false])))
  .refine aI (db _ (.inl ?_));refine ws _ ?_;exact au (ag _ (.inl (aw [.bool true])))
theorem ar7 (a0 J r) (h:KJ a0 J=some r):aV af 38 [.slice (a0.map dm),.slice (J.map dm)] (.bool r) []:=by
 refine bs [0,1] [.tmp 4] Tryz.func38 amA (λbn ag bm=>?_);refine ws _ ?_;refine az ag (λ_ bI a_ ah=>?_);refine ws _ ?_;refine aD h (λbw h=>?_) (λbw h=>?_)
 .refine ws _ ?_;exact au (a_ _ (.inl (aw [.bool false])))
 .refine aI (bI _ (.inl ?_));refine az ag (λ_ db cO _=>?_);refine ws _ ?_;refine bc cO (λim _ gK bW _=>?_);show bj af (.loop ?gw) _ _;have gM:∀n b7,QH a0 J n b7=some r->cF af ?gw im (aq [(0,.slice (a0.map dm)),(1,.slice (J.map dm)),(5,.int .i64 b7)]):=by
   refine cZ (λ_ gx b7 h=>cX gK (λ_ cV cb dj=>?_));refine az cb (λ_ b5 _ df=>?_);refine ws _ ?_;refine aD h (λeV h=>?_) (λeV h=>?_)
   .refine aI (b5 _ (.inl ?_));refine az cb (λ_ fb e5 _=>?_);refine bc e5 (λ_ ej dL _ _=>?_);obtain⟨U,cp,h⟩:=aj h;obtain⟨ah,dI,h⟩:=aj h;obtain⟨aK,eT,h⟩:=aj h;refine lS (R cp dI) (ar6 U ah _ eT) _ ?_;refine aD h (λfF h=>?_) (λfF h=>?_)
    .refine ws _ ?_;exact au (dL _ (.inl (aw [.bool false])))
    .refine aI (ej _ (fb _ (.inl ?_)));refine wr _ ?_;exact cV _ (.inr ⟨_,aW rfl,gx (i64.wrap (b7+1)) h⟩)
   .refine cP (df 0 _ (dj 0 _ (bW _ (db _ (.inl ?_)))));refine ws _ ?_;exact au (ag _ (.inl (aw [.bool true])))
  obtain⟨n,h⟩:=cC h;exact cW (.inr ⟨_,aW rfl,gM n 0 h⟩)
theorem ar8 (a0 J r) (h:GJ a0 J=some r):aV af 83 [bS a0,bS J] (.bool r) []:=by
 refine bs [0,1] [.tmp 4] Tryz.func83 amB (λbn ag bm=>?_);refine ws _ ?_;refine az ag (λ_ bI a_ _=>?_);refine ws _ ?_;refine aD h (λbw h=>?_) (λbw h=>?_)
 .refine ws _ ?_;exact au (a_ _ (.inl (aw [.bool false])))
 .refine aI (bI _ (.inl ?_));refine az ag (λ_ db cO _=>?_);refine ws _ ?_;refine aD h (λbW h=>?_) (λbW h=>?_)
  .refine ws _ ?_;exact au (cO _ (.inl (aw [.bool false])))
  .refine aI (db _ (.inl ?_));refine az ag (λ_ b5 cx _=>?_);refine ws _ ?_;refine aD h (λeV h=>?_) (λeV h=>?_)
   .refine ws _ ?_;exact au (cx _ (.inl (aw [.bool false])))
   .refine aI (b5 _ (.inl ?_));refine ws _ ?_;exact au (ag _ (.inl (aw [.bool true])))
theorem ar9 (a0 J r) (h:KK a0 J=some r):aV af 39 [.slice (a0.map bS),.slice (J.map bS)] (.bool r) []:=by
 refine bs [0,1] [.tmp 4] Tryz.func39 amC (λbn ag bm=>?_);refine ws _ ?_;refine az ag (λ_ bI a_ ah=>?_);refine ws _ ?_;refine aD h (λbw h=>?_) (λbw h=>?_)
 .refine ws _ ?_;exact au (a_ _ (.inl (aw [.bool false])))
 .refine aI (bI _ (.inl ?_));refine az ag (λ_ db cO _=>?_);refine ws _ ?_;refine bc cO (λim _ gK bW _=>?_);show bj af (.loop ?gw) _ _;have gM:∀n b7,QI a0 J n b7=some r->cF af ?gw im (aq [(0,.slice (a0.map bS)),(1,.slice (J.map bS)),(5,.int .i64 b7)]):=by
   refine cZ (λ_ gx b7 h=>cX gK (λ_ cV cb dj=>?_));refine az cb (λ_ b5 _ df=>?_);refine ws _ ?_;refine aD h (λeV h=>?_) (λeV h=>?_)
   .refine aI (b5 _ (.inl ?_));refine az cb (λ_ fb e5 _=>?_);refine bc e5 (λ_ ej dL _ _=>?_);obtain⟨U,cp,h⟩:=aj h;obtain⟨ah,dI,h⟩:=aj h;obtain⟨aK,eT,h⟩:=aj h;refine lS (R cp dI) (ar8 U ah _ eT) _ ?_;refine aD h (λfF h=>?_) (λfF h=>?_)
    .refine ws _ ?_;exact au (dL _ (.inl (aw [.bool false])))
    .refine aI (ej _ (fb _ (.inl ?_)));refine wr _ ?_;exact cV _ (.inr ⟨_,aW rfl,gx (i64.wrap (b7+1)) h⟩)
   .refine cP (df 0 _ (dj 0 _ (bW _ (db _ (.inl ?_)))));refine ws _ ?_;exact au (ag _ (.inl (aw [.bool true])))
  obtain⟨n,h⟩:=cC h;exact cW (.inr ⟨_,aW rfl,gM n 0 h⟩)
theorem Z2 (a0 J r) (h:GK a0 J=some r):aV af 40 [.slice (a0.map aX),.slice (J.map aX)] (.bool r) []:=by
 refine bs [0,1] [.tmp 4] Tryz.func40 c40 (λbn ag bm=>?_);refine ws _ ?_;refine az ag (λ_ bI a_ ah=>?_);refine ws _ ?_;refine aD h (λbw h=>?_) (λbw h=>?_)
 .refine ws _ ?_;exact au (a_ _ (.inl (aw [.bool false])))
 .refine aI (bI _ (.inl ?_));refine az ag (λ_ db cO _=>?_);refine ws _ ?_;refine bc cO (λim _ gK bW _=>?_);show bj af (.loop ?gw) _ _;have gM:∀n b7,QJ a0 J n b7=some r->cF af ?gw im (aq [(0,.slice (a0.map aX)),(1,.slice (J.map aX)),(5,.int .i64 b7)]):=by
   refine cZ (λ_ gx b7 h=>cX gK (λ_ cV cb dj=>?_));refine az cb (λ_ b5 _ df=>?_);refine ws _ ?_;refine aD h (λeV h=>?_) (λeV h=>?_)
   .refine aI (b5 _ (.inl ?_));refine az cb (λ_ fb e5 _=>?_);refine bc e5 (λ_ ej dL _ _=>?_);obtain⟨U,cp,h⟩:=aj h;obtain⟨ah,dI,h⟩:=aj h;refine oT (R cp dI) _ ?_;refine aD h (λhr h=>?_) (λhr h=>?_)
    .refine ws _ ?_;exact au (dL _ (.inl (aw [.bool false])))
    .refine aI (ej _ (fb _ (.inl ?_)));refine wr _ ?_;exact cV _ (.inr ⟨_,aW rfl,gx (i64.wrap (b7+1)) h⟩)
   .refine cP (df 0 _ (dj 0 _ (bW _ (db _ (.inl ?_)))));refine ws _ ?_;exact au (ag _ (.inl (aw [.bool true])))
  obtain⟨n,h⟩:=cC h;exact cW (.inr ⟨_,aW rfl,gM n 0 h⟩)
theorem ar_ (a0 J r) (h:GL a0 J=some r):aV af 12 [fk a0,fk J] (.bool r) []:=by
 refine bs [0,1] [.tmp 4] Tryz.func12 c12 (λbn ag bm=>?_);refine ws _ ?_;refine az ag (λ_ bI a_ ah=>?_);obtain⟨U,bT,h⟩:=aj h;refine cu (ar5 a0.cw J.cw _ bT) _ ?_;refine aD h (λcI h=>?_) (λcI h=>?_)
 .refine ws _ ?_;exact au (a_ _ (.inl (aw [.bool false])))
 .refine aI (bI _ (.inl ?_));refine az ag (λ_ dn el _=>?_);obtain⟨ah,iH,h⟩:=aj h;refine cu (ar7 a0.cg J.cg _ iH) _ ?_;refine aD h (λeQ h=>?_) (λeQ h=>?_)
  .refine ws _ ?_;exact au (el _ (.inl (aw [.bool false])))
  .refine aI (dn _ (.inl ?_));refine az ag (λ_ gY mz _=>?_);obtain⟨aK,dp,h⟩:=aj h;refine cu (ar9 a0.b8 J.b8 _ dp) _ ?_;refine aD h (λeB h=>?_) (λeB h=>?_)
   .refine ws _ ?_;exact au (mz _ (.inl (aw [.bool false])))
   .refine aI (gY _ (.inl ?_));refine az ag (λ_ jz kT _=>?_);obtain⟨bd,gb,h⟩:=aj h;refine cu (Z2 a0.cB J.cB _ gb) _ ?_;refine aD h (λga h=>?_) (λga h=>?_)
    .refine ws _ ?_;exact au (kT _ (.inl (aw [.bool false])))
    .refine aI (jz _ (.inl ?_));refine az ag (λ_ nv my _=>?_);obtain⟨bo,lx,h⟩:=aj h;refine cu (Z2 a0.cy J.cy _ lx) _ ?_;refine aD h (λot h=>?_) (λot h=>?_)
     .refine ws _ ?_;exact au (my _ (.inl (aw [.bool false])))
     .refine aI (nv _ (.inl ?_));refine ws _ ?_;exact au (ag _ (.inl (aw [.bool true])))
theorem asa (a0 J r) (h:GM a0 J=some r):aV af 41 [bC a0,bC J] (.bool r) []:=by
 refine bs [0,1] [.tmp 4] Tryz.func41 amD (λbn ag bm=>?_);refine ws _ ?_;refine az ag (λ_ bI a_ _=>?_);refine ws _ ?_;refine aD h (λbw h=>?_) (λbw h=>?_)
 .refine ws _ ?_;exact au (a_ _ (.inl (aw [.bool false])))
 .refine aI (bI _ (.inl ?_));refine az ag (λ_ db cO _=>?_);refine ws _ ?_;refine aD h (λbW h=>?_) (λbW h=>?_)
  .refine ws _ ?_;exact au (cO _ (.inl (aw [.bool false])))
  .refine aI (db _ (.inl ?_));refine az ag (λ_ b5 cx _=>?_);obtain⟨U,eJ,h⟩:=aj h;refine cu (Z1 a0.bV J.bV _ eJ) _ ?_;refine aD h (λe1 h=>?_) (λe1 h=>?_)
   .refine ws _ ?_;exact au (cx _ (.inl (aw [.bool false])))
   .refine aI (b5 _ (.inl ?_));refine ws _ ?_;exact au (ag _ (.inl (aw [.bool true])))
theorem asb (a0 J r) (h:KL a0 J=some r):aV af 13 [.slice (a0.map bC),.slice (J.map bC)] (.bool r) []:=by
 refine bs [0,1] [.tmp 4] Tryz.func13 amE (λbn ag bm=>?_);refine ws _ ?_;refine az ag (λ_ bI a_ ah=>?_);refine ws _ ?_;refine aD h (λbw h=>?_) (λbw h=>?_)
 .refine ws _ ?_;exact au (a_ _ (.inl (aw [.bool false])))
 .refine aI (bI _ (.inl ?_));refine az ag (λ_ db cO _=>?_);refine ws _ ?_;refine bc cO (λim _ gK bW _=>?_);show bj af (.loop ?gw) _ _;have gM:∀n b7,QK a0 J n b7=some r->cF af ?gw im (aq [(0,.slice (a0.map bC)),(1,.slice (J.map bC)),(5,.int .i64 b7)]):=by
   refine cZ (λ_ gx b7 h=>cX gK (λ_ cV cb dj=>?_));refine az cb (λ_ b5 _ df=>?_);refine ws _ ?_;refine aD h (λeV h=>?_) (λeV h=>?_)
   .refine aI (b5 _ (.inl ?_));refine az cb (λ_ fb e5 _=>?_);refine bc e5 (λ_ ej dL _ _=>?_);obtain⟨U,cp,h⟩:=aj h;obtain⟨ah,dI,h⟩:=aj h;obtain⟨aK,eT,h⟩:=aj h;refine lS (R cp dI) (asa U ah _ eT) _ ?_;refine aD h (λfF h=>?_) (λfF h=>?_)
    .refine ws _ ?_;exact au (dL _ (.inl (aw [.bool false])))
    .refine aI (ej _ (fb _ (.inl ?_)));refine wr _ ?_;exact cV _ (.inr ⟨_,aW rfl,gx (i64.wrap (b7+1)) h⟩)
   .refine cP (df 0 _ (dj 0 _ (bW _ (db _ (.inl ?_)))));refine ws _ ?_;exact au (ag _ (.inl (aw [.bool true])))
  obtain⟨n,h⟩:=cC h;exact cW (.inr ⟨_,aW rfl,gM n 0 h⟩)
theorem asc (a0 J r) (h:GN a0 J=some r):aV af 42 [fC a0,fC J] (.bool r) []:=by
 refine bs [0,1] [.tmp 4] Tryz.func42 amF (λbn ag bm=>?_);refine ws _ ?_;refine az ag (λ_ bI a_ _=>?_);refine ws _ ?_;refine aD h (λbw h=>?_) (λbw h=>?_)
 .refine ws _ ?_;exact au (a_ _ (.inl (aw [.bool false])))
 .refine aI (bI _ (.inl ?_));refine az ag (λ_ db cO _=>?_);refine ws _ ?_;refine aD h (λbW h=>?_) (λbW h=>?_)
  .refine ws _ ?_;exact au (cO _ (.inl (aw [.bool false])))
  .refine aI (db _ (.inl ?_));refine az ag (λ_ b5 cx _=>?_);refine ws _ ?_;refine aD h (λeV h=>?_) (λeV h=>?_)
   .refine ws _ ?_;exact au (cx _ (.inl (aw [.bool false])))
   .refine aI (b5 _ (.inl ?_));refine az ag (λ_ ej dL _=>?_);refine ws _ ?_;refine aD h (λlV h=>?_) (λlV h=>?_)
    .refine ws _ ?_;exact au (dL _ (.inl (aw [.bool false])))
    .refine aI (ej _ (.inl ?_));refine ws _ ?_;exact au (ag _ (.inl (aw [.bool true])))
theorem asd (a0 J r) (h:KM a0 J=some r):aV af 14 [.slice (a0.map fC),.slice (J.map fC)] (.bool r) []:=by
 refine bs [0,1] [.tmp 4] Tryz.func14 gw (λbn ag bm=>?_);refine ws _ ?_;refine az ag (λ_ bI a_ ah=>?_);refine ws _ ?_;refine aD h (λbw h=>?_) (λbw h=>?_)
 .refine ws _ ?_;exact au (a_ _ (.inl (aw [.bool false])))
 .refine aI (bI _ (.inl ?_));refine az ag (λ_ db cO _=>?_);refine ws _ ?_;refine bc cO (λim _ gK bW _=>?_);show bj af (.loop ?gw) _ _;have gM:∀n b7,QL a0 J n b7=some r->cF af ?gw im (aq [(0,.slice (a0.map fC)),(1,.slice (J.map fC)),(5,.int .i64 b7)]):=by
   refine cZ (λ_ gx b7 h=>cX gK (λ_ cV cb dj=>?_));refine az cb (λ_ b5 _ df=>?_);refine ws _ ?_;refine aD h (λeV h=>?_) (λeV h=>?_)
   .refine aI (b5 _ (.inl ?_));refine az cb (λ_ fb e5 _=>?_);refine bc e5 (λ_ ej dL _ _=>?_);obtain⟨U,cp,h⟩:=aj h;obtain⟨ah,dI,h⟩:=aj h;obtain⟨aK,eT,h⟩:=aj h;refine lS (R cp dI) (asc U ah _ eT) _ ?_;refine aD h (λfF h=>?_) (λfF h=>?_)
    .refine ws _ ?_;exact au (dL _ (.inl (aw [.bool false])))
    .refine aI (ej _ (fb _ (.inl ?_)));refine wr _ ?_;exact cV _ (.inr ⟨_,aW rfl,gx (i64.wrap (b7+1)) h⟩)
   .refine cP (df 0 _ (dj 0 _ (bW _ (db _ (.inl ?_)))));refine ws _ ?_;exact au (ag _ (.inl (aw [.bool true])))
  obtain⟨n,h⟩:=cC h;exact cW (.inr ⟨_,aW rfl,gM n 0 h⟩)
theorem ase (a0 J a2 a3 a4 r) (h:QM a0 J a2 a3 a4=some r):aV af 3 [s9 a0,.slice (J.map lv),.slice (a2.map kR),.int .i64 a3,.int .i64 a4] (.bool r) []:=by
 refine bs [0,1,2,3,4] [.tmp 10] Tryz.func3 c3 (λbn ag bm=>?_);refine ws _ ?_;refine ws _ ?_;obtain⟨U,bT,h⟩:=aj h;refine cu (anb a0 1048576 _ bT) _ ?_;refine az ag (λ_ dZ c6 bo=>?_);refine ws _ ?_;refine aD h (λnZ h=>?_) (λnZ h=>?_)
 .refine ws _ ?_;exact au (c6 _ (.inl (aw [.bool true])))
 .refine aI (dZ _ (.inl ?_));obtain⟨ah,gG,h⟩:=aj h;refine cu (ane J U _ gG) _ ?_;refine az ag (λ_ eu hM eA=>?_);refine ws _ ?_;refine aD h (λe1 h=>?_) (λe1 h=>?_)
  .refine ws _ ?_;exact au (hM _ (.inl (aw [.bool true])))
  .refine aI (eu _ (.inl ?_));obtain⟨aK,cp,h⟩:=aj h;refine cu (ang a2 ah _ cp) _ ?_;refine az ag (λ_ jz kT k5=>?_);refine ws _ ?_;refine aD h (λfF h=>?_) (λfF h=>?_)
   .refine ws _ ?_;exact au (kT _ (.inl (aw [.bool true])))
   .refine aI (jz _ (.inl ?_));obtain⟨bd,gN,h⟩:=aj h;obtain⟨bo,iA,h⟩:=aj h;obtain⟨b0,lx,h⟩:=aj h;obtain⟨br,h2,h⟩:=aj h;refine eb (cr [(1,.slice (J.map lv)),(2,.slice (a2.map kR)),(3,.int .i64 a3),(4,.int .i64 a4),(5,.aQ (s9 a0)),(12,.int .i64 br.1),(13,.int .i64 br.2)] (λP bq=>?_) ?_)
    ·(try simp only[aN.down,simprocAttr]);refine dk (Rg a0 _ gN) rfl rfl rfl rfl (.inl (by rfl)) ?_;simp only[aN.down,simprocAttr];refine dk (Rh J _ iA) rfl rfl rfl rfl (.inl (by rfl)) ?_;simp only[aN.down,simprocAttr];refine dk (Ri a2 _ lx) rfl rfl rfl rfl (.inl (by rfl)) ?_;simp only[aN.down,simprocAttr];refine dk (apY bd bo b0 a3 a4 _ h2) rfl rfl (by simp only[aN.down,simprocAttr,Y6.down]<;>rfl) rfl (.inr (by rfl)) ?_;simp only[aN.down,simprocAttr];exact b3 trivial
    obtain⟨cT,tc,h⟩:=aj h;refine cu (Rg a0 _ tc) _ ?_;obtain⟨dj,pz,h⟩:=aj h;refine cu (Rh J _ pz) _ ?_;obtain⟨df,rS,h⟩:=aj h;refine cu (Ri a2 _ rS) _ ?_;obtain⟨eA,lU,h⟩:=aj h;refine eb (cr [(1,.slice (J.map lv)),(2,.slice (a2.map kR)),(5,.aQ (s9 a0)),(12,.int .i64 br.1),(13,.int .i64 br.2),(14,.aQ (wA cT)),(15,.ak 3 (dj.map eO)),(16,.ak 4 (df.map fC)),(17,.int .i64 eA.1),(18,.int .i64 eA.2)] (λP bq=>?_) ?_)
    ·(try simp only[aN.down,simprocAttr]);refine dk (arY cT dj df a3 a4 _ lU) rfl rfl (by simp only[aN.down,simprocAttr,Y6.down]<;>rfl) rfl (.inr (by rfl)) ?_;simp only[aN.down,simprocAttr];exact b3 trivial
    refine az ag (λ_ wE wF _=>?_);refine mY (eA.1 !=br.1) [(1,.slice (J.map lv)),(2,.slice (a2.map kR)),(5,.aQ (s9 a0)),(14,.aQ (wA cT)),(15,.ak 3 (dj.map eO)),(16,.ak 4 (df.map fC)),(68,.bool ((eA.1 !=br.1)||(eA.2 !=br.2)))] ?_;refine aD h (λnN h=>?_) (λnN h=>?_)
    .refine ws _ ?_;exact au (wF _ (.inl (aw [.bool false])))
    .refine aI (wE _ (.inl ?_));refine az ag (λ_ RT Hi _=>?_);obtain⟨kq,asf,h⟩:=aj h;obtain⟨lM,Sj,h⟩:=aj h;refine iT rfl (h7 [(1,.slice (J.map lv)),(2,.slice (a2.map kR)),(15,.ak 3 (dj.map eO)),(16,.ak 4 (df.map fC)),(73,.bool (!lM))] (λP bq=>?_) ?_)
     ·(try simp only[cU.down,simprocAttr]);refine hx (Rg a0 _ asf) rfl rfl rfl rfl (.inl (by rfl)) ?_;simp only[cU.down,simprocAttr];refine hx (ar_ cT kq _ Sj) rfl rfl (by simp only[cU.down,simprocAttr,h8,h9,h_,cS, @bZ _ lP bg (λ_=>GQ _), @bZ _ lQ dm (λ_=>GU _), @bZ _ bS bS (λ_=>rH _), @bZ _ aX aX (λ_=>lu _), @bZ _ aX aX (λ_=>lu _), @bZ _ lP bg (λ_=>GQ _), @bZ _ lQ dm (λ_=>GU _), @bZ _ bS bS (λ_=>rH _), @bZ _ aX aX (λ_=>lu _), @bZ _ aX aX (λ_=>lu _)]<;>rfl) rfl (.inr (by rfl)) ?_;simp only[cU.down,simprocAttr];refine⟨hE (by kernel_rfl),?_⟩;exact b3 trivial
     refine aD h (λRL h=>?_) (λRL h=>?_)
     .refine ws _ ?_;exact au (Hi _ (.inl (aw [.bool false])))
     .refine aI (RT _ (.inl ?_));refine az ag (λ_ vb RM _=>?_);obtain⟨jj,RN,h⟩:=aj h;obtain⟨gT,At,h⟩:=aj h;refine eb (cr [(2,.slice (a2.map kR)),(16,.ak 4 (df.map fC)),(78,.bool (!gT))] (λP bq=>?_) ?_)
      ·(try simp only[aN.down,simprocAttr]);refine dk (Rh J _ RN) rfl rfl rfl rfl (.inl (by rfl)) ?_;simp only[aN.down,simprocAttr];refine dk (asb dj jj _ At) rfl rfl (by simp only[aN.down,simprocAttr,h8,h9,h_,cS, @bZ _ eO bC (λ_=>pw _), @bZ _ eO bC (λ_=>pw _)]<;>rfl) rfl (.inr (by rfl)) ?_;simp only[aN.down,simprocAttr];exact b3 trivial
      refine aD h (λasg h=>?_) (λasg h=>?_)
      .refine ws _ ?_;exact au (RM _ (.inl (aw [.bool false])))
      .refine aI (vb _ (.inl ?_));refine az ag (λ_ Lr Sq _=>?_);obtain⟨ic,tn,h⟩:=aj h;obtain⟨k5,yo,h⟩:=aj h;refine eb (cr [(83,.bool (!k5))] (λP bq=>?_) ?_)
       ·(try simp only[aN.down,simprocAttr]);refine dk (Ri a2 _ tn) rfl rfl rfl rfl (.inl (by rfl)) ?_;simp only[aN.down,simprocAttr];refine dk (asd df ic _ yo) rfl rfl (by simp only[aN.down,simprocAttr,h8,h9,h_,cS, @bZ _ fC fC (λ_=>KX _), @bZ _ fC fC (λ_=>KX _)]<;>rfl) rfl (.inr (by rfl)) ?_;simp only[aN.down,simprocAttr];exact b3 trivial
       refine aD h (λSr h=>?_) (λSr h=>?_)
       .refine ws _ ?_;exact au (Sq _ (.inl (aw [.bool false])))
       .refine aI (Lr _ (.inl ?_));refine ws _ ?_;exact au (ag _ (.inl (aw [.bool true])))
end Go.Proofs.YtmaepbgkcmjcjaiGreatDoor
