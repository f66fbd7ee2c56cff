/- Part of a proof that a law is true. No condition. -/
import Derived.Test.YtafceioodemeeaaGreatDoorW1x3
namespace Go.Proofs.YtafceioodemeeaaGreatDoor
open Option Go.IntKind Nat Or
open Go Go.en Go.pO
set_option maxRecDepth 100000
set_option maxHeartbeats 8800000
set_option linter.unusedSimpArgs false
set_option linter.unusedVariables false
theorem aq5 (qm:Int->dR->aAD->a1->Option (Int×aAD)) (aq6:∀a0 J a2 a3 r,qm a0 J a2 a3=some r->pM ai 160 2 4 [R a0,fu J,.aP (.ag 2 (a2.map fu)),.ref (bk a3),.ref (.hole)] (R r.1) [.hole,.hole,.aP (.ag 2 (r.2.map fu)),.hole,.hole]) (a0 J a2 a3 r) (h:Qo qm a0 J a2 a3=some r):pM ai 160 2 4 [R a0,fu J,.aP (.ag 2 (a2.map fu)),.ref (bk a3),.ref (.hole)] (R r.1) [.hole,.hole,.aP (.ag 2 (r.2.map fu)),.hole,.hole]:=by
 refine pM.O_ (fx:=[0,1,2,3,4]) Pd [.tmp 7] [(0,R a0),(1,fu J),(2,.aP (.ag 2 (a2.map fu))),(3,.ref (bk a3)),(4,.ref (.hole))] Tryz.func160 rfl rfl amq (le_of_ble_eq_true rfl) amp rfl rfl λbu ak bt=>?_;refine al ?_;obtain⟨aa,aU,h⟩:=aM h;refine dw (b5 [(0,R a0),(2,.aP (.ag 2 ((List.set a2 (Int.toNat a0) J).map fu))),(3,.ref (bk a3)),(4,.ref (.hole)),(6,.aP (fu J))] (λP bd=>?_) ?_)
 .simp only[aH.down,simprocAttr,aU,b2 aU,cS,da];exact bR (U aU (U (b2 aU) @cS))
 obtain⟨ah,cY,h⟩:=aM h;refine c6 cY [(0,R a0),(2,.aP (.ag 2 ((List.set a2 (Int.toNat a0) J).map fu))),(3,.ref (bk a3)),(4,.ref (.hole)),(6,.aP (fu J)),(8,.aP (eu ah))] ?_;refine c6 (show∀s,gB ai s 185 [(0,R J.scope),(1,.bool (ah.Kind==1))]=some (.agg [R J.scope,.bool (ah.Kind==1)],s)from λs=>by kernel_rfl) [(0,R a0),(2,.aP (.ag 2 ((List.set a2 (Int.toNat a0) J).map fu))),(3,.ref (bk a3)),(4,.ref (.hole)),(8,.aP (eu ah)),(9,.aP (.agg [R J.scope,.bool (ah.Kind==1)]))] ?_;have aaX:∀oM,Kx qm a0 J a2 a3 ah oM=some r->bn ai ZP bu (ar [(0,R a0),(2,.aP (.ag 2 ((List.set a2 (Int.toNat a0) J).map fu))),(3,.ref (bk a3)),(4,.ref (.hole)),(8,.aP (eu ah)),(9,.aP (.agg [R oM,.bool (ah.Kind==1)]))]):=by
  intro oM h;refine ws [(2,.aP (.ag 2 ((List.set a2 (Int.toNat a0) J).map fu))),(3,.ref (bk a3)),(4,.ref (.hole)),(8,.aP (eu ah)),(9,.aP (.agg [R oM,.bool (ah.Kind==1)])),(10,R (i64.wrap (a0+1)))] ?_;refine ax ak λ_ cE b6 _=>?_;obtain⟨aI,kD,h⟩:=aM h;refine cP (aaV ah _ kD) [(2,.aP (.ag 2 ((List.set a2 (Int.toNat a0) J).map fu))),(3,.ref (bk a3)),(4,.ref (.hole)),(9,.aP (.agg [R oM,.bool (ah.Kind==1)])),(10,R (i64.wrap (a0+1))),(36,R aI),(37,R 0)] ?_;refine bj b6 λHD _ j_ e3 _=>?_;have aq7:∀n wJ tl u5,Al qm a3 oM ah aI n wJ tl u5=some r->cJ ai ZO HD (ar [(2,.aP (.ag 2 (wJ.map fu))),(3,.ref (bk a3)),(4,.ref (.hole)),(9,.aP (.agg [R oM,.bool (ah.Kind==1)])),(10,R tl),(36,R aI),(37,R u5)]):=by
   refine cX λ_ aq8 wJ tl u5 h=>cW j_ λ_ n13 fC l3=>al ?_;refine ax fC λ_ n15 _ hf=>aF h (λnM h=>?_) λnM h=>?_
   .refine aL (n15 _ (inl (ax fC λ_ n17 lL _=>bj lL λ_ n18 _ _ _=>?_)));obtain⟨aZ,fK,h⟩:=aM h;refine aie [(2,.aP (.ag 2 (aZ.2.map fu))),(3,.ref (bk a3)),(4,.ref (.hole)),(9,.aP (.agg [R oM,.bool (ah.Kind==1)])),(10,R aZ.1),(36,R aI),(37,R u5)] (λP bd=>?_) ?_
    ·(try simp only[aH.down,simprocAttr,s_]);refine Yj [⟨R tl,false,_,.hole⟩,⟨.agg [R oM,.bool (ah.Kind==1)],false,_,.hole⟩,⟨.h 2 [],true,_,_⟩,⟨.ref (bk a3),false,_,.hole⟩,⟨.ref (.hole),false,_,.hole⟩] (aq6 tl (dR.mk oM (ah.Kind==1)) wJ a3 _ fK) rfl (by simp only[aH.down,simprocAttr,s_,l0,kX,kk,gQ,gR,gS,cR,or_true,true_or, @b0 _ fu fu (λ_=>Za _)]) rfl rfl (inl rfl) ?_;simp only[aH.down,simprocAttr,s_,jI];(try simp only[jA.down,simprocAttr,s_]at bd⊢);exact bd
    refine n18 _ (n17 _ (inl (dA ?_)));exact n13 _ (inr ⟨_,bD rfl,aq8 aZ.2 aZ.1 (i64.wrap (u5+1)) h⟩)
   .refine cN (hf 0 _ (l3 0 _ (e3 _ (cE _ (inl (al ?_))))));exact hc (ak _ (inl (h3 [R tl] (h0 (dK (dK (kl (by cases im h;rfl) rfl rfl rfl (dK (dK (h2))))))))))
  exact dp h λn h=>aq7 n (List.set a2 (Int.toNat a0) J) (i64.wrap (a0+1)) 0 h
 refine ax ak λ_ n7 _ _=>ws [(0,R a0),(2,.aP (.ag 2 ((List.set a2 (Int.toNat a0) J).map fu))),(3,.ref (bk a3)),(4,.ref (.hole)),(8,.aP (eu ah)),(9,.aP (.agg [R J.scope,.bool (ah.Kind==1)])),(28,.bool (ah.Kind==4))] ?_;refine aF h (λhA h=>?_) λhA h=>?_
 .refine wr [(0,R a0),(2,.aP (.ag 2 ((List.set a2 (Int.toNat a0) J).map fu))),(3,.ref (bk a3)),(4,.ref (.hole)),(8,.aP (eu ah)),(9,.aP (.agg [R (i64.wrap (J.scope+1)),.bool (ah.Kind==1)]))] ?_;exact n7 _ (inr ⟨_,bD rfl,aaX (i64.wrap (J.scope+1)) h⟩)
 .exact aL (n7 _ (inr ⟨_,bD rfl,aaX J.scope h⟩))
theorem aq9:∀n a0 J a2 a3 r,Am n a0 J a2 a3=some r->pM ai 160 2 4 [R a0,fu J,.aP (.ag 2 (a2.map fu)),.ref (bk a3),.ref (.hole)] (R r.1) [.hole,.hole,.aP (.ag 2 (r.2.map fu)),.hole,.hole]:=by
 intro n;induction n with
 |zero=>intro a0 J a2 a3 r h;cases(show none=some r from h)
 |succ n ih=>intro a0 J a2 a3 r h;exact aq5 (Am n) ih a0 J a2 a3 r h
theorem aq_ (a0 J a2 a3 r) (h:Ky a0 J a2 a3=some r):pM ai 160 2 4 [R a0,fu J,.aP (.ag 2 (a2.map fu)),.ref (bk a3),.ref (.hole)] (R r.1) [.hole,.hole,.aP (.ag 2 (r.2.map fu)),.hole,.hole]:=by
 obtain⟨n,h⟩:=ma h;exact aq9 n a0 J a2 a3 r h
theorem Tc (a0 r) (h:CY a0=some r):aW ai 116 [bk a0] (.ag 2 (r.map fu)) []:=by
 refine aW.ai0 (fx:=[0]) Pd [.tmp 2] [(0,bk a0)] Tryz.func116 rfl rfl amv (le_of_ble_eq_true rfl) amu rfl rfl λbu ak bt=>?_;refine al ?_;obtain⟨LV,aU,h⟩:=aM h;refine sf (U (ru aU) @List.map_replicate.{0,0}) [(1,.aP (bk a0)),(3,.aP (.ag 2 ((List.replicate (Int.toNat (a0.Body.length:Int)) (dR.mk 0 false)).map fu)))] ?_;obtain⟨aa,cY,h⟩:=aM h;refine aiV [(3,.aP (.ag 2 (aa.2.map fu)))] (λP bd=>?_) ?_
 ·(try simp only[aH.down,simprocAttr,(show∀s,gB ai s 185 [(0,R a0.dW)]=some (.agg [R a0.dW,.bool false],s)from λs=>by kernel_rfl),s_]);refine Yj [⟨R 0,false,_,.hole⟩,⟨.agg [R a0.dW,.bool false],false,_,.hole⟩,⟨.h 3 [],true,_,_⟩,⟨.h 1 [],false,_,.hole⟩,⟨.ref (.hole),false,_,.hole⟩] (aq_ 0 (dR.mk a0.dW false) (List.replicate (Int.toNat (a0.Body.length:Int)) (dR.mk 0 false)) a0 _ cY) rfl (by simp only[aH.down,simprocAttr,(show∀s,gB ai s 185 [(0,R a0.dW)]=some (.agg [R a0.dW,.bool false],s)from λs=>by kernel_rfl),s_,l0,kX,kk,gQ,gR,gS,cR,or_true,true_or, @b0 _ fu fu (λ_=>Za _), @b0 _ eu eu (λ_=>Ll _)]) rfl rfl ((inr (by simp only[uC,I.c8,I.gJ,Bool.and_self, @jZ _ fu (λ_=>akU _)]))) ?_;simp only[aH.down,simprocAttr,(show∀s,gB ai s 185 [(0,R a0.dW)]=some (.agg [R a0.dW,.bool false],s)from λs=>by kernel_rfl),s_,jI];(try simp only[jA.down,simprocAttr,(show∀s,gB ai s 185 [(0,R a0.dW)]=some (.agg [R a0.dW,.bool false],s)from λs=>by kernel_rfl),s_]at bd⊢);exact bd
 exact aS ak [.ag 2 (aa.2.map fu)]
theorem ara (a0 r) (h:Qp a0=some r):aW ai 253 [eu a0] (.bool r) []:=by
 refine bB [0] [.tmp 2] Tryz.func253 amw λbu ak bt=>al ?_;refine oh (a0.Kind==4) [(1,.aP (eu a0)),(3,.bool ((a0.Kind==4)||(a0.Kind==5)))] ?_;refine dw (b5 [(1,.aP (eu a0)),(3,.bool ((a0.Kind==4)||(a0.Kind==5))),(4,.bool (((a0.Kind==1)||(a0.Kind==3))||(a0.Kind==5)))] (λP bd=>?_) ?_)
 ·(rcases Bool.eq_false_or_eq_true (a0.Kind==1)with mV|mV)<;>(rcases Bool.eq_false_or_eq_true (a0.Kind==3)with Td|Td)<;>
   (simp only[aH.down,simprocAttr,mV,Td]
    exact bR (U mV Td))
 obtain⟨aa,cd,h⟩:=aM h;refine dw (b5 [(2,.bool (((aa&&(((a0.Kind==4)||(a0.Kind==5))||(a0.Number==0)))&&((a0.Kind==1)||(a0.Name==([]:aAc))))&&((((a0.Kind==1)||(a0.Kind==3))||(a0.Kind==5))||((a0.cm.length:Int)==0))))] (λP bd=>?_) ?_)
 ·(rcases Bool.eq_false_or_eq_true (aa)with yO|yO)<;>(rcases Bool.eq_false_or_eq_true (a0.Kind==4)with sk|sk)<;>(rcases Bool.eq_false_or_eq_true (a0.Kind==5)with yT|yT)<;>(rcases Bool.eq_false_or_eq_true (a0.Number==0)with LW|LW)<;>(rcases Bool.eq_false_or_eq_true (a0.Kind==1)with LX|LX)<;>(rcases Bool.eq_false_or_eq_true (a0.Name==([]:aAc))with LY|LY)<;>(rcases Bool.eq_false_or_eq_true (a0.Kind==3)with LZ|LZ)<;>
   ((try simp only[aH.down,simprocAttr,yO,sk,yT,LW,LX,LY,LZ])
    refine dz (mo a0.Kind 0 5 _ cd) (hK:= ?_);simp only[aH.down,simprocAttr,yO,sk,yT,LW,LX,LY,LZ];exact bR (U yO (U sk (U yT (U LW (U LX (U LY LZ)))))))
 exact cK ak [.bool (((aa&&(((a0.Kind==4)||(a0.Kind==5))||(a0.Number==0)))&&((a0.Kind==1)||(a0.Name==([]:aAc))))&&((((a0.Kind==1)||(a0.Kind==3))||(a0.Kind==5))||((a0.cm.length:Int)==0)))]
theorem mq (a0 r) (h:u6 a0=some r):aW ai 174 [.str a0] (.bool r) []:=by
 refine bB [0] [.tmp 2] Tryz.func174 amx λbu ak bt=>al ?_;obtain⟨aa,aU,h⟩:=aM h;refine dw (b5 [(2,.bool (aa&&(!(a0==([116,97,117]:aAc)))))] (λP bd=>?_) ?_)
 .rcases Bool.eq_false_or_eq_true (aa)with mV|mV
  ·(try simp only[aH.down,simprocAttr,mV]);refine dz (LU a0 _ aU) (hK:= ?_);simp only[aH.down,simprocAttr,mV];exact bR mV
  ·(try simp only[aH.down,simprocAttr,mV]);refine dz (LU a0 _ aU) (hK:= ?_);simp only[aH.down,simprocAttr,mV];exact bR mV
 exact cK ak [.bool (aa&&(!(a0==([116,97,117]:aAc))))]
theorem yU (a0 J r) (h:yy a0 J=some r):aW ai 115 [R a0,R J] (.bool r) []:=by
 refine bB [0,1] [.tmp 4] Tryz.func115 amy λbu ak bt=>al ?_;obtain⟨aa,aU,h⟩:=aM h;refine cP (mo a0 0 (i64.wrap (J-1)) _ aU) _ ?_;exact cK ak [.bool aa]
theorem arb (a0 J r) (h:Qq a0 J=some r):aW ai 254 [eu a0,ad bk J] (.bool r) []:=by
 refine bB [0,1] [.tmp 4] Tryz.func254 amA λbu ak bt=>al ?_;refine al ?_;refine ax ak λ_ fg dt _=>al ?_;refine bj dt λ_ dU cG _ _=>al ?_;refine aF h (λqR h=>?_) λqR h=>?_
 .refine dw (b5 [(4,.bool (((a0.cm.length:Int)==0)||((!(a0.Name==([116,97,117]:aAc)))&&(decide ((a0.cm.length:Int)<=2)))))] (λP bd=>?_) ?_)
  ·(rcases Bool.eq_false_or_eq_true ((a0.cm.length:Int)==0)with sk|sk)<;>(rcases Bool.eq_false_or_eq_true (a0.Name==([116,97,117]:aAc))with yT|yT)<;>
    (simp only[aH.down,simprocAttr,sk,yT]
     exact bR (U sk yT))
  exact cK cG [.bool (((a0.cm.length:Int)==0)||((!(a0.Name==([116,97,117]:aAc)))&&(decide ((a0.cm.length:Int)<=2))))]
 .refine al ?_;refine aF h (λe3 h=>?_) λe3 h=>?_
  .exact aS cG [.bool ((a0.cm.length:Int)==1)]
  .refine al ?_;refine aF h (λeZ h=>?_) λeZ h=>?_
   .obtain⟨aa,dN,h⟩:=aM h;refine c6 dN _ ?_;exact cK cG [.bool ((a0.cm.length:Int)==aa.dW)]
   .exact aL (dU _ (fg _ (inl (aS ak [.bool true]))))
theorem aaY (a0 r) (h:GM a0=some r):aW ai 164 [R a0] (.bool r) []:=by
 refine bB [0] [.tmp 2] Tryz.func164 c164 λbu ak bt=>al ?_;obtain⟨aa,aU,h⟩:=aM h;refine cP (mo a0 0 63 _ aU) _ ?_;exact cK ak [.bool aa]
theorem arc (a0 J r) (h:Kz a0 J=some r):aW ai 277 [dY a0,R J] (.bool r) []:=by
 refine bB [0,1] [.tmp 4] Tryz.func277 amB λbu ak bt=>al ?_;refine ax ak λ_ bJ bg ah=>al ?_;refine bj bg λ_ fa bQ _ _=>al ?_;refine aF h (λdC h=>?_) λdC h=>?_
 .obtain⟨aa,fH,h⟩:=aM h;refine cP (aaY a0.Value _ fH) _ ?_;exact cK bQ [.bool aa]
 .refine al ?_;refine aF h (λfl h=>?_) λfl h=>?_
  .obtain⟨ah,dx,h⟩:=aM h;refine cP (mo a0.Value 0 (i64.wrap (J-1)) _ dx) _ ?_;exact cK bQ [.bool ah]
  .refine al ?_;refine aF h (λhG h=>?_) λhG h=>?_
   .obtain⟨aI,cx,h⟩:=aM h;refine cP (mo a0.Value 0 8 _ cx) _ ?_;exact cK bQ [.bool aI]
   .refine al ?_;refine aF h (λh5 h=>?_) λh5 h=>?_
    .exact aS bQ [.bool (a0.Value==0)]
    .exact aL (fa _ (bJ _ (inl (aS ak [.bool false]))))
theorem aaZ (a0 r) (h:KA a0=some r):aW ai 259 [dY a0] (R r) []:=by
 refine bB [0] [.tmp 2] Tryz.func259 amC λbu ak bt=>al ?_;refine ax ak λ_ bJ bg _=>al ?_;refine bj bg λ_ fa bQ _ _=>al ?_;refine aF h (λdC h=>?_) λdC h=>?_
 .exact aS bQ [R 2]
 .refine al ?_;refine aF h (λe4 h=>?_) λe4 h=>?_
  .exact aS bQ [R 1]
  .exact aL (fa _ (bJ _ (inl (aS ak [R 0]))))
theorem ard (a0 J a2 r) (h:KB a0 J a2=some r):aW ai 257 [ad dY a0,R J,R a2] (.bool r) []:=by
 refine bB [0,1,2] [.tmp 6] Tryz.func257 amD λbu ak bt=>al ?_;refine ax ak λ_ bJ bg ah=>?_;obtain⟨aa,b_,h⟩:=aM h;rcases dL h with⟨c7,h⟩|⟨c7,h⟩
 .refine eR (hd c7) (mo J 0 29 _ b_) _ ?_;refine i1 rfl ?_;exact aS bg [.bool false]
 .obtain⟨ah,cd,h⟩:=aM h;rcases dL h with⟨cp,h⟩|⟨cp,h⟩
  .refine dw (b5 [(0,ad dY a0),(1,R J),(24,.bool true)] (λP bd=>?_) ?_)
   ·(try simp only[aH.down,simprocAttr,(cf c7),(hd cp)]);refine dz (mo J 0 29 _ b_) (hK:= ?_);simp only[aH.down,simprocAttr,(cf c7),(hd cp)];refine iO (mo a2 1 60 _ cd) (hK:= ?_);simp only[aH.down,simprocAttr,(cf c7),(hd cp)];exact bR (U (cf c7) (hd cp))
   refine i1 rfl ?_;exact aS bg [.bool false]
  .obtain⟨aI,iI,h⟩:=aM h;refine dw (b5 [(0,ad dY a0),(1,R J),(24,.bool (!aI))] (λP bd=>?_) ?_)
   ·(try simp only[aH.down,simprocAttr,(cf c7),(cf cp)]);refine dz (mo J 0 29 _ b_) (hK:= ?_);simp only[aH.down,simprocAttr,(cf c7),(cf cp)];refine iO (mo a2 1 60 _ cd) (hK:= ?_);simp only[aH.down,simprocAttr,(cf c7),(cf cp)];refine iO (mo (a0.length:Int) 1 a2 _ iI) (hK:= ?_);simp only[aH.down,simprocAttr,(cf c7),(cf cp)];exact bR (U (cf c7) (cf cp))
   refine aF h (λnK h=>?_) λnK h=>?_
   .exact aS bg [.bool false]
   .refine aL (bJ _ (inl (al ?_)));refine ax ak λ_ n14 ez _=>al ?_;refine bj ez λarf _ nj nM _=>?_;show bn ai (.loop ?kL) _ _;have lg:∀n j2 u7,CZ a0 J n j2 u7=some r->cJ ai ?kL arf (ar [(1,R J),(7,R j2),(25,ad dY a0),(26,R (a0.length:Int)),(27,R u7)]):=by
     refine cX λ_ lh j2 u7 h=>cW nj λ_ n17 lL iA=>al ?_;refine ax lL λ_ n19 _ lD=>aF h (λfX h=>?_) λfX h=>?_
     .refine aL (n19 _ (inl (ax lL λ_ n21 w7 _=>bj w7 λ_ n22 oi _ _=>?_)));obtain⟨aZ,lM,h⟩:=aM h;refine c6 lM _ ?_;refine ax oi λ_ n25 pf _=>?_;rcases dL h with⟨nL,h⟩|⟨nL,h⟩
      .refine c6 nL _ ?_;refine i1 rfl ?_;exact aS pf [.bool false]
      .obtain⟨aX,tF,h⟩:=aM h;refine eR nL (arc aZ J _ tF) _ ?_;refine aF h (λpW h=>?_) λpW h=>?_
       .exact aS pf [.bool false]
       .refine aL (n25 _ (inl ?_));obtain⟨bz,pg,h⟩:=aM h;refine Z_ (aaZ aZ _ pg) _ ?_;refine n22 _ (n21 _ (inl (dA ?_)));exact n17 _ (inr ⟨_,bD rfl,lh (i64.wrap (j2+(i64.wrap (bz-1)))) (i64.wrap (u7+1)) h⟩)
     .exact cN (lD 0 _ (iA 0 _ (nM _ (n14 _ (inl (aS ak [.bool (j2==0)]))))))
    exact dp h λn h=>lg n 1 0 h
theorem arh (a0 J r) (h:Qs a0 J=some r):aW ai 256 [ad dY a0,.ref (fu J)] (.bool r) []:=by
 refine bB [0,1] [.tmp 3] Tryz.func256 amE λbu ak bt=>al ?_;obtain⟨aa,aU,h⟩:=aM h;refine cP (ard a0 J.scope 15 _ aU) _ ?_;exact cK ak [.bool (!aa)]
theorem ari (a0 J r) (h:Qu a0 J=some r):aW ai 276 [ad jb a0,.fn 256 [.ref (fu J)]] (R r) []:=by
 refine bB [0,1] [.tmp 4] Tryz.func276 amF λbu ak bt=>al ?_;refine ax ak λ_ bJ bg ah=>al ?_;refine bj bg λeV _ bQ bZ _=>?_;show bn ai (.loop ?eT) _ _;have e9:∀n cI,GN a0 J n cI=some r->cJ ai ?eT eV (ar [(0,ad jb a0),(1,.fn 256 [.ref (fu J)]),(7,R (a0.length:Int)),(8,R cI)]):=by
  refine cX λ_ eS cI h=>cW bQ λ_ dU cG aX=>al ?_;refine ax cG λ_ n7 _ bw=>aF h (λcp h=>?_) λcp h=>?_
  .refine aL (n7 _ (inl (ax cG λ_ cE b6 _=>bj b6 λ_ n10 cQ _ _=>al ?_)));obtain⟨aa,el,ah,dT,h⟩:=dk h;refine eR el (arh aa J _ dT) _ ?_;refine aF h (λeZ h=>?_) λeZ h=>?_
   .exact aS cQ [R cI]
   .refine aL (n10 _ (cE _ (inl (dA ?_))));exact dU _ (inr ⟨_,bD rfl,eS (i64.wrap (cI+1)) h⟩)
  .exact cN (bw 0 _ (aX 0 _ (bZ _ (bJ _ (inl (aS ak [R (-1)]))))))
 exact dp h λn h=>e9 n 0 h
theorem arj (a0 J r) (h:KC a0 J=some r):aW ai 255 [ad jb a0,.fn 256 [.ref (fu J)]] (.bool r) []:=by
 refine bB [0,1] [.tmp 4] Tryz.func255 amG λbu ak bt=>al ?_;obtain⟨aa,aU,h⟩:=aM h;refine cP (ari a0 J _ aU) _ ?_;exact cK ak [.bool (decide (0<=aa))]
theorem ark (a0 J a2 r) (h:GQ a0 J a2=some r):aW ai 228 [eu a0,ad bk J,fu a2] (R r) []:=by
 refine bB [0,1,2] [.tmp 6] Tryz.func228 c228 λbu ak bt=>al ?_;refine ax ak λ_ bJ bg ah=>bj bg λaa0 fg dt _ aI=>?_;obtain⟨aa,cY,h⟩:=aM h;refine cP (ara a0 _ cY) _ ?_;refine aF h (λdC h=>?_) λdC h=>?_
 .exact aS dt [R 2]
 .skip;have sj:∀nJ,GP a0 J a2 nJ=some r->bn ai ZR aa0 (ar [(1,ad bk J),(3,.aP (eu a0)),(5,.aP (fu a2)),(11,.bool nJ)]):=by
   intro nJ h;refine aF h (λcp h=>?_) λcp h=>?_
   .exact aS dt [R 3]
   .skip;have H0:∀GO,An a0 J a2 GO=some r->bn ai ZQ aa0 (ar [(1,ad bk J),(3,.aP (eu a0)),(5,.aP (fu a2)),(26,.bool GO)]):=by
     intro GO h;refine aF h (λfl h=>?_) λfl h=>?_
     .exact aS dt [R 4]
     .obtain⟨ah,el,h⟩:=aM h;refine cP (arb a0 J _ el) _ ?_;refine aF h (λhG h=>?_) λhG h=>?_
      .exact aS dt [R 5]
      .refine oh (a0.Kind==5) [(3,.aP (eu a0)),(5,.aP (fu a2)),(54,.bool ((a0.Kind==5)&&(!a2.behind)))] ?_;refine aF h (λkr h=>?_) λkr h=>?_
       .exact aS dt [R 6]
       .refine oh (a0.Kind==4) [(3,.aP (eu a0)),(5,.aP (fu a2)),(63,.bool ((a0.Kind==4)&&(decide (6<=a2.scope))))] ?_;refine aF h (λfX h=>?_) λfX h=>?_
        .exact aS dt [R 7]
        .obtain⟨aI,iT,h⟩:=aM h;refine dw (b5 [(72,.bool aI)] (λP bd=>?_) ?_)
         ·(try simp only[aH.down,simprocAttr]);refine dz (arj a0.cm a2 _ iT) rfl rfl (by simp only[aH.down,simprocAttr,yM.down]<;>rfl) rfl (inr (by rfl)) ?_;simp only[aH.down,simprocAttr];exact bR trivial
         refine aF h (λhA h=>?_) λhA h=>?_
         .exact aS dt [R 8]
         .exact aL (fg _ (bJ _ (inl (aS ak [R 0]))))
    rcases dL h with⟨ks,h⟩|⟨ks,h⟩
    .obtain⟨aZ,tF,h⟩:=aM h;rcases dL h with⟨pW,h⟩|⟨pW,h⟩
     .refine l1 (b5 (K:=eM _) [(1,ad bk J),(3,.aP (eu a0)),(5,.aP (fu a2)),(26,.bool true)] (λP bd=>?_) ?_)
      ·(try simp only[aH.down,simprocAttr,ks,(hd pW)]);refine iO (mo a0.Number 1 7 _ tF) (hK:= ?_);simp only[aH.down,simprocAttr,ks,(hd pW)];exact bR (U ks (hd pW))
      exact inr ⟨_,bD rfl,H0 true h⟩
     .rcases dL h with⟨hp,h⟩|⟨hp,h⟩
      .obtain⟨aX,wY,h⟩:=aM h;refine l1 (b5 (K:=eM _) [(1,ad bk J),(3,.aP (eu a0)),(5,.aP (fu a2)),(26,.bool (!aX))] (λP bd=>?_) ?_)
       ·(try simp only[aH.down,simprocAttr,ks,(cf pW),hp]);refine iO (mo a0.Number 1 7 _ tF) (hK:= ?_);simp only[aH.down,simprocAttr,ks,(cf pW),hp];refine iO (yU a0.Number (J.length:Int) _ wY) (hK:= ?_);simp only[aH.down,simprocAttr,ks,(cf pW),hp];exact bR (U ks (U (cf pW) hp))
       exact inr ⟨_,bD rfl,H0 (!aX) h⟩
      .refine l1 (b5 (K:=eM _) [(1,ad bk J),(3,.aP (eu a0)),(5,.aP (fu a2)),(26,.bool false)] (λP bd=>?_) ?_)
       ·(try simp only[aH.down,simprocAttr,ks,(cf pW),hp]);refine iO (mo a0.Number 1 7 _ tF) (hK:= ?_);simp only[aH.down,simprocAttr,ks,(cf pW),hp];exact bR (U ks (U (cf pW) hp))
       exact inr ⟨_,bD rfl,H0 false h⟩
    .rcases dL h with⟨jD,h⟩|⟨jD,h⟩
     .obtain⟨bz,jC,h⟩:=aM h;refine l1 (b5 (K:=eM _) [(1,ad bk J),(3,.aP (eu a0)),(5,.aP (fu a2)),(26,.bool (!bz))] (λP bd=>?_) ?_)
      ·(try simp only[aH.down,simprocAttr,ks,jD]);refine iO (yU a0.Number (J.length:Int) _ jC) (hK:= ?_);simp only[aH.down,simprocAttr,ks,jD];exact bR (U ks jD)
      exact inr ⟨_,bD rfl,H0 (!bz) h⟩
     .refine l1 (b5 (K:=eM _) [(1,ad bk J),(3,.aP (eu a0)),(5,.aP (fu a2)),(26,.bool false)] (λP bd=>?_) ?_)
      .simp only[aH.down,simprocAttr,ks,jD];exact bR (U ks jD)
      exact inr ⟨_,bD rfl,H0 false h⟩
  rcases dL h with⟨pj,h⟩|⟨pj,h⟩
  .rcases dL h with⟨qx,h⟩|⟨qx,h⟩
   .obtain⟨bw,tG,h⟩:=aM h;refine l1 (b5 (K:=eM _) [(1,ad bk J),(3,.aP (eu a0)),(5,.aP (fu a2)),(11,.bool (!bw))] (λP bd=>?_) ?_)
    ·(try simp only[aH.down,simprocAttr,pj,qx]);refine iO (mq a0.Name _ tG) (hK:= ?_);simp only[aH.down,simprocAttr,pj,qx];exact bR (U pj qx)
    exact inr ⟨_,bD rfl,sj (!bw) h⟩
   .refine l1 (b5 (K:=eM _) [(1,ad bk J),(3,.aP (eu a0)),(5,.aP (fu a2)),(11,.bool false)] (λP bd=>?_) ?_)
    .simp only[aH.down,simprocAttr,pj,qx];exact bR (U pj qx)
    exact inr ⟨_,bD rfl,sj false h⟩
  .refine l1 (b5 (K:=eM _) [(1,ad bk J),(3,.aP (eu a0)),(5,.aP (fu a2)),(11,.bool false)] (λP bd=>?_) ?_)
   .simp only[aH.down,simprocAttr,pj];exact bR pj
   exact inr ⟨_,bD rfl,sj false h⟩
theorem arl (a0 J r) (h:GR a0 J=some r):aW ai 196 [ad bk a0,bk J] (.tuple [R r.1,R r.2]) []:=by
 refine bB [0,1] [.tmp 4,.tmp 5] Tryz.func196 c196 λbu ak bt=>al ?_;refine ax ak λ_ bJ bg ah=>?_;obtain⟨aa,b_,h⟩:=aM h;rcases dL h with⟨c7,h⟩|⟨c7,h⟩
 .refine mn (hd c7) (mo (J.Body.length:Int) 1 20 _ b_) _ ?_;refine i1 rfl ?_;exact aS bg [R 0,R 1]
 .obtain⟨ah,cd,h⟩:=aM h;refine jv rfl (iN [(0,ad bk a0),(3,.aP (bk J)),(22,.bool (ah !=(J.Body.length:Int)))] (λP bd=>?_) ?_)
  ·(try simp only[dh.down,simprocAttr,(cf c7)]);refine hZ (mo (J.Body.length:Int) 1 20 _ b_) (hK:= ?_);simp only[dh.down,simprocAttr,(cf c7)];refine lX (aaW J 0 _ cd) (hK:= ?_);simp only[dh.down,simprocAttr,(cf c7)];refine⟨hS (by kernel_rfl),?_⟩;exact bR (cf c7)
  refine aF h (λcp h=>?_) λcp h=>?_
  .exact aS bg [R 0,R 1]
  .refine aL (bJ _ (inl ?_));obtain⟨aI,kD,h⟩:=aM h;refine cP (Tc J _ kD) _ ?_;refine ax ak λ_ n12 j_ _=>al ?_;refine bj j_ λHB _ ez hG _=>?_;show bn ai (.loop ?kL) _ _;have lg:∀n q6,Ao a0 J aI n q6=some r->cJ ai ?kL HB (ar [(0,ad bk a0),(6,.ag 2 (aI.map fu)),(26,ad eu J.Body),(27,R (J.Body.length:Int)),(28,R q6)]):=by
    refine cX λ_ lh q6 h=>cW ez λ_ n15 gM hf=>al ?_;refine ax gM λ_ n17 _ iA=>aF h (λh5 h=>?_) λh5 h=>?_
    .refine aL (n17 _ (inl (ax gM λ_ n19 AM _=>bj AM λ_ n20 HC _ _=>?_)));obtain⟨aZ,fz,h⟩:=aM h;refine c6 fz _ ?_;obtain⟨aX,lM,bz,hI,h⟩:=dk h;refine mn (U lM (b2 lM)) (ark aZ a0 aX _ hI) _ ?_;refine al ?_;refine aF h (λnL h=>?_) λnL h=>?_
     .exact aS HC [R q6,R bz]
     .refine aL (n20 _ (n19 _ (inl (dA ?_))));exact n15 _ (inr ⟨_,bD rfl,lh (i64.wrap (q6+1)) h⟩)
    .exact cN (iA 0 _ (hf 0 _ (hG _ (n12 _ (inl (aS ak [R 0,R 0]))))))
   exact dp h λn h=>lg n 0 h
theorem arn (a0 r) (h:KE a0=some r):aW ai 153 [ad bk a0] (.bool r) []:=by
 refine bB [0] [.tmp 2] Tryz.func153 amK λbu ak bt=>al ?_;refine ax ak λ_ bJ bg ah=>?_;obtain⟨aa,b_,h⟩:=aM h;rcases dL h with⟨c7,h⟩|⟨c7,h⟩
 .refine eR (hd c7) (mo (a0.length:Int) 1 4 _ b_) _ ?_;refine i1 rfl ?_;exact aS bg [.bool false]
 .obtain⟨ah,cd,h⟩:=aM h;refine dw (b5 [(0,ad bk a0),(15,.bool (!ah))] (λP bd=>?_) ?_)
  ·(try simp only[aH.down,simprocAttr,(cf c7)]);refine dz (mo (a0.length:Int) 1 4 _ b_) (hK:= ?_);simp only[aH.down,simprocAttr,(cf c7)];refine iO (aq0 a0 _ cd) (hK:= ?_);simp only[aH.down,simprocAttr,(cf c7)];exact bR (cf c7)
  refine aF h (λcp h=>?_) λcp h=>?_
  .exact aS bg [.bool false]
  .refine aL (bJ _ (inl (ax ak λ_ n10 cQ _=>al ?_)));refine bj cQ λHD _ j_ e3 _=>?_;show bn ai (.loop ?gU) _ _;have gW:∀n r1,C0 a0 n r1=some r->cJ ai ?gU HD (ar [(0,ad bk a0),(16,ad bk a0),(17,R (a0.length:Int)),(18,R r1)]):=by
    refine cX λ_ gG r1 h=>cW j_ λ_ n13 fC l3=>al ?_;refine ax fC λ_ n15 _ hf=>aF h (λnM h=>?_) λnM h=>?_
    .refine aL (n15 _ (inl (ax fC λ_ n17 lL _=>bj lL λ_ n18 w4 _ _=>?_)));obtain⟨aI,fK,h⟩:=aM h;refine c6 fK _ ?_;refine ax w4 λ_ n21 w7 _=>?_;obtain⟨aZ,iT,h⟩:=aM h;rcases dL h with⟨hA,h⟩|⟨hA,h⟩
     .refine mn (hd hA) (LU aI.Name _ iT) _ ?_;refine i1 rfl ?_;exact aS w7 [.bool false]
     .obtain⟨aX,rm,bz,qv,h⟩:=dk h;refine jv rfl (iN [(0,ad bk a0),(4,.aP (bk aI)),(16,ad bk a0),(17,R (a0.length:Int)),(18,R r1),(35,.bool (decide (0<=bz)))] (λP bd=>?_) ?_)
      ·(try simp only[dh.down,simprocAttr,(cf hA),rm, @ic _ bk 3 (λ_=>rfl)]);refine hZ (LU aI.Name _ iT) (hK:= ?_);simp only[dh.down,simprocAttr,(cf hA),rm, @ic _ bk 3 (λ_=>rfl)];refine lX (aq4 aX aI.Name _ qv) (hK:= ?_);simp only[dh.down,simprocAttr,(cf hA),rm, @ic _ bk 3 (λ_=>rfl)];refine⟨hS (by kernel_rfl),?_⟩;exact bR (U (cf hA) (U rm (@ic _ bk 3 λ_=>rfl)))
      refine aF h (λks h=>?_) λks h=>?_
      .exact aS w7 [.bool false]
      .refine aL (n21 _ (inl ?_));obtain⟨bw,DU,h⟩:=aM h;refine cP (arl a0 aI _ DU) _ ?_;refine al ?_;refine aF h (λjD h=>?_) λjD h=>?_
       .exact aS w4 [.bool false]
       .refine aL (n18 _ (n17 _ (inl (dA ?_))));exact n13 _ (inr ⟨_,bD rfl,gG (i64.wrap (r1+1)) h⟩)
    .exact cN (hf 0 _ (l3 0 _ (e3 _ (n10 _ (inl (aS ak [.bool true]))))))
   exact dp h λn h=>gW n 0 h
theorem aro (a0 r) (h:Qw a0=some r):aW ai 163 [R a0] (.bool r) []:=by
 refine bB [0] [.tmp 2] Tryz.func163 amL λbu ak bt=>al ?_;obtain⟨aa,aU,h⟩:=aM h;refine cP (aaY a0 _ aU) _ ?_;exact cK ak [.bool (!aa)]
theorem arp (a0 r) (h:Qy a0=some r):aW ai 201 [ad a8 a0,.fn 163 []] (R r) []:=by
 refine bB [0,1] [.tmp 4] Tryz.func201 c201 λbu ak bt=>al ?_;refine ax ak λ_ bJ bg ah=>al ?_;refine bj bg λeV _ bQ bZ _=>?_;show bn ai (.loop ?eT) _ _;have e9:∀n cI,GS a0 n cI=some r->cJ ai ?eT eV (ar [(0,ad a8 a0),(1,.fn 163 []),(7,R (a0.length:Int)),(8,R cI)]):=by
  refine cX λ_ eS cI h=>cW bQ λ_ dU cG aX=>al ?_;refine ax cG λ_ n7 _ bw=>aF h (λcp h=>?_) λcp h=>?_
  .refine aL (n7 _ (inl (ax cG λ_ cE b6 _=>bj b6 λ_ n10 cQ _ _=>al ?_)));obtain⟨aa,el,ah,dT,h⟩:=dk h;refine eR el (aro aa _ dT) _ ?_;refine aF h (λeZ h=>?_) λeZ h=>?_
   .exact aS cQ [R cI]
   .refine aL (n10 _ (cE _ (inl (dA ?_))));exact dU _ (inr ⟨_,bD rfl,eS (i64.wrap (cI+1)) h⟩)
  .exact cN (bw 0 _ (aX 0 _ (bZ _ (bJ _ (inl (aS ak [R (-1)]))))))
 exact dp h λn h=>e9 n 0 h
theorem arq (a0 r) (h:Qz a0=some r):aW ai 162 [ad a8 a0,.fn 163 []] (.bool r) []:=by
 refine bB [0,1] [.tmp 4] Tryz.func162 c162 λbu ak bt=>al ?_;obtain⟨aa,aU,h⟩:=aM h;refine cP (arp a0 _ aU) _ ?_;exact cK ak [.bool (decide (0<=aa))]
theorem Te (a0 r) (h:C1 a0=some r):aW ai 117 [ad a8 a0] (.bool r) []:=by
 refine bB [0] [.tmp 2] Tryz.func117 c117 λbu ak bt=>al ?_;obtain⟨aa,aU,h⟩:=aM h;refine cP (arq a0 _ aU) _ ?_;exact cK ak [.bool (!aa)]
theorem ars (a0 J r) (h:KF a0 J=some r):aW ai 157 [ad bk a0,db J] (.bool r) []:=by
 refine bB [0,1] [.tmp 4] Tryz.func157 c157 λbu ak bt=>al ?_;obtain⟨aa,aU,h⟩:=aM h;rcases dL h with⟨bZ,h⟩|⟨bZ,h⟩
 .obtain⟨ah,cY,h⟩:=aM h;rcases dL h with⟨dC,h⟩|⟨dC,h⟩
  .obtain⟨aI,cd,h⟩:=aM h;refine jv rfl (iN [(4,.bool aI)] (λP bd=>?_) ?_)
   ·(try simp only[dh.down,simprocAttr,bZ,cY,dC]);refine hZ (yU J.cy (a0.length:Int) _ aU) (hK:= ?_);simp only[dh.down,simprocAttr,bZ,cY,dC];refine lX (Te J.bP _ cd) (hK:= ?_);simp only[dh.down,simprocAttr,bZ,cY,dC];refine⟨hS (by kernel_rfl),?_⟩;exact bR (U bZ (U cY dC))
   exact cK ak [.bool aI]
  .refine mn (U bZ (U cY dC)) (yU J.cy (a0.length:Int) _ aU) _ ?_;exact cK ak [.bool false]
 .refine mn bZ (yU J.cy (a0.length:Int) _ aU) _ ?_;exact cK ak [.bool false]
theorem art (a0 J r) (h:QA a0 J=some r):aW ai 156 [db a0,.ref (ft J)] (.bool r) []:=by
 refine bB [0,1] [.tmp 3] Tryz.func156 c156 λbu ak bt=>al ?_;obtain⟨aa,aU,h⟩:=aM h;refine cP (ars J.cz a0 _ aU) _ ?_;exact cK ak [.bool (!aa)]
theorem aru (a0 J r) (h:QC a0 J=some r):aW ai 197 [ad db a0,.fn 156 [.ref (ft J)]] (R r) []:=by
 refine bB [0,1] [.tmp 4] Tryz.func197 amM λbu ak bt=>al ?_;refine ax ak λ_ bJ bg ah=>al ?_;refine bj bg λeV _ bQ bZ _=>?_;show bn ai (.loop ?eT) _ _;have e9:∀n cI,GU a0 J n cI=some r->cJ ai ?eT eV (ar [(0,ad db a0),(1,.fn 156 [.ref (ft J)]),(7,R (a0.length:Int)),(8,R cI)]):=by
  refine cX λ_ eS cI h=>cW bQ λ_ dU cG aX=>al ?_;refine ax cG λ_ n7 _ bw=>aF h (λcp h=>?_) λcp h=>?_
  .refine aL (n7 _ (inl (ax cG λ_ cE b6 _=>bj b6 λ_ n10 cQ _ _=>al ?_)));obtain⟨aa,el,ah,dT,h⟩:=dk h;refine eR el (art aa J _ dT) _ ?_;refine aF h (λeZ h=>?_) λeZ h=>?_
   .exact aS cQ [R cI]
   .refine aL (n10 _ (cE _ (inl (dA ?_))));exact dU _ (inr ⟨_,bD rfl,eS (i64.wrap (cI+1)) h⟩)
  .exact cN (bw 0 _ (aX 0 _ (bZ _ (bJ _ (inl (aS ak [R (-1)]))))))
 exact dp h λn h=>e9 n 0 h
theorem arv (a0 J r) (h:KG a0 J=some r):aW ai 155 [ad db a0,.fn 156 [.ref (ft J)]] (.bool r) []:=by
 refine bB [0,1] [.tmp 4] Tryz.func155 amN λbu ak bt=>al ?_;obtain⟨aa,aU,h⟩:=aM h;refine cP (aru a0 J _ aU) _ ?_;exact cK ak [.bool (decide (0<=aa))]
theorem aa1 (a0 r) (h:cmp_isNaN_string a0=some r):aW ai 278 [.str a0] (.bool r) []:=by
 refine bB [0] [.tmp 2] Tryz.func278 amO λbu ak bt=>al ?_;exact aS ak [.bool false]
theorem arw (a0 J r) (h:KH a0 J=some r):aW ai 258 [.str a0,.str J] (R r) []:=by
 refine bB [0,1] [.tmp 4] Tryz.func258 amP λbu ak bt=>al ?_;obtain⟨aa,aU,h⟩:=aM h;refine cP (aa1 a0 _ aU) _ ?_;obtain⟨ah,cY,h⟩:=aM h;refine cP (aa1 J _ cY) _ ?_;refine ax ak λ_ n6 c_ _=>al ?_;refine aF h (λcp h=>?_) λcp h=>?_
 .refine ax c_ λ_ cE b6 _=>al ?_;refine aF h (λnK h=>?_) λnK h=>?_
  .exact aS b6 [R 0]
  .exact aL (cE _ (inl (aS c_ [R (-1)])))
 .refine aL (n6 _ (inl (ax ak λ_ n14 ez _=>al ?_)));refine aF h (λnM h=>?_) λnM h=>?_
  .exact aS ez [R 1]
  .refine aL (n14 _ (inl (ax ak λ_ n18 w4 _=>al ?_)));refine aF h (λfX h=>?_) λfX h=>?_
   .exact aS w4 [R (-1)]
   .refine aL (n18 _ (inl (ax ak λ_ n22 oi _=>al ?_)));refine aF h (λhA h=>?_) λhA h=>?_
    .exact aS oi [R 1]
    .exact aL (n22 _ (inl (aS ak [R 0])))
theorem arx (a0 J r) (h:KJ a0 J=some r):aW ai 229 [ad aE a0,ad aE J] (R r) []:=by
 refine bB [0,1] [.tmp 4] Tryz.func229 c229 λbu ak bt=>al ?_;refine ax ak λ_ bJ bg ah=>al ?_;refine bj bg λeV _ bQ bZ _=>?_;show bn ai (.loop ?eT) _ _;have e9:∀n r2,KI a0 J n r2=some r->cJ ai ?eT eV (ar [(0,ad aE a0),(1,ad aE J),(9,ad aE a0),(10,R (a0.length:Int)),(11,R r2)]):=by
  refine cX λ_ eS r2 h=>cW bQ λ_ dU cG aX=>al ?_;refine ax cG λ_ n7 _ bw=>aF h (λcp h=>?_) λcp h=>?_
  .refine aL (n7 _ (inl (ax cG λ_ cE b6 _=>bj b6 λ_ n10 cQ _ _=>?_)));obtain⟨aa,dx,h⟩:=aM h;refine c6 dx _ ?_;refine ax cQ λ_ n13 fC _=>al ?_;refine aF h (λeZ h=>?_) λeZ h=>?_
   .exact aS fC [R 1]
   .refine aL (n13 _ (inl ?_));obtain⟨ah,ev,h⟩:=aM h;refine c6 ev _ ?_;obtain⟨aI,fK,h⟩:=aM h;refine cP (arw aa ah _ fK) _ ?_;refine al ?_;refine aF h (λAO h=>?_) λAO h=>?_
    .exact aS cQ [R aI]
    .refine aL (n10 _ (cE _ (inl (dA ?_))));exact dU _ (inr ⟨_,bD rfl,eS (i64.wrap (r2+1)) h⟩)
  .refine cN (bw 0 _ (aX 0 _ (bZ _ (bJ _ (inl (ax ak λ_ n25 pf _=>al ?_))))));refine aF h (λnL h=>?_) λnL h=>?_
   .exact aS pf [R (-1)]
   .exact aL (n25 _ (inl (aS ak [R 0])))
 exact dp h λn h=>e9 n 0 h
theorem ary (a0 J r) (h:KK a0 J=some r):aW ai 198 [bH a0,bH J] (R r) []:=by
 refine bB [0,1] [.tmp 4] Tryz.func198 c198 λbu ak bt=>al ?_;obtain⟨aa,aU,h⟩:=aM h;refine dw (b5 [(4,R aa)] (λP bd=>?_) ?_)
 ·(try simp only[aH.down,simprocAttr,(show∀s,dM ai s 25 2 [(0,.str a0.Left),(1,.str a0.cH)]=some (.ag 1 [.str a0.Left,.str a0.cH],s)from λs=>by kernel_rfl),(show∀s,dM ai s 25 2 [(0,.str J.Left),(1,.str J.cH)]=some (.ag 1 [.str J.Left,.str J.cH],s)from λs=>by kernel_rfl)]);refine dz (arx [a0.Left,a0.cH] [J.Left,J.cH] _ aU) rfl rfl (by simp only[aH.down,simprocAttr,(show∀s,dM ai s 25 2 [(0,.str a0.Left),(1,.str a0.cH)]=some (.ag 1 [.str a0.Left,.str a0.cH],s)from λs=>by kernel_rfl),(show∀s,dM ai s 25 2 [(0,.str J.Left),(1,.str J.cH)]=some (.ag 1 [.str J.Left,.str J.cH],s)from λs=>by kernel_rfl),AL.down,I.shares]<;>rfl) rfl (inr (by rfl)) ?_;simp only[aH.down,simprocAttr,(show∀s,dM ai s 25 2 [(0,.str a0.Left),(1,.str a0.cH)]=some (.ag 1 [.str a0.Left,.str a0.cH],s)from λs=>by kernel_rfl),(show∀s,dM ai s 25 2 [(0,.str J.Left),(1,.str J.cH)]=some (.ag 1 [.str J.Left,.str J.cH],s)from λs=>by kernel_rfl)];exact bR (U (show∀s,dM ai s 25 2 [(0,.str a0.Left),(1,.str a0.cH)]=some (.ag 1 [.str a0.Left,.str a0.cH],s)from λs=>by kernel_rfl) (show∀s,dM ai s 25 2 [(0,.str J.Left),(1,.str J.cH)]=some (.ag 1 [.str J.Left,.str J.cH],s)from λs=>by kernel_rfl))
 exact cK ak [R aa]
theorem arz (a0 J r) (h:QD a0 J=some r):aW ai 200 [bH a0,.ref (bH J)] (.bool r) []:=by
 refine bB [0,1] [.tmp 3] Tryz.func200 amQ λbu ak bt=>al ?_;refine oh (a0.Left==J.Result) [(3,.bool ((a0.Left==J.Result)||(a0.cH==J.Result)))] ?_;exact cK ak [.bool ((a0.Left==J.Result)||(a0.cH==J.Result))]
theorem arA (a0 J r) (h:QF a0 J=some r):aW ai 180 [ad bH a0,.fn 200 [.ref (bH J)]] (R r) []:=by
 refine bB [0,1] [.tmp 4] Tryz.func180 amR λbu ak bt=>al ?_;refine ax ak λ_ bJ bg ah=>al ?_;refine bj bg λeV _ bQ bZ _=>?_;show bn ai (.loop ?eT) _ _;have e9:∀n cI,GV a0 J n cI=some r->cJ ai ?eT eV (ar [(0,ad bH a0),(1,.fn 200 [.ref (bH J)]),(7,R (a0.length:Int)),(8,R cI)]):=by
  refine cX λ_ eS cI h=>cW bQ λ_ dU cG aX=>al ?_;refine ax cG λ_ n7 _ bw=>aF h (λcp h=>?_) λcp h=>?_
  .refine aL (n7 _ (inl (ax cG λ_ cE b6 _=>bj b6 λ_ n10 cQ _ _=>al ?_)));obtain⟨aa,el,ah,dT,h⟩:=dk h;refine eR el (arz aa J _ dT) _ ?_;refine aF h (λeZ h=>?_) λeZ h=>?_
   .exact aS cQ [R cI]
   .refine aL (n10 _ (cE _ (inl (dA ?_))));exact dU _ (inr ⟨_,bD rfl,eS (i64.wrap (cI+1)) h⟩)
  .exact cN (bw 0 _ (aX 0 _ (bZ _ (bJ _ (inl (aS ak [R (-1)]))))))
 exact dp h λn h=>e9 n 0 h
theorem aa2 (a0 J r) (h:GW a0 J=some r):aW ai 199 [ad bH a0,.fn 200 [.ref (bH J)]] (.bool r) []:=by
 refine bB [0,1] [.tmp 4] Tryz.func199 amS λbu ak bt=>al ?_;obtain⟨aa,aU,h⟩:=aM h;refine cP (arA a0 J _ aU) _ ?_;exact cK ak [.bool (decide (0<=aa))]
theorem arB (a0 r) (h:KL a0=some r):aW ai 158 [ad bH a0] (.bool r) []:=by
 refine bB [0] [.tmp 2] Tryz.func158 amT λbu ak bt=>al ?_;refine ax ak λ_ bJ bg _=>al ?_;refine bj bg λeV _ bQ bZ _=>?_;show bn ai (.loop ?eT) _ _;have e9:∀n fR,C2 a0 n fR=some r->cJ ai ?eT eV (ar [(0,ad bH a0),(5,ad bH a0),(6,R (a0.length:Int)),(7,R fR)]):=by
  refine cX λ_ eS fR h=>cW bQ λ_ dU cG aX=>al ?_;refine ax cG λ_ n7 _ bw=>aF h (λcp h=>?_) λcp h=>?_
  .refine aL (n7 _ (inl (ax cG λ_ cE b6 du=>bj b6 λ_ n10 cQ _ dH=>?_)));obtain⟨aa,dx,h⟩:=aM h;refine c6 dx _ ?_;refine ax cQ λ_ n13 fC _=>?_;obtain⟨aX,fz,h⟩:=aM h;rcases dL h with⟨gi,h⟩|⟨gi,h⟩
   .refine mn (hd gi) (mq aa.Left _ fz) _ ?_;refine i1 rfl ?_;exact aS fC [.bool false]
   .obtain⟨bz,hI,h⟩:=aM h;rcases dL h with⟨kq,h⟩|⟨kq,h⟩
    .refine jv rfl (iN [(0,ad bH a0),(4,.aP (bH aa)),(5,ad bH a0),(6,R (a0.length:Int)),(7,R fR),(48,.bool true)] (λP bd=>?_) ?_)
     ·(try simp only[dh.down,simprocAttr,(cf gi),(hd kq)]);refine hZ (mq aa.Left _ fz) (hK:= ?_);simp only[dh.down,simprocAttr,(cf gi),(hd kq)];refine lX (mq aa.cH _ hI) (hK:= ?_);simp only[dh.down,simprocAttr,(cf gi),(hd kq)];refine⟨hS (by kernel_rfl),?_⟩;exact bR (U (cf gi) (hd kq))
     refine i1 rfl ?_;exact aS fC [.bool false]
    .obtain⟨bw,yV,h⟩:=aM h;rcases dL h with⟨h7,h⟩|⟨h7,h⟩
     .refine jv rfl (iN [(0,ad bH a0),(4,.aP (bH aa)),(5,ad bH a0),(6,R (a0.length:Int)),(7,R fR),(48,.bool true)] (λP bd=>?_) ?_)
      ·(try simp only[dh.down,simprocAttr,(cf gi),(cf kq),(hd h7)]);refine hZ (mq aa.Left _ fz) (hK:= ?_);simp only[dh.down,simprocAttr,(cf gi),(cf kq),(hd h7)];refine lX (mq aa.cH _ hI) (hK:= ?_);simp only[dh.down,simprocAttr,(cf gi),(cf kq),(hd h7)];refine lX (mq aa.Result _ yV) (hK:= ?_);simp only[dh.down,simprocAttr,(cf gi),(cf kq),(hd h7)];refine⟨hS (by kernel_rfl),?_⟩;exact bR (U (cf gi) (U (cf kq) (hd h7)))
      refine i1 rfl ?_;exact aS fC [.bool false]
     .rcases dL h with⟨hp,h⟩|⟨hp,h⟩
      .refine jv rfl (iN [(0,ad bH a0),(4,.aP (bH aa)),(5,ad bH a0),(6,R (a0.length:Int)),(7,R fR),(48,.bool true)] (λP bd=>?_) ?_)
       ·(try simp only[dh.down,simprocAttr,(cf gi),(cf kq),(cf h7),hp]);refine hZ (mq aa.Left _ fz) (hK:= ?_);simp only[dh.down,simprocAttr,(cf gi),(cf kq),(cf h7),hp];refine lX (mq aa.cH _ hI) (hK:= ?_);simp only[dh.down,simprocAttr,(cf gi),(cf kq),(cf h7),hp];refine lX (mq aa.Result _ yV) (hK:= ?_);simp only[dh.down,simprocAttr,(cf gi),(cf kq),(cf h7),hp];refine⟨hS (by kernel_rfl),?_⟩;exact bR (U (cf gi) (U (cf kq) (U (cf h7) hp)))
       refine i1 rfl ?_;exact aS fC [.bool false]
      .rcases dL h with⟨jD,h⟩|⟨jD,h⟩
       .obtain⟨cD,jC,du,AX,h⟩:=dk h;refine jv rfl (iN [(0,ad bH a0),(4,.aP (bH aa)),(5,ad bH a0),(6,R (a0.length:Int)),(7,R fR),(48,.bool (decide (0<=du)))] (λP bd=>?_) ?_)
        ·(try simp only[dh.down,simprocAttr,(cf gi),(cf kq),(cf h7),hp,jD,jC]);refine hZ (mq aa.Left _ fz) (hK:= ?_);simp only[dh.down,simprocAttr,(cf gi),(cf kq),(cf h7),hp,jD,jC];refine lX (mq aa.cH _ hI) (hK:= ?_);simp only[dh.down,simprocAttr,(cf gi),(cf kq),(cf h7),hp,jD,jC];refine lX (mq aa.Result _ yV) (hK:= ?_);simp only[dh.down,simprocAttr,(cf gi),(cf kq),(cf h7),hp,jD,jC];refine lX (ary cD aa _ AX) (hK:= ?_);simp only[dh.down,simprocAttr,(cf gi),(cf kq),(cf h7),hp,jD,jC];refine⟨hS (by kernel_rfl),?_⟩;exact bR (U (cf gi) (U (cf kq) (U (cf h7) (U hp (U jD jC)))))
        refine aF h (λpj h=>?_) λpj h=>?_
        .exact aS fC [.bool false]
        .refine aL (n13 _ (inl ?_));obtain⟨dH,w1,h⟩:=aM h;refine dw (b5 [(0,ad bH a0),(5,ad bH a0),(6,R (a0.length:Int)),(7,R fR),(51,.bool dH)] (λP bd=>?_) ?_)
         ·(try simp only[aH.down,simprocAttr]);refine dz (aa2 a0 aa _ w1) rfl rfl (by simp only[aH.down,simprocAttr,yM.down]<;>rfl) rfl (inr (by rfl)) ?_;simp only[aH.down,simprocAttr];exact bR trivial
         refine aF h (λHU h=>?_) λHU h=>?_
         .exact aS cQ [.bool false]
         .refine aL (n10 _ (cE _ (inl (dA ?_))));exact dU _ (inr ⟨_,bD rfl,eS (i64.wrap (fR+1)) h⟩)
       .refine jv rfl (iN [(0,ad bH a0),(4,.aP (bH aa)),(5,ad bH a0),(6,R (a0.length:Int)),(7,R fR),(48,.bool false)] (λP bd=>?_) ?_)
        ·(try simp only[dh.down,simprocAttr,(cf gi),(cf kq),(cf h7),hp,jD]);refine hZ (mq aa.Left _ fz) (hK:= ?_);simp only[dh.down,simprocAttr,(cf gi),(cf kq),(cf h7),hp,jD];refine lX (mq aa.cH _ hI) (hK:= ?_);simp only[dh.down,simprocAttr,(cf gi),(cf kq),(cf h7),hp,jD];refine lX (mq aa.Result _ yV) (hK:= ?_);simp only[dh.down,simprocAttr,(cf gi),(cf kq),(cf h7),hp,jD];refine⟨hS (by kernel_rfl),?_⟩;exact bR (U (cf gi) (U (cf kq) (U (cf h7) (U hp jD))))
        refine n1 rfl ?_;refine aL (n13 _ (inl ?_));obtain⟨eY,arC,h⟩:=aM h;refine dw (b5 [(0,ad bH a0),(5,ad bH a0),(6,R (a0.length:Int)),(7,R fR),(51,.bool eY)] (λP bd=>?_) ?_)
        ·(try simp only[aH.down,simprocAttr]);refine dz (aa2 a0 aa _ arC) rfl rfl (by simp only[aH.down,simprocAttr,yM.down]<;>rfl) rfl (inr (by rfl)) ?_;simp only[aH.down,simprocAttr];exact bR trivial
        refine aF h (λAW h=>?_) λAW h=>?_
        .exact aS cQ [.bool false]
        .refine aL (n10 _ (cE _ (inl (dA ?_))));exact dU _ (inr ⟨_,bD rfl,eS (i64.wrap (fR+1)) h⟩)
  .exact cN (bw 0 _ (aX 0 _ (bZ _ (bJ _ (inl (aS ak [.bool (decide ((a0.length:Int)<=6))]))))))
 exact dp h λn h=>e9 n 0 h
theorem aa3 (a0 r) (h:GX a0=some r):aW ai 159 [ad aE a0] (.bool r) []:=by
 refine bB [0] [.tmp 2] Tryz.func159 c159 λbu ak bt=>al ?_;refine ax ak λ_ bJ bg ah=>al ?_;refine bj bg λeV _ bQ bZ _=>?_;show bn ai (.loop ?eT) _ _;have e9:∀n fR,C3 a0 n fR=some r->cJ ai ?eT eV (ar [(0,ad aE a0),(5,ad aE a0),(6,R (a0.length:Int)),(7,R fR)]):=by
  refine cX λ_ eS fR h=>cW bQ λ_ dU cG aX=>al ?_;refine ax cG λ_ n7 _ bw=>aF h (λcp h=>?_) λcp h=>?_
  .refine aL (n7 _ (inl (ax cG λ_ cE b6 _=>bj b6 λ_ n10 cQ _ _=>?_)));obtain⟨aa,dx,h⟩:=aM h;refine c6 dx _ ?_;obtain⟨ah,dT,h⟩:=aM h;rcases dL h with⟨eZ,h⟩|⟨eZ,h⟩
   .refine eR (hd eZ) (mq aa _ dT) _ ?_;refine i1 rfl ?_;exact aS cQ [.bool false]
   .rcases dL h with⟨kr,h⟩|⟨kr,h⟩
    .obtain⟨aI,ev,h⟩:=aM h;refine eR (U (cf eZ) (U kr ev)) (mq aa _ dT) _ ?_;refine aF h (λgh h=>?_) λgh h=>?_
     .exact aS cQ [.bool false]
     .refine aL (n10 _ (cE _ (inl (dA ?_))));exact dU _ (inr ⟨_,bD rfl,eS (i64.wrap (fR+1)) h⟩)
    .refine eR (U (cf eZ) kr) (mq aa _ dT) _ ?_;refine n1 rfl ?_;refine aL (n10 _ (cE _ (inl (dA ?_))));exact dU _ (inr ⟨_,bD rfl,eS (i64.wrap (fR+1)) h⟩)
  .exact cN (bw 0 _ (aX 0 _ (bZ _ (bJ _ (inl (aS ak [.bool (decide ((a0.length:Int)<=12))]))))))
 exact dp h λn h=>e9 n 0 h
theorem arD (a0 r) (h:KM a0=some r):aW ai 113 [ft a0] (R r) []:=by
 refine bB [0] [.tmp 2] Tryz.func113 amU λbu ak bt=>al ?_;refine ax ak λ_ bJ bg ah=>bj bg λ_ fg dt _ aI=>?_;obtain⟨aa,cY,h⟩:=aM h;refine cP (arn a0.cz _ cY) _ ?_;refine aF h (λdC h=>?_) λdC h=>?_
 .exact aS dt [R 1]
 .obtain⟨ah,jt,h⟩:=aM h;rcases dL h with⟨fl,h⟩|⟨fl,h⟩
  .refine eR (hd fl) (mo (a0.cj.length:Int) 1 3 _ jt) _ ?_;refine i1 rfl ?_;exact aS dt [R 2]
  .obtain⟨aI,dx,h⟩:=aM h;refine dw (b5 [(1,.aP (ft a0)),(8,.bool aI)] (λP bd=>?_) ?_)
   ·(try simp only[aH.down,simprocAttr,(cf fl)]);refine dz (mo (a0.cj.length:Int) 1 3 _ jt) (hK:= ?_);simp only[aH.down,simprocAttr,(cf fl)];refine iO (arv a0.cj a0 _ dx) rfl rfl (by simp only[aH.down,simprocAttr,(cf fl),Lz.down]<;>rfl) rfl (inr (by rfl)) ?_;simp only[aH.down,simprocAttr,(cf fl)];exact bR (cf fl)
   refine aF h (λfh h=>?_) λfh h=>?_
   .exact aS dt [R 2]
   .obtain⟨aZ,cx,h⟩:=aM h;refine cP (arB a0.b9 _ cx) _ ?_;refine aF h (λkr h=>?_) λkr h=>?_
    .exact aS dt [R 3]
    .obtain⟨aX,fK,h⟩:=aM h;refine cP (aa3 a0.cC _ fK) _ ?_;refine aF h (λsq h=>?_) λsq h=>?_
     .exact aS dt [R 4]
     .obtain⟨bz,lM,h⟩:=aM h;refine cP (aa3 a0.cA _ lM) _ ?_;refine aF h (λrl h=>?_) λrl h=>?_
      .exact aS dt [R 5]
      .exact aL (fg _ (bJ _ (inl (aS ak [R 0]))))
theorem Tf (a0 r) (h:KN a0=some r):aW ai 75 [ft a0] (.bool r) []:=by
 refine bB [0] [.tmp 2] Tryz.func75 c75 λbu ak bt=>al ?_;obtain⟨aa,aU,h⟩:=aM h;refine cP (arD a0 _ aU) _ ?_;exact cK ak [.bool (aa==0)]
theorem arE (a0 J r) (h:GY a0 J=some r):aW ai 78 [ad bk a0,bF J] (.bool r) []:=by
 refine bB [0,1] [.tmp 4] Tryz.func78 amV λbu ak bt=>al ?_;refine ax ak λ_ bJ bg ah=>?_;obtain⟨aa,b_,h⟩:=aM h;rcases dL h with⟨c7,h⟩|⟨c7,h⟩
 .refine mn (hd c7) (yU J.cy (a0.length:Int) _ b_) _ ?_;refine i1 rfl ?_;exact aS bg [.bool false]
 .obtain⟨ah,cd,aI,fH,h⟩:=dk h;refine jv rfl (iN [(0,ad bk a0),(3,.aP (bF J)),(24,.bool (!aI))] (λP bd=>?_) ?_)
  ·(try simp only[dh.down,simprocAttr,(cf c7),cd]);refine hZ (yU J.cy (a0.length:Int) _ b_) (hK:= ?_);simp only[dh.down,simprocAttr,(cf c7),cd];refine lX (yU J.Part (ah.Body.length:Int) _ fH) (hK:= ?_);simp only[dh.down,simprocAttr,(cf c7),cd];refine⟨hS (by kernel_rfl),?_⟩;exact bR (U (cf c7) cd)
  refine aF h (λe4 h=>?_) λe4 h=>?_
  .exact aS bg [.bool false]
  .refine aL (bJ _ (inl (c6 cd _ ?_)));obtain⟨aZ,el,h⟩:=aM h;rcases dL h with⟨hG,h⟩|⟨hG,h⟩
   .obtain⟨aX,dX,bz,cx,h⟩:=dk h;rcases dL h with⟨kr,h⟩|⟨kr,h⟩
    .obtain⟨bw,ev,h⟩:=aM h;refine jv rfl (iN [(4,.bool bw)] (λP bd=>?_) ?_)
     ·(try simp only[dh.down,simprocAttr,el,hG,cx,b2 cx,kr]);refine lX (Tc ah _ dX) (hK:= ?_);simp only[dh.down,simprocAttr,el,hG,cx,b2 cx,kr];refine lX (Te J.bP _ ev) (hK:= ?_);simp only[dh.down,simprocAttr,el,hG,cx,b2 cx,kr];refine⟨hS (by kernel_rfl),?_⟩;exact bR (U el (U hG (U cx (U (b2 cx) kr))))
     exact cK ak [.bool bw]
    .refine mn (U el (U hG (U cx (U (b2 cx) kr)))) (Tc ah _ dX) _ ?_;exact cK ak [.bool false]
   .refine og (U el hG) _ ?_;exact cK ak [.bool false]
theorem arF (a0 J r) (h:QI a0 J=some r):aW ai 77 [bF a0,.ref (ft J)] (.bool r) []:=by
 refine bB [0,1] [.tmp 3] Tryz.func77 amW λbu ak bt=>al ?_;obtain⟨aa,aU,h⟩:=aM h;refine cP (arE J.cz a0 _ aU) _ ?_;exact cK ak [.bool (!aa)]
theorem arG (a0 J r) (h:QK a0 J=some r):aW ai 114 [ad bF a0,.fn 77 [.ref (ft J)]] (R r) []:=by
 refine bB [0,1] [.tmp 4] Tryz.func114 amX λbu ak bt=>al ?_;refine ax ak λ_ bJ bg ah=>al ?_;refine bj bg λeV _ bQ bZ _=>?_;show bn ai (.loop ?eT) _ _;have e9:∀n cI,GZ a0 J n cI=some r->cJ ai ?eT eV (ar [(0,ad bF a0),(1,.fn 77 [.ref (ft J)]),(7,R (a0.length:Int)),(8,R cI)]):=by
  refine cX λ_ eS cI h=>cW bQ λ_ dU cG aX=>al ?_;refine ax cG λ_ n7 _ bw=>aF h (λcp h=>?_) λcp h=>?_
  .refine aL (n7 _ (inl (ax cG λ_ cE b6 _=>bj b6 λ_ n10 cQ _ _=>al ?_)));obtain⟨aa,el,ah,dT,h⟩:=dk h;refine eR el (arF aa J _ dT) _ ?_;refine aF h (λeZ h=>?_) λeZ h=>?_
   .exact aS cQ [R cI]
   .refine aL (n10 _ (cE _ (inl (dA ?_))));exact dU _ (inr ⟨_,bD rfl,eS (i64.wrap (cI+1)) h⟩)
  .exact cN (bw 0 _ (aX 0 _ (bZ _ (bJ _ (inl (aS ak [R (-1)]))))))
 exact dp h λn h=>e9 n 0 h
theorem arH (a0 J r) (h:KO a0 J=some r):aW ai 76 [ad bF a0,.fn 77 [.ref (ft J)]] (.bool r) []:=by
 refine bB [0,1] [.tmp 4] Tryz.func76 c76 λbu ak bt=>al ?_;obtain⟨aa,aU,h⟩:=aM h;refine cP (arG a0 J _ aU) _ ?_;exact cK ak [.bool (decide (0<=aa))]
theorem arI (a0 J r) (h:KP a0 J=some r):aW ai 55 [ft a0,ad bF J] (.bool r) []:=by
 refine bB [0,1] [.tmp 4] Tryz.func55 RV λbu ak bt=>al ?_;obtain⟨ah,b_,h⟩:=aM h;rcases dL h with⟨c7,h⟩|⟨c7,h⟩
 .rcases dL h with⟨dC,h⟩|⟨dC,h⟩
  .obtain⟨aI,cd,h⟩:=aM h;refine dw (b5 [(4,.bool (!aI))] (λP bd=>?_) ?_)
   ·(try simp only[aH.down,simprocAttr,c7,dC]);refine dz (Tf a0 _ b_) (hK:= ?_);simp only[aH.down,simprocAttr,c7,dC];refine iO (arH J a0 _ cd) rfl rfl (by simp only[aH.down,simprocAttr,c7,dC,Lz.down]<;>rfl) rfl (inr (by rfl)) ?_;simp only[aH.down,simprocAttr,c7,dC];exact bR (U c7 dC)
   exact cK ak [.bool (!aI)]
  .refine eR (U c7 dC) (Tf a0 _ b_) _ ?_;exact cK ak [.bool false]
 .refine eR c7 (Tf a0 _ b_) _ ?_;exact cK ak [.bool false]
theorem arJ (u9:aAv->Option (bX×(List dE)×aAv)) (arK:∀a0 r,u9 a0=some r->aW ai 230 [ad dY a0] (.tuple [.aP (.agg [dY r.1,.ag 1 (r.2.1.map l7)]),ad dY r.2.2]) []) (a0 r) (h:QM u9 a0=some r):aW ai 230 [ad dY a0] (.tuple [.aP (.agg [dY r.1,.ag 1 (r.2.1.map l7)]),ad dY r.2.2]) []:=by
 refine bB [0] [.tmp 2,.tmp 3] Tryz.func230 amY λbu ak bt=>al ?_;obtain⟨aa,aU,h⟩:=aM h;refine c6 (U aU (show∀s,gB ai s 298 [(0,.agg [R aa.Kind,R aa.Value])]=some (.agg [.agg [R aa.Kind,R aa.Value],.bf],s)from λs=>by kernel_rfl)) _ ?_;obtain⟨ah,cY,h⟩:=aM h;refine c6 (U cY (@ic _ dY 2 λ_=>rfl)) _ ?_;refine ax ak λ_ n6 c_ _=>?_;obtain⟨aI,fH,h⟩:=aM h;refine eR aU (aaZ aa _ fH) _ ?_;refine bj c_ λj9 _ b6 e4 _=>?_;show bn ai (.loop ?AH) _ _;have AY:∀n ig kn tm,Ap u9 aa aI n ig kn tm=some r->cJ ai ?AH j9 (ar [(4,.aP (.agg [dY aa,.ag 1 (ig.map l7)])),(5,ad dY kn),(17,R aI),(18,R tm)]):=by
  refine cX λ_ AZ ig kn tm h=>cW b6 λ_ n10 cQ dH=>al ?_;refine ax cQ λ_ n12 _ jj=>aF h (λfh h=>?_) λfh h=>?_
  .refine aL (n12 _ (inl (ax cQ λ_ n14 ez _=>bj ez λ_ n15 _ _ _=>al ?_)));obtain⟨aZ,ev,h⟩:=aM h;refine cP (arK kn _ ev) _ ?_;obtain⟨apu,fK,h⟩:=aM h;(try simp only[DP.down,Nat.zero_add,Nat.add_zero,reduceAdd]at fK);refine hx (b5 [(4,.aP (.agg [dY aa,.ag 1 ((ig++[(dE.mk aZ.1 aZ.2.1)]).map l7)])),(5,ad dY aZ.2.2),(17,R aI),(18,R tm)] (λP bd=>?_) ?_)
   .simp only[aH.down,simprocAttr,aag.down,oF,dQ,fK];(try simp only[jA.down,simprocAttr,aag.down,oF,dQ,fK]at bd⊢);exact bd
   refine n15 _ (n14 _ (inl (wr [(4,.aP (.agg [dY aa,.ag 1 ((ig++[(dE.mk aZ.1 aZ.2.1)]).map l7)])),(5,ad dY aZ.2.2),(17,R aI),(18,R (i64.wrap (tm+1)))] ?_)));exact n10 _ (inr ⟨_,bD rfl,AZ (ig++[(dE.mk aZ.1 aZ.2.1)]) aZ.2.2 (i64.wrap (tm+1)) h⟩)
  .exact cN (jj 0 _ (dH 0 _ (e4 _ (n6 _ (inl (aS ak [.aP (.agg [dY aa,.ag 1 (ig.map l7)]),ad dY kn]))))))
 obtain⟨n,h⟩:=ma h;exact qe (inr ⟨_,hP [] rfl (hD (t:=4) (d:=.aP (.agg [dY aa,.bf])) (bN:=.aP (.agg [dY aa,.ag 1 []])) rfl rfl (.aP (.agg (.cons (.refl _) (.cons (.hY _) (.nil))))) (by decide) (cO (t:=5) (d:=ad dY ah) rfl (cO (t:=17) (d:=R aI) rfl (cO (t:=18) (d:=R 0) rfl (hQ))))),AY n [] ah 0 h⟩)
theorem arL:∀n a0 r,C4 n a0=some r->aW ai 230 [ad dY a0] (.tuple [.aP (.agg [dY r.1,.ag 1 (r.2.1.map l7)]),ad dY r.2.2]) []:=by
 intro n;induction n with
 |zero=>intro a0 r h;cases(show none=some r from h)
 |succ n ih=>intro a0 r h;exact arJ (C4 n) ih a0 r h
theorem arM (a0 r) (h:QN a0=some r):aW ai 230 [ad dY a0] (.tuple [.aP (.agg [dY r.1,.ag 1 (r.2.1.map l7)]),ad dY r.2.2]) []:=by
 obtain⟨n,h⟩:=ma h;exact arL n a0 r h
theorem arN (a0 r) (h:KQ a0=some r):aW ai 202 [ad dY a0] (.aP (.agg [dY r.1,.ag 1 (r.2.map l7)])) []:=by
 refine bB [0] [.tmp 2] Tryz.func202 amZ λbu ak bt=>al ?_;obtain⟨aa,aU,h⟩:=aM h;refine cP (arM a0 _ aU) _ ?_;exact aS ak [.aP (.agg [dY aa.1,.ag 1 (aa.2.1.map l7)])]
theorem w8 (a0 r) (h:r3 a0=some r):aW ai 231 [.bool a0] (R r) []:=by
 refine bB [0] [.tmp 2] Tryz.func231 am0 λbu ak bt=>al ?_;refine ax ak λ_ bJ bg _=>al ?_;refine aF h (λbZ h=>?_) λbZ h=>?_
 .exact aS bg [R 1]
 .exact aL (bJ _ (inl (aS ak [R 0])))
theorem arO (a0 J a2 r) (h:KR a0 J a2=some r):aW ai 232 [R a0,R J,R a2] (R r) []:=by
 refine bB [0,1,2] [.tmp 6] Tryz.func232 c232 λbu ak bt=>al ?_;refine ax ak λ_ bJ bg ah=>al ?_;refine bj bg λ_ fa bQ _ aZ=>al ?_;refine aF h (λdC h=>?_) λdC h=>?_
 .refine c6 (@yd .i64 64 (by decide)) _ ?_;exact cK bQ [R (Int.tmod (i64.wrap (J+a2)) 64)]
 .refine al ?_;refine aF h (λe4 h=>?_) λe4 h=>?_
  .refine c6 (@yd .i64 64 (by decide)) _ ?_;exact cK bQ [R (Int.tmod (i64.wrap ((i64.wrap (J-a2))+64)) 64)]
  .refine al ?_;refine aF h (λe3 h=>?_) λe3 h=>?_
   .refine c6 (@yd .i64 64 (by decide)) _ ?_;exact cK bQ [R (Int.tmod (i64.wrap (J*a2)) 64)]
   .refine al ?_;refine aF h (λeZ h=>?_) λeZ h=>?_
    .obtain⟨aa,dN,h⟩:=aM h;refine cP (w8 (J==a2) _ dN) _ ?_;exact cK bQ [R aa]
    .refine al ?_;refine aF h (λgh h=>?_) λgh h=>?_
     .obtain⟨ah,gV,h⟩:=aM h;refine cP (w8 (J !=a2) _ gV) _ ?_;exact cK bQ [R ah]
     .refine al ?_;refine aF h (λgi h=>?_) λgi h=>?_
      .obtain⟨aI,hI,h⟩:=aM h;refine cP (w8 (decide (J<a2)) _ hI) _ ?_;exact cK bQ [R aI]
      .refine al ?_;refine aF h (λnL h=>?_) λnL h=>?_
       .obtain⟨aZ,tF,h⟩:=aM h;refine cP (w8 (decide (J<=a2)) _ tF) _ ?_;exact cK bQ [R aZ]
       .refine al ?_;refine aF h (λhp h=>?_) λhp h=>?_
        .rcases dL h with⟨jD,h⟩|⟨jD,h⟩
         .obtain⟨aX,jC,h⟩:=aM h;refine eR jD (w8 (a2 !=0) _ jC) _ ?_;exact cK bQ [R aX]
         .obtain⟨bz,AX,h⟩:=aM h;refine eR jD (w8 false _ AX) _ ?_;exact cK bQ [R bz]
        .refine aL (fa _ (bJ _ (inl ?_)));rcases dL h with⟨qx,h⟩|⟨qx,h⟩
         .obtain⟨bw,tG,h⟩:=aM h;refine eR qx (w8 true _ tG) _ ?_;exact cK ak [R bw]
         .obtain⟨cD,w1,h⟩:=aM h;refine eR qx (w8 (a2 !=0) _ w1) _ ?_;exact cK ak [R cD]
theorem arP (C5:dE->aAe->aAh) (Tg:∀a0 J r,C5 a0 J=some r->aW ai 203 [.ref (oe a0),ad a8 J] (R r) []) (a0 J r) (h:QO C5 a0 J=some r):aW ai 203 [.ref (oe a0),ad a8 J] (R r) []:=by
 refine bB [0,1] [.tmp 4] Tryz.func203 c203 λbu ak bt=>ws [(0,.ref (oe a0)),(1,ad a8 J)] ?_;refine ax ak λ_ bJ bg ah=>ws [(0,.ref (oe a0)),(1,ad a8 J),(9,R a0.term.Kind)] ?_;refine bj bg λ_ fa bQ _ aZ=>ws [(0,.ref (oe a0)),(1,ad a8 J),(9,R a0.term.Kind),(10,.bool (a0.term.Kind==0))] ?_;refine aF h (λdC h=>?_) λdC h=>?_
 .exact aS bQ [R a0.term.Value]
 .refine ws [(0,.ref (oe a0)),(1,ad a8 J),(9,R a0.term.Kind),(17,.bool (a0.term.Kind==1))] ?_;refine aF h (λe4 h=>?_) λe4 h=>?_
  .obtain⟨aa,kD,h⟩:=aM h;refine c6 kD _ ?_;exact cK bQ [R aa]
  .refine ws [(0,.ref (oe a0)),(1,ad a8 J),(27,.bool (a0.term.Kind==3))] ?_;refine aF h (λfh h=>?_) λfh h=>?_
   .obtain⟨ah,dX,aI,cx,aZ,dN,h⟩:=iQ h;refine dw (b5 [(4,R aZ)] (λP bd=>?_) ?_)
    ·(try simp only[aH.down,simprocAttr,dX]);refine dz (Tg ah J _ cx) rfl rfl (by simp only[aH.down,simprocAttr,dX,yM.down]<;>rfl) rfl (inl (by rfl)) ?_;simp only[aH.down,simprocAttr,dX];refine dz (w8 (aI==0) _ dN) (hK:= ?_);simp only[aH.down,simprocAttr,dX];exact bR dX
    exact cK bQ [R aZ]
   .refine aL (fa _ (bJ _ (inl ?_)));obtain⟨aX,eN,bz,fK,bw,gV,h⟩:=iQ h;obtain⟨cD,fz,du,iT,h⟩:=dk h;refine jv rfl (iN [(4,R du)] (λP bd=>?_) ?_)
    ·(try simp only[dh.down,simprocAttr,eN,gV]);refine hZ (Tg aX J _ fK) rfl rfl (by simp only[dh.down,simprocAttr,eN,gV,yM.down]<;>rfl) rfl (inl (by rfl)) ?_;simp only[dh.down,simprocAttr,eN,gV];refine hZ (Tg bw J _ fz) rfl rfl (by simp only[dh.down,simprocAttr,eN,gV,yM.down]<;>rfl) rfl (inl (by rfl)) ?_;simp only[dh.down,simprocAttr,eN,gV];refine hZ (arO a0.term.Value bz cD _ iT) (hK:= ?_);simp only[dh.down,simprocAttr,eN,gV];refine⟨hS (by kernel_rfl),?_⟩;exact bR (U eN gV)
    exact cK ak [R du]
theorem arQ:∀n a0 J r,Aq n a0 J=some r->aW ai 203 [.ref (oe a0),ad a8 J] (R r) []:=by
 intro n;induction n with
 |zero=>intro a0 J r h;cases(show none=some r from h)
 |succ n ih=>intro a0 J r h;exact arP (Aq n) ih a0 J r h
theorem arR (a0 J r) (h:QP a0 J=some r):aW ai 203 [.ref (oe a0),ad a8 J] (R r) []:=by
 obtain⟨n,h⟩:=ma h;exact arQ n a0 J r h
theorem aa4 (a0 J r) (h:C6 a0 J=some r):aW ai 169 [ad dY a0,ad a8 J] (R r) []:=by
 refine bB [0,1] [.tmp 4] Tryz.func169 am1 λbu ak bt=>al ?_;obtain⟨aa,aU,ah,b_,h⟩:=dk h;refine dw (b5 [(4,R ah)] (λP bd=>?_) ?_)
 ·(try simp only[aH.down,simprocAttr]);refine dz (arN a0 _ aU) (hK:= ?_);simp only[aH.down,simprocAttr];refine dz (arR (dE.mk aa.1 aa.2) J _ b_) rfl rfl (by simp only[aH.down,simprocAttr,gQ,gR,gS,cR, @b0 _ l7 qu (λ_=>Zh _)]<;>rfl) rfl (inr (by rfl)) ?_;simp only[aH.down,simprocAttr];exact bR trivial
 exact cK ak [R ah]
theorem aa5 (a0 J r) (h:G0 a0 J=some r):aW ai 165 [ad jb a0,ad a8 J] (.ag 1 (r.map a8)) []:=by
 refine bB [0,1] [.tmp 4] Tryz.func165 am2 λbu ak bt=>al ?_;refine al ?_;refine ax ak λ_ fg dt _=>al ?_;refine bj dt λpY _ cG c7 _=>?_;show bn ai (.loop ?iu) _ _;have iC:∀n fD r4,C7 a0 J n fD r4=some r->cJ ai ?iu pY (ar [(1,ad a8 J),(5,.ag 1 (fD.map a8)),(8,ad jb a0),(9,R (a0.length:Int)),(10,R r4)]):=by
  refine cX λ_ iD fD r4 h=>cW cG λ_ n6 c_ bz=>al ?_;refine ax c_ λ_ n8 _ cD=>aF h (λe4 h=>?_) λe4 h=>?_
  .refine aL (n8 _ (inl (ax c_ λ_ n10 cQ _=>bj cQ λ_ n11 _ _ _=>?_)));obtain⟨aa,el,h⟩:=aM h;refine c6 el _ ?_;obtain⟨ah,dX,LG,cx,h⟩:=dk h;(try simp only[fN.down,Nat.zero_add,Nat.add_zero,reduceAdd]at cx);refine AK (U (show∀s,dM ai s 52 1 [(0,R ah)]=some (.ag 1 [R ah],s)from λs=>by kernel_rfl) (U (@i7 ai 52 52 2 rfl rfl) (U @i_ (U @ja (U @fW (U @i6 (U @all_nil (U cx (@ic _ a8 1 λ_=>rfl))))))))) (aa4 aa J _ dX) [(1,ad a8 J),(5,.ag 1 ((fD++[ah]).map a8)),(8,ad jb a0),(9,R (a0.length:Int)),(10,R r4)] ?_;refine n11 _ (n10 _ (inl (wr [(1,ad a8 J),(5,.ag 1 ((fD++[ah]).map a8)),(8,ad jb a0),(9,R (a0.length:Int)),(10,R (i64.wrap (r4+1)))] ?_)));exact n6 _ (inr ⟨_,bD rfl,iD (fD++[ah]) (i64.wrap (r4+1)) h⟩)
  .exact cN (cD 0 _ (bz 0 _ (c7 _ (fg _ (inl (aS ak [.ag 1 (fD.map a8)]))))))
 obtain⟨n,h⟩:=ma h;exact qe (inr ⟨_,hP [] rfl (cO (t:=1) (d:=ad a8 J) rfl (hD (t:=5) (d:=.bf) (bN:=.ag 1 []) rfl rfl (.hY _) (by decide) (cO (t:=8) (d:=ad jb a0) rfl (cO (t:=9) (d:=R (a0.length:Int)) rfl (cO (t:=10) (d:=R 0) rfl (hQ)))))),iC n [] 0 h⟩)
theorem arS (a0 J:Int) (r:aAc) (h:C8 a0 J=some r):aW ai 177 [R a0,R J] (.str r) []:=aoe a0 J r h
theorem A3 (a0 r) (h:r5 a0=some r):aW ai 127 [R a0] (.str r) []:=by
 refine bB [0] [.tmp 2] Tryz.func127 c127 λbu ak bt=>al ?_;obtain⟨aa,aU,h⟩:=aM h;refine cP (arS a0 10 _ aU) _ ?_;exact cK ak [.str aa]
theorem aa6 (a0:aAb) (J:aAc) (r:aAc) (h:strings_Join a0 J=some r):aW ai 179 [ad aE a0,.str J] (.str r) []:=aof a0 J r h
theorem aa7 (a0 J r) (h:Ar a0 J=some r):aW ai 175 [ad a8 a0,.str J] (.str r) []:=by
 refine bB [0,1] [.tmp 4] Tryz.func175 c175 λbu ak bt=>al ?_;obtain⟨HT,aU,h⟩:=aM h;refine sf (U (ru aU) @List.map_replicate.{0,0}) [(0,ad a8 a0),(1,.str J),(5,.ag 1 ((List.replicate (Int.toNat (a0.length:Int)) ([]:aAc)).map aE))] ?_;refine ax ak λ_ fa bQ aZ=>ws [(1,.str J),(5,.ag 1 ((List.replicate (Int.toNat (a0.length:Int)) ([]:aAc)).map aE)),(11,ad a8 a0),(12,R (a0.length:Int)),(13,R 0)] ?_;refine bj bQ λjB _ c_ dC _=>?_;show bn ai (.loop ?iu) _ _;have iC:∀n fD oN,C9 a0 J n fD oN=some r->cJ ai ?iu jB (ar [(1,.str J),(5,.ag 1 (fD.map aE)),(11,ad a8 a0),(12,R (a0.length:Int)),(13,R oN)]):=by
  refine cX λ_ iD fD oN h=>cW c_ λ_ n7 eJ bw=>al ?_;refine ax eJ λ_ cE _ du=>aF h (λfl h=>?_) λfl h=>?_
  .refine aL (cE _ (inl (ax eJ λ_ n11 h6 _=>bj h6 λ_ n12 _ _ _=>?_)));obtain⟨aa,dT,h⟩:=aM h;refine c6 dT _ ?_;obtain⟨ah,cx,aI,dN,h⟩:=dk h;refine hx (b5 [(1,.str J),(5,.ag 1 ((List.set fD (Int.toNat oN) ah).map aE)),(11,ad a8 a0),(12,R (a0.length:Int)),(13,R oN)] (λP bd=>?_) ?_)
   ·(try simp only[aH.down,simprocAttr,dN,b2 dN,cS,da]);refine dz (A3 aa _ cx) (hK:= ?_);simp only[aH.down,simprocAttr,dN,b2 dN,cS,da];exact bR (U dN (U (b2 dN) @cS))
   refine n12 _ (n11 _ (inl (wr [(1,.str J),(5,.ag 1 ((List.set fD (Int.toNat oN) ah).map aE)),(11,ad a8 a0),(12,R (a0.length:Int)),(13,R (i64.wrap (oN+1)))] ?_)));exact n7 _ (inr ⟨_,bD rfl,iD (List.set fD (Int.toNat oN) ah) (i64.wrap (oN+1)) h⟩)
  .refine cN (du 0 _ (bw 0 _ (dC _ (fa _ (inl ?_)))));obtain⟨aZ,fK,h⟩:=aM h;refine dw (b5 [(4,.str aZ)] (λP bd=>?_) ?_)
   ·(try simp only[aH.down,simprocAttr]);refine dz (aa6 fD J _ fK) rfl rfl (by simp only[aH.down,simprocAttr,yL.down]<;>rfl) rfl (inr (by rfl)) ?_;simp only[aH.down,simprocAttr];exact bR trivial
   exact cK ak [.str aZ]
 exact dp h λn h=>iC n (List.replicate (Int.toNat (a0.length:Int)) ([]:aAc)) 0 h
theorem L0 (a0 J r) (h:As a0 J=some r):aW ai 123 [.str a0,ad a8 J] (.tuple [.str r.1,.bool r.2]) []:=by
 refine bB [0,1] [.tmp 4,.tmp 5] Tryz.func123 am4 λbu ak bt=>al ?_;refine ax ak λ_ bJ bg ah=>bj bg λ_ fg dt _ aI=>al ?_;refine aF h (λc7 h=>?_) λc7 h=>?_
 .exact aS dt [.str ([116,97,117]:aAc),.bool ((J.length:Int)==0)]
 .obtain⟨ah,jt,h⟩:=aM h;rcases dL h with⟨fl,h⟩|⟨fl,h⟩
  .refine eR (hd fl) (mq a0 _ jt) _ ?_;refine i1 rfl ?_;exact aS dt [.str ([]:aAc),.bool false]
  .rcases dL h with⟨e3,h⟩|⟨e3,h⟩
   .refine eR (U (cf fl) e3) (mq a0 _ jt) _ ?_;refine i1 rfl ?_;exact aS dt [.str ([]:aAc),.bool false]
   .obtain⟨aI,dT,h⟩:=aM h;refine dw (b5 [(0,.str a0),(1,ad a8 J),(12,.bool (!aI))] (λP bd=>?_) ?_)
    ·(try simp only[aH.down,simprocAttr,(cf fl),e3]);refine dz (mq a0 _ jt) (hK:= ?_);simp only[aH.down,simprocAttr,(cf fl),e3];refine iO (Te J _ dT) (hK:= ?_);simp only[aH.down,simprocAttr,(cf fl),e3];exact bR (U (cf fl) e3)
    refine aF h (λeZ h=>?_) λeZ h=>?_
    .exact aS dt [.str ([]:aAc),.bool false]
    .refine al ?_;refine aF h (λh5 h=>?_) λh5 h=>?_
     .exact aS dt [.str a0,.bool true]
     .refine aL (fg _ (bJ _ (inl ?_)));obtain⟨aa8,gV,h⟩:=aM h;(try simp only[fN.down,Nat.zero_add,Nat.add_zero,reduceAdd]at gV);obtain⟨aZ,fz,aa8,iT,h⟩:=dk h;(try simp only[fN.down,Nat.zero_add,Nat.add_zero,reduceAdd]at iT);obtain⟨aa8,lM,h⟩:=aM h;(try simp only[fN.down,Nat.zero_add,Nat.add_zero,reduceAdd]at lM);refine eR (U gV (U @wc (U @we (U iT lM)))) (aa7 J ([44]:aAc) _ fz) [(4,.str (((a0++([40]:aAc))++aZ)++([41]:aAc))),(5,.bool true)] ?_;exact cK ak [.str (((a0++([40]:aAc))++aZ)++([41]:aAc)),.bool true]
theorem Th (a0 r) (h:C_ a0=some r):aW ai 166 [ad a8 a0] (.ag 1 (r.map a8)) []:=by
 refine bB [0] [.tmp 2] Tryz.func166 am5 λbu ak bt=>al ?_;refine ax ak λ_ bJ bg _=>?_;rcases dL h with⟨bZ,h⟩|⟨bZ,h⟩
 .refine dw (b5 [(0,ad a8 a0),(4,.gq)] (λP bd=>?_) ?_)
  .simp only[aH.down,simprocAttr,Ju,(XV bZ),Jv];exact bR (U @Ju (U (XV bZ) @Jv))
  obtain⟨b1,h⟩:=adX h;refine aho rfl ?_ ?_
  .replace h:=b1;refine al ?_;exact hc (bg _ (inr ⟨[(2,.ag 1 [])],hP [] rfl (hD (t:=2) (d:=.bf) rfl rfl (.hY _) (by decide) (hQ)),o8 [.ag 1 []]⟩))
  .refine aL (bJ _ (inl ?_));obtain⟨u8,fH,h⟩:=aM h;(try simp only[fN.down,Nat.zero_add,Nat.add_zero,reduceAdd]at fH);refine c6 (U (show∀s,dM ai s 52 0 []=some (.ag 1 [],s)from λs=>by kernel_rfl) (U (@i7 ai 52 52 2 rfl rfl) (U @i_ (U @ja (U @fW (U @i6 (U @all_nil (U fH (@ic _ a8 1 λ_=>rfl))))))))) _ ?_;exact cK ak [.ag 1 (a0.map a8)]
 .refine dw (b5 [(0,ad a8 a0),(4,.bool false)] (λP bd=>?_) ?_)
  .simp only[aH.down,simprocAttr,Ju,(XW bZ),Jv];exact bR (U @Ju (U (XW bZ) @Jv))
  refine n1 rfl ?_;refine aL (bJ _ (inl ?_));obtain⟨DT,iI,h⟩:=aM h;(try simp only[fN.down,Nat.zero_add,Nat.add_zero,reduceAdd]at iI);refine c6 (U (show∀s,dM ai s 52 0 []=some (.ag 1 [],s)from λs=>by kernel_rfl) (U (@i7 ai 52 52 2 rfl rfl) (U @i_ (U @ja (U @fW (U @i6 (U @all_nil (U iI (@ic _ a8 1 λ_=>rfl))))))))) _ ?_;exact cK ak [.ag 1 (a0.map a8)]
theorem arT (a0 r) (h:QS a0=some r):aW ai 286 [R a0] (.bool r) []:=by
 refine bB [0] [.tmp 2] Tryz.func286 am6 λbu ak bt=>al ?_;obtain⟨aa,aU,h⟩:=aM h;refine cP (mo a0 (-1000000000000) 1000000000000 _ aU) _ ?_;exact cK ak [.bool (!aa)]
theorem arU (a0 r) (h:QU a0=some r):aW ai 201 [ad a8 a0,.fn 286 []] (R r) []:=by
 refine bB [0,1] [.tmp 4] Tryz.func201 am7 λbu ak bt=>al ?_;refine ax ak λ_ bJ bg ah=>al ?_;refine bj bg λeV _ bQ bZ _=>?_;show bn ai (.loop ?eT) _ _;have e9:∀n cI,Da a0 n cI=some r->cJ ai ?eT eV (ar [(0,ad a8 a0),(1,.fn 286 []),(7,R (a0.length:Int)),(8,R cI)]):=by
  refine cX λ_ eS cI h=>cW bQ λ_ dU cG aX=>al ?_;refine ax cG λ_ n7 _ bw=>aF h (λcp h=>?_) λcp h=>?_
  .refine aL (n7 _ (inl (ax cG λ_ cE b6 _=>bj b6 λ_ n10 cQ _ _=>al ?_)));obtain⟨aa,el,ah,dT,h⟩:=dk h;refine eR el (arT aa _ dT) _ ?_;refine aF h (λeZ h=>?_) λeZ h=>?_
   .exact aS cQ [R cI]
   .refine aL (n10 _ (cE _ (inl (dA ?_))));exact dU _ (inr ⟨_,bD rfl,eS (i64.wrap (cI+1)) h⟩)
  .exact cN (bw 0 _ (aX 0 _ (bZ _ (bJ _ (inl (aS ak [R (-1)]))))))
 exact dp h λn h=>e9 n 0 h
theorem arV (a0 r) (h:QV a0=some r):aW ai 162 [ad a8 a0,.fn 286 []] (.bool r) []:=by
 refine bB [0,1] [.tmp 4] Tryz.func162 am8 λbu ak bt=>al ?_;obtain⟨aa,aU,h⟩:=aM h;refine cP (arU a0 _ aU) _ ?_;exact cK ak [.bool (decide (0<=aa))]
theorem arW (a0 r) (h:KS a0=some r):aW ai 273 [ad a8 a0] (.bool r) []:=by
 refine bB [0] [.tmp 2] Tryz.func273 am9 λbu ak bt=>al ?_;rcases dL h with⟨fV,h⟩|⟨fV,h⟩
 .obtain⟨aa,b_,h⟩:=aM h;refine eR fV (arV a0 _ b_) _ ?_;exact cK ak [.bool (!aa)]
 .refine c6 fV _ ?_;exact cK ak [.bool false]
theorem arX (a0 r) (h:G2 a0=some r):aW ai 247 [ad a8 a0] (.str r) []:=by
 refine bB [0] [.tmp 2] Tryz.func247 am_ λbu ak bt=>al ?_;refine ax ak λ_ bJ bg ah=>bj bg λ_ fg dt _ _=>?_;obtain⟨aa,cY,h⟩:=aM h;refine cP (arW a0 _ cY) _ ?_;refine aF h (λdC h=>?_) λdC h=>?_
 .exact aS dt [.str ([]:aAc)]
 .refine al ?_;refine aF h (λe4 h=>?_) λe4 h=>?_
  .exact aS dt [.str ([45]:aAc)]
  .refine aL (fg _ (bJ _ (inl ?_)));obtain⟨ah,dx,h⟩:=aM h;refine cP (aa7 a0 ([44]:aAc) _ dx) _ ?_;exact cK ak [.str ah]
theorem arY (a0 r) (h:KT a0=some r):aW ai 212 [bF a0] (.str r) []:=by
 refine bB [0] [.tmp 2] Tryz.func212 c212 λbu ak bt=>al ?_;obtain⟨aa,aU,LV,b_,h⟩:=dk h;(try simp only[fN.down,Nat.zero_add,Nat.add_zero,reduceAdd]at b_);obtain⟨ah,cY,LV,cv,h⟩:=dk h;(try simp only[fN.down,Nat.zero_add,Nat.add_zero,reduceAdd]at cv);refine jv rfl (iN [(2,.str ((aa++([58]:aAc))++ah))] (λP bd=>?_) ?_)
 ·(try simp only[dh.down,simprocAttr,b_,mJ.down,cv]);refine hZ (A3 a0.Part _ aU) (hK:= ?_);simp only[dh.down,simprocAttr,b_,mJ.down,cv];refine hZ (arX a0.bP _ cY) (hK:= ?_);simp only[dh.down,simprocAttr,b_,mJ.down,cv];refine⟨hS (by kernel_rfl),?_⟩;exact bR (U b_ (U mJ.down cv))
 exact cK ak [.str ((aa++([58]:aAc))++ah)]
theorem aa9 (a0 r) (h:Au a0=some r):aW ai 178 [bF a0] (.str r) []:=by
 refine bB [0] [.tmp 2] Tryz.func178 ana λbu ak bt=>al ?_;obtain⟨aa,aU,LV,b_,h⟩:=dk h;(try simp only[fN.down,Nat.zero_add,Nat.add_zero,reduceAdd]at b_);obtain⟨ah,cY,LV,cv,h⟩:=dk h;(try simp only[fN.down,Nat.zero_add,Nat.add_zero,reduceAdd]at cv);refine jv rfl (iN [(2,.str ((aa++([58]:aAc))++ah))] (λP bd=>?_) ?_)
 ·(try simp only[dh.down,simprocAttr,b_,mJ.down,cv]);refine hZ (A3 a0.cy _ aU) (hK:= ?_);simp only[dh.down,simprocAttr,b_,mJ.down,cv];refine hZ (arY a0 _ cY) (hK:= ?_);simp only[dh.down,simprocAttr,b_,mJ.down,cv];refine⟨hS (by kernel_rfl),?_⟩;exact bR (U b_ (U mJ.down cv))
 exact cK ak [.str ((aa++([58]:aAc))++ah)]
theorem arZ (bo bq bp iS kJ qn u_ r) (h:KU bo bq bp iS kJ qn u_=some r):aW ai 167 [.aP (.agg [ad bk bo,.ag 4 (bq.map hE),.ck (.mp bp)]),.agg [.str iS,.agg [R kJ,R qn,.ag 1 (u_.map a8)]]] (.tuple []) [.aP (.agg [ad bk r.1,.ag 4 (r.2.1.map hE),.ck (.mp r.2.2)]),.hole]:=by
 refine bB [0,1] [] Tryz.func167 anc λbu ak bt=>al ?_;obtain⟨DT,aU,h⟩:=aM h;(try simp only[fN.down,Nat.zero_add,Nat.add_zero,reduceAdd]at aU);obtain⟨aa,b_,DT,cY,h⟩:=dk h;(try simp only[fN.down,Nat.zero_add,Nat.add_zero,reduceAdd]at cY);refine jv rfl (iN [(0,.aP (.agg [ad bk bo,.ag 4 (bq.map hE),.ck (.mp bp)])),(1,.agg [.str iS,.agg [R kJ,R qn,.hole]]),(3,.aP (.agg [.str iS,.agg [R kJ,R qn,.ag 1 (u_.map a8)]])),(4,.str ((iS++([32]:aAc))++aa))] (λP bd=>?_) ?_)
 ·(try simp only[dh.down,simprocAttr,aU,mJ.down,cY]);refine hZ (aa9 (ba.mk kJ qn u_) _ b_) rfl rfl (by simp only[dh.down,simprocAttr,aU,wc,we,cY,gQ,gR,gS,cR, @b0 _ a8 a8 (λ_=>j7 _)]<;>rfl) rfl (inr (by rfl)) ?_;simp only[dh.down,simprocAttr,aU,mJ.down,cY];refine⟨hS (by kernel_rfl),?_⟩;exact bR (U aU (U mJ.down cY))
 refine c6 (U @ON (U @B7 (show rH ai 138=true from by kernel_rfl))) [(0,.aP (.agg [ad bk bo,.ag 4 (bq.map hE),.ck (.mp bp)])),(1,.agg [.str iS,.agg [R kJ,R qn,.hole]]),(3,.aP (.agg [.str iS,.agg [R kJ,R qn,.ag 1 (u_.map a8)]])),(4,.str ((iS++([32]:aAc))++aa)),(18,.bool (!(kc ((iS++([32]:aAc))++aa) bp)))] ?_;refine aF h (λqR h=>?_) λqR h=>?_
 .refine c6 (U @OO (U @B7 (show rH ai 138=true from by kernel_rfl))) [(0,.aP (.agg [ad bk bo,.ag 4 (bq.map hE),.ck (.mp (kx ((iS++([32]:aAc))++aa) true bp))])),(1,.agg [.str iS,.agg [R kJ,R qn,.hole]]),(3,.aP (.agg [.str iS,.agg [R kJ,R qn,.ag 1 (u_.map a8)]]))] ?_;obtain⟨DT,iI,h⟩:=aM h;(try simp only[DP.down,Nat.zero_add,Nat.add_zero,reduceAdd]at iI);refine ai8 0 7 [1,2,3,4,5,6,7,0,8,9,10] rfl rfl [(0,.aP (.agg [ad bk bo,.ag 4 ((bq++[(bl.mk iS (ba.mk kJ qn u_))]).map hE),.ck (.mp (kx ((iS++([32]:aAc))++aa) true bp))])),(1,.agg [.str iS,.agg [R kJ,R qn,.hole]])] (λP bd=>?_) (λP bd=>?_) ?_
  .simp only[dh.down,simprocAttr,LA.down,oF,dQ,iI];refine⟨hS (by kernel_rfl),?_⟩;(try simp only[jA.down,simprocAttr,LA.down,oF,dQ,iI]at bd⊢);exact bd
  .simp only[wi,List.map_cons,List.map_nil,List.getD_cons_zero,List.getD_cons_succ,simprocAttr];simp only[dh.down,simprocAttr,LA.down,oF,dQ,iI];refine⟨hS (by kernel_rfl),?_⟩;(try simp only[jA.down,simprocAttr,LA.down,oF,dQ,iI]at bd⊢);exact bd
  exact bt _ (inl (h3 [] (h0 (kl (by cases im h;rfl) rfl rfl rfl (dK (h2))))))
 .exact aL (bt _ (inl (h3 [] (h0 (kl (by cases im h;rfl) rfl rfl rfl (dK (h2)))))))
theorem ar0 (oO:aAx->aAC->aAa->Int->Int->aAe->Option (aAx×aAC×aAa)) (L1:∀bo bq bp J a2 a3 r,oO bo bq bp J a2 a3=some r->aW ai 118 [.aP (.agg [ad bk bo,.ag 4 (bq.map hE),.ck (.mp bp)]),R J,R a2,ad a8 a3] (.tuple []) [.aP (.agg [ad bk r.1,.ag 4 (r.2.1.map hE),.ck (.mp r.2.2)]),.hole,.hole,.hole]) (bo bq bp J a2 a3 r) (h:yA oO bo bq bp J a2 a3=some r):aW ai 118 [.aP (.agg [ad bk bo,.ag 4 (bq.map hE),.ck (.mp bp)]),R J,R a2,ad a8 a3] (.tuple []) [.aP (.agg [ad bk r.1,.ag 4 (r.2.1.map hE),.ck (.mp r.2.2)]),.hole,.hole,.hole]:=by
 refine bB [0,1,2,3] [] Tryz.func118 anh λbu ak bt=>?_;obtain⟨aa,aT,h⟩:=aM h;refine c6 aT _ ?_;obtain⟨ah,b_,h⟩:=aM h;refine c6 b_ _ ?_;refine al ?_;refine bj ak λjB n6 c_ _ bz=>al ?_;refine aF h (λcp h=>?_) λcp h=>?_
 .obtain⟨aI,iI,aZ,kD,h⟩:=dk h;refine jv rfl (iN [(0,.aP (.agg [ad bk bo,.ag 4 (bq.map hE),.ck (.mp bp)])),(1,R J),(2,R a2),(3,ad a8 a3),(8,.aP (bk aa)),(10,.str aZ.1)] (λP bd=>?_) ?_)
  ·(try simp only[dh.down,simprocAttr]);refine hZ (aa5 ah.cm a3 _ iI) (hK:= ?_);simp only[dh.down,simprocAttr];refine hZ (L0 ah.Name aI _ kD) rfl rfl (by simp only[dh.down,simprocAttr,Ly.down]<;>rfl) rfl (inr (by rfl)) ?_;simp only[dh.down,simprocAttr];refine⟨hS (by kernel_rfl),?_⟩;exact bR trivial
  obtain⟨aX,el,h⟩:=aM h;refine eR (U (@mY ai 65 [(2,0),(2,1),(52,2)] [(R 0),(R 0),.bf] rfl rfl (by kernel_rfl)) (U @lY (U @lZ (U @cS (U @fW (U @List.nil_append.{0} @List.cons_append.{0})))))) (Th a3 _ el) _ ?_;have wT:∀Db Dc Dd,KV oO bo bq bp aZ Db Dc Dd=some r->bn ai ZS jB (ar [(0,.aP (.agg [ad bk bo,.ag 4 (bq.map hE),.ck (.mp bp)])),(10,.str aZ.1),(12,.aP (.agg [R Db,R Dc,.ag 1 (Dd.map a8)]))]):=by
   intro Db Dc Dd h;obtain⟨bz,cx,h⟩:=aM h;refine hx (b5 [(0,.aP (.agg [ad bk bz.1,.ag 4 (bz.2.1.map hE),.ck (.mp bz.2.2)]))] (λP bd=>?_) ?_)
   ·(try simp only[aH.down,simprocAttr,aah.down,ei,dQ]);refine kj [⟨.h 0 [],true,_,_⟩,⟨.h 66 [],true,_,.hole⟩] (arZ bo bq bp aZ.1 Db Dc Dd _ cx) rfl rfl rfl (by simp only[aH.down,simprocAttr, @mY ai 126 [(9,0),(65,1)] [(.str []),(.agg [(R 0),(R 0),.bf])] rfl rfl (by kernel_rfl),ei,lY,dQ,lZ,cS,fW,List.nil_append,List.cons_append,l0,kX,kk,gQ,gR,gS,cR,or_true,true_or, @b0 _ bk bk (λ_=>sc _), @b0 _ hE df (λ_=>Hu _), @b0 _ a8 a8 (λ_=>j7 _)]) rfl rfl (inl rfl) ?_;simp only[aH.down,simprocAttr, @mY ai 126 [(9,0),(65,1)] [(.str []),(.agg [(R 0),(R 0),.bf])] rfl rfl (by kernel_rfl),ei,lY,dQ,lZ,cS,fW,List.nil_append,List.cons_append,jI];exact bR aah.down
   exact n6 _ (bt _ (inl (h3 [] (h0 (kl (by cases im h;rfl) rfl rfl rfl (dK (dK (dK (h2)))))))))
  refine ax c_ λ_ n14 _ iy=>?_;obtain⟨bw,ev,h⟩:=aM h;refine c6 ev _ ?_;refine al ?_;refine aF h (λfX h=>?_) λfX h=>?_
  .obtain⟨cD,fz,h⟩:=aM h;refine aaa (U (@mY ai 65 [(2,0),(2,1),(52,2)] [(R 0),(R 0),.bf] rfl rfl (by kernel_rfl)) (U @lY (U @lZ (U @cS (U @fW (U @List.nil_append.{0} @List.cons_append.{0})))))) (aa5 bw.cm a3 _ fz) _ ?_;exact n14 _ (inr ⟨_,bD rfl,wT bw.Number 0 cD h⟩)
  .exact aL (n14 _ (inr ⟨_,bD rfl,wT J (i64.wrap (a2+1)) aX h⟩))
 .refine al ?_;refine aF h (λhA h=>?_) λhA h=>?_
  .obtain⟨du,rm,h⟩:=aM h;refine dw (b5 [(0,.aP (.agg [ad bk du.1,.ag 4 (du.2.1.map hE),.ck (.mp du.2.2)])),(1,R J),(2,R a2),(3,ad a8 a3),(8,.aP (bk aa))] (λP bd=>?_) ?_)
   ·(try simp only[aH.down,simprocAttr]);refine kj [⟨.h 0 [],true,_,_⟩,⟨R J,false,_,.hole⟩,⟨R (i64.wrap (a2+1)),false,_,.hole⟩,⟨ad a8 a3,false,_,.hole⟩] (L1 bo bq bp J (i64.wrap (a2+1)) a3 _ rm) rfl rfl rfl (by simp only[aH.down,simprocAttr,Sa.down]) rfl rfl (inl rfl) ?_;simp only[aH.down,simprocAttr,jI];exact bR trivial
   obtain⟨dH,yV,eY,tF,h⟩:=dk h;refine hx (b5 [(0,.aP (.agg [ad bk eY.1,.ag 4 (eY.2.1.map hE),.ck (.mp eY.2.2)]))] (λP bd=>?_) ?_)
   ·(try simp only[aH.down,simprocAttr]);refine dz (aaW aa (i64.wrap (a2+1)) _ yV) (hK:= ?_);simp only[aH.down,simprocAttr];refine kj [⟨.h 0 [],true,_,_⟩,⟨R J,false,_,.hole⟩,⟨R dH,false,_,.hole⟩,⟨ad a8 a3,false,_,.hole⟩] (L1 du.1 du.2.1 du.2.2 J dH a3 _ tF) rfl rfl rfl (by simp only[aH.down,simprocAttr,Sa.down]) rfl rfl (inl rfl) ?_;simp only[aH.down,simprocAttr,jI];exact bR trivial
   exact n6 _ (bt _ (inl (h3 [] (h0 (kl (by cases im h;rfl) rfl rfl rfl (dK (dK (dK (h2)))))))))
  .refine al ?_;refine aF h (λhp h=>?_) λhp h=>?_
   .obtain⟨jj,pg,l3,jC,h⟩:=dk h;refine eR pg (aa4 jj a3 _ jC) _ ?_;refine aF h (λwW h=>?_) λwW h=>?_
    .obtain⟨iy,tC,h⟩:=aM h;refine hx (b5 [(0,.aP (.agg [ad bk iy.1,.ag 4 (iy.2.1.map hE),.ck (.mp iy.2.2)]))] (λP bd=>?_) ?_)
     ·(try simp only[aH.down,simprocAttr]);refine kj [⟨.h 0 [],true,_,_⟩,⟨R J,false,_,.hole⟩,⟨R (i64.wrap (a2+1)),false,_,.hole⟩,⟨ad a8 a3,false,_,.hole⟩] (L1 bo bq bp J (i64.wrap (a2+1)) a3 _ tC) rfl rfl rfl (by simp only[aH.down,simprocAttr,Sa.down]) rfl rfl (inl rfl) ?_;simp only[aH.down,simprocAttr,jI];exact bR trivial
     exact n6 _ (bt _ (inl (h3 [] (h0 (kl (by cases im h;rfl) rfl rfl rfl (dK (dK (dK (h2)))))))))
    .exact aL (n6 _ (bt _ (inl (h3 [] (h0 (kl (by cases im h;rfl) rfl rfl rfl (dK (dK (dK (h2))))))))))
   .refine al ?_;refine aF h (λA0 h=>?_) λA0 h=>?_
    .refine al ?_;refine bj c_ λHM _ vu tD _=>?_;have ar1:∀n wK wL wM lb,De oO J a2 a3 ah n wK wL wM lb=some r->cJ ai ZT HM (ar [(0,.aP (.agg [ad bk wK,.ag 4 (wL.map hE),.ck (.mp wM)])),(1,R J),(2,R a2),(3,ad a8 a3),(103,R (i64.wrap (ah.Number+1))),(104,R lb)]):=by
      refine cX λ_ ar2 wK wL wM lb h=>cW vu λ_ n42 yR AV=>al ?_;refine ax yR λ_ n44 _ HZ=>aF h (λAW h=>?_) λAW h=>?_
      .refine aL (n44 _ (inl (ax yR λ_ n46 wX _=>bj wX λ_ n47 _ _ _=>al ?_)));obtain⟨hf,HP,azP,w5,h⟩:=dk h;(try simp only[fN.down,Nat.zero_add,Nat.add_zero,reduceAdd]at w5);obtain⟨ji,sv,h⟩:=aM h;refine hx (b5 [(0,.aP (.agg [ad bk ji.1,.ag 4 (ji.2.1.map hE),.ck (.mp ji.2.2)])),(1,R J),(2,R a2),(3,ad a8 a3),(103,R (i64.wrap (ah.Number+1))),(104,R lb)] (λP bd=>?_) ?_)
       ·(try simp only[aH.down,simprocAttr,(show∀s,dM ai s 52 1 [(0,R lb)]=some (.ag 1 [R lb],s)from λs=>by kernel_rfl),DO.down,w5,I.shares]);refine dz (Th a3 _ HP) (hK:= ?_);simp only[aH.down,simprocAttr,(show∀s,dM ai s 52 1 [(0,R lb)]=some (.ag 1 [R lb],s)from λs=>by kernel_rfl),DO.down,w5,I.shares];refine kj [⟨.h 0 [],true,_,_⟩,⟨R J,false,_,.hole⟩,⟨R (i64.wrap (a2+1)),false,_,.hole⟩,⟨.slice ((hf++[lb]).map a8),false,_,.hole⟩] (L1 wK wL wM J (i64.wrap (a2+1)) (hf++[lb]) _ sv) rfl rfl (by simp only[aH.down,simprocAttr,(show∀s,dM ai s 52 1 [(0,R lb)]=some (.ag 1 [R lb],s)from λs=>by kernel_rfl),aae.down,w5,I.shares]) (by simp only[aH.down,simprocAttr,(show∀s,dM ai s 52 1 [(0,R lb)]=some (.ag 1 [R lb],s)from λs=>by kernel_rfl), @i7 ai 52 52 2 rfl rfl,i_,ja,fW,i6,all_nil,w5, @ic _ a8 1 (λ_=>rfl),oI,oH,I.shares,cR,oG, @b0 _ a8 a8 (λ_=>j7 _),l0,kX,kk,gQ,gR,gS,cR,or_true,true_or, @b0 _ bk bk (λ_=>sc _), @b0 _ hE df (λ_=>Hu _)]) rfl rfl (inl rfl) ?_;simp only[aH.down,simprocAttr,(show∀s,dM ai s 52 1 [(0,R lb)]=some (.ag 1 [R lb],s)from λs=>by kernel_rfl),aaf.down,w5,I.shares];exact bR (U (show∀s,dM ai s 52 1 [(0,R lb)]=some (.ag 1 [R lb],s)from λs=>by kernel_rfl) (U DO.down w5))
       refine n47 _ (n46 _ (inl (dA ?_)));exact n42 _ (inr ⟨_,bD rfl,ar2 ji.1 ji.2.1 ji.2.2 (i64.wrap (lb+1)) h⟩)
      .exact cN (HZ 1 _ (AV 1 _ (tD _ (n6 _ (bt _ (inl (h3 [] (h0 (kl (by cases im h;rfl) rfl rfl rfl (dK (dK (dK (h2)))))))))))))
     exact dp h λn h=>ar1 n bo bq bp 0 h
    .exact aL (n6 _ (bt _ (inl (h3 [] (h0 (kl (by cases im h;rfl) rfl rfl rfl (dK (dK (dK (h2))))))))))
theorem ar3:∀n bo bq bp J a2 a3 r,r6 n bo bq bp J a2 a3=some r->aW ai 118 [.aP (.agg [ad bk bo,.ag 4 (bq.map hE),.ck (.mp bp)]),R J,R a2,ad a8 a3] (.tuple []) [.aP (.agg [ad bk r.1,.ag 4 (r.2.1.map hE),.ck (.mp r.2.2)]),.hole,.hole,.hole]:=by
 intro n;induction n with
 |zero=>intro bo bq bp J a2 a3 r h;cases(show none=some r from h)
 |succ n ih=>intro bo bq bp J a2 a3 r h;exact ar0 (r6 n) ih bo bq bp J a2 a3 r h
theorem ar4 (bo bq bp J a2 a3 r) (h:KW bo bq bp J a2 a3=some r):aW ai 118 [.aP (.agg [ad bk bo,.ag 4 (bq.map hE),.ck (.mp bp)]),R J,R a2,ad a8 a3] (.tuple []) [.aP (.agg [ad bk r.1,.ag 4 (r.2.1.map hE),.ck (.mp r.2.2)]),.hole,.hole,.hole]:=by
 obtain⟨n,h⟩:=ma h;exact ar3 n bo bq bp J a2 a3 r h
theorem ar5 (a0 J r) (h:va a0 J=some r):aW ai 79 [ad bk a0,bF J] (.tuple [.ag 4 (r.1.map hE),.bool r.2]) []:=by
 refine bB [0,1] [.tmp 4,.tmp 5] Tryz.func79 anj λbu ak bt=>al ?_;refine c6 (U @XZ (U (@mY ai 190 [(33,0),(122,1),(138,2)] [.bf,.bf,(.ck .ky)] rfl rfl (by kernel_rfl)) (U @lY (U @lZ (U @cS (U @fW (U @List.nil_append.{0} @List.cons_append.{0}))))))) _ ?_;obtain⟨aa,b_,h⟩:=aM h;refine dw (b5 [(6,.aP (.agg [ad bk aa.1,.ag 4 (aa.2.1.map hE),.ck (.mp aa.2.2)]))] (λP bd=>?_) ?_)
 ·(try simp only[aH.down,simprocAttr]);refine kj [⟨.h 6 [],true,_,_⟩,⟨R J.cy,false,_,.hole⟩,⟨R J.Part,false,_,.hole⟩,⟨ad a8 J.bP,false,_,.hole⟩] (aW.ahT (ar4 a0 [] [] J.cy J.Part J.bP _ b_) (.wd (.aP (.agg (.cons (.refl _) (.cons (.hY _) (.cons (.refl _) (.nil)))))) rfl rfl (.eq rfl (.eq rfl (.eq rfl (.nil)))))) rfl rfl rfl (by simp only[aH.down,simprocAttr,l0,kX,kk,gQ,gR,gS,cR,or_true,true_or, @b0 _ bk bk (λ_=>sc _)]) rfl rfl (inl rfl) ?_;simp only[aH.down,simprocAttr,jI];exact bR trivial
 refine og @XY _ ?_;exact hc (ak _ (inl (Xw 4 [.ag 4 (aa.2.1.map hE),.bool (decide ((aa.2.1.length:Int)<=200))])))
theorem aa_:∀a c,tn a c=Lib.indexByte a c
 |[],_=>rfl
 |a::x,c=>by simp only[tn,Lib.indexByte,aa_ x c]
theorem ar6 (a0:aAc) (J:UInt8) (r:Int) (h:QX a0 J=some r):aW ai 260 [.str a0,.int .u8 J.toNat] (R r) []:=by
 rw[show r=Lib.indexByte a0 J from(im h).trans (aa_ _ _)];exact XS Tryz.func260 (by kernel_rfl) (by kernel_rfl) (by kernel_rfl) (E:=Extern.BytealgIndexByte.indexByte) (by kernel_rfl) a0 J _ λw=>by
  rw[Lib.run_indexByteString,show((J.toNat:Int).toNat).toUInt8=J from by simp]
theorem ar7 (a0 J r) (h:QY a0 J=some r):aW ai 233 [.str a0,.int .u8 (J.toNat:Int)] (R r) []:=by
 refine bB [0,1] [.tmp 4] Tryz.func233 c233 λbu ak bt=>al ?_;obtain⟨aa,aU,h⟩:=aM h;refine cP (ar6 a0 J _ aU) _ ?_;exact cK ak [R aa]
theorem aba (a0 J r) (h:wN a0 J=some r):aW ai 204 [.str a0,.str J] (R r) []:=by
 refine bB [0,1] [.tmp 4] Tryz.func204 ank λbu ak bt=>al ?_;refine al ?_;refine ax ak λ_ _ dt _=>bj dt λ_ _ bQ _ _=>oh ((J.length:Int)==0) [(0,.str a0),(1,.str J),(5,R (J.length:Int)),(16,.bool (((J.length:Int)==0)||(J==a0)))] ?_;refine aF h (λdC h=>?_) λdC h=>?_
 .exact aS bQ [R 0]
 .refine al ?_;refine aF h (λe4 h=>?_) λe4 h=>?_
  .obtain⟨aa,kD,ah,dx,h⟩:=dk h;refine eR kD (ar7 a0 aa _ dx) _ ?_;exact cK bQ [R ah]
  .refine al ?_;refine aF h (λhG h=>?_) λhG h=>?_
   .exact aS bQ [R (-1)]
   .cases h
theorem ar8 (a0 J r) (h:KX a0 J=some r):aW ai 170 [.str a0,.str J] (.tuple [.str r.1,.str r.2.1,.bool r.2.2]) []:=by
 refine bB [0,1] [.tmp 4,.tmp 5,.tmp 6] Tryz.func170 anl λbu ak bt=>al ?_;refine ax ak λ_ bJ bg ah=>?_;obtain⟨aa,b_,h⟩:=aM h;refine cP (aba a0 J _ b_) _ ?_;refine al ?_;refine aF h (λdC h=>?_) λdC h=>?_
 .obtain⟨ah,fH,aI,jt,h⟩:=dk h;refine og (U fH jt) _ ?_;exact cK bg [.str ah,.str aI,.bool true]
 .exact aL (bJ _ (inl (aS ak [.str a0,.str ([]:aAc),.bool false])))
theorem ar9 (a0 J r) (h:Df a0 J=some r):aW ai 119 [.str a0,.str J] (.tuple [.str r.1,.str r.2.1,.bool r.2.2]) []:=by
 refine bB [0,1] [.tmp 4,.tmp 5,.tmp 6] Tryz.func119 c119 λbu ak bt=>al ?_;obtain⟨aa,aU,h⟩:=aM h;refine cP (ar8 a0 J _ aU) _ ?_;exact cK ak [.str aa.1,.str aa.2.1,.bool aa.2.2]
theorem ar_ (a0 J r) (h:QZ a0 J=some r):aW ai 210 [.str a0,.str J] (.bool r) []:=by
 refine bB [0,1] [.tmp 4] Tryz.func210 c210 λbu ak bt=>al ?_;rcases dL h with⟨fV,h⟩|⟨fV,h⟩
 .obtain⟨aa,b_,h⟩:=aM h;refine c6 (U fV b_) _ ?_;exact cK ak [.bool (aa==J)]
 .refine c6 fV _ ?_;exact cK ak [.bool false]
theorem asa (a0 J r) (h:Q0 a0 J=some r):aW ai 173 [.str a0,.str J] (.str r) []:=by
 refine bB [0,1] [.tmp 4] Tryz.func173 c173 λbu ak bt=>al ?_;refine ax ak λ_ bJ bg ah=>?_;obtain⟨aa,b_,h⟩:=aM h;refine cP (ar_ a0 J _ b_) _ ?_;refine aF h (λc7 h=>?_) λc7 h=>?_
 .obtain⟨ah,cd,h⟩:=aM h;refine c6 cd _ ?_;exact cK bg [.str ah]
 .exact aL (bJ _ (inl (aS ak [.str a0])))
theorem asb (a0 J r) (h:strings_TrimSuffix a0 J=some r):aW ai 122 [.str a0,.str J] (.str r) []:=by
 refine bB [0,1] [.tmp 4] Tryz.func122 anm λbu ak bt=>al ?_;obtain⟨aa,aU,h⟩:=aM h;refine cP (asa a0 J _ aU) _ ?_;exact cK ak [.str aa]
theorem asc (a0:aAc) (J:UInt8) (r:Int) (h:Q1 a0 J=some r):aW ai 242 [.str a0,.int .u8 J.toNat] (R r) []:=by
 rw[show r=((Lib.countByte a0 J:Nat):Int)from im h];exact XS Tryz.func242 (by kernel_rfl) (by kernel_rfl) (by kernel_rfl) (E:=Extern.BytealgCount.count) (by kernel_rfl) a0 J _ λw=>by
  rw[Lib.run_countString,show((J.toNat:Int).toNat).toUInt8=J from by simp]
theorem abb (a0 J r) (h:G3 a0 J=some r):aW ai 209 [.str a0,.str J] (R r) []:=by
 refine bB [0,1] [.tmp 4] Tryz.func209 ann λbu ak bt=>al ?_;obtain⟨aa,aU,h⟩:=aM h;refine cP (aba a0 J _ aU) _ ?_;exact cK ak [R aa]
theorem asd (a0 J r) (h:Q3 a0 J=some r):aW ai 208 [.str a0,.str J] (R r) []:=by
 refine bB [1] [.tmp 4] Tryz.func208 c208 λbu ak bt=>al ?_;refine ax ak λ_ bJ _ ah=>al ?_;refine aF h (λbZ h=>?_) λbZ h=>?_
 .cases h
 .refine aL (bJ _ (inl (ax ak λ_ n6 c_ _=>al ?_)));refine aF h (λcp h=>?_) λcp h=>?_
  .obtain⟨aa,iI,ah,kD,h⟩:=dk h;refine eR iI (asc a0 aa _ kD) _ ?_;exact cK c_ [R ah]
  .refine aL (n6 _ (inl (al ?_)));refine bj ak λSQ _ fC _ _=>?_;show bn ai (.loop ?c21) _ _;have ase:∀n vb vc,Q2 J n vb vc=some r->cJ ai ?c21 SQ (ar [(0,.str vb),(1,.str J),(5,R vc)]):=by
    refine cX λ_ asf vb vc h=>cW fC λ_ n14 ez _=>bj ez λ_ n15 gM _ _=>?_;obtain⟨aI,dN,h⟩:=aM h;refine cP (abb vb J _ dN) _ ?_;refine ax gM λ_ n18 w4 _=>al ?_;refine aF h (λfX h=>?_) λfX h=>?_
    .exact aS w4 [R vc]
    .refine aL (n18 _ (inl (al ?_)));obtain⟨aZ,lM,h⟩:=aM h;refine pV lM _ ?_;exact n15 _ (n14 _ (inr ⟨_,bD rfl,asf aZ (i64.wrap (vc+1)) h⟩))
   exact dp h λn h=>ase n a0 0 h
theorem asg (a0 J a2 a3 r) (h:Q5 a0 J a2 a3=some r):aW ai 172 [.str a0,.str J,R a2,R a3] (.ag 1 (r.map aE)) []:=by
 refine bB [1,2] [.tmp 8] Tryz.func172 ano λbu ak bt=>al ?_;refine ax ak λ_ bJ bg ah=>al ?_;refine aF h (λbZ h=>?_) λbZ h=>?_
 .refine al ?_;exact hc (bg _ (inr ⟨[(8,.ag 1 [])],hP [] rfl (hD (t:=8) (d:=.bf) rfl rfl (.hY _) (by decide) (hQ)),o8 [.ag 1 []]⟩))
 .refine aL (bJ _ (inl (ax ak λ_ n6 _ bz=>al ?_)));refine aF h (λcp h=>?_) λcp h=>?_
  .cases h
  .refine aL (n6 _ (inl ?_));show bn ai (.seq _ ?c24) _ _;have yW:∀j5,KY a0 J a2 j5=some r->bn ai ?c24 bu (ar [(0,.str a0),(1,.str J),(2,R a2),(3,R j5)]):=by
    intro j5 h;refine c6 (U @X3 @ahR) _ ?_;obtain⟨azQ,el,h⟩:=aM h;refine sf (U (ru el) @List.map_replicate.{0,0}) [(0,.str a0),(1,.str J),(2,R a2),(3,R (k1 false j5 (i64.wrap ((a0.length:Int)+1)))),(9,.ag 1 ((List.replicate (Int.toNat (k1 false j5 (i64.wrap ((a0.length:Int)+1)))) ([]:aAc)).map aE))] ?_;refine ws [(0,.str a0),(1,.str J),(2,R a2),(3,R (i64.wrap ((k1 false j5 (i64.wrap ((a0.length:Int)+1)))-1))),(9,.ag 1 ((List.replicate (Int.toNat (k1 false j5 (i64.wrap ((a0.length:Int)+1)))) ([]:aAc)).map aE))] ?_;refine ws [(0,.str a0),(1,.str J),(2,R a2),(3,R (i64.wrap ((k1 false j5 (i64.wrap ((a0.length:Int)+1)))-1))),(9,.ag 1 ((List.replicate (Int.toNat (k1 false j5 (i64.wrap ((a0.length:Int)+1)))) ([]:aAc)).map aE)),(10,R 0)] ?_;show bn ai (.seq _ ?RV) _ _;have abc:∀Dg Av wO,G4 a0 J a2 j5 Dg Av wO=some r->bn ai ?RV bu (ar [(0,.str Dg),(1,.str J),(2,R a2),(3,R (i64.wrap ((k1 false j5 (i64.wrap ((a0.length:Int)+1)))-1))),(9,.ag 1 (Av.map aE)),(10,R wO)]):=by
     intro Dg Av wO h;obtain⟨aa,ev,h⟩:=aM h;refine dw (b5 [(9,.ag 1 ((List.set Av (Int.toNat wO) Dg).map aE)),(10,R wO)] (λP bd=>?_) ?_)
     .simp only[aH.down,simprocAttr,ev,b2 ev,cS,da];exact bR (U ev (U (b2 ev) @cS))
     obtain⟨ah,fK,h⟩:=aM h;refine dw (b5 [(8,.ag 1 (ah.map aE))] (λP bd=>?_) ?_)
     .simp only[aH.down,simprocAttr,fK,aai.down,yf];(try simp only[jA.down,simprocAttr,fK,aai.down,yf]at bd⊢);exact bd
     exact cK ak [.ag 1 (ah.map aE)]
    refine ax ak λ_ n16 nj _=>bj nj λash _ w7 sq _=>?_;show bn ai (.loop ?Sw) _ _;have Sy:∀n pb n9 lI,Aw a0 J a2 j5 n pb n9 lI=some r->cJ ai ?Sw ash (ar [(0,.str pb),(1,.str J),(2,R a2),(3,R (i64.wrap ((k1 false j5 (i64.wrap ((a0.length:Int)+1)))-1))),(9,.ag 1 (n9.map aE)),(10,R lI)]):=by
     refine cX λ_ Sz pb n9 lI h=>cW w7 λ_ n22 oi lF=>ax oi λ_ n23 _ lG=>al ?_;refine aF h (λrl h=>?_) λrl h=>?_
     .refine aL (n23 _ (inl (bj oi λ_ n26 tA _ rY=>?_)));obtain⟨aI,yV,h⟩:=aM h;refine cP (abb pb J _ yV) _ ?_;refine ax tA λ_ n29 _ HF=>al ?_;refine aF h (λhp h=>?_) λhp h=>?_
      .exact cN (HF 0 _ (rY 0 _ (by decide) (lF 0 _ (sq _ (n16 _ (inr ⟨_,bD rfl,abc pb n9 lI h⟩))))))
      .refine aL (n29 _ (inl ?_));obtain⟨aZ,pg,aX,jC,h⟩:=dk h;refine dw (b5 [(0,.str pb),(1,.str J),(2,R a2),(3,R (i64.wrap ((k1 false j5 (i64.wrap ((a0.length:Int)+1)))-1))),(9,.ag 1 ((List.set n9 (Int.toNat lI) aZ).map aE)),(10,R lI),(11,R aI)] (λP bd=>?_) ?_)
       .simp only[aH.down,simprocAttr,pg,jC,b2 jC,cS,da,(show(List.map aE n9).set (Int.toNat lI) (.str aZ)=List.map aE (List.set n9 (Int.toNat lI) aZ)from(List.map_set ..).symm)];exact bR (U pg (U jC (U (b2 jC) @cS)))
       obtain⟨bz,pZ,h⟩:=aM h;refine c6 pZ [(0,.str bz),(1,.str J),(2,R a2),(3,R (i64.wrap ((k1 false j5 (i64.wrap ((a0.length:Int)+1)))-1))),(9,.ag 1 ((List.set n9 (Int.toNat lI) aZ).map aE)),(10,R lI)] ?_;refine wr [(0,.str bz),(1,.str J),(2,R a2),(3,R (i64.wrap ((k1 false j5 (i64.wrap ((a0.length:Int)+1)))-1))),(9,.ag 1 ((List.set n9 (Int.toNat lI) aZ).map aE)),(10,R (i64.wrap (lI+1)))] ?_;exact n26 _ (n22 _ (inr ⟨_,bD rfl,Sz bz (List.set n9 (Int.toNat lI) aZ) (i64.wrap (lI+1)) h⟩))
     .exact cN (lG 0 _ (lF 0 _ (sq _ (n16 _ (inr ⟨_,bD rfl,abc pb n9 lI h⟩)))))
    exact dp h λn h=>Sy n a0 (List.replicate (Int.toNat (k1 false j5 (i64.wrap ((a0.length:Int)+1)))) ([]:aAc)) 0 h
   refine ax ak λ_ n10 _ _=>al ?_;refine aF h (λA0 h=>?_) λA0 h=>?_
   .obtain⟨bw,asi,h⟩:=aM h;refine Z_ (asd a0 J _ asi) _ ?_;exact n10 _ (inr ⟨_,bD rfl,yW (i64.wrap (bw+1)) h⟩)
   .exact aL (n10 _ (inr ⟨_,bD rfl,yW a3 h⟩))
theorem asj (a0 J r) (h:KZ a0 J=some r):aW ai 121 [.str a0,.str J] (.ag 1 (r.map aE)) []:=by
 refine bB [0,1] [.tmp 4] Tryz.func121 anp λbu ak bt=>al ?_;obtain⟨aa,aU,h⟩:=aM h;refine cP (asg a0 J 0 (-1) _ aU) _ ?_;exact cK ak [.ag 1 (aa.map aE)]
theorem asl (a0:aAc) (r:Int×Bool) (h:K0 a0=some r):aW ai 171 [.str a0] (.tuple [R r.1,.bool r.2]) []:=aoq a0 r h
theorem asm (a0 r) (h:K1 a0=some r):aW ai 120 [ad aE a0] (.tuple [.ag 1 (r.1.map a8),.bool r.2]) []:=by
 refine bB [0] [.tmp 2,.tmp 3] Tryz.func120 anq λbu ak bt=>al ?_;refine al ?_;refine ax ak λ_ fg dt _=>al ?_;refine bj dt λpY _ cG c7 _=>?_;show bn ai (.loop ?iu) _ _;have iC:∀n bK r7,Dh a0 n bK r7=some r->cJ ai ?iu pY (ar [(4,.ag 1 (bK.map a8)),(9,ad aE a0),(10,R (a0.length:Int)),(11,R r7)]):=by
  refine cX λ_ iD bK r7 h=>cW cG λ_ n6 c_ bz=>al ?_;refine ax c_ λ_ n8 _ cD=>aF h (λe4 h=>?_) λe4 h=>?_
  .refine aL (n8 _ (inl (ax c_ λ_ n10 cQ _=>bj cQ λ_ n11 h6 _ _=>?_)));obtain⟨aa,el,h⟩:=aM h;refine c6 el _ ?_;obtain⟨ah,dX,h⟩:=aM h;refine cP (asl aa _ dX) _ ?_;refine ax h6 λ_ n16 nj _=>al ?_;refine aF h (λh5 h=>?_) λh5 h=>?_
   .refine al ?_;exact hc (nj _ (inr ⟨[(2,.ag 1 []),(3,.bool false)],hP [] rfl (hD (t:=2) (d:=.bf) rfl rfl (.hY _) (by decide) (cO rfl (hQ))),o8 [.ag 1 [],.bool false]⟩))
   .refine aL (n16 _ (inl ?_));obtain⟨apW,gV,h⟩:=aM h;(try simp only[fN.down,Nat.zero_add,Nat.add_zero,reduceAdd]at gV);refine pV (U (show∀s,dM ai s 52 1 [(0,R ah.1)]=some (.ag 1 [R ah.1],s)from λs=>by kernel_rfl) (U (@i7 ai 52 52 2 rfl rfl) (U @i_ (U @ja (U @fW (U @i6 (U @all_nil (U gV (@ic _ a8 1 λ_=>rfl))))))))) [(4,.ag 1 ((bK++[ah.1]).map a8)),(9,ad aE a0),(10,R (a0.length:Int)),(11,R r7)] ?_;refine n11 _ (n10 _ (inl (wr [(4,.ag 1 ((bK++[ah.1]).map a8)),(9,ad aE a0),(10,R (a0.length:Int)),(11,R (i64.wrap (r7+1)))] ?_)));exact n6 _ (inr ⟨_,bD rfl,iD (bK++[ah.1]) (i64.wrap (r7+1)) h⟩)
  .exact cN (cD 0 _ (bz 0 _ (c7 _ (fg _ (inl (aS ak [.ag 1 (bK.map a8),.bool true]))))))
 obtain⟨n,h⟩:=ma h;exact qe (inr ⟨_,hP [] rfl (hD (t:=4) (d:=.bf) (bN:=.ag 1 []) rfl rfl (.hY _) (by decide) (cO (t:=9) (d:=ad aE a0) rfl (cO (t:=10) (d:=R (a0.length:Int)) rfl (cO (t:=11) (d:=R 0) rfl (hQ))))),iC n [] 0 h⟩)
theorem Ti (a0 r) (h:Ax a0=some r):aW ai 80 [.str a0] (.tuple [.str r.1,.ag 1 (r.2.1.map a8),.bool r.2.2]) []:=by
 refine bB [0] [.tmp 2,.tmp 3,.tmp 4] Tryz.func80 c80 λbu ak bt=>al ?_;obtain⟨aa,aU,h⟩:=aM h;refine cP (ar9 a0 ([40]:aAc) _ aU) _ ?_;refine al ?_;have wT:∀vd,G5 a0 aa vd=some r->bn ai ZU bu (ar [(0,.str a0),(5,.str aa.1),(8,.ag 1 (vd.map a8))]):=by
  intro vd h;refine ax ak λ_ n6 c_ _=>?_;obtain⟨ah,fH,h⟩:=aM h;refine dw (b5 [(0,.str a0),(5,.str aa.1),(8,.ag 1 (vd.map a8)),(10,.str ah.1),(11,.bool ah.2)] (λP bd=>?_) ?_)
  ·(try simp only[aH.down,simprocAttr]);refine dz (L0 aa.1 vd _ fH) rfl rfl (by simp only[aH.down,simprocAttr,Ly.down]<;>rfl) rfl (inr (by rfl)) ?_;simp only[aH.down,simprocAttr];exact bR trivial
  refine oh (ah.2) [(5,.str aa.1),(8,.ag 1 (vd.map a8)),(40,.bool ((!ah.2)||(!(ah.1==a0))))] ?_;refine aF h (λfl h=>?_) λfl h=>?_
  .refine al ?_;exact hc (c_ _ (inr ⟨[(2,.str ([]:aAc)),(3,.ag 1 []),(4,.bool false)],hP [] rfl (cO rfl (hD (t:=3) (d:=.bf) rfl rfl (.hY _) (by decide) (cO rfl (hQ)))),o8 [.str ([]:aAc),.ag 1 [],.bool false]⟩))
  .exact aL (n6 _ (inl (aS ak [.str aa.1,.ag 1 (vd.map a8),.bool true])))
 refine ax ak λ_ dU cG aX=>al ?_;refine aF h (λhG h=>?_) λhG h=>?_
 .refine al ?_;obtain⟨aI,dN,aZ,ev,aX,eN,h⟩:=iQ h;refine dw (b5 [(0,.str a0),(5,.str aa.1),(8,.ag 1 (aX.1.map a8)),(9,.bool aX.2)] (λP bd=>?_) ?_)
  ·(try simp only[aH.down,simprocAttr]);refine dz (asb aa.2.1 ([41]:aAc) _ dN) (hK:= ?_);simp only[aH.down,simprocAttr];refine dz (asj aI ([44]:aAc) _ ev) (hK:= ?_);simp only[aH.down,simprocAttr];refine dz (asm aZ _ eN) rfl rfl (by simp only[aH.down,simprocAttr,yL.down]<;>rfl) rfl (inr (by simp only[I.c8,I.gJ, @jZ _ a8 (λ_=>Lk _),Bool.and_self])) ?_;simp only[aH.down,simprocAttr];exact bR trivial
  refine al ?_;refine aF h (λsq h=>?_) λsq h=>?_
  .refine al ?_;exact hc (cG _ (inr ⟨[(2,.str ([]:aAc)),(3,.ag 1 []),(4,.bool false)],hP [] rfl (cO rfl (hD (t:=3) (d:=.bf) rfl rfl (.hY _) (by decide) (cO rfl (hQ)))),o8 [.str ([]:aAc),.ag 1 [],.bool false]⟩))
  .exact aL (dU _ (inr ⟨_,bD rfl,wT aX.1 h⟩))
 .exact aL (dU _ (inr ⟨_,hP [] rfl (cO (t:=0) (d:=.str a0) rfl (cO (t:=5) (d:=.str aa.1) rfl (hD (t:=8) (d:=.bf) (bN:=.ag 1 []) rfl rfl (.hY _) (by decide) (hQ)))),wT [] h⟩))
theorem asn (a0 J r) (h:Q8 a0 J=some r):aW ai 176 [ad aE a0,.str J] (R r) []:=by
 refine bB [0,1] [.tmp 4] Tryz.func176 ans λbu ak bt=>al ?_;refine ax ak λ_ bJ bg _=>al ?_;refine bj bg λeV _ bQ bZ _=>?_;show bn ai (.loop ?eT) _ _;have e9:∀n cI,Ay a0 J n cI=some r->cJ ai ?eT eV (ar [(0,ad aE a0),(1,.str J),(7,R (a0.length:Int)),(8,R cI)]):=by
  refine cX λ_ eS cI h=>cW bQ λ_ dU cG aX=>al ?_;refine ax cG λ_ n7 _ bw=>aF h (λcp h=>?_) λcp h=>?_
  .refine aL (n7 _ (inl (ax cG λ_ cE b6 _=>bj b6 λ_ n10 cQ _ _=>al ?_)));obtain⟨aa,el,h⟩:=aM h;refine c6 el _ ?_;refine aF h (λhG h=>?_) λhG h=>?_
   .exact aS cQ [R cI]
   .refine aL (n10 _ (cE _ (inl (dA ?_))));exact dU _ (inr ⟨_,bD rfl,eS (i64.wrap (cI+1)) h⟩)
  .exact cN (bw 0 _ (aX 0 _ (bZ _ (bJ _ (inl (aS ak [R (-1)]))))))
 exact dp h λn h=>e9 n 0 h
theorem Tj (a0 J r) (h:Di a0 J=some r):aW ai 124 [ad aE a0,.str J] (.bool r) []:=by
 refine bB [0,1] [.tmp 4] Tryz.func124 c124 λbu ak bt=>al ?_;obtain⟨aa,aU,h⟩:=aM h;refine cP (asn a0 J _ aU) _ ?_;exact cK ak [.bool (decide (0<=aa))]
theorem H2 (a0 r) (h:Az a0=some r):aW ai 126 [bF a0] (ey r) []:=by
 refine bB [0] [.cell 2 65] Tryz.func126 ant λbu ak bt=>al ?_;obtain⟨aa,aU,h⟩:=aM h;refine cP (Th a0.bP _ aU) _ ?_;exact aS ak [ey (ba.mk a0.cy a0.Part aa)]
theorem abd (a0 r) (h:K2 a0=some r):aW ai 125 [ad bF a0] (.ag 3 (r.map ey)) []:=by
 refine bB [0] [.tmp 2] Tryz.func125 anu λbu ak bt=>al ?_;refine al ?_;refine ax ak λ_ fg dt _=>al ?_;refine bj dt λpY _ cG c7 _=>?_;show bn ai (.loop ?iu) _ _;have iC:∀n bY lf,Dj a0 n bY lf=some r->cJ ai ?iu pY (ar [(3,.ag 3 (bY.map ey)),(6,ad bF a0),(7,R (a0.length:Int)),(8,R lf)]):=by
  refine cX λ_ iD bY lf h=>cW cG λ_ n6 c_ bz=>al ?_;refine ax c_ λ_ n8 _ cD=>aF h (λe4 h=>?_) λe4 h=>?_
  .refine aL (n8 _ (inl (ax c_ λ_ n10 cQ _=>bj cQ λ_ n11 _ _ _=>?_)));obtain⟨aa,el,h⟩:=aM h;refine c6 el _ ?_;obtain⟨ah,dX,LG,cx,h⟩:=dk h;(try simp only[DP.down,Nat.zero_add,Nat.add_zero,reduceAdd]at cx);refine hx (b5 [(3,.ag 3 ((bY++[ah]).map ey)),(6,ad bF a0),(7,R (a0.length:Int)),(8,R lf)] (λP bd=>?_) ?_)
   ·(try simp only[aH.down,simprocAttr,Sb.down,oF,dQ,cx]);refine dz (H2 aa _ dX) (hK:= ?_);simp only[aH.down,simprocAttr,Sb.down,oF,dQ,cx];(try simp only[jA.down,simprocAttr,Sb.down,oF,dQ,cx]at bd⊢);exact bd
   refine n11 _ (n10 _ (inl (wr [(3,.ag 3 ((bY++[ah]).map ey)),(6,ad bF a0),(7,R (a0.length:Int)),(8,R (i64.wrap (lf+1)))] ?_)));exact n6 _ (inr ⟨_,bD rfl,iD (bY++[ah]) (i64.wrap (lf+1)) h⟩)
  .exact cN (cD 0 _ (bz 0 _ (c7 _ (fg _ (inl (aS ak [.ag 3 (bY.map ey)]))))))
 obtain⟨n,h⟩:=ma h;exact qe (inr ⟨_,hP [] rfl (hD (t:=3) (d:=.bf) (bN:=.ag 3 []) rfl rfl (.hY _) (by decide) (cO (t:=6) (d:=ad bF a0) rfl (cO (t:=7) (d:=R (a0.length:Int)) rfl (cO (t:=8) (d:=R 0) rfl (hQ))))),iC n [] 0 h⟩)
theorem abe (a0 r) (h:K3 a0=some r):aW ai 128 [ad bF a0] (.str r) []:=by
 refine bB [0] [.tmp 2] Tryz.func128 anv λbu ak bt=>al ?_;refine al ?_;refine ax ak λ_ fg dt aI=>al ?_;refine bj dt λpY _ cG c7 _=>?_;have iC:∀n bY lf,Dk a0 n bY lf=some r->cJ ai ZV pY (ar [(3,.ag 1 (bY.map aE)),(6,ad bF a0),(7,R (a0.length:Int)),(8,R lf)]):=by
  refine cX λ_ iD bY lf h=>cW cG λ_ n6 c_ bz=>al ?_;refine ax c_ λ_ n8 _ cD=>aF h (λe4 h=>?_) λe4 h=>?_
  .refine aL (n8 _ (inl (ax c_ λ_ n10 cQ _=>bj cQ λ_ n11 _ _ _=>?_)));obtain⟨aa,el,h⟩:=aM h;refine c6 el _ ?_;obtain⟨ah,dX,LG,cx,h⟩:=dk h;(try simp only[fN.down,Nat.zero_add,Nat.add_zero,reduceAdd]at cx);refine AK (U (show∀s,dM ai s 25 1 [(0,.str ah)]=some (.ag 1 [.str ah],s)from λs=>by kernel_rfl) (U (@i7 ai 25 25 9 rfl rfl) (U @i_ (U @ja (U @fW (U @i6 (U @all_nil (U cx (@ic _ aE 1 λ_=>rfl))))))))) (aa9 aa _ dX) [(3,.ag 1 ((bY++[ah]).map aE)),(6,ad bF a0),(7,R (a0.length:Int)),(8,R lf)] ?_;refine n11 _ (n10 _ (inl (wr [(3,.ag 1 ((bY++[ah]).map aE)),(6,ad bF a0),(7,R (a0.length:Int)),(8,R (i64.wrap (lf+1)))] ?_)));exact n6 _ (inr ⟨_,bD rfl,iD (bY++[ah]) (i64.wrap (lf+1)) h⟩)
  .refine cN (cD 0 _ (bz 0 _ (c7 _ (fg _ (inl ?_)))));obtain⟨aI,eN,h⟩:=aM h;refine dw (b5 [(2,.str aI)] (λP bd=>?_) ?_)
   ·(try simp only[aH.down,simprocAttr]);refine dz (aa6 bY ([32]:aAc) _ eN) rfl rfl (by simp only[aH.down,simprocAttr,yL.down]<;>rfl) rfl (inr (by rfl)) ?_;simp only[aH.down,simprocAttr];exact bR trivial
   exact cK ak [.str aI]
 obtain⟨n,h⟩:=ma h;exact qe (inr ⟨_,hP [] rfl (hD (t:=3) (d:=.bf) (bN:=.ag 1 []) rfl rfl (.hY _) (by decide) (cO (t:=6) (d:=ad bF a0) rfl (cO (t:=7) (d:=R (a0.length:Int)) rfl (cO (t:=8) (d:=R 0) rfl (hQ))))),iC n [] 0 h⟩)
theorem abf (bo bq bp bO bM gx gF gy J a2 a3 a4 a5 r) (h:Dm bo bq bp bO bM gx gF gy J a2 a3 a4 a5=some r):aW ai 81 [.aP (.agg [.agg [ad bk bo,ad db bq,ad bH bp,ad aE bO,ad aE bM],ad bF gx,.ag 4 (gF.map fy),.ck (.mp gy)]),.str J,ad a8 a2,R a3,R a4,ad bF a5] (.tuple []) [.aP (.agg [.agg [ad bk r.1,ad db r.2.1,ad bH r.2.2.1,ad aE r.2.2.2.1,ad aE r.2.2.2.2.1],ad bF r.2.2.2.2.2.1,.ag 4 (r.2.2.2.2.2.2.1.map fy),.ck (.mp r.2.2.2.2.2.2.2)]),.hole,.hole,.hole,.hole,.hole]:=by
 refine bB [0,3,4,5] [] Tryz.func81 anz λbu ak bt=>ax ak λ_ lV ef aa=>?_;rcases dL h with⟨fV,h⟩|⟨fV,h⟩
 .obtain⟨aa,b_,h⟩:=aM h;refine eR fV (Tj bO J _ b_) _ ?_;refine aF h (λc7 h=>?_) λc7 h=>?_
  .exact hc (ef _ (inl (h3 [] (h0 (kl (by cases im h;rfl) rfl rfl rfl (dK (dK (dK (dK (dK (h2)))))))))))
  .refine aL (lV _ (inl ?_));have sj:∀tp tq,q7 a3 a4 a5 bo bq bp bO bM gx gF gy tp tq=some r->bn ai RX bu (ar [(0,.aP (.agg [.agg [ad bk bo,ad db bq,ad bH bp,ad aE bO,ad aE bM],ad bF gx,.ag 4 (gF.map fy),.ck (.mp gy)])),(1,.str tp),(2,ad a8 tq),(3,R a3),(4,R a4),(5,ad bF a5)]):=by
    intro tp tq h;obtain⟨ah,fH,h⟩:=aM h;refine cP (L0 tp tq _ fH) _ ?_;obtain⟨aI,iI,h⟩:=aM h;refine cP (abd gx _ iI) _ ?_;obtain⟨aZ,dx,aX,el,bz,dT,h⟩:=iQ h;refine dw (b5 [(0,.aP (.agg [.agg [ad bk bo,ad db bq,ad bH bp,ad aE bO,ad aE bM],ad bF gx,.ag 4 (gF.map fy),.ck (.mp gy)])),(3,R a3),(4,R a4),(5,ad bF a5),(12,.str ah.1),(14,.ag 3 ((List.set aI (Int.toNat a3) aX).map ey))] (λP bd=>?_) ?_)
    ·(try simp only[aH.down,simprocAttr,dx,dT,b2 dT,cS,da]);refine dz (H2 aZ _ el) (hK:= ?_);simp only[aH.down,simprocAttr,dx,dT,b2 dT,cS,da];exact bR (U dx (U dT (U (b2 dT) @cS)))
    have yW:∀iB nf,Dl a3 a4 bo bq bp bO bM gx gF gy iB nf=some r->bn ai RW bu (ar [(0,.aP (.agg [.agg [ad bk bo,ad db bq,ad bH bp,ad aE bO,ad aE bM],ad bF gx,.ag 4 (gF.map fy),.ck (.mp gy)])),(3,R a3),(4,R a4),(12,.str iB),(14,.ag 3 (nf.map ey))]):=by
     intro iB nf h;obtain⟨DZ,dN,h⟩:=aM h;(try simp only[fN.down,Nat.zero_add,Nat.add_zero,reduceAdd]at dN);obtain⟨bw,ev,DZ,eN,h⟩:=dk h;(try simp only[fN.down,Nat.zero_add,Nat.add_zero,reduceAdd]at eN);obtain⟨DZ,fK,h⟩:=aM h;(try simp only[fN.down,Nat.zero_add,Nat.add_zero,reduceAdd]at fK);obtain⟨cD,gV,DZ,fz,h⟩:=dk h;(try simp only[fN.down,Nat.zero_add,Nat.add_zero,reduceAdd]at fz);obtain⟨DZ,iT,h⟩:=aM h;(try simp only[fN.down,Nat.zero_add,Nat.add_zero,reduceAdd]at iT);obtain⟨du,lM,DZ,hI,h⟩:=dk h;(try simp only[fN.down,Nat.zero_add,Nat.add_zero,reduceAdd]at hI);refine dw (b5 [(0,.aP (.agg [.agg [ad bk bo,ad db bq,ad bH bp,ad aE bO,ad aE bM],ad bF gx,.ag 4 (gF.map fy),.ck (.mp gy)])),(3,R a3),(4,R a4),(12,.str iB),(14,.ag 3 (nf.map ey)),(15,.str ((((((iB++([32]:aAc))++bw)++([32]:aAc))++cD)++([32]:aAc))++du))] (λP bd=>?_) ?_)
     ·(try simp only[aH.down,simprocAttr,dN,mJ.down,eN,fK,fz,iT,hI]);refine dz (A3 a3 _ ev) (hK:= ?_);simp only[aH.down,simprocAttr,dN,mJ.down,eN,fK,fz,iT,hI];refine dz (A3 a4 _ gV) (hK:= ?_);simp only[aH.down,simprocAttr,dN,mJ.down,eN,fK,fz,iT,hI];refine dz (abe nf _ lM) rfl rfl (by simp only[aH.down,simprocAttr,dN,aaj.down,eN,fK,fz,iT,hI]<;>rfl) rfl (inr (by rfl)) ?_;simp only[aH.down,simprocAttr,dN,mJ.down,eN,fK,fz,iT,hI];exact bR (U dN (U mJ.down (U eN (U fK (U fz (U iT hI))))))
     refine c6 (U @ON (U @B7 (show rH ai 138=true from by kernel_rfl))) [(0,.aP (.agg [.agg [ad bk bo,ad db bq,ad bH bp,ad aE bO,ad aE bM],ad bF gx,.ag 4 (gF.map fy),.ck (.mp gy)])),(3,R a3),(4,R a4),(12,.str iB),(14,.ag 3 (nf.map ey)),(15,.str ((((((iB++([32]:aAc))++bw)++([32]:aAc))++cD)++([32]:aAc))++du)),(81,.bool (!(kc ((((((iB++([32]:aAc))++bw)++([32]:aAc))++cD)++([32]:aAc))++du) gy)))] ?_;refine aF h (λnL h=>?_) λnL h=>?_
     .refine c6 (U @OO (U @B7 (show rH ai 138=true from by kernel_rfl))) [(0,.aP (.agg [.agg [ad bk bo,ad db bq,ad bH bp,ad aE bO,ad aE bM],ad bF gx,.ag 4 (gF.map fy),.ck (.mp (kx ((((((iB++([32]:aAc))++bw)++([32]:aAc))++cD)++([32]:aAc))++du) true gy))])),(3,R a3),(4,R a4),(12,.str iB),(14,.ag 3 (nf.map ey))] ?_;obtain⟨DZ,H3,h⟩:=aM h;(try simp only[DP.down,Nat.zero_add,Nat.add_zero,reduceAdd]at H3);refine hx (b5 [(0,.aP (.agg [.agg [ad bk bo,ad db bq,ad bH bp,ad aE bO,ad aE bM],ad bF gx,.ag 4 ((gF++[(bm.mk iB a3 a4 nf)]).map fy),.ck (.mp (kx ((((((iB++([32]:aAc))++bw)++([32]:aAc))++cD)++([32]:aAc))++du) true gy))]))] (λP bd=>?_) ?_)
      .simp only[aH.down,simprocAttr,LB.down,ei,dQ,oF,H3];(try simp only[jA.down,simprocAttr,LB.down,ei,dQ,oF,H3]at bd⊢);exact bd
      exact bt _ (inl (h3 [] (h0 (kl (by cases im h;rfl) rfl rfl rfl (dK (dK (dK (dK (dK (h2))))))))))
     .exact aL (bt _ (inl (h3 [] (h0 (kl (by cases im h;rfl) rfl rfl rfl (dK (dK (dK (dK (dK (h2)))))))))))
    refine ax ak λ_ n15 _ hf=>ws [(0,.aP (.agg [.agg [ad bk bo,ad db bq,ad bH bp,ad aE bO,ad aE bM],ad bF gx,.ag 4 (gF.map fy),.ck (.mp gy)])),(3,R a3),(4,R a4),(5,ad bF a5),(12,.str ah.1),(14,.ag 3 ((List.set aI (Int.toNat a3) aX).map ey)),(54,.bool (decide (0<=a4)))] ?_;refine aF h (λHG h=>?_) λHG h=>?_
    .obtain⟨dH,jC,eY,AX,jj,pZ,h⟩:=iQ h;refine hx (b5 [(0,.aP (.agg [.agg [ad bk bo,ad db bq,ad bH bp,ad aE bO,ad aE bM],ad bF gx,.ag 4 (gF.map fy),.ck (.mp gy)])),(3,R a3),(4,R a4),(12,.str ah.1),(14,.ag 3 ((List.set (List.set aI (Int.toNat a3) aX) (Int.toNat a4) eY).map ey))] (λP bd=>?_) ?_)
     ·(try simp only[aH.down,simprocAttr,jC,pZ,b2 pZ,cS,da]);refine dz (H2 dH _ AX) (hK:= ?_);simp only[aH.down,simprocAttr,jC,pZ,b2 pZ,cS,da];exact bR (U jC (U pZ (U (b2 pZ) @cS)))
     exact n15 _ (inr ⟨_,bD rfl,yW ah.1 (List.set (List.set aI (Int.toNat a3) aX) (Int.toNat a4) eY) h⟩)
    .exact aL (n15 _ (inr ⟨_,bD rfl,yW ah.1 (List.set aI (Int.toNat a3) aX) h⟩))
   refine ax ak λ_ n6 _ bz=>?_;obtain⟨l3,tG,h⟩:=aM h;refine cP (Tj bM J _ tG) _ ?_;refine aF h (λA0 h=>?_) λA0 h=>?_
   .refine dA ?_;exact n6 _ (inr ⟨_,hP [] rfl (cO (t:=0) (d:=.aP (.agg [.agg [ad bk bo,ad db bq,ad bH bp,ad aE bO,ad aE bM],ad bF gx,.ag 4 (gF.map fy),.ck (.mp gy)])) rfl (cO (t:=1) (d:=.str ([116,97,117]:aAc)) rfl (hD (t:=2) (d:=.bf) (bN:=.slice []) rfl rfl (.x0) (by decide) (cO (t:=3) (d:=R a3) rfl (cO (t:=4) (d:=R a4) rfl (cO (t:=5) (d:=ad bF a5) rfl (hQ))))))),sj ([116,97,117]:aAc) [] h⟩)
   .exact aL (n6 _ (inr ⟨_,bD rfl,sj J a2 h⟩))
 .refine c6 fV _ ?_;refine n1 rfl ?_;refine aL (lV _ (inl ?_));have sj:∀tp tq,q7 a3 a4 a5 bo bq bp bO bM gx gF gy tp tq=some r->bn ai RX bu (ar [(0,.aP (.agg [.agg [ad bk bo,ad db bq,ad bH bp,ad aE bO,ad aE bM],ad bF gx,.ag 4 (gF.map fy),.ck (.mp gy)])),(1,.str tp),(2,ad a8 tq),(3,R a3),(4,R a4),(5,ad bF a5)]):=by
   intro tp tq h;obtain⟨iy,tH,h⟩:=aM h;refine cP (L0 tp tq _ tH) _ ?_;obtain⟨hf,yP,h⟩:=aM h;refine cP (abd gx _ yP) _ ?_;obtain⟨ji,sr,iA,S4,qi,qw,h⟩:=iQ h;refine dw (b5 [(0,.aP (.agg [.agg [ad bk bo,ad db bq,ad bH bp,ad aE bO,ad aE bM],ad bF gx,.ag 4 (gF.map fy),.ck (.mp gy)])),(3,R a3),(4,R a4),(5,ad bF a5),(12,.str iy.1),(14,.ag 3 ((List.set hf (Int.toNat a3) iA).map ey))] (λP bd=>?_) ?_)
   ·(try simp only[aH.down,simprocAttr,sr,qw,b2 qw,cS,da]);refine dz (H2 ji _ S4) (hK:= ?_);simp only[aH.down,simprocAttr,sr,qw,b2 qw,cS,da];exact bR (U sr (U qw (U (b2 qw) @cS)))
   have yW:∀iB nf,Dl a3 a4 bo bq bp bO bM gx gF gy iB nf=some r->bn ai RW bu (ar [(0,.aP (.agg [.agg [ad bk bo,ad db bq,ad bH bp,ad aE bO,ad aE bM],ad bF gx,.ag 4 (gF.map fy),.ck (.mp gy)])),(3,R a3),(4,R a4),(12,.str iB),(14,.ag 3 (nf.map ey))]):=by
    intro iB nf h;obtain⟨A2,sv,h⟩:=aM h;(try simp only[fN.down,Nat.zero_add,Nat.add_zero,reduceAdd]at sv);obtain⟨lD,DW,A2,w3,h⟩:=dk h;(try simp only[fN.down,Nat.zero_add,Nat.add_zero,reduceAdd]at w3);obtain⟨A2,oV,h⟩:=aM h;(try simp only[fN.down,Nat.zero_add,Nat.add_zero,reduceAdd]at oV);obtain⟨lE,HV,A2,w6,h⟩:=dk h;(try simp only[fN.down,Nat.zero_add,Nat.add_zero,reduceAdd]at w6);obtain⟨A2,om,h⟩:=aM h;(try simp only[fN.down,Nat.zero_add,Nat.add_zero,reduceAdd]at om);obtain⟨ko,ss,A2,ph,h⟩:=dk h;(try simp only[fN.down,Nat.zero_add,Nat.add_zero,reduceAdd]at ph);refine dw (b5 [(0,.aP (.agg [.agg [ad bk bo,ad db bq,ad bH bp,ad aE bO,ad aE bM],ad bF gx,.ag 4 (gF.map fy),.ck (.mp gy)])),(3,R a3),(4,R a4),(12,.str iB),(14,.ag 3 (nf.map ey)),(15,.str ((((((iB++([32]:aAc))++lD)++([32]:aAc))++lE)++([32]:aAc))++ko))] (λP bd=>?_) ?_)
    ·(try simp only[aH.down,simprocAttr,sv,mJ.down,w3,oV,w6,om,ph]);refine dz (A3 a3 _ DW) (hK:= ?_);simp only[aH.down,simprocAttr,sv,mJ.down,w3,oV,w6,om,ph];refine dz (A3 a4 _ HV) (hK:= ?_);simp only[aH.down,simprocAttr,sv,mJ.down,w3,oV,w6,om,ph];refine dz (abe nf _ ss) rfl rfl (by simp only[aH.down,simprocAttr,sv,aaj.down,w3,oV,w6,om,ph]<;>rfl) rfl (inr (by rfl)) ?_;simp only[aH.down,simprocAttr,sv,mJ.down,w3,oV,w6,om,ph];exact bR (U sv (U mJ.down (U w3 (U oV (U w6 (U om ph))))))
    refine c6 (U @ON (U @B7 (show rH ai 138=true from by kernel_rfl))) [(0,.aP (.agg [.agg [ad bk bo,ad db bq,ad bH bp,ad aE bO,ad aE bM],ad bF gx,.ag 4 (gF.map fy),.ck (.mp gy)])),(3,R a3),(4,R a4),(12,.str iB),(14,.ag 3 (nf.map ey)),(15,.str ((((((iB++([32]:aAc))++lD)++([32]:aAc))++lE)++([32]:aAc))++ko)),(81,.bool (!(kc ((((((iB++([32]:aAc))++lD)++([32]:aAc))++lE)++([32]:aAc))++ko) gy)))] ?_;refine aF h (λaso h=>?_) λaso h=>?_
    .refine c6 (U @OO (U @B7 (show rH ai 138=true from by kernel_rfl))) [(0,.aP (.agg [.agg [ad bk bo,ad db bq,ad bH bp,ad aE bO,ad aE bM],ad bF gx,.ag 4 (gF.map fy),.ck (.mp (kx ((((((iB++([32]:aAc))++lD)++([32]:aAc))++lE)++([32]:aAc))++ko) true gy))])),(3,R a3),(4,R a4),(12,.str iB),(14,.ag 3 (nf.map ey))] ?_;obtain⟨A2,vv,h⟩:=aM h;(try simp only[DP.down,Nat.zero_add,Nat.add_zero,reduceAdd]at vv);refine hx (b5 [(0,.aP (.agg [.agg [ad bk bo,ad db bq,ad bH bp,ad aE bO,ad aE bM],ad bF gx,.ag 4 ((gF++[(bm.mk iB a3 a4 nf)]).map fy),.ck (.mp (kx ((((((iB++([32]:aAc))++lD)++([32]:aAc))++lE)++([32]:aAc))++ko) true gy))]))] (λP bd=>?_) ?_)
     .simp only[aH.down,simprocAttr,LB.down,ei,dQ,oF,vv];(try simp only[jA.down,simprocAttr,LB.down,ei,dQ,oF,vv]at bd⊢);exact bd
     exact bt _ (inl (h3 [] (h0 (kl (by cases im h;rfl) rfl rfl rfl (dK (dK (dK (dK (dK (h2))))))))))
    .exact aL (bt _ (inl (h3 [] (h0 (kl (by cases im h;rfl) rfl rfl rfl (dK (dK (dK (dK (dK (h2)))))))))))
   refine ax ak λ_ n50 _ _=>ws [(0,.aP (.agg [.agg [ad bk bo,ad db bq,ad bH bp,ad aE bO,ad aE bM],ad bF gx,.ag 4 (gF.map fy),.ck (.mp gy)])),(3,R a3),(4,R a4),(5,ad bF a5),(12,.str iy.1),(14,.ag 3 ((List.set hf (Int.toNat a3) iA).map ey)),(54,.bool (decide (0<=a4)))] ?_;refine aF h (λoj h=>?_) λoj h=>?_
   .obtain⟨lF,Tk,lG,asp,P6,vr,h⟩:=iQ h;refine hx (b5 [(0,.aP (.agg [.agg [ad bk bo,ad db bq,ad bH bp,ad aE bO,ad aE bM],ad bF gx,.ag 4 (gF.map fy),.ck (.mp gy)])),(3,R a3),(4,R a4),(12,.str iy.1),(14,.ag 3 ((List.set (List.set hf (Int.toNat a3) iA) (Int.toNat a4) lG).map ey))] (λP bd=>?_) ?_)
    ·(try simp only[aH.down,simprocAttr,Tk,vr,b2 vr,cS,da]);refine dz (H2 lF _ asp) (hK:= ?_);simp only[aH.down,simprocAttr,Tk,vr,b2 vr,cS,da];exact bR (U Tk (U vr (U (b2 vr) @cS)))
    exact n50 _ (inr ⟨_,bD rfl,yW iy.1 (List.set (List.set hf (Int.toNat a3) iA) (Int.toNat a4) lG) h⟩)
   .exact aL (n50 _ (inr ⟨_,bD rfl,yW iy.1 (List.set hf (Int.toNat a3) iA) h⟩))
  refine ax ak λ_ n41 _ _=>?_;obtain⟨wD,HJ,h⟩:=aM h;refine cP (Tj bM J _ HJ) _ ?_;refine aF h (λasq h=>?_) λasq h=>?_
  .refine dA ?_;exact n41 _ (inr ⟨_,hP [] rfl (cO (t:=0) (d:=.aP (.agg [.agg [ad bk bo,ad db bq,ad bH bp,ad aE bO,ad aE bM],ad bF gx,.ag 4 (gF.map fy),.ck (.mp gy)])) rfl (cO (t:=1) (d:=.str ([116,97,117]:aAc)) rfl (hD (t:=2) (d:=.bf) (bN:=.slice []) rfl rfl (.x0) (by decide) (cO (t:=3) (d:=R a3) rfl (cO (t:=4) (d:=R a4) rfl (cO (t:=5) (d:=ad bF a5) rfl (hQ))))))),sj ([116,97,117]:aAc) [] h⟩)
  .exact aL (n41 _ (inr ⟨_,bD rfl,sj J a2 h⟩))
theorem asr (a0 J a2 r) (h:Y0 a0 J a2=some r):aW ai 181 [bH a0,.ref (.str J),.ref (.str a2)] (.bool r) []:=by
 refine bB [0,1,2] [.tmp 4] Tryz.func181 anA λbu ak bt=>al ?_;refine Lw (a0.Left==(hU false J a2)) (U @X3 @ahS) [(4,.bool ((a0.Left==(hU false J a2))&&(a0.cH==(hU true J a2))))] ?_;exact cK ak [.bool ((a0.Left==(hU false J a2))&&(a0.cH==(hU true J a2)))]
theorem ass (a0 iS kJ r) (h:Rb a0 iS kJ=some r):aW ai 180 [ad bH a0,.fn 181 [.ref (.str iS),.ref (.str kJ)]] (R r) []:=by
 refine bB [0,1] [.tmp 4] Tryz.func180 anB λbu ak bt=>al ?_;refine ax ak λ_ bJ bg ah=>al ?_;refine bj bg λeV _ bQ bZ _=>?_;show bn ai (.loop ?eT) _ _;have e9:∀n cI,Dn a0 iS kJ n cI=some r->cJ ai ?eT eV (ar [(0,ad bH a0),(1,.fn 181 [.ref (.str iS),.ref (.str kJ)]),(7,R (a0.length:Int)),(8,R cI)]):=by
  refine cX λ_ eS cI h=>cW bQ λ_ dU cG aX=>al ?_;refine ax cG λ_ n7 _ bw=>aF h (λcp h=>?_) λcp h=>?_
  .refine aL (n7 _ (inl (ax cG λ_ cE b6 _=>bj b6 λ_ n10 cQ _ _=>al ?_)));obtain⟨aa,el,ah,dT,h⟩:=dk h;refine eR el (asr aa iS kJ _ dT) _ ?_;refine aF h (λeZ h=>?_) λeZ h=>?_
   .exact aS cQ [R cI]
   .refine aL (n10 _ (cE _ (inl (dA ?_))));exact dU _ (inr ⟨_,bD rfl,eS (i64.wrap (cI+1)) h⟩)
  .exact cN (bw 0 _ (aX 0 _ (bZ _ (bJ _ (inl (aS ak [R (-1)]))))))
 exact dp h λn h=>e9 n 0 h
theorem ast (a0 J a2 r) (h:AA a0 J a2=some r):aW ai 129 [ft a0,.str J,.str a2] (.tuple [.str r.1,.bool r.2]) []:=by
 refine bB [0,1,2] [.tmp 6,.tmp 7] Tryz.func129 anC λbu ak bt=>al ?_;obtain⟨aa,aU,h⟩:=aM h;refine dw (b5 [(3,.aP (ft a0)),(8,R aa)] (λP bd=>?_) ?_)
 ·(try simp only[aH.down,simprocAttr]);refine dz (ass a0.b9 J a2 _ aU) rfl rfl (by simp only[aH.down,simprocAttr,yM.down]<;>rfl) rfl (inr (by rfl)) ?_;simp only[aH.down,simprocAttr];exact bR trivial
 refine ax ak λ_ fa bQ _=>al ?_;refine aF h (λdC h=>?_) λdC h=>?_
 .exact aS bQ [.str ([]:aAc),.bool false]
 .refine aL (fa _ (inl ?_));obtain⟨ah,jt,h⟩:=aM h;refine c6 jt _ ?_;exact cK ak [.str ah.Result,.bool true]
theorem asu (a0 J r) (h:G6 a0 J=some r):aW ai 130 [ad a8 a0,ad a8 J] (.bool r) []:=by
 refine bB [0,1] [.tmp 4] Tryz.func130 c130 λbu ak bt=>al ?_;refine ax ak λ_ bJ bg ah=>al ?_;refine aF h (λbZ h=>?_) λbZ h=>?_
 .exact aS bg [.bool false]
 .refine aL (bJ _ (inl (ax ak λ_ n6 c_ _=>al ?_)));refine bj c_ λiE _ hF cp _=>?_;show bn ai (.loop ?gU) _ _;have gW:∀n tr,Dp a0 J n tr=some r->cJ ai ?gU iE (ar [(0,ad a8 a0),(1,ad a8 J),(12,R (a0.length:Int)),(13,R tr)]):=by
   refine cX λ_ gG tr h=>cW hF λ_ cE b6 du=>al ?_;refine ax b6 λ_ n11 _ eY=>aF h (λe3 h=>?_) λe3 h=>?_
   .refine aL (n11 _ (inl (ax b6 λ_ n13 fC _=>bj fC λ_ n14 ez _ _=>al ?_)));obtain⟨aa,dN,ah,ev,h⟩:=dk h;refine og (U dN ev) _ ?_;refine aF h (λgh h=>?_) λgh h=>?_
    .exact aS ez [.bool false]
    .refine aL (n14 _ (n13 _ (inl (dA ?_))));exact cE _ (inr ⟨_,bD rfl,gG (i64.wrap (tr+1)) h⟩)
   .exact cN (eY 0 _ (du 0 _ (cp _ (n6 _ (inl (aS ak [.bool true]))))))
  exact dp h λn h=>gW n 0 h
theorem asv (bo bq bp bO bM gx gF gy J a2 a3 a4 r) (h:Rg bo bq bp bO bM gx gF gy J a2 a3 a4=some r):aW ai 82 [.aP (.agg [.agg [ad bk bo,ad db bq,ad bH bp,ad aE bO,ad aE bM],ad bF gx,.ag 4 (gF.map fy),.ck (.mp gy)]),R J,R a2,ad df a3,ad df a4] (.tuple []) [.aP (.agg [.agg [ad bk r.1,ad db r.2.1,ad bH r.2.2.1,ad aE r.2.2.2.1,ad aE r.2.2.2.2.1],ad bF r.2.2.2.2.2.1,.ag 4 (r.2.2.2.2.2.2.1.map fy),.ck (.mp r.2.2.2.2.2.2.2)]),.hole,.hole,.hole,.hole]:=by
 refine bB [0,1,2,3,4] [] Tryz.func82 anE λbu ak bt=>al ?_;refine bj ak λN9 _ bg fI ah=>?_;have asw:∀n ve vf vg vh vi vj vk vl ts,tt J a2 a3 a4 n ve vf vg vh vi vj vk vl ts=some r->cJ ai ZY N9 (ar [(0,.aP (.agg [.agg [ad bk ve,ad db vf,ad bH vg,ad aE vh,ad aE vi],ad bF vj,.ag 4 (vk.map fy),.ck (.mp vl)])),(1,R J),(2,R a2),(4,ad df a4),(22,ad df a3),(23,R (a3.length:Int)),(24,R ts)]):=by
  refine cX λm3 asx ve vf vg vh vi vj vk vl ts h=>cW bg λ_ fg dt aI=>al ?_;refine ax dt λ_ dU _ aX=>aF h (λdC h=>?_) λdC h=>?_
  .refine aL (dU _ (inl (ax dt λ_ n7 eJ bw=>bj eJ λ_ n8 hF _ _=>?_)));obtain⟨aa,iI,h⟩:=aM h;refine c6 iI _ ?_;obtain⟨ah,dx,h⟩:=aM h;refine cP (Ti aa.Label _ dx) _ ?_;refine al ?_;refine bj hF λHB _ ez hG _=>?_;have asy:∀n oP oQ oR oS oT pR pS pT pc pd,wP (tt J a2 a3 a4 m3) J a2 a3 a4 aa ah n oP oQ oR oS oT pR pS pT pc pd=some r->cJ ai ZX HB (ar [(0,.aP (.agg [.agg [ad bk oP,ad db oQ,ad bH oR,ad aE oS,ad aE oT],ad bF pR,.ag 4 (pS.map fy),.ck (.mp pT)])),(1,R J),(2,R a2),(4,ad df a4),(11,.aP (df aa)),(12,.str ah.1),(13,ad a8 ah.2.1),(22,ad df a3),(23,R (a3.length:Int)),(24,R pc),(35,ad df a4),(36,R (a4.length:Int)),(37,R pd)]):=by
    refine cX λm19 asz oP oQ oR oS oT pR pS pT pc pd h=>cW ez λHS n15 gM hf=>al ?_;refine ax gM λ_ n17 _ iA=>aF h (λh5 h=>?_) λh5 h=>?_
    .refine aL (n17 _ (inl ?_));have Tl:∀Dq Dr Ds Dt Du Dv Dw Dx Dy Dz,G7 (tt J a2 a3 a4 m3) (wP (tt J a2 a3 a4 m3) J a2 a3 a4 aa ah m19) J a2 a3 a4 aa ah Dq Dr Ds Dt Du Dv Dw Dx Dy Dz=some r->bn ai ZW HS (ar [(0,.aP (.agg [.agg [ad bk Dq,ad db Dr,ad bH Ds,ad aE Dt,ad aE Du],ad bF Dv,.ag 4 (Dw.map fy),.ck (.mp Dx)])),(1,R J),(2,R a2),(4,ad df a4),(11,.aP (df aa)),(12,.str ah.1),(13,ad a8 ah.2.1),(22,ad df a3),(23,R (a3.length:Int)),(24,R Dy),(35,ad df a4),(36,R (a4.length:Int)),(37,R Dz)]):=by
      intro Dq Dr Ds Dt Du Dv Dw Dx Dy Dz h;refine dA ?_;exact n15 _ (inr ⟨_,bD rfl,asz Dq Dr Ds Dt Du Dv Dw Dx Dy (i64.wrap (Dz+1)) h⟩)
     refine ax gM λ_ n19 AM _=>bj AM λ_ n21 _ _ _=>?_;obtain⟨aI,iT,h⟩:=aM h;refine c6 iT _ ?_;obtain⟨aZ,hI,h⟩:=aM h;refine cP (Ti aI.Label _ hI) _ ?_;obtain⟨aX,qv,h⟩:=aM h;refine cP (ast (cT.mk oP oQ oR oS oT) ah.1 aZ.1 _ qv) _ ?_;rcases dL h with⟨h7,h⟩|⟨h7,h⟩
     .obtain⟨bz,H3,h⟩:=aM h;refine dw (b5 [(0,.aP (.agg [.agg [ad bk oP,ad db oQ,ad bH oR,ad aE oS,ad aE oT],ad bF pR,.ag 4 (pS.map fy),.ck (.mp pT)])),(1,R J),(2,R a2),(4,ad df a4),(11,.aP (df aa)),(12,.str ah.1),(13,ad a8 ah.2.1),(16,.aP (df aI)),(20,.str aX.1),(22,ad df a3),(23,R (a3.length:Int)),(24,R pc),(35,ad df a4),(36,R (a4.length:Int)),(37,R pd),(63,.bool bz)] (λP bd=>?_) ?_)
      ·(try simp only[aH.down,simprocAttr,h7]);refine iO (asu ah.2.1 aZ.2.1 _ H3) rfl rfl (by simp only[aH.down,simprocAttr,h7,Ly.down]<;>rfl) rfl (inr (by rfl)) ?_;simp only[aH.down,simprocAttr,h7];exact bR h7
      refine aF h (λhp h=>?_) λhp h=>?_
      .obtain⟨bw,pg,h⟩:=aM h;refine hx (b5 [(0,.aP (.agg [.agg [ad bk bw.1,ad db bw.2.1,ad bH bw.2.2.1,ad aE bw.2.2.2.1,ad aE bw.2.2.2.2.1],ad bF bw.2.2.2.2.2.1,.ag 4 (bw.2.2.2.2.2.2.1.map fy),.ck (.mp bw.2.2.2.2.2.2.2)])),(1,R J),(2,R a2),(4,ad df a4),(11,.aP (df aa)),(12,.str ah.1),(13,ad a8 ah.2.1),(22,ad df a3),(23,R (a3.length:Int)),(24,R pc),(35,ad df a4),(36,R (a4.length:Int)),(37,R pd)] (λP bd=>?_) ?_)
       ·(try simp only[aH.down,simprocAttr,(show∀s,dM ai s 39 2 [(0,.agg [R aa.Next.cy,R aa.Next.Part,ad a8 aa.Next.bP]),(1,.agg [R aI.Next.cy,R aI.Next.Part,ad a8 aI.Next.bP])]=some (.ag 3 [.agg [R aa.Next.cy,R aa.Next.Part,ad a8 aa.Next.bP],.agg [R aI.Next.cy,R aI.Next.Part,ad a8 aI.Next.bP]],s)from λs=>by kernel_rfl),LC.down,I.shares]);refine kj [⟨.h 0 [],true,_,_⟩,⟨.str aX.1,false,_,.hole⟩,⟨ad a8 ah.2.1,false,_,.hole⟩,⟨R J,false,_,.hole⟩,⟨R a2,false,_,.hole⟩,⟨.slice ([aa.Next,aI.Next].map bF),false,_,.hole⟩] (abf oP oQ oR oS oT pR pS pT aX.1 ah.2.1 J a2 [aa.Next,aI.Next] _ pg) rfl rfl rfl (by simp only[aH.down,simprocAttr,(show∀s,dM ai s 39 2 [(0,.agg [R aa.Next.cy,R aa.Next.Part,ad a8 aa.Next.bP]),(1,.agg [R aI.Next.cy,R aI.Next.Part,ad a8 aI.Next.bP])]=some (.ag 3 [.agg [R aa.Next.cy,R aa.Next.Part,ad a8 aa.Next.bP],.agg [R aI.Next.cy,R aI.Next.Part,ad a8 aI.Next.bP]],s)from λs=>by kernel_rfl),aak.down,I.shares]) rfl rfl (inl rfl) ?_;simp only[aH.down,simprocAttr,(show∀s,dM ai s 39 2 [(0,.agg [R aa.Next.cy,R aa.Next.Part,ad a8 aa.Next.bP]),(1,.agg [R aI.Next.cy,R aI.Next.Part,ad a8 aI.Next.bP])]=some (.ag 3 [.agg [R aa.Next.cy,R aa.Next.Part,ad a8 aa.Next.bP],.agg [R aI.Next.cy,R aI.Next.Part,ad a8 aI.Next.bP]],s)from λs=>by kernel_rfl),aal.down,I.shares];exact bR (U (show∀s,dM ai s 39 2 [(0,.agg [R aa.Next.cy,R aa.Next.Part,ad a8 aa.Next.bP]),(1,.agg [R aI.Next.cy,R aI.Next.Part,ad a8 aI.Next.bP])]=some (.ag 3 [.agg [R aa.Next.cy,R aa.Next.Part,ad a8 aa.Next.bP],.agg [R aI.Next.cy,R aI.Next.Part,ad a8 aI.Next.bP]],s)from λs=>by kernel_rfl) LC.down)
       exact n21 _ (n19 _ (inr ⟨_,bD rfl,Tl bw.1 bw.2.1 bw.2.2.1 bw.2.2.2.1 bw.2.2.2.2.1 bw.2.2.2.2.2.1 bw.2.2.2.2.2.2.1 bw.2.2.2.2.2.2.2 pc pd h⟩))
      .exact aL (n21 _ (n19 _ (inr ⟨_,bD rfl,Tl oP oQ oR oS oT pR pS pT pc pd h⟩)))
     .refine c6 h7 _ ?_;refine n1 rfl ?_;exact aL (n21 _ (n19 _ (inr ⟨_,bD rfl,Tl oP oQ oR oS oT pR pS pT pc pd h⟩)))
    .refine cN (iA 2 _ (hf 2 _ (hG _ (n8 _ (n7 _ (inl (dA ?_)))))));exact fg _ (inr ⟨_,bD rfl,asx oP oQ oR oS oT pR pS pT (i64.wrap (pc+1)) h⟩)
   obtain⟨n,h⟩:=ma h;exact qe (inr ⟨_,hP [] rfl (cO (t:=0) (d:=.aP (.agg [.agg [ad bk ve,ad db vf,ad bH vg,ad aE vh,ad aE vi],ad bF vj,.ag 4 (vk.map fy),.ck (.mp vl)])) rfl (cO (t:=1) (d:=R J) rfl (cO (t:=2) (d:=R a2) rfl (cO (t:=4) (d:=ad df a4) rfl (cO (t:=11) (d:=.aP (df aa)) rfl (cO (t:=12) (d:=.str ah.1) rfl (hD (t:=13) (d:=.ag 1 (ah.2.1.map a8)) (bN:=ad a8 ah.2.1) rfl rfl (ahx rfl rfl (congrArg I.slice (b0 (λ_=>j7 _) _))) (by decide) (cO (t:=22) (d:=ad df a3) rfl (cO (t:=23) (d:=R (a3.length:Int)) rfl (cO (t:=24) (d:=R ts) rfl (cO (t:=35) (d:=ad df a4) rfl (cO (t:=36) (d:=R (a4.length:Int)) rfl (cO (t:=37) (d:=R 0) rfl (hQ)))))))))))))),asy n ve vf vg vh vi vj vk vl ts 0 h⟩)
  .exact cN (aX 0 _ (aI 0 _ (fI _ (bt _ (inl (h3 [] (h0 (kl (by cases im h;rfl) rfl rfl rfl (dK (dK (dK (dK (h2)))))))))))))
 exact dp h λn h=>asw n bo bq bp bO bM gx gF gy 0 h
theorem asA (a0 J r) (h:K4 a0 J=some r):aW ai 56 [ft a0,ad bF J] (.tuple [.ag 4 (r.1.map fy),.bool r.2]) []:=by
 refine bB [0,1] [.tmp 4,.tmp 5] Tryz.func56 RY λbu ak bt=>al ?_;refine c6 (U @XZ (U (@mY ai 140 [(37,0),(39,5),(67,6),(138,7)] [(.agg [.bf,.bf,.bf,.bf,.bf]),.bf,.bf,(.ck .ky)] rfl rfl (by kernel_rfl)) (U @lY (U @lZ (U @cS (U @fW (U @List.nil_append.{0} @List.cons_append.{0}))))))) _ ?_;refine al ?_;refine ax ak λ_ fa bQ aZ=>al ?_;refine bj bQ λjB _ c_ dC bz=>?_;have AY:∀n lC rf rh ri gg oa,qs a0 J n lC rf rh ri gg oa=some r->cJ ai Z0 jB (ar [(1,ad bF J),(2,.aP (ft a0)),(6,.aP (.agg [ft lC,ad bF rf,.ag 4 (rh.map fy),.ck (.mp ri)])),(7,.ag 1 (gg.map gm)),(24,ad bF J),(25,R (J.length:Int)),(26,R oa)]):=by
  refine cX λm10 AZ lC rf rh ri gg oa h=>cW c_ λ_ n7 eJ bw=>al ?_;refine ax eJ λ_ cE _ du=>aF h (λfl h=>?_) λfl h=>?_
  .refine aL (cE _ (inl (ax eJ λ_ n11 h6 _=>bj h6 λ_ n12 j_ _ _=>?_)));obtain⟨aa,dT,h⟩:=aM h;refine c6 dT _ ?_;obtain⟨ah,cx,h⟩:=aM h;refine cP (ar5 a0.cz aa _ cx) _ ?_;refine ax j_ λ_ n17 lL _=>al ?_;refine aF h (λgh h=>?_) λgh h=>?_
   .refine al ?_;exact hc (lL _ (inr ⟨[(4,.ag 4 []),(5,.bool false)],hP [] rfl (hD (t:=4) (d:=.bf) rfl rfl (.hY _) (by decide) (cO rfl (hQ))),o8 [.ag 4 [],.bool false]⟩))
   .refine aL (n17 _ (inr ⟨[(1,ad bF J),(2,.aP (ft a0)),(6,.aP (.agg [ft lC,ad bF rf,.ag 4 (rh.map fy),.ck (.mp ri)])),(7,.ag 1 (gg.map gm)),(8,R oa),(10,ad df ah.1),(24,ad bF J),(25,R (J.length:Int)),(26,R oa),(39,.bool (!ah.2))],hP [] rfl (cO rfl (cO rfl (cO rfl (cO rfl (cO rfl (hD (t:=10) (d:=.ag 4 (ah.1.map hE)) (bN:=ad df ah.1) rfl rfl (zU rfl rfl (by simp only[cR,I.share,I.shares, @b0 _ hE df (λ_=>Hu _)]<;>rfl)) (by decide) (cO rfl (cO rfl (cO rfl (cO rfl (hQ))))))))))),?_⟩));obtain⟨apr,fz,h⟩:=aM h;(try simp only[fN.down,Nat.zero_add,Nat.add_zero,reduceAdd]at fz);refine c6 (U (show∀s,dM ai s 121 1 [(0,ad df ah.1)]=some (.ag 1 [ad df ah.1],s)from λs=>by kernel_rfl) (U (@i7 ai 121 121 122 rfl rfl) (U @i_ (U @ja (U @fW (U @i6 (U @all_nil (U fz (@ic _ gm 1 λ_=>rfl))))))))) [(1,ad bF J),(2,.aP (ft a0)),(6,.aP (.agg [ft lC,ad bF rf,.ag 4 (rh.map fy),.ck (.mp ri)])),(7,.ag 1 ((gg++[ah.1]).map gm)),(8,R oa),(10,ad df ah.1),(24,ad bF J),(25,R (J.length:Int)),(26,R oa)] ?_;refine ws [(1,ad bF J),(2,.aP (ft a0)),(6,.aP (.agg [ft lC,ad bF rf,.ag 4 (rh.map fy),.ck (.mp ri)])),(7,.ag 1 ((gg++[ah.1]).map gm)),(8,R oa),(24,ad bF J),(25,R (J.length:Int)),(26,R oa),(44,ad df ah.1),(45,R (ah.1.length:Int)),(46,R 0)] ?_;refine bj j_ λSZ _ HX hA _=>?_;have asB:∀n ng r8 r9 r_ q8 qp q9 q_,yB (qs a0 J m10) a0 J ah n ng r8 r9 r_ q8 qp q9 q_=some r->cJ ai ZZ SZ (ar [(1,ad bF J),(2,.aP (ft a0)),(6,.aP (.agg [ft ng,ad bF r8,.ag 4 (r9.map fy),.ck (.mp r_)])),(7,.ag 1 (q8.map gm)),(8,R qp),(24,ad bF J),(25,R (J.length:Int)),(26,R q9),(44,ad df ah.1),(45,R (ah.1.length:Int)),(46,R q_)]):=by
     refine cX λ_ asC ng r8 r9 r_ q8 qp q9 q_ h=>cW HX λ_ n25 pf wD=>al ?_;refine ax pf λ_ n27 _ uV=>aF h (λks h=>?_) λks h=>?_
     .refine aL (n27 _ (inl (ax pf λ_ n29 tB _=>bj tB λ_ n30 _ _ _=>?_)));obtain⟨aI,wY,h⟩:=aM h;refine c6 wY _ ?_;obtain⟨aZ,jC,h⟩:=aM h;refine l1 (b5 (K:=eM _) [(1,ad bF J),(2,.aP (ft a0)),(6,.aP (.agg [ft ng,ad bF r8,.ag 4 (r9.map fy),.ck (.mp r_)])),(7,.ag 1 (q8.map gm)),(8,R qp),(13,.aP (df aI)),(14,.str aZ.1),(15,.ag 1 (aZ.2.1.map a8)),(24,ad bF J),(25,R (J.length:Int)),(26,R q9),(44,ad df ah.1),(45,R (ah.1.length:Int)),(46,R q_)] (λP bd=>?_) (FE [(1,ad bF J),(2,.aP (ft a0)),(6,.aP (.agg [ft ng,ad bF r8,.ag 4 (r9.map fy),.ck (.mp r_)])),(7,.ag 1 (q8.map gm)),(8,R qp),(13,.aP (df aI)),(14,.str aZ.1),(15,ad a8 aZ.2.1),(24,ad bF J),(25,R (J.length:Int)),(26,R q9),(44,ad df ah.1),(45,R (ah.1.length:Int)),(46,R q_)] (hP [] rfl (cO rfl (cO rfl (cO rfl (cO rfl (cO rfl (cO rfl (cO rfl (hD (t:=15) (d:=.ag 1 (aZ.2.1.map a8)) (bN:=ad a8 aZ.2.1) rfl rfl (zU rfl rfl (by simp only[cR,I.share,I.shares, @b0 _ a8 a8 (λ_=>j7 _)]<;>rfl)) (by decide) (cO rfl (cO rfl (cO rfl (cO rfl (cO rfl (cO rfl (hQ)))))))))))))))) ?_))
      ·(try simp only[aH.down,simprocAttr]);refine dz (Ti aI.Label _ jC) (hK:= ?_);simp only[aH.down,simprocAttr];exact bR trivial
      obtain⟨aX,pZ,h⟩:=aM h;refine hx (b5 [(1,ad bF J),(2,.aP (ft a0)),(6,.aP (.agg [.agg [ad bk aX.1,ad db aX.2.1,ad bH aX.2.2.1,ad aE aX.2.2.2.1,ad aE aX.2.2.2.2.1],ad bF aX.2.2.2.2.2.1,.ag 4 (aX.2.2.2.2.2.2.1.map fy),.ck (.mp aX.2.2.2.2.2.2.2)])),(7,.ag 1 (q8.map gm)),(8,R qp),(24,ad bF J),(25,R (J.length:Int)),(26,R q9),(44,ad df ah.1),(45,R (ah.1.length:Int)),(46,R q_)] (λP bd=>?_) ?_)
      ·(try simp only[aH.down,simprocAttr,(show∀s,dM ai s 39 1 [(0,.agg [R aI.Next.cy,R aI.Next.Part,ad a8 aI.Next.bP])]=some (.ag 3 [.agg [R aI.Next.cy,R aI.Next.Part,ad a8 aI.Next.bP]],s)from λs=>by kernel_rfl),LC.down,I.shares]);refine kj [⟨.h 6 [],true,_,_⟩,⟨.str aZ.1,false,_,.hole⟩,⟨ad a8 aZ.2.1,false,_,.hole⟩,⟨R qp,false,_,.hole⟩,⟨R (-1),false,_,.hole⟩,⟨.slice ([aI.Next].map bF),false,_,.hole⟩] (abf ng.cz ng.cj ng.b9 ng.cC ng.cA r8 r9 r_ aZ.1 aZ.2.1 qp (-1) [aI.Next] _ pZ) rfl rfl rfl (by simp only[aH.down,simprocAttr,(show∀s,dM ai s 39 1 [(0,.agg [R aI.Next.cy,R aI.Next.Part,ad a8 aI.Next.bP])]=some (.ag 3 [.agg [R aI.Next.cy,R aI.Next.Part,ad a8 aI.Next.bP]],s)from λs=>by kernel_rfl),aak.down,I.shares]) rfl rfl (inl rfl) ?_;simp only[aH.down,simprocAttr,(show∀s,dM ai s 39 1 [(0,.agg [R aI.Next.cy,R aI.Next.Part,ad a8 aI.Next.bP])]=some (.ag 3 [.agg [R aI.Next.cy,R aI.Next.Part,ad a8 aI.Next.bP]],s)from λs=>by kernel_rfl),aal.down,I.shares];exact bR (U (show∀s,dM ai s 39 1 [(0,.agg [R aI.Next.cy,R aI.Next.Part,ad a8 aI.Next.bP])]=some (.ag 3 [.agg [R aI.Next.cy,R aI.Next.Part,ad a8 aI.Next.bP]],s)from λs=>by kernel_rfl) LC.down)
      refine n30 _ (n29 _ (inl (dA ?_)));exact n25 _ (inr ⟨_,bD rfl,asC (cT.mk aX.1 aX.2.1 aX.2.2.1 aX.2.2.2.1 aX.2.2.2.2.1) aX.2.2.2.2.2.1 aX.2.2.2.2.2.2.1 aX.2.2.2.2.2.2.2 q8 qp q9 (i64.wrap (q_+1)) h⟩)
     .refine cN (uV 2 _ (wD 2 _ (hA _ (n12 _ (n11 _ (inl (dA ?_)))))));exact n7 _ (inr ⟨_,bD rfl,AZ ng r8 r9 r_ q8 (i64.wrap (q9+1)) h⟩)
    exact dp h λn h=>asB n lC rf rh ri (gg++[ah.1]) oa oa 0 h
  .refine cN (du 0 _ (bw 0 _ (dC _ (fa _ (inl (ax ak λ_ n39 vt _=>al ?_))))));refine bj vt λHM _ vu tD _=>?_;have HN:∀n yC yD sa yE yF re,wQ J n yC yD sa yE yF re=some r->cJ ai Z2 HM (ar [(1,ad bF J),(6,.aP (.agg [ft yC,ad bF yD,.ag 4 (sa.map fy),.ck (.mp yE)])),(7,.ag 1 (yF.map gm)),(68,R (J.length:Int)),(69,R re)]):=by
    refine cX λasD HO yC yD sa yE yF re h=>cW vu λ_ n42 yR AV=>al ?_;refine ax yR λ_ n44 _ HZ=>aF h (λAW h=>?_) λAW h=>?_
    .refine aL (n44 _ (inl (ax yR λ_ n46 wX _=>bj wX λ_ n47 sl _ _=>al ?_)));refine al ?_;refine bj sl λasE _ Tb qy _=>?_;have asF:∀n n_ vm vn vo ra rb qq tu,AB (wQ J asD) J n n_ vm vn vo ra rb qq tu=some r->cJ ai Z1 asE (ar [(1,ad bF J),(6,.aP (.agg [ft n_,ad bF vm,.ag 4 (vn.map fy),.ck (.mp vo)])),(7,.ag 1 (ra.map gm)),(17,R rb),(18,R qq),(68,R (J.length:Int)),(69,R tu)]):=by
      refine cX λ_ asG n_ vm vn vo ra rb qq tu h=>cW Tb λ_ n51 LN asH=>ax LN λ_ n52 _ asI=>al ?_;refine aF h (λTm h=>?_) λTm h=>?_
      .refine aL (n52 _ (inl (ax LN λ_ LP asJ _=>bj asJ λ_ asK _ _ _=>?_)));obtain⟨bz,om,bw,ss,cD,ph,h⟩:=iQ h;refine OC rfl (iN [(1,ad bF J),(6,.aP (.agg [.agg [ad bk cD.1,ad db cD.2.1,ad bH cD.2.2.1,ad aE cD.2.2.2.1,ad aE cD.2.2.2.2.1],ad bF cD.2.2.2.2.2.1,.ag 4 (cD.2.2.2.2.2.2.1.map fy),.ck (.mp cD.2.2.2.2.2.2.2)])),(7,.ag 1 (ra.map gm)),(17,R rb),(18,R qq),(68,R (J.length:Int)),(69,R tu)] (λP bd=>?_) ?_)
       ·(try simp only[dh.down,simprocAttr,om,b2 om,ss,b2 ss]);refine OL [⟨.h 6 [],true,_,_⟩,⟨R rb,false,_,.hole⟩,⟨R qq,false,_,.hole⟩,⟨ad df bz,false,_,.hole⟩,⟨ad df bw,false,_,.hole⟩] (asv n_.cz n_.cj n_.b9 n_.cC n_.cA vm vn vo rb qq bz bw _ ph) rfl rfl rfl (by simp only[dh.down,simprocAttr,om,b2 om,ss,b2 ss,l0,kX,kk,gQ,gR,gS,cR,or_true,true_or, @b0 _ bk bk (λ_=>sc _), @b0 _ db db (λ_=>yI _), @b0 _ bH bH (λ_=>pU _), @b0 _ aE aE (λ_=>jz _), @b0 _ aE aE (λ_=>jz _), @b0 _ bF bF (λ_=>wR _), @b0 _ fy f_ (λ_=>Zk _)]) rfl rfl (inl rfl) ?_;simp only[dh.down,simprocAttr,om,b2 om,ss,b2 ss,jI];refine⟨hS (by kernel_rfl),?_⟩;exact bR (U om (U (b2 om) (U ss (b2 ss))))
       refine asK _ (LP _ (inl (dA ?_)));exact n51 _ (inr ⟨_,bD rfl,asG (cT.mk cD.1 cD.2.1 cD.2.2.1 cD.2.2.2.1 cD.2.2.2.2.1) cD.2.2.2.2.2.1 cD.2.2.2.2.2.2.1 cD.2.2.2.2.2.2.2 ra rb (i64.wrap (qq+1)) tu h⟩)
      .refine cN (asI 6 _ (asH 6 _ (qy _ (n47 _ (n46 _ (inl (dA ?_)))))));exact n42 _ (inr ⟨_,bD rfl,HO n_ vm vn vo ra (i64.wrap (tu+1)) h⟩)
     exact dp h λn h=>asF n yC yD sa yE yF re (i64.wrap (re+1)) re h
    .refine cN (HZ 4 _ (AV 4 _ (tD _ (n39 _ (inl (og @XY _ ?_))))));exact hc (ak _ (inl (Xw 4 [.ag 4 (sa.map fy),.bool (decide ((sa.length:Int)<=200))])))
   exact dp h λn h=>HN n lC rf rh ri gg 0 h
 obtain⟨n,h⟩:=ma h;exact qe (inr ⟨_,hP [] rfl (cO (t:=1) (d:=ad bF J) rfl (cO (t:=2) (d:=.aP (ft a0)) rfl (hD (t:=6) (d:=.aP (.agg [ft a0,ad bF J,.bf,.ck (.mp [])])) (bN:=.aP (.agg [ft a0,ad bF J,.ag 4 [],.ck (.mp [])])) rfl rfl (.aP (.agg (.cons (.refl _) (.cons (.refl _) (.cons (.hY _) (.cons (.refl _) (.nil))))))) (by decide) (hD (t:=7) (d:=.bf) (bN:=.ag 1 []) rfl rfl (.hY _) (by decide) (cO (t:=24) (d:=ad bF J) rfl (cO (t:=25) (d:=R (J.length:Int)) rfl (cO (t:=26) (d:=R 0) rfl (hQ)))))))),AY n a0 J [] [] [] 0 h⟩)
theorem asL (a0 J r) (h:Rk a0 J=some r):aW ai 31 [ft a0,ad bF J] (.tuple [.ag 4 (r.1.map fy),R r.2]) []:=by
 refine bB [0,1] [.tmp 4,.tmp 5] Tryz.func31 c31 λbu ak bt=>al ?_;refine ax ak λ_ bJ bg ah=>?_;obtain⟨aa,b_,h⟩:=aM h;refine cP (arI a0 J _ b_) _ ?_;refine aF h (λc7 h=>?_) λc7 h=>?_
 .refine al ?_;exact hc (bg _ (inr ⟨[(4,.ag 4 []),(5,R 1)],hP [] rfl (hD (t:=4) (d:=.bf) rfl rfl (.hY _) (by decide) (cO rfl (hQ))),o8 [.ag 4 [],R 1]⟩))
 .refine aL (bJ _ (inl ?_));obtain⟨ah,fH,h⟩:=aM h;refine cP (asA a0 J _ fH) _ ?_;refine ax ak λ_ cE b6 _=>al ?_;refine aF h (λnK h=>?_) λnK h=>?_
  .refine al ?_;exact hc (b6 _ (inr ⟨[(4,.ag 4 []),(5,R 5)],hP [] rfl (hD (t:=4) (d:=.bf) rfl rfl (.hY _) (by decide) (cO rfl (hQ))),o8 [.ag 4 [],R 5]⟩))
  .exact aL (cE _ (inl (aS ak [.ag 4 (ah.1.map fy),R 0])))
theorem asM (a0 r:aAb) (h:G_ a0=some r):aW ai 32 [.ag 1 (a0.map aE),.fn 33 []] (.tuple []) [.ag 1 (r.map aE),.hole]:=aov a0 r h
theorem asN (a0 r:aAb) (h:K5 a0=some r):aW ai 34 [.ag 1 (a0.map aE)] (.ag 1 (r.map aE)) [.hole]:=aoa a0 r h
theorem abg (a0 J r) (h:Ha a0 J=some r):aW ai 9 [ft a0,ad bF J] (.tuple [.ag 1 (r.1.map aE),R r.2]) []:=by
 refine bB [0,1] [.tmp 4,.tmp 5] Tryz.func9 c9 λbu ak bt=>al ?_;obtain⟨aa,aU,h⟩:=aM h;refine cP (asL a0 J _ aU) _ ?_;refine ax ak λ_ fa bQ aZ=>al ?_;refine aF h (λdC h=>?_) λdC h=>?_
 .refine al ?_;exact hc (bQ _ (inr ⟨[(4,.ag 1 []),(5,R aa.2)],hP [] rfl (hD (t:=4) (d:=.bf) rfl rfl (.hY _) (by decide) (cO rfl (hQ))),o8 [.ag 1 [],R aa.2]⟩))
 .refine aL (fa _ (inl (al ?_)));refine ax ak λ_ cE b6 _=>al ?_;refine bj b6 λSL _ h6 nK _=>?_;show bn ai (.loop ?RQ) _ _;have asO:∀n sb qt oc,AD aa n sb qt oc=some r->cJ ai ?RQ SL (ar [(6,.ag 4 (sb.map wS)),(8,.ag 1 (qt.map aE)),(20,.h 6 []),(21,R (aa.1.length:Int)),(22,R oc)]):=by
   refine cX λ_ asP sb qt oc h=>cW h6 λ_ n12 j_ jj=>al ?_;refine ax j_ λ_ n14 _ iy=>aF h (λeZ h=>?_) λeZ h=>?_
   .refine aL (n14 _ (inl (ax j_ λ_ n16 nj _=>bj nj λ_ n17 _ _ _=>?_)));obtain⟨ah,eN,aaL,fK,h⟩:=dk h;refine dw (b5 [(6,.ag 4 ((List.set sb (Int.toNat oc) (true,ah.2)).map wS)),(8,.ag 1 (qt.map aE)),(10,.aP (fy ah.2)),(20,.h 6 []),(21,R (aa.1.length:Int)),(22,R oc)] (λP bd=>?_) ?_)
    .simp only[aH.down,simprocAttr,eN,b2 eN,RP,Zl,(Zm fK)];exact bR (U eN (U (b2 eN) (U @RP (U @Zl (Zm fK)))))
    obtain⟨aaL,fz,h⟩:=aM h;(try simp only[fN.down,Nat.zero_add,Nat.add_zero,reduceAdd]at fz);refine pV (U (show∀s,dM ai s 25 1 [(0,.str ah.2.Label)]=some (.ag 1 [.str ah.2.Label],s)from λs=>by kernel_rfl) (U (@i7 ai 25 25 9 rfl rfl) (U @i_ (U @ja (U @fW (U @i6 (U @all_nil (U fz (@ic _ aE 1 λ_=>rfl))))))))) [(6,.ag 4 ((List.set sb (Int.toNat oc) (true,ah.2)).map wS)),(8,.ag 1 ((qt++[ah.2.Label]).map aE)),(20,.h 6 []),(21,R (aa.1.length:Int)),(22,R oc)] ?_;refine n17 _ (n16 _ (inl (wr [(6,.ag 4 ((List.set sb (Int.toNat oc) (true,ah.2)).map wS)),(8,.ag 1 ((qt++[ah.2.Label]).map aE)),(20,.h 6 []),(21,R (aa.1.length:Int)),(22,R (i64.wrap (oc+1)))] ?_)));exact n12 _ (inr ⟨_,bD rfl,asP (List.set sb (Int.toNat oc) (true,ah.2)) (qt++[ah.2.Label]) (i64.wrap (oc+1)) h⟩)
   .refine cN (iy 0 _ (jj 0 _ (nK _ (cE _ (inl ?_)))));obtain⟨aI,hI,h⟩:=aM h;refine dw (b5 [(8,.ag 1 (aI.map aE))] (λP bd=>?_) ?_)
    ·(try simp only[aH.down,simprocAttr]);refine kj [⟨.h 8 [],true,_,_⟩,⟨.fn 33 [],false,_,.hole⟩] (asM qt _ hI) rfl rfl rfl (by simp only[aH.down,simprocAttr,Sc.down]) rfl rfl (inl rfl) ?_;simp only[aH.down,simprocAttr,jI];exact bR trivial
    obtain⟨aZ,qv,h⟩:=aM h;refine dw (b5 [(4,.ag 1 (aZ.map aE)),(5,R 0)] (λP bd=>?_) ?_)
    ·(try simp only[aH.down,simprocAttr]);refine kj [⟨.h 8 [],true,_,.hole⟩] (asN aI _ qv) rfl rfl rfl (by simp only[aH.down,simprocAttr,Sc.down]) rfl rfl (inl rfl) ?_;simp only[aH.down,simprocAttr,jI];exact bR trivial
    exact cK ak [.ag 1 (aZ.map aE),R 0]
  obtain⟨n,h⟩:=ma h;exact qe (inr ⟨_,aht [6] [] rfl rfl (ahw (t:=6) (d:=.ag 4 (aa.1.map fy)) (bN:=.ag 4 ((List.map (λx=>(false,x)) aa.1).map wS)) rfl rfl (ai1 RP _) rfl rfl (by decide) (ahv (t:=8) (d:=.bf) (bN:=.ag 1 []) rfl rfl (.hY _) (by decide) (OG (t:=20) (d:=.h 6 []) rfl (OG (t:=21) (d:=R (aa.1.length:Int)) rfl (OG (t:=22) (d:=R 0) rfl (ahu)))))),asO n (List.map (λx=>(false,x)) aa.1) [] 0 h⟩)
theorem yX (a0 J r) (h:yH a0 J=some r):aW ai 10 [ad aE a0,ad aE J] (.bool r) []:=by
 refine bB [0,1] [.tmp 4] Tryz.func10 AH λbu ak bt=>al ?_;refine ax ak λ_ bJ bg ah=>al ?_;refine aF h (λbZ h=>?_) λbZ h=>?_
 .exact aS bg [.bool false]
 .refine aL (bJ _ (inl (ax ak λ_ n6 c_ _=>al ?_)));refine bj c_ λiE _ hF cp _=>?_;show bn ai (.loop ?gU) _ _;have gW:∀n ct,Rm a0 J n ct=some r->cJ ai ?gU iE (ar [(0,ad aE a0),(1,ad aE J),(5,R ct)]):=by
   refine cX λ_ gG ct h=>cW hF λ_ cE b6 du=>ax b6 λ_ n10 _ dH=>al ?_;refine aF h (λe3 h=>?_) λe3 h=>?_
   .refine aL (n10 _ (inl (ax b6 λ_ n13 fC _=>bj fC λ_ n14 ez _ _=>?_)));obtain⟨aa,cx,ah,dN,h⟩:=dk h;refine og (U cx dN) _ ?_;refine aF h (λh5 h=>?_) λh5 h=>?_
    .exact aS ez [.bool false]
    .refine aL (n14 _ (n13 _ (inl (dA ?_))));exact cE _ (inr ⟨_,bD rfl,gG (i64.wrap (ct+1)) h⟩)
   .exact cN (dH 0 _ (du 0 _ (cp _ (n6 _ (inl (aS ak [.bool true]))))))
  exact dp h λn h=>gW n 0 h
theorem asQ (a0 J r) (h:Hb a0 J=some r):aW ai 250 [dY a0,dY J] (.bool r) []:=by
 refine bB [0,1] [.tmp 4] Tryz.func250 anI λbu ak bt=>al ?_;refine ax ak λ_ bJ bg _=>al ?_;refine aF h (λbZ h=>?_) λbZ h=>?_
 .exact aS bg [.bool false]
 .refine aL (bJ _ (inl (ax ak λ_ n6 c_ _=>al ?_)));refine aF h (λcp h=>?_) λcp h=>?_
  .exact aS c_ [.bool false]
  .exact aL (n6 _ (inl (aS ak [.bool true])))
theorem asR (a0 J r) (h:Hc a0 J=some r):aW ai 216 [ad dY a0,ad dY J] (.bool r) []:=by
 refine bB [0,1] [.tmp 4] Tryz.func216 anJ λbu ak bt=>al ?_;refine ax ak λ_ bJ bg ah=>al ?_;refine aF h (λbZ h=>?_) λbZ h=>?_
 .exact aS bg [.bool false]
 .refine aL (bJ _ (inl (ax ak λ_ n6 c_ _=>al ?_)));refine bj c_ λiE _ hF cp _=>?_;show bn ai (.loop ?gU) _ _;have gW:∀n ct,Rn a0 J n ct=some r->cJ ai ?gU iE (ar [(0,ad dY a0),(1,ad dY J),(5,R ct)]):=by
   refine cX λ_ gG ct h=>cW hF λ_ cE b6 du=>ax b6 λ_ n10 _ dH=>al ?_;refine aF h (λe3 h=>?_) λe3 h=>?_
   .refine aL (n10 _ (inl (ax b6 λ_ n13 fC _=>bj fC λ_ n14 ez _ _=>?_)));obtain⟨aa,cx,ah,dN,aI,ev,h⟩:=iQ h;refine mn (U cx dN) (asQ aa ah _ ev) _ ?_;refine aF h (λgh h=>?_) λgh h=>?_
    .exact aS ez [.bool false]
    .refine aL (n14 _ (n13 _ (inl (dA ?_))));exact cE _ (inr ⟨_,bD rfl,gG (i64.wrap (ct+1)) h⟩)
   .exact cN (dH 0 _ (du 0 _ (cp _ (n6 _ (inl (aS ak [.bool true]))))))
  exact dp h λn h=>gW n 0 h
theorem asS (a0 J r) (h:K6 a0 J=some r):aW ai 183 [ad jb a0,ad jb J] (.bool r) []:=by
 refine bB [0,1] [.tmp 4] Tryz.func183 c183 λbu ak bt=>al ?_;refine ax ak λ_ bJ bg ah=>al ?_;refine aF h (λbZ h=>?_) λbZ h=>?_
 .exact aS bg [.bool false]
 .refine aL (bJ _ (inl (ax ak λ_ n6 c_ _=>al ?_)));refine bj c_ λiE _ hF cp _=>?_;show bn ai (.loop ?gU) _ _;have gW:∀n ct,Ro a0 J n ct=some r->cJ ai ?gU iE (ar [(0,ad jb a0),(1,ad jb J),(5,R ct)]):=by
   refine cX λ_ gG ct h=>cW hF λ_ cE b6 du=>ax b6 λ_ n10 _ dH=>al ?_;refine aF h (λe3 h=>?_) λe3 h=>?_
   .refine aL (n10 _ (inl (ax b6 λ_ n13 fC _=>bj fC λ_ n14 ez _ _=>?_)));obtain⟨aa,cx,ah,dN,aI,ev,h⟩:=iQ h;refine mn (U cx dN) (asR aa ah _ ev) _ ?_;refine aF h (λgh h=>?_) λgh h=>?_
    .exact aS ez [.bool false]
    .refine aL (n14 _ (n13 _ (inl (dA ?_))));exact cE _ (inr ⟨_,bD rfl,gG (i64.wrap (ct+1)) h⟩)
   .exact cN (dH 0 _ (du 0 _ (cp _ (n6 _ (inl (aS ak [.bool true]))))))
  exact dp h λn h=>gW n 0 h
theorem asT (a0 J r) (h:Hd a0 J=some r):aW ai 137 [eu a0,eu J] (.bool r) []:=by
 refine bB [0,1] [.tmp 4] Tryz.func137 anK λbu ak bt=>al ?_;refine ax ak λ_ bJ bg _=>al ?_;refine aF h (λbZ h=>?_) λbZ h=>?_
 .exact aS bg [.bool false]
 .refine aL (bJ _ (inl (ax ak λ_ n6 c_ _=>al ?_)));refine aF h (λcp h=>?_) λcp h=>?_
  .exact aS c_ [.bool false]
  .refine aL (n6 _ (inl (ax ak λ_ n10 cQ _=>al ?_)));refine aF h (λe3 h=>?_) λe3 h=>?_
   .exact aS cQ [.bool false]
   .refine aL (n10 _ (inl (ax ak λ_ n14 ez _=>?_)));obtain⟨aa,cx,h⟩:=aM h;refine cP (asS a0.cm J.cm _ cx) _ ?_;refine aF h (λkr h=>?_) λkr h=>?_
    .exact aS ez [.bool false]
    .exact aL (n14 _ (inl (aS ak [.bool true])))
theorem asU (a0 J r) (h:K7 a0 J=some r):aW ai 94 [ad eu a0,ad eu J] (.bool r) []:=by
 refine bB [0,1] [.tmp 4] Tryz.func94 anL λbu ak bt=>al ?_;refine ax ak λ_ bJ bg ah=>al ?_;refine aF h (λbZ h=>?_) λbZ h=>?_
 .exact aS bg [.bool false]
 .refine aL (bJ _ (inl (ax ak λ_ n6 c_ _=>al ?_)));refine bj c_ λiE _ hF cp _=>?_;show bn ai (.loop ?gU) _ _;have gW:∀n ct,Rp a0 J n ct=some r->cJ ai ?gU iE (ar [(0,ad eu a0),(1,ad eu J),(5,R ct)]):=by
   refine cX λ_ gG ct h=>cW hF λ_ cE b6 du=>ax b6 λ_ n10 _ dH=>al ?_;refine aF h (λe3 h=>?_) λe3 h=>?_
   .refine aL (n10 _ (inl (ax b6 λ_ n13 fC _=>bj fC λ_ n14 ez _ _=>?_)));obtain⟨aa,cx,ah,dN,aI,ev,h⟩:=iQ h;refine mn (U cx dN) (asT aa ah _ ev) _ ?_;refine aF h (λgh h=>?_) λgh h=>?_
    .exact aS ez [.bool false]
    .refine aL (n14 _ (n13 _ (inl (dA ?_))));exact cE _ (inr ⟨_,bD rfl,gG (i64.wrap (ct+1)) h⟩)
   .exact cN (dH 0 _ (du 0 _ (cp _ (n6 _ (inl (aS ak [.bool true]))))))
  exact dp h λn h=>gW n 0 h
theorem asV (a0 J r) (h:He a0 J=some r):aW ai 60 [bk a0,bk J] (.bool r) []:=by
 refine bB [0,1] [.tmp 4] Tryz.func60 anM λbu ak bt=>al ?_;refine ax ak λ_ bJ bg _=>al ?_;refine aF h (λbZ h=>?_) λbZ h=>?_
 .exact aS bg [.bool false]
 .refine aL (bJ _ (inl (ax ak λ_ n6 c_ _=>al ?_)));refine aF h (λcp h=>?_) λcp h=>?_
  .exact aS c_ [.bool false]
  .refine aL (n6 _ (inl (ax ak λ_ n10 cQ _=>?_)));obtain⟨aa,dx,h⟩:=aM h;refine cP (asU a0.Body J.Body _ dx) _ ?_;refine aF h (λfh h=>?_) λfh h=>?_
   .exact aS cQ [.bool false]
   .exact aL (n10 _ (inl (aS ak [.bool true])))
theorem asW (a0 J r) (h:K8 a0 J=some r):aW ai 35 [ad bk a0,ad bk J] (.bool r) []:=by
 refine bB [0,1] [.tmp 4] Tryz.func35 anN λbu ak bt=>al ?_;refine ax ak λ_ bJ bg ah=>al ?_;refine aF h (λbZ h=>?_) λbZ h=>?_
 .exact aS bg [.bool false]
 .refine aL (bJ _ (inl (ax ak λ_ n6 c_ _=>al ?_)));refine bj c_ λiE _ hF cp _=>?_;show bn ai (.loop ?gU) _ _;have gW:∀n ct,Rq a0 J n ct=some r->cJ ai ?gU iE (ar [(0,ad bk a0),(1,ad bk J),(5,R ct)]):=by
   refine cX λ_ gG ct h=>cW hF λ_ cE b6 du=>ax b6 λ_ n10 _ dH=>al ?_;refine aF h (λe3 h=>?_) λe3 h=>?_
   .refine aL (n10 _ (inl (ax b6 λ_ n13 fC _=>bj fC λ_ n14 ez _ _=>?_)));obtain⟨aa,cx,ah,dN,aI,ev,h⟩:=iQ h;refine mn (U cx dN) (asV aa ah _ ev) _ ?_;refine aF h (λgh h=>?_) λgh h=>?_
    .exact aS ez [.bool false]
    .refine aL (n14 _ (n13 _ (inl (dA ?_))));exact cE _ (inr ⟨_,bD rfl,gG (i64.wrap (ct+1)) h⟩)
   .exact cN (dH 0 _ (du 0 _ (cp _ (n6 _ (inl (aS ak [.bool true]))))))
  exact dp h λn h=>gW n 0 h
theorem abh (a0 J r) (h:Hf a0 J=some r):aW ai 63 [ad a8 a0,ad a8 J] (.bool r) []:=by
 refine bB [0,1] [.tmp 4] Tryz.func63 anO λbu ak bt=>al ?_;refine ax ak λ_ bJ bg ah=>al ?_;refine aF h (λbZ h=>?_) λbZ h=>?_
 .exact aS bg [.bool false]
 .refine aL (bJ _ (inl (ax ak λ_ n6 c_ _=>al ?_)));refine bj c_ λiE _ hF cp _=>?_;show bn ai (.loop ?gU) _ _;have gW:∀n ct,Rr a0 J n ct=some r->cJ ai ?gU iE (ar [(0,ad a8 a0),(1,ad a8 J),(5,R ct)]):=by
   refine cX λ_ gG ct h=>cW hF λ_ cE b6 du=>ax b6 λ_ n10 _ dH=>al ?_;refine aF h (λe3 h=>?_) λe3 h=>?_
   .refine aL (n10 _ (inl (ax b6 λ_ n13 fC _=>bj fC λ_ n14 ez _ _=>?_)));obtain⟨aa,cx,ah,dN,h⟩:=dk h;refine og (U cx dN) _ ?_;refine aF h (λh5 h=>?_) λh5 h=>?_
    .exact aS ez [.bool false]
    .refine aL (n14 _ (n13 _ (inl (dA ?_))));exact cE _ (inr ⟨_,bD rfl,gG (i64.wrap (ct+1)) h⟩)
   .exact cN (dH 0 _ (du 0 _ (cp _ (n6 _ (inl (aS ak [.bool true]))))))
  exact dp h λn h=>gW n 0 h
theorem asX (a0 J r) (h:Hg a0 J=some r):aW ai 61 [db a0,db J] (.bool r) []:=by
 refine bB [0,1] [.tmp 4] Tryz.func61 anP λbu ak bt=>al ?_;refine ax ak λ_ bJ bg _=>al ?_;refine aF h (λbZ h=>?_) λbZ h=>?_
 .exact aS bg [.bool false]
 .refine aL (bJ _ (inl (ax ak λ_ n6 c_ _=>?_)));obtain⟨aa,fH,h⟩:=aM h;refine cP (abh a0.bP J.bP _ fH) _ ?_;refine aF h (λe4 h=>?_) λe4 h=>?_
  .exact aS c_ [.bool false]
  .exact aL (n6 _ (inl (aS ak [.bool true])))
theorem asY (a0 J r) (h:K9 a0 J=some r):aW ai 36 [ad db a0,ad db J] (.bool r) []:=by
 refine bB [0,1] [.tmp 4] Tryz.func36 anQ λbu ak bt=>al ?_;refine ax ak λ_ bJ bg ah=>al ?_;refine aF h (λbZ h=>?_) λbZ h=>?_
 .exact aS bg [.bool false]
 .refine aL (bJ _ (inl (ax ak λ_ n6 c_ _=>al ?_)));refine bj c_ λiE _ hF cp _=>?_;show bn ai (.loop ?gU) _ _;have gW:∀n ct,Rs a0 J n ct=some r->cJ ai ?gU iE (ar [(0,ad db a0),(1,ad db J),(5,R ct)]):=by
   refine cX λ_ gG ct h=>cW hF λ_ cE b6 du=>ax b6 λ_ n10 _ dH=>al ?_;refine aF h (λe3 h=>?_) λe3 h=>?_
   .refine aL (n10 _ (inl (ax b6 λ_ n13 fC _=>bj fC λ_ n14 ez _ _=>?_)));obtain⟨aa,cx,ah,dN,aI,ev,h⟩:=iQ h;refine mn (U cx dN) (asX aa ah _ ev) _ ?_;refine aF h (λgh h=>?_) λgh h=>?_
    .exact aS ez [.bool false]
    .refine aL (n14 _ (n13 _ (inl (dA ?_))));exact cE _ (inr ⟨_,bD rfl,gG (i64.wrap (ct+1)) h⟩)
   .exact cN (dH 0 _ (du 0 _ (cp _ (n6 _ (inl (aS ak [.bool true]))))))
  exact dp h λn h=>gW n 0 h
theorem asZ (a0 J r) (h:Hh a0 J=some r):aW ai 62 [bH a0,bH J] (.bool r) []:=by
 refine bB [0,1] [.tmp 4] Tryz.func62 anR λbu ak bt=>al ?_;refine ax ak λ_ bJ bg _=>al ?_;refine aF h (λbZ h=>?_) λbZ h=>?_
 .exact aS bg [.bool false]
 .refine aL (bJ _ (inl (ax ak λ_ n6 c_ _=>al ?_)));refine aF h (λcp h=>?_) λcp h=>?_
  .exact aS c_ [.bool false]
  .refine aL (n6 _ (inl (ax ak λ_ n10 cQ _=>al ?_)));refine aF h (λe3 h=>?_) λe3 h=>?_
   .exact aS cQ [.bool false]
   .exact aL (n10 _ (inl (aS ak [.bool true])))
theorem as0 (a0 J r) (h:K_ a0 J=some r):aW ai 37 [ad bH a0,ad bH J] (.bool r) []:=by
 refine bB [0,1] [.tmp 4] Tryz.func37 c37 λbu ak bt=>al ?_;refine ax ak λ_ bJ bg ah=>al ?_;refine aF h (λbZ h=>?_) λbZ h=>?_
 .exact aS bg [.bool false]
 .refine aL (bJ _ (inl (ax ak λ_ n6 c_ _=>al ?_)));refine bj c_ λiE _ hF cp _=>?_;show bn ai (.loop ?gU) _ _;have gW:∀n ct,Rt a0 J n ct=some r->cJ ai ?gU iE (ar [(0,ad bH a0),(1,ad bH J),(5,R ct)]):=by
   refine cX λ_ gG ct h=>cW hF λ_ cE b6 du=>ax b6 λ_ n10 _ dH=>al ?_;refine aF h (λe3 h=>?_) λe3 h=>?_
   .refine aL (n10 _ (inl (ax b6 λ_ n13 fC _=>bj fC λ_ n14 ez _ _=>?_)));obtain⟨aa,cx,ah,dN,aI,ev,h⟩:=iQ h;refine mn (U cx dN) (asZ aa ah _ ev) _ ?_;refine aF h (λgh h=>?_) λgh h=>?_
    .exact aS ez [.bool false]
    .refine aL (n14 _ (n13 _ (inl (dA ?_))));exact cE _ (inr ⟨_,bD rfl,gG (i64.wrap (ct+1)) h⟩)
   .exact cN (dH 0 _ (du 0 _ (cp _ (n6 _ (inl (aS ak [.bool true]))))))
  exact dp h λn h=>gW n 0 h
theorem as1 (a0 J r) (h:Hi a0 J=some r):aW ai 11 [ft a0,ft J] (.bool r) []:=by
 refine bB [0,1] [.tmp 4] Tryz.func11 anS λbu ak bt=>al ?_;refine ax ak λ_ bJ bg ah=>?_;obtain⟨aa,b_,h⟩:=aM h;refine cP (asW a0.cz J.cz _ b_) _ ?_;refine aF h (λc7 h=>?_) λc7 h=>?_
 .exact aS bg [.bool false]
 .refine aL (bJ _ (inl (ax ak λ_ n7 eJ _=>?_)));obtain⟨ah,jt,h⟩:=aM h;refine cP (asY a0.cj J.cj _ jt) _ ?_;refine aF h (λfl h=>?_) λfl h=>?_
  .exact aS eJ [.bool false]
  .refine aL (n7 _ (inl (ax ak λ_ n12 j_ _=>?_)));obtain⟨aI,dT,h⟩:=aM h;refine cP (as0 a0.b9 J.b9 _ dT) _ ?_;refine aF h (λeZ h=>?_) λeZ h=>?_
   .exact aS j_ [.bool false]
   .refine aL (n12 _ (inl (ax ak λ_ n17 lL _=>?_)));obtain⟨aZ,eN,h⟩:=aM h;refine cP (yX a0.cC J.cC _ eN) _ ?_;refine aF h (λfX h=>?_) λfX h=>?_
    .exact aS lL [.bool false]
    .refine aL (n17 _ (inl (ax ak λ_ n22 oi _=>?_)));obtain⟨aX,lM,h⟩:=aM h;refine cP (yX a0.cA J.cA _ lM) _ ?_;refine aF h (λrl h=>?_) λrl h=>?_
     .exact aS oi [.bool false]
     .exact aL (n22 _ (inl (aS ak [.bool true])))
theorem as2 (a0 J r) (h:Hj a0 J=some r):aW ai 38 [bF a0,bF J] (.bool r) []:=by
 refine bB [0,1] [.tmp 4] Tryz.func38 anT λbu ak bt=>al ?_;refine ax ak λ_ bJ bg _=>al ?_;refine aF h (λbZ h=>?_) λbZ h=>?_
 .exact aS bg [.bool false]
 .refine aL (bJ _ (inl (ax ak λ_ n6 c_ _=>al ?_)));refine aF h (λcp h=>?_) λcp h=>?_
  .exact aS c_ [.bool false]
  .refine aL (n6 _ (inl (ax ak λ_ n10 cQ _=>?_)));obtain⟨aa,dx,h⟩:=aM h;refine cP (abh a0.bP J.bP _ dx) _ ?_;refine aF h (λfh h=>?_) λfh h=>?_
   .exact aS cQ [.bool false]
   .exact aL (n10 _ (inl (aS ak [.bool true])))
theorem as3 (a0 J r) (h:La a0 J=some r):aW ai 12 [ad bF a0,ad bF J] (.bool r) []:=by
 refine bB [0,1] [.tmp 4] Tryz.func12 c12 λbu ak bt=>al ?_;refine ax ak λ_ bJ bg ah=>al ?_;refine aF h (λbZ h=>?_) λbZ h=>?_
 .exact aS bg [.bool false]
 .refine aL (bJ _ (inl (ax ak λ_ n6 c_ _=>al ?_)));refine bj c_ λiE _ hF cp _=>?_;show bn ai (.loop ?gU) _ _;have gW:∀n ct,Ru a0 J n ct=some r->cJ ai ?gU iE (ar [(0,ad bF a0),(1,ad bF J),(5,R ct)]):=by
   refine cX λ_ gG ct h=>cW hF λ_ cE b6 du=>ax b6 λ_ n10 _ dH=>al ?_;refine aF h (λe3 h=>?_) λe3 h=>?_
   .refine aL (n10 _ (inl (ax b6 λ_ n13 fC _=>bj fC λ_ n14 ez _ _=>?_)));obtain⟨aa,cx,ah,dN,aI,ev,h⟩:=iQ h;refine mn (U cx dN) (as2 aa ah _ ev) _ ?_;refine aF h (λgh h=>?_) λgh h=>?_
    .exact aS ez [.bool false]
    .refine aL (n14 _ (n13 _ (inl (dA ?_))));exact cE _ (inr ⟨_,bD rfl,gG (i64.wrap (ct+1)) h⟩)
   .exact cN (dH 0 _ (du 0 _ (cp _ (n6 _ (inl (aS ak [.bool true]))))))
  exact dp h λn h=>gW n 0 h
theorem A4 (a0 r) (h:vp a0=some r):aW ai 43 [R a0] (.str r) []:=by
 refine bB [] [.tmp 2] Tryz.func43 anU λbu ak bt=>al ?_;refine ax ak λ_ bJ bg _=>al ?_;refine aF h (λbZ h=>?_) λbZ h=>?_
 .exact aS bg [.str ([109,48]:aAc)]
 .refine aL (bJ _ (inl (al ?_)));refine ax ak λ_ n7 eJ _=>bj eJ λiE _ hF cp _=>?_;have gW:∀n oU er,AE n oU er=some r->cJ ai Z3 iE (ar [(0,R oU),(3,.str er)]):=by
   refine cX λ_ gG oU er h=>cW hF λ_ cE b6 du=>ax b6 λ_ n10 _ dH=>al ?_;refine aF h (λe3 h=>?_) λe3 h=>?_
   .refine aL (n10 _ (inl (bj b6 λ_ n13 _ _ _=>?_)));obtain⟨u16,dX,h⟩:=aM h;(try simp only[fN.down,Nat.zero_add,Nat.add_zero,reduceAdd]at dX);refine c6 (U (@yd .i64 10 (by decide)) (U (@Jp ai 3 5 .u8 rfl rfl) (U (show∀s,dM ai s 116 1 [(0,.int .u8 (u8.wrap (i64.wrap (48+(Int.tmod oU 10)))))]=some (.ag 1 [.int .u8 (u8.wrap (i64.wrap (48+(Int.tmod oU 10))))],s)from λs=>by kernel_rfl) (U ((@XA ai 116 9 5 rfl rfl rfl).2.2) (U @XD (U @XB (U dX (U @wc @we)))))))) [(0,R oU),(3,.str ([(pr (i64.wrap (48+(Int.tmod oU 10))))]++er))] ?_;refine pV (@XE .i64 10 (by decide)) [(0,R (i64.wrap (Int.tdiv oU 10))),(3,.str ([(pr (i64.wrap (48+(Int.tmod oU 10))))]++er))] ?_;exact n13 _ (cE _ (inr ⟨_,bD rfl,gG (i64.wrap (Int.tdiv oU 10)) ([(pr (i64.wrap (48+(Int.tmod oU 10))))]++er) h⟩))
   .refine cN (dH 0 _ (du 0 _ (cp _ (n7 _ (inl ?_)))));obtain⟨yN,ev,h⟩:=aM h;(try simp only[fN.down,Nat.zero_add,Nat.add_zero,reduceAdd]at ev);refine c6 (U ev (U @wc @we)) [(2,.str (([109]:aAc)++er))] ?_;exact cK ak [.str (([109]:aAc)++er)]
  exact dp h λn h=>gW n a0 ([]:aAc) h
theorem as4 (a0 J r) (h:Lc a0 J=some r):aW ai 138 [.ag 2 (a0.map dY),R J] (R r.1) [.ag 2 (r.2.map dY),.hole]:=by
 refine bB [0] [.tmp 4] Tryz.func138 c138 λbu ak bt=>al ?_;refine ax ak λ_ bJ bg ah=>al ?_;refine bj bg λeV _ bQ bZ _=>?_;show bn ai (.loop ?eT) _ _;have e9:∀n b7 bc aO,DA n b7 bc aO=some r->cJ ai ?eT eV (ar [(0,.ag 2 (b7.map dY)),(1,R bc),(5,R aO)]):=by
  refine cX λ_ eS b7 bc aO h=>cW bQ λ_ dU cG aX=>ax cG λ_ n6 _ bz=>al ?_;refine aF h (λcp h=>?_) λcp h=>?_
  .refine aL (n6 _ (inl (ax cG λ_ cE b6 _=>bj b6 λ_ n10 _ _ _=>?_)));obtain⟨aa,dx,h⟩:=aM h;refine dw (b5 [(0,.ag 2 ((List.set b7 (Int.toNat aO) (bX.mk bc aa.Value)).map dY)),(1,R bc),(5,R aO)] (λP bd=>?_) ?_)
   .simp only[aH.down,simprocAttr,dx,b2 dx,cS,da];exact bR (U dx (U (b2 dx) @cS))
   refine ws [(0,.ag 2 ((List.set b7 (Int.toNat aO) (bX.mk bc aa.Value)).map dY)),(1,R (i64.wrap (bc+1))),(5,R aO)] ?_;obtain⟨ah,dX,h⟩:=aM h;refine dw (b5 [(0,.ag 2 ((List.set (List.set b7 (Int.toNat aO) (bX.mk bc aa.Value)) (Int.toNat aO) (bX.mk ah.Kind (i64.wrap (bc+1)))).map dY)),(1,R (i64.wrap (bc+1))),(5,R aO)] (λP bd=>?_) ?_)
   .simp only[aH.down,simprocAttr,dX,b2 dX,cS,da];exact bR (U dX (U (b2 dX) @cS))
   refine wr [(0,.ag 2 ((List.set (List.set b7 (Int.toNat aO) (bX.mk bc aa.Value)) (Int.toNat aO) (bX.mk ah.Kind (i64.wrap (bc+1)))).map dY)),(1,R (i64.wrap ((i64.wrap (bc+1))+1))),(5,R aO)] ?_;refine n10 _ (cE _ (inl (wr [(0,.ag 2 ((List.set (List.set b7 (Int.toNat aO) (bX.mk bc aa.Value)) (Int.toNat aO) (bX.mk ah.Kind (i64.wrap (bc+1)))).map dY)),(1,R (i64.wrap ((i64.wrap (bc+1))+1))),(5,R (i64.wrap (aO+1)))] ?_)));exact dU _ (inr ⟨_,bD rfl,eS (List.set (List.set b7 (Int.toNat aO) (bX.mk bc aa.Value)) (Int.toNat aO) (bX.mk ah.Kind (i64.wrap (bc+1)))) (i64.wrap ((i64.wrap (bc+1))+1)) (i64.wrap (aO+1)) h⟩)
  .refine cN (bz 0 _ (aX 0 _ (bZ _ (bJ _ (inl (al ?_))))));exact hc (ak _ (inl (h3 [R bc] (h0 (kl (by cases im h;rfl) rfl rfl rfl (dK (h2)))))))
 exact dp h λn h=>e9 n a0 J 0 h
theorem as5 (a0 J r) (h:Ld a0 J=some r):aW ai 95 [.ag 1 (a0.map lK),R J] (R r.1) [.ag 1 (r.2.map lK),.hole]:=by
 refine bB [0] [.tmp 4] Tryz.func95 anV λbu ak bt=>al ?_;refine ax ak λ_ bJ bg ah=>al ?_;refine bj bg λeV _ bQ bZ _=>?_;show bn ai (.loop ?eT) _ _;have e9:∀n b7 bc aO,DB n b7 bc aO=some r->cJ ai ?eT eV (ar [(0,.ag 1 (b7.map lK)),(1,R bc),(5,R aO)]):=by
  refine cX λ_ eS b7 bc aO h=>cW bQ λ_ dU cG aX=>ax cG λ_ n6 _ bz=>al ?_;refine aF h (λcp h=>?_) λcp h=>?_
  .refine aL (n6 _ (inl (ax cG λ_ cE b6 _=>bj b6 λ_ n10 _ _ _=>?_)));obtain⟨aa,dx,ah,el,h⟩:=dk h;refine hx (b5 [(0,.ag 1 ((List.set b7 (Int.toNat aO) ah.2).map lK)),(1,R ah.1),(5,R aO)] (λP bd=>?_) ?_)
   ·(try simp only[aH.down,simprocAttr,dx,b2 dx]);refine kj [⟨.h 0 [Int.toNat aO],true,_,_⟩,⟨R bc,false,_,.hole⟩] (as4 aa bc _ el) rfl rfl rfl (by simp only[aH.down,simprocAttr,dx,b2 dx,kX,kk,gQ,gR,gS,cR,or_true,true_or, @b0 _ dY dY (λ_=>Ho _)]) rfl rfl (inl rfl) ?_;simp only[aH.down,simprocAttr,dx,b2 dx,jI,(FF (b2 dx)),FG];exact bR (U dx (b2 dx))
   refine n10 _ (cE _ (inl (wr [(0,.ag 1 ((List.set b7 (Int.toNat aO) ah.2).map lK)),(1,R ah.1),(5,R (i64.wrap (aO+1)))] ?_)));exact dU _ (inr ⟨_,bD rfl,eS (List.set b7 (Int.toNat aO) ah.2) ah.1 (i64.wrap (aO+1)) h⟩)
  .refine cN (bz 0 _ (aX 0 _ (bZ _ (bJ _ (inl (al ?_))))));exact hc (ak _ (inl (h3 [R bc] (h0 (kl (by cases im h;rfl) rfl rfl rfl (dK (h2)))))))
 exact dp h λn h=>e9 n a0 J 0 h
theorem as6 (a0 J r) (h:Le a0 J=some r):aW ai 64 [.ag 4 (a0.map jk),R J] (R r.1) [.ag 4 (r.2.map jk),.hole]:=by
 refine bB [0] [.tmp 4] Tryz.func64 anW λbu ak bt=>al ?_;refine ax ak λ_ bJ bg ah=>al ?_;refine bj bg λeV _ bQ bZ aZ=>?_;show bn ai (.loop ?eT) _ _;have e9:∀n b7 bc aO,DC n b7 bc aO=some r->cJ ai ?eT eV (ar [(0,.ag 4 (b7.map jk)),(1,R bc),(5,R aO)]):=by
  refine cX λ_ eS b7 bc aO h=>cW bQ λ_ dU cG aX=>ax cG λ_ n6 _ bz=>al ?_;refine aF h (λcp h=>?_) λcp h=>?_
  .refine aL (n6 _ (inl (ax cG λ_ cE b6 _=>bj b6 λ_ n10 _ _ _=>?_)));obtain⟨aa,dx,h⟩:=aM h;refine dw (b5 [(0,.ag 4 ((List.set b7 (Int.toNat aO) (b8.mk bc aa.Number aa.Name aa.cm)).map jk)),(1,R bc),(5,R aO)] (λP bd=>?_) ?_)
   .simp only[aH.down,simprocAttr,dx,b2 dx,cS,da];exact bR (U dx (U (b2 dx) @cS))
   refine ws [(0,.ag 4 ((List.set b7 (Int.toNat aO) (b8.mk bc aa.Number aa.Name aa.cm)).map jk)),(1,R (i64.wrap (bc+1))),(5,R aO)] ?_;obtain⟨ah,dX,h⟩:=aM h;refine dw (b5 [(0,.ag 4 ((List.set (List.set b7 (Int.toNat aO) (b8.mk bc aa.Number aa.Name aa.cm)) (Int.toNat aO) (b8.mk ah.Kind (i64.wrap (bc+1)) ah.Name ah.cm)).map jk)),(1,R (i64.wrap (bc+1))),(5,R aO)] (λP bd=>?_) ?_)
   .simp only[aH.down,simprocAttr,dX,b2 dX,cS,da];exact bR (U dX (U (b2 dX) @cS))
   refine ws [(0,.ag 4 ((List.set (List.set b7 (Int.toNat aO) (b8.mk bc aa.Number aa.Name aa.cm)) (Int.toNat aO) (b8.mk ah.Kind (i64.wrap (bc+1)) ah.Name ah.cm)).map jk)),(1,R (i64.wrap ((i64.wrap (bc+1))+1))),(5,R aO)] ?_;obtain⟨aI,ev,aZ,eN,h⟩:=dk h;refine dw (b5 [(0,.ag 4 ((List.set (List.set (List.set b7 (Int.toNat aO) (b8.mk bc aa.Number aa.Name aa.cm)) (Int.toNat aO) (b8.mk ah.Kind (i64.wrap (bc+1)) ah.Name ah.cm)) (Int.toNat aO) (b8.mk aZ.Kind aZ.Number aI aZ.cm)).map jk)),(1,R (i64.wrap ((i64.wrap (bc+1))+1))),(5,R aO)] (λP bd=>?_) ?_)
   ·(try simp only[aH.down,simprocAttr,eN,b2 eN,cS,da]);refine dz (A4 (i64.wrap ((i64.wrap (bc+1))+1)) _ ev) (hK:= ?_);simp only[aH.down,simprocAttr,eN,b2 eN,cS,da];exact bR (U eN (U (b2 eN) @cS))
   refine ws [(0,.ag 4 ((List.set (List.set (List.set b7 (Int.toNat aO) (b8.mk bc aa.Number aa.Name aa.cm)) (Int.toNat aO) (b8.mk ah.Kind (i64.wrap (bc+1)) ah.Name ah.cm)) (Int.toNat aO) (b8.mk aZ.Kind aZ.Number aI aZ.cm)).map jk)),(1,R (i64.wrap ((i64.wrap ((i64.wrap (bc+1))+1))+1))),(5,R aO)] ?_;obtain⟨aX,fz,bz,iT,h⟩:=dk h;refine hx (b5 [(0,.ag 4 ((List.set (List.set (List.set (List.set b7 (Int.toNat aO) (b8.mk bc aa.Number aa.Name aa.cm)) (Int.toNat aO) (b8.mk ah.Kind (i64.wrap (bc+1)) ah.Name ah.cm)) (Int.toNat aO) (b8.mk aZ.Kind aZ.Number aI aZ.cm)) (Int.toNat aO) (b8.mk aX.Kind aX.Number aX.Name bz.2)).map jk)),(1,R bz.1),(5,R aO)] (λP bd=>?_) ?_)
   ·(try simp only[aH.down,simprocAttr,fz,b2 fz]);refine kj [⟨.h 0 [Int.toNat aO,3],true,_,_⟩,⟨R (i64.wrap ((i64.wrap ((i64.wrap (bc+1))+1))+1)),false,_,.hole⟩] (as5 aX.cm (i64.wrap ((i64.wrap ((i64.wrap (bc+1))+1))+1)) _ iT) rfl rfl rfl (by simp only[aH.down,simprocAttr,fz,b2 fz,kX,kk,gQ,gR,gS,cR,or_true,true_or, @b0 _ lK jb (λ_=>RN _)]) rfl rfl (inl rfl) ?_;simp only[aH.down,simprocAttr,fz,b2 fz,jI,(FF (b2 fz)),FG];exact bR (U fz (b2 fz))
   refine n10 _ (cE _ (inl (wr [(0,.ag 4 ((List.set (List.set (List.set (List.set b7 (Int.toNat aO) (b8.mk bc aa.Number aa.Name aa.cm)) (Int.toNat aO) (b8.mk ah.Kind (i64.wrap (bc+1)) ah.Name ah.cm)) (Int.toNat aO) (b8.mk aZ.Kind aZ.Number aI aZ.cm)) (Int.toNat aO) (b8.mk aX.Kind aX.Number aX.Name bz.2)).map jk)),(1,R bz.1),(5,R (i64.wrap (aO+1)))] ?_)));exact dU _ (inr ⟨_,bD rfl,eS (List.set (List.set (List.set (List.set b7 (Int.toNat aO) (b8.mk bc aa.Number aa.Name aa.cm)) (Int.toNat aO) (b8.mk ah.Kind (i64.wrap (bc+1)) ah.Name ah.cm)) (Int.toNat aO) (b8.mk aZ.Kind aZ.Number aI aZ.cm)) (Int.toNat aO) (b8.mk aX.Kind aX.Number aX.Name bz.2)) bz.1 (i64.wrap (aO+1)) h⟩)
  .refine cN (bz 0 _ (aX 0 _ (bZ _ (bJ _ (inl (al ?_))))));exact hc (ak _ (inl (h3 [R bc] (h0 (kl (by cases im h;rfl) rfl rfl rfl (dK (h2)))))))
 exact dp h λn h=>e9 n a0 J 0 h
theorem as7 (a0 J r) (h:Lf a0 J=some r):aW ai 39 [.ag 3 (a0.map hh),R J] (R r.1) [.ag 3 (r.2.map hh),.hole]:=by
 refine bB [0] [.tmp 4] Tryz.func39 anX λbu ak bt=>al ?_;refine ax ak λ_ bJ bg ah=>al ?_;refine bj bg λeV _ bQ bZ aZ=>?_;show bn ai (.loop ?eT) _ _;have e9:∀n b7 bc aO,DD n b7 bc aO=some r->cJ ai ?eT eV (ar [(0,.ag 3 (b7.map hh)),(1,R bc),(5,R aO)]):=by
  refine cX λ_ eS b7 bc aO h=>cW bQ λ_ dU cG aX=>ax cG λ_ n6 _ bz=>al ?_;refine aF h (λcp h=>?_) λcp h=>?_
  .refine aL (n6 _ (inl (ax cG λ_ cE b6 _=>bj b6 λ_ n10 _ _ _=>?_)));obtain⟨aa,dx,ah,el,h⟩:=dk h;refine dw (b5 [(0,.ag 3 ((List.set b7 (Int.toNat aO) (a1.mk aa ah.dW ah.Body)).map hh)),(1,R bc),(5,R aO)] (λP bd=>?_) ?_)
   ·(try simp only[aH.down,simprocAttr,el,b2 el,cS,da]);refine dz (A4 bc _ dx) (hK:= ?_);simp only[aH.down,simprocAttr,el,b2 el,cS,da];exact bR (U el (U (b2 el) @cS))
   refine ws [(0,.ag 3 ((List.set b7 (Int.toNat aO) (a1.mk aa ah.dW ah.Body)).map hh)),(1,R (i64.wrap (bc+1))),(5,R aO)] ?_;obtain⟨aI,cx,h⟩:=aM h;refine dw (b5 [(0,.ag 3 ((List.set (List.set b7 (Int.toNat aO) (a1.mk aa ah.dW ah.Body)) (Int.toNat aO) (a1.mk aI.Name (i64.wrap (bc+1)) aI.Body)).map hh)),(1,R (i64.wrap (bc+1))),(5,R aO)] (λP bd=>?_) ?_)
   .simp only[aH.down,simprocAttr,cx,b2 cx,cS,da];exact bR (U cx (U (b2 cx) @cS))
   refine ws [(0,.ag 3 ((List.set (List.set b7 (Int.toNat aO) (a1.mk aa ah.dW ah.Body)) (Int.toNat aO) (a1.mk aI.Name (i64.wrap (bc+1)) aI.Body)).map hh)),(1,R (i64.wrap ((i64.wrap (bc+1))+1))),(5,R aO)] ?_;obtain⟨aZ,eN,aX,fK,h⟩:=dk h;refine hx (b5 [(0,.ag 3 ((List.set (List.set (List.set b7 (Int.toNat aO) (a1.mk aa ah.dW ah.Body)) (Int.toNat aO) (a1.mk aI.Name (i64.wrap (bc+1)) aI.Body)) (Int.toNat aO) (a1.mk aZ.Name aZ.dW aX.2)).map hh)),(1,R aX.1),(5,R aO)] (λP bd=>?_) ?_)
   ·(try simp only[aH.down,simprocAttr,eN,b2 eN]);refine kj [⟨.h 0 [Int.toNat aO,2],true,_,_⟩,⟨R (i64.wrap ((i64.wrap (bc+1))+1)),false,_,.hole⟩] (as6 aZ.Body (i64.wrap ((i64.wrap (bc+1))+1)) _ fK) rfl rfl rfl (by simp only[aH.down,simprocAttr,eN,b2 eN,kX,kk,gQ,gR,gS,cR,or_true,true_or, @b0 _ jk eu (λ_=>RO _)]) rfl rfl (inl rfl) ?_;simp only[aH.down,simprocAttr,eN,b2 eN,jI,(FF (b2 eN)),FG];exact bR (U eN (b2 eN))
   refine n10 _ (cE _ (inl (wr [(0,.ag 3 ((List.set (List.set (List.set b7 (Int.toNat aO) (a1.mk aa ah.dW ah.Body)) (Int.toNat aO) (a1.mk aI.Name (i64.wrap (bc+1)) aI.Body)) (Int.toNat aO) (a1.mk aZ.Name aZ.dW aX.2)).map hh)),(1,R aX.1),(5,R (i64.wrap (aO+1)))] ?_)));exact dU _ (inr ⟨_,bD rfl,eS (List.set (List.set (List.set b7 (Int.toNat aO) (a1.mk aa ah.dW ah.Body)) (Int.toNat aO) (a1.mk aI.Name (i64.wrap (bc+1)) aI.Body)) (Int.toNat aO) (a1.mk aZ.Name aZ.dW aX.2)) aX.1 (i64.wrap (aO+1)) h⟩)
  .refine cN (bz 0 _ (aX 0 _ (bZ _ (bJ _ (inl (al ?_))))));exact hc (ak _ (inl (h3 [R bc] (h0 (kl (by cases im h;rfl) rfl rfl rfl (dK (h2)))))))
 exact dp h λn h=>e9 n a0 J 0 h
theorem abj (a0 J r) (h:Hk a0 J=some r):aW ai 42 [.ag 1 (a0.map a8),R J] (R r.1) [.ag 1 (r.2.map a8),.hole]:=by
 refine bB [0] [.tmp 4] Tryz.func42 anY λbu ak bt=>al ?_;refine ax ak λ_ bJ bg _=>al ?_;refine bj bg λeV _ bQ bZ _=>?_;show bn ai (.loop ?eT) _ _;have e9:∀n b7 bc aO,DE n b7 bc aO=some r->cJ ai ?eT eV (ar [(0,.ag 1 (b7.map a8)),(1,R bc),(5,R aO)]):=by
  refine cX λ_ eS b7 bc aO h=>cW bQ λ_ dU cG aX=>ax cG λ_ n6 _ bz=>al ?_;refine aF h (λcp h=>?_) λcp h=>?_
  .refine aL (n6 _ (inl (ax cG λ_ cE b6 _=>bj b6 λ_ n10 _ _ _=>?_)));obtain⟨aa,dx,h⟩:=aM h;refine dw (b5 [(0,.ag 1 ((List.set b7 (Int.toNat aO) bc).map a8)),(1,R bc),(5,R aO)] (λP bd=>?_) ?_)
   .simp only[aH.down,simprocAttr,dx,b2 dx,cS,da];exact bR (U dx (U (b2 dx) @cS))
   refine wr [(0,.ag 1 ((List.set b7 (Int.toNat aO) bc).map a8)),(1,R (i64.wrap (bc+1))),(5,R aO)] ?_;refine n10 _ (cE _ (inl (wr [(0,.ag 1 ((List.set b7 (Int.toNat aO) bc).map a8)),(1,R (i64.wrap (bc+1))),(5,R (i64.wrap (aO+1)))] ?_)));exact dU _ (inr ⟨_,bD rfl,eS (List.set b7 (Int.toNat aO) bc) (i64.wrap (bc+1)) (i64.wrap (aO+1)) h⟩)
  .refine cN (bz 0 _ (aX 0 _ (bZ _ (bJ _ (inl (al ?_))))));exact hc (ak _ (inl (h3 [R bc] (h0 (kl (by cases im h;rfl) rfl rfl rfl (dK (h2)))))))
 exact dp h λn h=>e9 n a0 J 0 h
theorem as8 (a0 J r) (h:Lg a0 J=some r):aW ai 40 [.ag 2 (a0.map hz),R J] (R r.1) [.ag 2 (r.2.map hz),.hole]:=by
 refine bB [0] [.tmp 4] Tryz.func40 c40 λbu ak bt=>al ?_;refine ax ak λ_ bJ bg ah=>al ?_;refine bj bg λeV _ bQ bZ _=>?_;show bn ai (.loop ?eT) _ _;have e9:∀n b7 bc aO,DF n b7 bc aO=some r->cJ ai ?eT eV (ar [(0,.ag 2 (b7.map hz)),(1,R bc),(5,R aO)]):=by
  refine cX λ_ eS b7 bc aO h=>cW bQ λ_ dU cG aX=>ax cG λ_ n6 _ bz=>al ?_;refine aF h (λcp h=>?_) λcp h=>?_
  .refine aL (n6 _ (inl (ax cG λ_ cE b6 _=>bj b6 λ_ n10 _ _ _=>?_)));obtain⟨aa,dx,h⟩:=aM h;refine dw (b5 [(0,.ag 2 ((List.set b7 (Int.toNat aO) (cM.mk bc aa.bP)).map hz)),(1,R bc),(5,R aO)] (λP bd=>?_) ?_)
   .simp only[aH.down,simprocAttr,dx,b2 dx,cS,da];exact bR (U dx (U (b2 dx) @cS))
   refine ws [(0,.ag 2 ((List.set b7 (Int.toNat aO) (cM.mk bc aa.bP)).map hz)),(1,R (i64.wrap (bc+1))),(5,R aO)] ?_;obtain⟨ah,dX,aI,cx,h⟩:=dk h;refine hx (b5 [(0,.ag 2 ((List.set (List.set b7 (Int.toNat aO) (cM.mk bc aa.bP)) (Int.toNat aO) (cM.mk ah.cy aI.2)).map hz)),(1,R aI.1),(5,R aO)] (λP bd=>?_) ?_)
   ·(try simp only[aH.down,simprocAttr,dX,b2 dX]);refine kj [⟨.h 0 [Int.toNat aO,1],true,_,_⟩,⟨R (i64.wrap (bc+1)),false,_,.hole⟩] (abj ah.bP (i64.wrap (bc+1)) _ cx) rfl rfl rfl (by simp only[aH.down,simprocAttr,dX,b2 dX,aam.down]) rfl rfl (inl rfl) ?_;simp only[aH.down,simprocAttr,dX,b2 dX,jI,(FF (b2 dX)),FG];exact bR (U dX (b2 dX))
   refine n10 _ (cE _ (inl (wr [(0,.ag 2 ((List.set (List.set b7 (Int.toNat aO) (cM.mk bc aa.bP)) (Int.toNat aO) (cM.mk ah.cy aI.2)).map hz)),(1,R aI.1),(5,R (i64.wrap (aO+1)))] ?_)));exact dU _ (inr ⟨_,bD rfl,eS (List.set (List.set b7 (Int.toNat aO) (cM.mk bc aa.bP)) (Int.toNat aO) (cM.mk ah.cy aI.2)) aI.1 (i64.wrap (aO+1)) h⟩)
  .refine cN (bz 0 _ (aX 0 _ (bZ _ (bJ _ (inl (al ?_))))));exact hc (ak _ (inl (h3 [R bc] (h0 (kl (by cases im h;rfl) rfl rfl rfl (dK (h2)))))))
 exact dp h λn h=>e9 n a0 J 0 h
theorem as9 (a0 J r) (h:Lh a0 J=some r):aW ai 41 [.ag 3 (a0.map bH),R J] (R r.1) [.ag 3 (r.2.map bH),.hole]:=by
 refine bB [0] [.tmp 4] Tryz.func41 anZ λbu ak bt=>al ?_;refine ax ak λ_ bJ bg ah=>al ?_;refine bj bg λeV _ bQ bZ aZ=>?_;show bn ai (.loop ?eT) _ _;have e9:∀n b7 bc aO,DG n b7 bc aO=some r->cJ ai ?eT eV (ar [(0,.ag 3 (b7.map bH)),(1,R bc),(5,R aO)]):=by
  refine cX λ_ eS b7 bc aO h=>cW bQ λ_ dU cG aX=>ax cG λ_ n6 _ bz=>al ?_;refine aF h (λcp h=>?_) λcp h=>?_
  .refine aL (n6 _ (inl (ax cG λ_ cE b6 _=>bj b6 λ_ n10 _ _ _=>?_)));obtain⟨aa,dx,ah,el,h⟩:=dk h;refine dw (b5 [(0,.ag 3 ((List.set b7 (Int.toNat aO) (bW.mk aa ah.cH ah.Result)).map bH)),(1,R bc),(5,R aO)] (λP bd=>?_) ?_)
   ·(try simp only[aH.down,simprocAttr,el,b2 el,cS,da]);refine dz (A4 bc _ dx) (hK:= ?_);simp only[aH.down,simprocAttr,el,b2 el,cS,da];exact bR (U el (U (b2 el) @cS))
   refine ws [(0,.ag 3 ((List.set b7 (Int.toNat aO) (bW.mk aa ah.cH ah.Result)).map bH)),(1,R (i64.wrap (bc+1))),(5,R aO)] ?_;obtain⟨aI,cx,aZ,dN,h⟩:=dk h;refine dw (b5 [(0,.ag 3 ((List.set (List.set b7 (Int.toNat aO) (bW.mk aa ah.cH ah.Result)) (Int.toNat aO) (bW.mk aZ.Left aI aZ.Result)).map bH)),(1,R (i64.wrap (bc+1))),(5,R aO)] (λP bd=>?_) ?_)
   ·(try simp only[aH.down,simprocAttr,dN,b2 dN,cS,da]);refine dz (A4 (i64.wrap (bc+1)) _ cx) (hK:= ?_);simp only[aH.down,simprocAttr,dN,b2 dN,cS,da];exact bR (U dN (U (b2 dN) @cS))
   refine ws [(0,.ag 3 ((List.set (List.set b7 (Int.toNat aO) (bW.mk aa ah.cH ah.Result)) (Int.toNat aO) (bW.mk aZ.Left aI aZ.Result)).map bH)),(1,R (i64.wrap ((i64.wrap (bc+1))+1))),(5,R aO)] ?_;obtain⟨aX,fK,bz,gV,h⟩:=dk h;refine dw (b5 [(0,.ag 3 ((List.set (List.set (List.set b7 (Int.toNat aO) (bW.mk aa ah.cH ah.Result)) (Int.toNat aO) (bW.mk aZ.Left aI aZ.Result)) (Int.toNat aO) (bW.mk bz.Left bz.cH aX)).map bH)),(1,R (i64.wrap ((i64.wrap (bc+1))+1))),(5,R aO)] (λP bd=>?_) ?_)
   ·(try simp only[aH.down,simprocAttr,gV,b2 gV,cS,da]);refine dz (A4 (i64.wrap ((i64.wrap (bc+1))+1)) _ fK) (hK:= ?_);simp only[aH.down,simprocAttr,gV,b2 gV,cS,da];exact bR (U gV (U (b2 gV) @cS))
   refine wr [(0,.ag 3 ((List.set (List.set (List.set b7 (Int.toNat aO) (bW.mk aa ah.cH ah.Result)) (Int.toNat aO) (bW.mk aZ.Left aI aZ.Result)) (Int.toNat aO) (bW.mk bz.Left bz.cH aX)).map bH)),(1,R (i64.wrap ((i64.wrap ((i64.wrap (bc+1))+1))+1))),(5,R aO)] ?_;refine n10 _ (cE _ (inl (wr [(0,.ag 3 ((List.set (List.set (List.set b7 (Int.toNat aO) (bW.mk aa ah.cH ah.Result)) (Int.toNat aO) (bW.mk aZ.Left aI aZ.Result)) (Int.toNat aO) (bW.mk bz.Left bz.cH aX)).map bH)),(1,R (i64.wrap ((i64.wrap ((i64.wrap (bc+1))+1))+1))),(5,R (i64.wrap (aO+1)))] ?_)));exact dU _ (inr ⟨_,bD rfl,eS (List.set (List.set (List.set b7 (Int.toNat aO) (bW.mk aa ah.cH ah.Result)) (Int.toNat aO) (bW.mk aZ.Left aI aZ.Result)) (Int.toNat aO) (bW.mk bz.Left bz.cH aX)) (i64.wrap ((i64.wrap ((i64.wrap (bc+1))+1))+1)) (i64.wrap (aO+1)) h⟩)
  .refine cN (bz 0 _ (aX 0 _ (bZ _ (bJ _ (inl (al ?_))))));exact hc (ak _ (inl (h3 [R bc] (h0 (kl (by cases im h;rfl) rfl rfl rfl (dK (h2)))))))
 exact dp h λn h=>e9 n a0 J 0 h
theorem Tn (a0 J r) (h:DI a0 J=some r):aW ai 15 [.ag 1 (a0.map aE),R J] (R r.1) [.ag 1 (r.2.map aE),.hole]:=by
 refine bB [0] [.tmp 4] Tryz.func15 an0 λbu ak bt=>al ?_;refine ax ak λ_ bJ bg ah=>al ?_;refine bj bg λeV _ bQ bZ _=>?_;show bn ai (.loop ?eT) _ _;have e9:∀n b7 bc aO,DH n b7 bc aO=some r->cJ ai ?eT eV (ar [(0,.ag 1 (b7.map aE)),(1,R bc),(5,R aO)]):=by
  refine cX λ_ eS b7 bc aO h=>cW bQ λ_ dU cG aX=>ax cG λ_ n6 _ bz=>al ?_;refine aF h (λcp h=>?_) λcp h=>?_
  .refine aL (n6 _ (inl (ax cG λ_ cE b6 _=>bj b6 λ_ n10 _ _ _=>?_)));obtain⟨aa,dx,ah,el,h⟩:=dk h;refine dw (b5 [(0,.ag 1 ((List.set b7 (Int.toNat aO) aa).map aE)),(1,R bc),(5,R aO)] (λP bd=>?_) ?_)
   ·(try simp only[aH.down,simprocAttr,el,b2 el,cS,da]);refine dz (A4 bc _ dx) (hK:= ?_);simp only[aH.down,simprocAttr,el,b2 el,cS,da];exact bR (U el (U (b2 el) @cS))
   refine wr [(0,.ag 1 ((List.set b7 (Int.toNat aO) aa).map aE)),(1,R (i64.wrap (bc+1))),(5,R aO)] ?_;refine n10 _ (cE _ (inl (wr [(0,.ag 1 ((List.set b7 (Int.toNat aO) aa).map aE)),(1,R (i64.wrap (bc+1))),(5,R (i64.wrap (aO+1)))] ?_)));exact dU _ (inr ⟨_,bD rfl,eS (List.set b7 (Int.toNat aO) aa) (i64.wrap (bc+1)) (i64.wrap (aO+1)) h⟩)
  .refine cN (bz 0 _ (aX 0 _ (bZ _ (bJ _ (inl (al ?_))))));exact hc (ak _ (inl (h3 [R bc] (h0 (kl (by cases im h;rfl) rfl rfl rfl (dK (h2)))))))
 exact dp h λn h=>e9 n a0 J 0 h
theorem as_ (bo bq bp bO bM J r) (h:Li bo bq bp bO bM J=some r):aW ai 13 [.agg [.ag 3 (bo.map hh),.ag 2 (bq.map hz),.ag 3 (bp.map bH),.ag 1 (bO.map aE),.ag 1 (bM.map aE)],R J] (R r.1) [.agg [.ag 3 (r.2.1.map hh),.ag 2 (r.2.2.1.map hz),.ag 3 (r.2.2.2.1.map bH),.ag 1 (r.2.2.2.2.1.map aE),.ag 1 (r.2.2.2.2.2.map aE)],.hole]:=by
 refine bB [0] [.tmp 4] Tryz.func13 an2 λbu ak bt=>dw (b5 [(0,.agg [.ag 3 (bo.map hh),.ag 2 (bq.map hz),.ag 3 (bp.map bH),.ag 1 (bO.map aE),.ag 1 (bM.map aE)]),(1,R J),(2,.ab 0 0)] (λP bd=>?_) ?_)
 .simp only[aH.down,simprocAttr,si.down,I.e6];exact bR si.down
 obtain⟨aa,aU,h⟩:=aM h;refine dw (b5 [(0,.agg [.ag 3 (aa.2.map hh),.ag 2 (bq.map hz),.ag 3 (bp.map bH),.ag 1 (bO.map aE),.ag 1 (bM.map aE)]),(1,R aa.1),(2,.ab 0 0)] (λP bd=>?_) ?_)
 ·(try simp only[aH.down,simprocAttr,si.down,I.e6]);refine Jt [⟨.h 0 [0],true,_,_⟩,⟨R J,false,_,.hole⟩] (as7 bo J _ aU) rfl rfl rfl (by simp only[aH.down,simprocAttr,yg,yi,I.e6,yh,l0,kX,kk,gQ,gR,gS,cR,or_true,true_or, @b0 _ hh bk (λ_=>AF _)]) rfl rfl (inl rfl) (by simp only[aH.down,simprocAttr,LD.down,I.e6,Bool.and_self,Bool.not_false,Bool.and_true]) ?_;simp only[aH.down,simprocAttr,LF.down,I.e6,eq_self,Bool.and_self];exact bR si.down
 obtain⟨ah,cY,h⟩:=aM h;refine dw (b5 [(0,.agg [.ag 3 (aa.2.map hh),.ag 2 (ah.2.map hz),.ag 3 (bp.map bH),.ag 1 (bO.map aE),.ag 1 (bM.map aE)]),(1,R ah.1),(2,.ab 0 0)] (λP bd=>?_) ?_)
 ·(try simp only[aH.down,simprocAttr,si.down,I.e6]);refine Jt [⟨.h 0 [1],true,_,_⟩,⟨R aa.1,false,_,.hole⟩] (as8 bq aa.1 _ cY) rfl rfl rfl (by simp only[aH.down,simprocAttr,yg,yi,I.e6,yh,l0,kX,kk,gQ,gR,gS,cR,or_true,true_or, @b0 _ hz db (λ_=>AG _)]) rfl rfl (inl rfl) (by simp only[aH.down,simprocAttr,LD.down,I.e6,Bool.and_self,Bool.not_false,Bool.and_true]) ?_;simp only[aH.down,simprocAttr,LF.down,I.e6,eq_self,Bool.and_self];exact bR si.down
 obtain⟨aI,cd,h⟩:=aM h;refine dw (b5 [(0,.agg [.ag 3 (aa.2.map hh),.ag 2 (ah.2.map hz),.ag 3 (aI.2.map bH),.ag 1 (bO.map aE),.ag 1 (bM.map aE)]),(1,R aI.1),(2,.ab 0 0)] (λP bd=>?_) ?_)
 ·(try simp only[aH.down,simprocAttr,si.down,I.e6]);refine Jt [⟨.h 0 [2],true,_,_⟩,⟨R ah.1,false,_,.hole⟩] (as9 bp ah.1 _ cd) rfl rfl rfl (by simp only[aH.down,simprocAttr,yg,yi,I.e6,yh,l0,kX,kk,gQ,gR,gS,cR,or_true,true_or, @b0 _ bH bH (λ_=>pU _)]) rfl rfl (inl rfl) (by simp only[aH.down,simprocAttr,LD.down,I.e6,Bool.and_self,Bool.not_false,Bool.and_true]) ?_;simp only[aH.down,simprocAttr,LF.down,I.e6,eq_self,Bool.and_self];exact bR si.down
 obtain⟨aZ,jt,h⟩:=aM h;refine dw (b5 [(0,.agg [.ag 3 (aa.2.map hh),.ag 2 (ah.2.map hz),.ag 3 (aI.2.map bH),.ag 1 (aZ.2.map aE),.ag 1 (bM.map aE)]),(1,R aZ.1),(2,.ab 0 0)] (λP bd=>?_) ?_)
 ·(try simp only[aH.down,simprocAttr,si.down,I.e6]);refine Jt [⟨.h 0 [3],true,_,_⟩,⟨R aI.1,false,_,.hole⟩] (Tn bO aI.1 _ jt) rfl rfl rfl (by simp only[aH.down,simprocAttr,aan.down,I.e6]) rfl rfl (inl rfl) (by simp only[aH.down,simprocAttr,LD.down,I.e6,Bool.and_self,Bool.not_false,Bool.and_true]) ?_;simp only[aH.down,simprocAttr,LF.down,I.e6,eq_self,Bool.and_self];exact bR si.down
 obtain⟨aX,kD,h⟩:=aM h;refine dw (b5 [(0,.agg [.ag 3 (aa.2.map hh),.ag 2 (ah.2.map hz),.ag 3 (aI.2.map bH),.ag 1 (aZ.2.map aE),.ag 1 (aX.2.map aE)]),(1,R aX.1)] (λP bd=>?_) ?_)
 ·(try simp only[aH.down,simprocAttr,si.down,I.e6]);refine kj [⟨.h 0 [4],true,_,_⟩,⟨R aZ.1,false,_,.hole⟩] (Tn bM aZ.1 _ kD) rfl rfl rfl (by simp only[aH.down,simprocAttr,aan.down,I.e6]) rfl rfl (inl rfl) ?_;simp only[aH.down,simprocAttr,yg,yi,I.e6,yh,jI];exact bR si.down
 refine al ?_;exact hc (ak _ (inl (h3 [R aX.1] (h0 (kl (by cases im h;rfl) rfl rfl rfl (dK (h2)))))))
end Go.Proofs.YtafceioodemeeaaGreatDoor
namespace Go.Proofs.YtafceioodemeeaaGreatDoor
open List Option Go.IntKind Nat Or
open Go Go.en Go.pO
set_option maxRecDepth 100000
set_option maxHeartbeats 2400000
set_option linter.unusedSimpArgs false
set_option linter.unusedVariables false
theorem ata (a0 J r) (h:Lj a0 J=some r):aW ai 14 [.ag 3 (a0.map ey),R J] (R r.1) [.ag 3 (r.2.map ey),.hole]:=by
 refine bB [0] [.tmp 4] Tryz.func14 gU λbu ak bt=>al ?_;refine ax ak λ_ bJ bg ah=>al ?_;refine bj bg λeV _ bQ bZ aZ=>?_;show bn ai (.loop ?eT) _ _;have e9:∀n b7 bc aO,DJ n b7 bc aO=some r->cJ ai ?eT eV (ar [(0,.ag 3 (b7.map ey)),(1,R bc),(5,R aO)]):=by
  refine cX λ_ eS b7 bc aO h=>cW bQ λ_ dU cG aX=>ax cG λ_ n6 _ bz=>al ?_;refine aF h (λcp h=>?_) λcp h=>?_
  .refine aL (n6 _ (inl (ax cG λ_ cE b6 _=>bj b6 λ_ n10 _ _ _=>?_)));obtain⟨aa,dx,h⟩:=aM h;refine dw (b5 [(0,.ag 3 ((List.set b7 (Int.toNat aO) (ba.mk bc aa.Part aa.bP)).map ey)),(1,R bc),(5,R aO)] (λP bd=>?_) ?_)
   .simp only[aH.down,simprocAttr,dx,b2 dx,cS,da];exact bR (U dx (U (b2 dx) @cS))
   refine ws [(0,.ag 3 ((List.set b7 (Int.toNat aO) (ba.mk bc aa.Part aa.bP)).map ey)),(1,R (i64.wrap (bc+1))),(5,R aO)] ?_;obtain⟨ah,dX,h⟩:=aM h;refine dw (b5 [(0,.ag 3 ((List.set (List.set b7 (Int.toNat aO) (ba.mk bc aa.Part aa.bP)) (Int.toNat aO) (ba.mk ah.cy (i64.wrap (bc+1)) ah.bP)).map ey)),(1,R (i64.wrap (bc+1))),(5,R aO)] (λP bd=>?_) ?_)
   .simp only[aH.down,simprocAttr,dX,b2 dX,cS,da];exact bR (U dX (U (b2 dX) @cS))
   refine ws [(0,.ag 3 ((List.set (List.set b7 (Int.toNat aO) (ba.mk bc aa.Part aa.bP)) (Int.toNat aO) (ba.mk ah.cy (i64.wrap (bc+1)) ah.bP)).map ey)),(1,R (i64.wrap ((i64.wrap (bc+1))+1))),(5,R aO)] ?_;obtain⟨aI,ev,aZ,eN,h⟩:=dk h;refine hx (b5 [(0,.ag 3 ((List.set (List.set (List.set b7 (Int.toNat aO) (ba.mk bc aa.Part aa.bP)) (Int.toNat aO) (ba.mk ah.cy (i64.wrap (bc+1)) ah.bP)) (Int.toNat aO) (ba.mk aI.cy aI.Part aZ.2)).map ey)),(1,R aZ.1),(5,R aO)] (λP bd=>?_) ?_)
   ·(try simp only[aH.down,simprocAttr,ev,b2 ev]);refine kj [⟨.h 0 [Int.toNat aO,2],true,_,_⟩,⟨R (i64.wrap ((i64.wrap (bc+1))+1)),false,_,.hole⟩] (abj aI.bP (i64.wrap ((i64.wrap (bc+1))+1)) _ eN) rfl rfl rfl (by simp only[aH.down,simprocAttr,ev,b2 ev,aam.down]) rfl rfl (inl rfl) ?_;simp only[aH.down,simprocAttr,ev,b2 ev,jI,(FF (b2 ev)),FG];exact bR (U ev (b2 ev))
   refine n10 _ (cE _ (inl (wr [(0,.ag 3 ((List.set (List.set (List.set b7 (Int.toNat aO) (ba.mk bc aa.Part aa.bP)) (Int.toNat aO) (ba.mk ah.cy (i64.wrap (bc+1)) ah.bP)) (Int.toNat aO) (ba.mk aI.cy aI.Part aZ.2)).map ey)),(1,R aZ.1),(5,R (i64.wrap (aO+1)))] ?_)));exact dU _ (inr ⟨_,bD rfl,eS (List.set (List.set (List.set b7 (Int.toNat aO) (ba.mk bc aa.Part aa.bP)) (Int.toNat aO) (ba.mk ah.cy (i64.wrap (bc+1)) ah.bP)) (Int.toNat aO) (ba.mk aI.cy aI.Part aZ.2)) aZ.1 (i64.wrap (aO+1)) h⟩)
  .refine cN (bz 0 _ (aX 0 _ (bZ _ (bJ _ (inl (al ?_))))));exact hc (ak _ (inl (h3 [R bc] (h0 (kl (by cases im h;rfl) rfl rfl rfl (dK (h2)))))))
 exact dp h λn h=>e9 n a0 J 0 h
theorem abk (a0 J r) (h:Hl a0 J=some r):aW ai 16 [ad aE a0,R J] (R r) []:=by
 refine bB [0] [.tmp 4] Tryz.func16 kL λbu ak bt=>al ?_;refine ax ak λ_ bJ bg ah=>al ?_;refine bj bg λeV _ bQ bZ _=>?_;show bn ai (.loop ?eT) _ _;have e9:∀n bc aO,DK a0 n bc aO=some r->cJ ai ?eT eV (ar [(0,ad aE a0),(1,R bc),(5,R aO)]):=by
  refine cX λ_ eS bc aO h=>cW bQ λ_ dU cG aX=>ax cG λ_ n6 _ bz=>al ?_;refine aF h (λcp h=>?_) λcp h=>?_
  .refine aL (n6 _ (inl (ax cG λ_ cE b6 _=>bj b6 λ_ n10 cQ _ _=>ax cQ λ_ n11 h6 _=>?_)));obtain⟨aa,el,ah,dT,h⟩:=dk h;refine mn el (A4 bc _ dT) _ ?_;refine aF h (λeZ h=>?_) λeZ h=>?_
   .exact aS h6 [R (-1)]
   .refine aL (n11 _ (inl (dA ?_)));refine n10 _ (cE _ (inl (dA ?_)));exact dU _ (inr ⟨_,bD rfl,eS (i64.wrap (bc+1)) (i64.wrap (aO+1)) h⟩)
  .exact cN (bz 0 _ (aX 0 _ (bZ _ (bJ _ (inl (aS ak [R bc]))))))
 exact dp h λn h=>e9 n J 0 h
theorem atb (a0 J r) (h:RF a0 J=some r):aW ai 3 [od a0,ad jL J] (.bool r) []:=by
 refine bB [0,1] [.tmp 4] Tryz.func3 c3 λbu ak bt=>al ?_;refine al ?_;obtain⟨aa,b_,h⟩:=aM h;refine cP (aoH a0 1048576 _ b_) _ ?_;refine ax ak λ_ dU cG aX=>al ?_;refine aF h (λqR h=>?_) λqR h=>?_
 .exact aS cG [.bool true]
 .refine aL (dU _ (inl ?_));obtain⟨ah,iI,h⟩:=aM h;refine cP (aoJ J aa _ iI) _ ?_;refine ax ak λ_ n11 h6 eY=>al ?_;refine aF h (λfh h=>?_) λfh h=>?_
  .exact aS h6 [.bool true]
  .refine aL (n11 _ (inl ?_));obtain⟨aI,cx,aZ,dN,aX,ev,h⟩:=iQ h;refine dw (b5 [(1,ad jL J),(2,.aP (od a0)),(6,.ag 1 (aX.1.map aE)),(7,R aX.2)] (λP bd=>?_) ?_)
   ·(try simp only[aH.down,simprocAttr]);refine dz (LH a0 _ cx) (hK:= ?_);simp only[aH.down,simprocAttr];refine dz (LI J _ dN) (hK:= ?_);simp only[aH.down,simprocAttr];refine dz (aqW aI aZ _ ev) rfl rfl (by simp only[aH.down,simprocAttr,Sd.down]<;>rfl) rfl (inr (by simp only[I.c8,I.gJ, @jZ _ aE (λ_=>DL _),Bool.and_self])) ?_;simp only[aH.down,simprocAttr];exact bR trivial
   obtain⟨bz,fK,h⟩:=aM h;refine cP (LH a0 _ fK) _ ?_;obtain⟨bw,fz,h⟩:=aM h;refine cP (LI J _ fz) _ ?_;obtain⟨cD,lM,h⟩:=aM h;refine dw (b5 [(1,ad jL J),(2,.aP (od a0)),(6,.ag 1 (aX.1.map aE)),(7,R aX.2),(8,.aP (tv bz)),(9,.ag 3 (bw.map ey)),(10,.ag 1 (cD.1.map aE)),(11,R cD.2)] (λP bd=>?_) ?_)
   ·(try simp only[aH.down,simprocAttr]);refine dz (abg bz bw _ lM) rfl rfl (by simp only[aH.down,simprocAttr,Sd.down]<;>rfl) rfl (inr (by simp only[I.c8,I.gJ, @jZ _ aE (λ_=>DL _),Bool.and_self])) ?_;simp only[aH.down,simprocAttr];exact bR trivial
   refine ax ak λ_ n25 pf _=>?_;obtain⟨du,qv,h⟩:=aM h;refine dw (b5 [(1,ad jL J),(2,.aP (od a0)),(6,.ag 1 (aX.1.map aE)),(7,R aX.2),(8,.aP (tv bz)),(9,.ag 3 (bw.map ey)),(10,.ag 1 (cD.1.map aE)),(11,R cD.2),(53,.bool ((!du)||(cD.2 !=aX.2)))] (λP bd=>?_) ?_)
   .rcases Bool.eq_false_or_eq_true (du)with w9|w9
    ·(try simp only[aH.down,simprocAttr,w9]);refine dz (yX cD.1 aX.1 _ qv) rfl rfl (by simp only[aH.down,simprocAttr,w9,AL.down]<;>rfl) rfl (inr (by rfl)) ?_;simp only[aH.down,simprocAttr,w9];exact bR w9
    ·(try simp only[aH.down,simprocAttr,w9]);refine dz (yX cD.1 aX.1 _ qv) rfl rfl (by simp only[aH.down,simprocAttr,w9,AL.down]<;>rfl) rfl (inr (by rfl)) ?_;simp only[aH.down,simprocAttr,w9];exact bR w9
   refine aF h (λh7 h=>?_) λh7 h=>?_
   .exact aS pf [.bool false]
   .refine aL (n25 _ (inl (ax ak λ_ n31 HL _=>?_)));obtain⟨dH,pg,eY,jC,h⟩:=dk h;refine jv rfl (iN [(1,ad jL J),(2,.aP (od a0)),(6,.ag 1 (aX.1.map aE)),(7,R aX.2),(8,.aP (tv bz)),(9,.ag 3 (bw.map ey)),(10,.ag 1 (cD.1.map aE)),(11,R cD.2),(58,.bool (!eY))] (λP bd=>?_) ?_)
    ·(try simp only[dh.down,simprocAttr]);refine hZ (LH a0 _ pg) (hK:= ?_);simp only[dh.down,simprocAttr];refine hZ (as1 bz dH _ jC) rfl rfl (by simp only[dh.down,simprocAttr,gQ,gR,gS,cR, @b0 _ hh bk (λ_=>AF _), @b0 _ hz db (λ_=>AG _), @b0 _ bH bH (λ_=>pU _), @b0 _ aE aE (λ_=>jz _), @b0 _ aE aE (λ_=>jz _), @b0 _ hh bk (λ_=>AF _), @b0 _ hz db (λ_=>AG _), @b0 _ bH bH (λ_=>pU _), @b0 _ aE aE (λ_=>jz _), @b0 _ aE aE (λ_=>jz _)]<;>rfl) rfl (inr (by rfl)) ?_;simp only[dh.down,simprocAttr];refine⟨hS (by kernel_rfl),?_⟩;exact bR trivial
    refine aF h (λwW h=>?_) λwW h=>?_
    .exact aS HL [.bool false]
    .refine aL (n31 _ (inl (ax ak λ_ n37 atc _=>?_)));obtain⟨jj,w1,l3,atd,h⟩:=dk h;refine dw (b5 [(1,ad jL J),(2,.aP (od a0)),(6,.ag 1 (aX.1.map aE)),(7,R aX.2),(8,.aP (tv bz)),(9,.ag 3 (bw.map ey)),(10,.ag 1 (cD.1.map aE)),(11,R cD.2),(63,.bool (!l3))] (λP bd=>?_) ?_)
     ·(try simp only[aH.down,simprocAttr]);refine dz (LI J _ w1) (hK:= ?_);simp only[aH.down,simprocAttr];refine dz (as3 bw jj _ atd) rfl rfl (by simp only[aH.down,simprocAttr,gQ,gR,gS,cR, @b0 _ ey bF (λ_=>pe _), @b0 _ ey bF (λ_=>pe _)]<;>rfl) rfl (inr (by rfl)) ?_;simp only[aH.down,simprocAttr];exact bR trivial
     refine aF h (λtD h=>?_) λtD h=>?_
     .exact aS atc [.bool false]
     .refine aL (n37 _ (inl (al ?_)));obtain⟨iy,yP,h⟩:=aM h;refine dw (b5 [(1,ad jL J),(2,.aP (od a0)),(6,.ag 1 (aX.1.map aE)),(7,R aX.2),(9,.ag 3 (bw.map ey)),(10,.ag 1 (cD.1.map aE)),(11,R cD.2),(12,R iy.1)] (λP bd=>?_) ?_)
      ·(try simp only[aH.down,simprocAttr]);refine kj [⟨.h 8 [0],true,_,_⟩,⟨R 1,false,_,.hole⟩] (as_ bz.cz bz.cj bz.b9 bz.cC bz.cA 1 _ yP) rfl rfl rfl (by simp only[aH.down,simprocAttr,l0,kX,kk,gQ,gR,gS,cR,or_true,true_or, @b0 _ hh bk (λ_=>AF _), @b0 _ hz db (λ_=>AG _), @b0 _ bH bH (λ_=>pU _), @b0 _ aE aE (λ_=>jz _), @b0 _ aE aE (λ_=>jz _)]) rfl rfl (inl rfl) ?_;simp only[aH.down,simprocAttr,jI];exact bR trivial
      obtain⟨hf,sr,h⟩:=aM h;refine dw (b5 [(1,ad jL J),(2,.aP (od a0)),(6,.ag 1 (aX.1.map aE)),(7,R aX.2),(10,.ag 1 (cD.1.map aE)),(11,R cD.2),(12,R hf.1)] (λP bd=>?_) ?_)
      ·(try simp only[aH.down,simprocAttr]);refine kj [⟨.h 9 [],true,_,_⟩,⟨R iy.1,false,_,.hole⟩] (ata bw iy.1 _ sr) rfl rfl rfl (by simp only[aH.down,simprocAttr,l0,kX,kk,gQ,gR,gS,cR,or_true,true_or, @b0 _ ey bF (λ_=>pe _)]) rfl rfl (inl rfl) ?_;simp only[aH.down,simprocAttr,jI];exact bR trivial
      refine ax ak λ_ n48 abl _=>?_;rcases dL h with⟨qy,h⟩|⟨qy,h⟩
      .refine c6 qy _ ?_;refine i1 rfl ?_;exact aS abl [.bool false]
      .obtain⟨ji,sv,h⟩:=aM h;refine dw (b5 [(1,ad jL J),(2,.aP (od a0)),(6,.ag 1 (aX.1.map aE)),(7,R aX.2),(10,.ag 1 (cD.1.map aE)),(82,.bool ((!ji)||(cD.2 !=aX.2)))] (λP bd=>?_) ?_)
       .rcases Bool.eq_false_or_eq_true (ji)with w_|w_
        ·(try simp only[aH.down,simprocAttr,qy,w_]);refine iO (yX cD.1 aX.1 _ sv) rfl rfl (by simp only[aH.down,simprocAttr,qy,w_,AL.down]<;>rfl) rfl (inr (by rfl)) ?_;simp only[aH.down,simprocAttr,qy,w_];exact bR (U qy w_)
        ·(try simp only[aH.down,simprocAttr,qy,w_]);refine iO (yX cD.1 aX.1 _ sv) rfl rfl (by simp only[aH.down,simprocAttr,qy,w_,AL.down]<;>rfl) rfl (inr (by rfl)) ?_;simp only[aH.down,simprocAttr,qy,w_];exact bR (U qy w_)
       refine aF h (λTm h=>?_) λTm h=>?_
       .exact aS abl [.bool false]
       .refine aL (n48 _ (inl (al ?_)));obtain⟨iA,om,h⟩:=aM h;refine dw (b5 [(1,ad jL J),(2,.aP (od a0)),(6,.ag 1 (aX.1.map aE)),(7,R aX.2),(10,.ag 1 (iA.2.map aE)),(13,R iA.1)] (λP bd=>?_) ?_)
        ·(try simp only[aH.down,simprocAttr]);refine kj [⟨.h 10 [],true,_,_⟩,⟨R 1,false,_,.hole⟩] (Tn cD.1 1 _ om) rfl rfl rfl (by simp only[aH.down,simprocAttr,Sc.down]) rfl rfl (inl rfl) ?_;simp only[aH.down,simprocAttr,jI];exact bR trivial
        refine al ?_;obtain⟨qi,tI,h⟩:=aM h;refine dw (b5 [(1,ad jL J),(2,.aP (od a0)),(6,.ag 1 (aX.1.map aE)),(7,R aX.2),(10,.ag 1 (iA.2.map aE)),(13,R iA.1),(14,R qi)] (λP bd=>?_) ?_)
        ·(try simp only[aH.down,simprocAttr]);refine dz (abk iA.2 1 _ tI) rfl rfl (by simp only[aH.down,simprocAttr,yL.down]<;>rfl) rfl (inr (by rfl)) ?_;simp only[aH.down,simprocAttr];exact bR trivial
        refine ax ak λ_ n62 ate _=>al ?_;refine aF h (λSt h=>?_) λSt h=>?_
        .exact aS ate [.bool false]
        .refine aL (n62 _ (inl (ax ak λ_ atf atg _=>al ?_)));refine aF h (λath h=>?_) λath h=>?_
         .exact aS atg [.bool false]
         .refine aL (atf _ (inl ?_));obtain⟨lD,vr,lE,ati,ko,HJ,h⟩:=iQ h;refine dw (b5 [(6,.ag 1 (aX.1.map aE)),(7,R aX.2),(10,.ag 1 (iA.2.map aE)),(13,R iA.1),(15,.ag 1 (ko.1.map aE)),(16,R ko.2)] (λP bd=>?_) ?_)
          ·(try simp only[aH.down,simprocAttr]);refine dz (LH a0 _ vr) (hK:= ?_);simp only[aH.down,simprocAttr];refine dz (LI J _ ati) (hK:= ?_);simp only[aH.down,simprocAttr];refine dz (abg lD lE _ HJ) rfl rfl (by simp only[aH.down,simprocAttr,Sd.down]<;>rfl) rfl (inr (by simp only[I.c8,I.gJ, @jZ _ aE (λ_=>DL _),Bool.and_self])) ?_;simp only[aH.down,simprocAttr];exact bR trivial
          refine ax ak λ_ n74 S5 _=>?_;obtain⟨lF,LK,h⟩:=aM h;refine dw (b5 [(10,.ag 1 (iA.2.map aE)),(13,R iA.1),(110,.bool ((!lF)||(ko.2 !=aX.2)))] (λP bd=>?_) ?_)
          .rcases Bool.eq_false_or_eq_true (lF)with xa|xa
           ·(try simp only[aH.down,simprocAttr,xa]);refine dz (yX ko.1 aX.1 _ LK) rfl rfl (by simp only[aH.down,simprocAttr,xa,AL.down]<;>rfl) rfl (inr (by rfl)) ?_;simp only[aH.down,simprocAttr,xa];exact bR xa
           ·(try simp only[aH.down,simprocAttr,xa]);refine dz (yX ko.1 aX.1 _ LK) rfl rfl (by simp only[aH.down,simprocAttr,xa,AL.down]<;>rfl) rfl (inr (by rfl)) ?_;simp only[aH.down,simprocAttr,xa];exact bR xa
          refine aF h (λatj h=>?_) λatj h=>?_
          .exact aS S5 [.bool false]
          .refine aL (n74 _ (inl (al ?_)));obtain⟨lG,atk,h⟩:=aM h;refine dw (b5 [(13,R iA.1),(14,R lG)] (λP bd=>?_) ?_)
           ·(try simp only[aH.down,simprocAttr]);refine dz (abk iA.2 1 _ atk) rfl rfl (by simp only[aH.down,simprocAttr,yL.down]<;>rfl) rfl (inr (by rfl)) ?_;simp only[aH.down,simprocAttr];exact bR trivial
           refine ax ak λ_ n83 S6 _=>al ?_;refine aF h (λS7 h=>?_) λS7 h=>?_
           .exact aS S6 [.bool false]
           .refine aL (n83 _ (inl (ax ak λ_ n87 atl _=>al ?_)));refine aF h (λatm h=>?_) λatm h=>?_
            .exact aS atl [.bool false]
            .exact aL (n87 _ (inl (aS ak [.bool true])))
end Go.Proofs.YtafceioodemeeaaGreatDoor
