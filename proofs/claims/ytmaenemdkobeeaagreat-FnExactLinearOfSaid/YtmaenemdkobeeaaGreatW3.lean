/- Part of a proof that a law returns true for every input. No condition. -/
import Derived.Test.YtmaenemdkobeeaaGreatW1x3
namespace Go.Proofs.YtmaenemdkobeeaaGreat
open Option Go.IntKind Nat Or
open Go Go.ek Go.mc
set_option maxRecDepth 100000
set_option maxHeartbeats 3600000
set_option linter.unusedSimpArgs false
set_option linter.unusedVariables false
theorem akn (I r) (h:Gz I=some r):ba ah 92 [.slice (I.map bL)] (.bool r) []:=by
 refine bF [0] [.tmp 2] Tryz.func92 afQ λbw aj bu=>an ?_;refine aA aj λ_ bD bb _=>an ?_;refine bh bb λeC _ bX bN _=>?_;show a6 ah (.loop ?eA) _ _;have eT:∀n dW,zr I n dW=some r->cL ah ?eA eC (aq [(0,.slice (I.map bL)),(5,.slice (I.map bL)),(6,.int .i64 (I.length:Int)),(7,.int .i64 dW)]):=by
  refine cY λ_ eH dW h=>cV bX λ_ dJ cm aP=>an ?_;refine aA cm λ_ dR _ bp=>aO h (λcw h=>?_) λcw h=>?_
  .refine aS (dR _ (inl (aA cm λ_ cJ cd di=>bh cd λ_ b1 cz _ cE=>?_)));obtain⟨U,dL,h⟩:=ar h;refine c5 dL _ ?_;refine aA cz λ_ gh gB _=>?_;obtain⟨aP,fq,h⟩:=ar h;rcases dH h with⟨fc,h⟩|⟨fc,h⟩
   .refine mg (hz fc) (lq U.Left _ fq) _ ?_;refine iE rfl ?_;exact aT gB [.bool false]
   .obtain⟨aV,hJ,h⟩:=ar h;rcases dH h with⟨hL,h⟩|⟨hL,h⟩
    .refine ko rfl (h0 [(0,.slice (I.map bL)),(4,.aG (bL U)),(5,.slice (I.map bL)),(6,.int .i64 (I.length:Int)),(7,.int .i64 dW),(48,.bool true)] (λP aX=>?_) ?_)
     ·(try simp only[cM.down,simprocAttr,(bV fc),(hz hL)]);refine g1 (lq U.Left _ fq) (hK:= ?_);simp only[cM.down,simprocAttr,(bV fc),(hz hL)];refine m4 (lq U.ct _ hJ) (hK:= ?_);simp only[cM.down,simprocAttr,(bV fc),(hz hL)];refine⟨hc (by kernel_rfl),?_⟩;exact bR (aa (bV fc) (hz hL))
     refine iE rfl ?_;exact aT gB [.bool false]
    .obtain⟨bp,qN,h⟩:=ar h;rcases dH h with⟨jW,h⟩|⟨jW,h⟩
     .refine ko rfl (h0 [(0,.slice (I.map bL)),(4,.aG (bL U)),(5,.slice (I.map bL)),(6,.int .i64 (I.length:Int)),(7,.int .i64 dW),(48,.bool true)] (λP aX=>?_) ?_)
      ·(try simp only[cM.down,simprocAttr,(bV fc),(bV hL),(hz jW)]);refine g1 (lq U.Left _ fq) (hK:= ?_);simp only[cM.down,simprocAttr,(bV fc),(bV hL),(hz jW)];refine m4 (lq U.ct _ hJ) (hK:= ?_);simp only[cM.down,simprocAttr,(bV fc),(bV hL),(hz jW)];refine m4 (lq U.Result _ qN) (hK:= ?_);simp only[cM.down,simprocAttr,(bV fc),(bV hL),(hz jW)];refine⟨hc (by kernel_rfl),?_⟩;exact bR (aa (bV fc) (aa (bV hL) (hz jW)))
      refine iE rfl ?_;exact aT gB [.bool false]
     .rcases dH h with⟨iS,h⟩|⟨iS,h⟩
      .refine ko rfl (h0 [(0,.slice (I.map bL)),(4,.aG (bL U)),(5,.slice (I.map bL)),(6,.int .i64 (I.length:Int)),(7,.int .i64 dW),(48,.bool true)] (λP aX=>?_) ?_)
       ·(try simp only[cM.down,simprocAttr,(bV fc),(bV hL),(bV jW),iS]);refine g1 (lq U.Left _ fq) (hK:= ?_);simp only[cM.down,simprocAttr,(bV fc),(bV hL),(bV jW),iS];refine m4 (lq U.ct _ hJ) (hK:= ?_);simp only[cM.down,simprocAttr,(bV fc),(bV hL),(bV jW),iS];refine m4 (lq U.Result _ qN) (hK:= ?_);simp only[cM.down,simprocAttr,(bV fc),(bV hL),(bV jW),iS];refine⟨hc (by kernel_rfl),?_⟩;exact bR (aa (bV fc) (aa (bV hL) (aa (bV jW) iS)))
       refine iE rfl ?_;exact aT gB [.bool false]
      .rcases dH h with⟨h3,h⟩|⟨h3,h⟩
       .obtain⟨cp,mK,h⟩:=ar h;obtain⟨di,rU,h⟩:=ar h;refine ko rfl (h0 [(0,.slice (I.map bL)),(4,.aG (bL U)),(5,.slice (I.map bL)),(6,.int .i64 (I.length:Int)),(7,.int .i64 dW),(48,.bool (decide (0<=di)))] (λP aX=>?_) ?_)
        ·(try simp only[cM.down,simprocAttr,(bV fc),(bV hL),(bV jW),iS,h3,mK]);refine g1 (lq U.Left _ fq) (hK:= ?_);simp only[cM.down,simprocAttr,(bV fc),(bV hL),(bV jW),iS,h3,mK];refine m4 (lq U.ct _ hJ) (hK:= ?_);simp only[cM.down,simprocAttr,(bV fc),(bV hL),(bV jW),iS,h3,mK];refine m4 (lq U.Result _ qN) (hK:= ?_);simp only[cM.down,simprocAttr,(bV fc),(bV hL),(bV jW),iS,h3,mK];refine m4 (akk cp U _ rU) (hK:= ?_);simp only[cM.down,simprocAttr,(bV fc),(bV hL),(bV jW),iS,h3,mK];refine⟨hc (by kernel_rfl),?_⟩;exact bR (aa (bV fc) (aa (bV hL) (aa (bV jW) (aa iS (aa h3 mK)))))
        refine aO h (λo0 h=>?_) λo0 h=>?_
        .exact aT gB [.bool false]
        .refine aS (gh _ (inl ?_));obtain⟨cE,Of,h⟩:=ar h;refine du (b5 [(0,.slice (I.map bL)),(5,.slice (I.map bL)),(6,.int .i64 (I.length:Int)),(7,.int .i64 dW),(51,.bool cE)] (λP aX=>?_) ?_)
         ·(try simp only[aR.down,simprocAttr]);refine d_ (U0 I U _ Of) rfl rfl (by simp only[aR.down,simprocAttr,Ds.down]<;>rfl) rfl (inr (by rfl)) ?_;simp only[aR.down,simprocAttr];exact bR trivial
         refine aO h (λOG h=>?_) λOG h=>?_
         .exact aT cz [.bool false]
         .refine aS (b1 _ (cJ _ (inl (dG ?_))));exact dJ _ (inr ⟨_,bx rfl,eH (i64.wrap (dW+1)) h⟩)
       .refine ko rfl (h0 [(0,.slice (I.map bL)),(4,.aG (bL U)),(5,.slice (I.map bL)),(6,.int .i64 (I.length:Int)),(7,.int .i64 dW),(48,.bool false)] (λP aX=>?_) ?_)
        ·(try simp only[cM.down,simprocAttr,(bV fc),(bV hL),(bV jW),iS,h3]);refine g1 (lq U.Left _ fq) (hK:= ?_);simp only[cM.down,simprocAttr,(bV fc),(bV hL),(bV jW),iS,h3];refine m4 (lq U.ct _ hJ) (hK:= ?_);simp only[cM.down,simprocAttr,(bV fc),(bV hL),(bV jW),iS,h3];refine m4 (lq U.Result _ qN) (hK:= ?_);simp only[cM.down,simprocAttr,(bV fc),(bV hL),(bV jW),iS,h3];refine⟨hc (by kernel_rfl),?_⟩;exact bR (aa (bV fc) (aa (bV hL) (aa (bV jW) (aa iS h3))))
        refine m3 rfl ?_;refine aS (gh _ (inl ?_));obtain⟨de,DN,h⟩:=ar h;refine du (b5 [(0,.slice (I.map bL)),(5,.slice (I.map bL)),(6,.int .i64 (I.length:Int)),(7,.int .i64 dW),(51,.bool de)] (λP aX=>?_) ?_)
        ·(try simp only[aR.down,simprocAttr]);refine d_ (U0 I U _ DN) rfl rfl (by simp only[aR.down,simprocAttr,Ds.down]<;>rfl) rfl (inr (by rfl)) ?_;simp only[aR.down,simprocAttr];exact bR trivial
        refine aO h (λNY h=>?_) λNY h=>?_
        .exact aT cz [.bool false]
        .refine aS (b1 _ (cJ _ (inl (dG ?_))));exact dJ _ (inr ⟨_,bx rfl,eH (i64.wrap (dW+1)) h⟩)
  .exact cT (bp 0 _ (aP 0 _ (bN _ (bD _ (inl (aT aj [.bool (decide ((I.length:Int)<=6))]))))))
 exact dy h λn h=>eT n 0 h
theorem U1 (I r) (h:CU I=some r):ba ah 93 [.slice (I.map bj)] (.bool r) []:=by
 refine bF [0] [.tmp 2] Tryz.func93 Nl λbw aj bu=>an ?_;refine aA aj λ_ bD bb ai=>an ?_;refine bh bb λeC _ bX bN _=>?_;show a6 ah (.loop ?eA) _ _;have eT:∀n dW,zs I n dW=some r->cL ah ?eA eC (aq [(0,.slice (I.map bj)),(5,.slice (I.map bj)),(6,.int .i64 (I.length:Int)),(7,.int .i64 dW)]):=by
  refine cY λ_ eH dW h=>cV bX λ_ dJ cm aP=>an ?_;refine aA cm λ_ dR _ bp=>aO h (λcw h=>?_) λcw h=>?_
  .refine aS (dR _ (inl (aA cm λ_ cJ cd _=>bh cd λ_ b1 cz _ _=>?_)));obtain⟨U,dL,h⟩:=ar h;refine c5 dL _ ?_;obtain⟨ai,dQ,h⟩:=ar h;rcases dH h with⟨fp,h⟩|⟨fp,h⟩
   .refine fw (hz fp) (lq U _ dQ) _ ?_;refine iE rfl ?_;exact aT cz [.bool false]
   .rcases dH h with⟨hC,h⟩|⟨hC,h⟩
    .obtain⟨aB,fy,h⟩:=ar h;refine fw (aa (bV fp) (aa hC fy)) (lq U _ dQ) _ ?_;refine aO h (λiq h=>?_) λiq h=>?_
     .exact aT cz [.bool false]
     .refine aS (b1 _ (cJ _ (inl (dG ?_))));exact dJ _ (inr ⟨_,bx rfl,eH (i64.wrap (dW+1)) h⟩)
    .refine fw (aa (bV fp) hC) (lq U _ dQ) _ ?_;refine m3 rfl ?_;refine aS (b1 _ (cJ _ (inl (dG ?_))));exact dJ _ (inr ⟨_,bx rfl,eH (i64.wrap (dW+1)) h⟩)
  .exact cT (bp 0 _ (aP 0 _ (bN _ (bD _ (inl (aT aj [.bool (decide ((I.length:Int)<=12))]))))))
 exact dy h λn h=>eT n 0 h
theorem ako (I r) (h:GA I=some r):ba ah 56 [fF I] (.int .i64 r) []:=by
 refine bF [0] [.tmp 2] Tryz.func56 Nm λbw aj bu=>an ?_;refine aA aj λ_ bD bb ai=>bh bb λ_ fk dt _ aB=>?_;obtain⟨U,cF,h⟩:=ar h;refine dC (aka I.aC _ cF) _ ?_;refine aO h (λeL h=>?_) λeL h=>?_
 .exact aT dt [.int .i64 1]
 .obtain⟨ai,ie,h⟩:=ar h;rcases dH h with⟨fU,h⟩|⟨fU,h⟩
  .refine fw (hz fU) (kc (I.b7.length:Int) 1 3 _ ie) _ ?_;refine iE rfl ?_;exact aT dt [.int .i64 2]
  .obtain⟨aB,dL,h⟩:=ar h;refine du (b5 [(1,.aG (fF I)),(8,.bool aB)] (λP aX=>?_) ?_)
   ·(try simp only[aR.down,simprocAttr,(bV fU)]);refine d_ (kc (I.b7.length:Int) 1 3 _ ie) (hK:= ?_);simp only[aR.down,simprocAttr,(bV fU)];refine ij (akh I.b7 I _ dL) rfl rfl (by simp only[aR.down,simprocAttr,(bV fU),NA.down]<;>rfl) rfl (inr (by rfl)) ?_;simp only[aR.down,simprocAttr,(bV fU)];exact bR (bV fU)
   refine aO h (λg5 h=>?_) λg5 h=>?_
   .exact aT dt [.int .i64 2]
   .obtain⟨a7,cN,h⟩:=ar h;refine dC (akn I.hA _ cN) _ ?_;refine aO h (λhC h=>?_) λhC h=>?_
    .exact aT dt [.int .i64 3]
    .obtain⟨aP,hn,h⟩:=ar h;refine dC (U1 I.hg _ hn) _ ?_;refine aO h (λrS h=>?_) λrS h=>?_
     .exact aT dt [.int .i64 4]
     .obtain⟨aV,jH,h⟩:=ar h;refine dC (U1 I.hh _ jH) _ ?_;refine aO h (λoo h=>?_) λoo h=>?_
      .exact aT dt [.int .i64 5]
      .exact aS (fk _ (bD _ (inl (aT aj [.int .i64 0]))))
theorem akp (I r) (h:GB I=some r):ba ah 24 [fF I] (.bool r) []:=by
 refine bF [0] [.tmp 2] Tryz.func24 Nn λbw aj bu=>an ?_;obtain⟨U,aY,h⟩:=ar h;refine dC (ako I _ aY) _ ?_;exact dV aj [.bool (U==0)]
theorem akq (I r) (h:GD I=some r):ba ah 58 [fF I] (.af 1 (r.map h7)) []:=by
 refine bF [0] [.tmp 2] Tryz.func58 afR λbw aj bu=>an ?_;refine an ?_;refine aA aj λ_ fk dt aB=>an ?_;refine bh dt λmi _ cm cS _=>?_;show a6 ah (.loop ?hx) _ _;have hU:∀n bA e5,tW I n bA e5=some r->cL ah ?hx mi (aq [(3,.af 1 (bA.map h7)),(9,.slice (I.aC.map br)),(10,.int .i64 (I.aC.length:Int)),(11,.int .i64 e5)]):=by
  refine cY λjA hI bA e5 h=>cV cm λ_ dp dK aV=>an ?_;refine aA dK λ_ gT _ cp=>aO h (λfh h=>?_) λfh h=>?_
  .refine aS (gT _ (inl (aA dK λ_ b1 cz _=>bh cz λ_ eX gM _ _=>?_)));obtain⟨U,dw,h⟩:=ar h;refine c5 dw _ ?_;obtain⟨ai,eg,h⟩:=ar h;refine dC (HN U _ eg) _ ?_;refine bh gM λOE _ kZ jI _=>?_;show a6 ah (.loop ?xD) _ _;have akr:∀n lL i4 mH il,tV (tW I jA) I U ai n lL i4 mH il=some r->cL ah ?xD OE (aq [(3,.af 1 (lL.map h7)),(4,.int .i64 i4),(5,.aG (br U)),(9,.slice (I.aC.map br)),(10,.int .i64 (I.aC.length:Int)),(11,.int .i64 mH),(17,.af 2 (ai.map e8)),(18,.int .i64 (ai.length:Int)),(19,.int .i64 il)]):=by
    refine cY λaks akt lL i4 mH il h=>cV kZ λDz ju jm kI=>an ?_;refine aA jm λ_ ng _ me=>aO h (λgn h=>?_) λgn h=>?_
    .refine aS (ng _ (inl ?_));show a6 ah (.seq _ ?Dq) _ _;have vA:∀py pz zu zv,xl (tW I jA) (tV (tW I jA) I U ai aks) I U ai py pz zu zv=some r->a6 ah ?Dq Dz (aq [(3,.af 1 (py.map h7)),(4,.int .i64 pz),(5,.aG (br U)),(9,.slice (I.aC.map br)),(10,.int .i64 (I.aC.length:Int)),(11,.int .i64 zu),(17,.af 2 (ai.map e8)),(18,.int .i64 (ai.length:Int)),(19,.int .i64 zv)]):=by
      intro py pz zu zv h;refine dG ?_;exact ju _ (inr ⟨_,bx rfl,akt py pz zu (i64.wrap (zv+1)) h⟩)
     refine aA jm λ_ nM nL _=>bh nL λ_ z8 _ _ _=>?_;obtain⟨aB,hJ,h⟩:=ar h;refine c5 (aa hJ (cu hJ)) _ ?_;rcases dH h with⟨jv,h⟩|⟨jv,h⟩
     .refine c5 jv _ ?_;refine iE rfl ?_;obtain⟨aq2,ud,h⟩:=ar h;(try simp only[hj.down,Nat.zero_add,Nat.add_zero,reduceAdd]at ud);refine h5 (b5 [(3,.af 1 ((lL++[[i4,il]]).map h7)),(4,.int .i64 i4),(5,.aG (br U)),(9,.slice (I.aC.map br)),(10,.int .i64 (I.aC.length:Int)),(11,.int .i64 mH),(17,.af 2 (ai.map e8)),(18,.int .i64 (ai.length:Int)),(19,.int .i64 il)] (λP aX=>?_) ?_)
      .simp only[aR.down,simprocAttr,(show∀s,dz ah s 29 2 [(0,.int .i64 i4),(1,.int .i64 il)]=some (.af 1 [.int .i64 i4,.int .i64 il],s)from λs=>by kernel_rfl),vt.down,eZ,cH,ud];(try simp only[gH.down,simprocAttr,(show∀s,dz ah s 29 2 [(0,.int .i64 i4),(1,.int .i64 il)]=some (.af 1 [.int .i64 i4,.int .i64 il],s)from λs=>by kernel_rfl),vt.down,eZ,cH,ud]at aX⊢);exact aX
      exact z8 _ (nM _ (inr ⟨_,bx rfl,vA (lL++[[i4,il]]) i4 mH il h⟩))
     .rcases dH h with⟨kK,h⟩|⟨kK,h⟩
      .obtain⟨a7,h9,h⟩:=ar h;refine c5 (aa jv (aa kK h9)) _ ?_;refine aO h (λqK h=>?_) λqK h=>?_
       .obtain⟨U2,mK,h⟩:=ar h;(try simp only[hj.down,Nat.zero_add,Nat.add_zero,reduceAdd]at mK);refine h5 (b5 [(3,.af 1 ((lL++[[i4,il]]).map h7)),(4,.int .i64 i4),(5,.aG (br U)),(9,.slice (I.aC.map br)),(10,.int .i64 (I.aC.length:Int)),(11,.int .i64 mH),(17,.af 2 (ai.map e8)),(18,.int .i64 (ai.length:Int)),(19,.int .i64 il)] (λP aX=>?_) ?_)
        .simp only[aR.down,simprocAttr,(show∀s,dz ah s 29 2 [(0,.int .i64 i4),(1,.int .i64 il)]=some (.af 1 [.int .i64 i4,.int .i64 il],s)from λs=>by kernel_rfl),vt.down,eZ,cH,mK];(try simp only[gH.down,simprocAttr,(show∀s,dz ah s 29 2 [(0,.int .i64 i4),(1,.int .i64 il)]=some (.af 1 [.int .i64 i4,.int .i64 il],s)from λs=>by kernel_rfl),vt.down,eZ,cH,mK]at aX⊢);exact aX
        exact z8 _ (nM _ (inr ⟨_,bx rfl,vA (lL++[[i4,il]]) i4 mH il h⟩))
       .exact aS (z8 _ (nM _ (inr ⟨_,bx rfl,vA lL i4 mH il h⟩)))
      .refine c5 (aa jv kK) _ ?_;refine m3 rfl ?_;exact aS (z8 _ (nM _ (inr ⟨_,bx rfl,vA lL i4 mH il h⟩)))
    .refine cT (me 2 _ (kI 2 _ (jI _ (eX _ (b1 _ (inl (dG ?_)))))));exact dp _ (inr ⟨_,bx rfl,hI lL (i64.wrap (mH+1)) h⟩)
   exact dy h λn h=>akr n bA e5 e5 0 h
  .exact cT (cp 0 _ (aV 0 _ (cS _ (fk _ (inl (aT aj [.af 1 (bA.map h7)]))))))
 obtain⟨n,h⟩:=mo h;exact oM (inr ⟨_,iZ [] rfl (i1 (t:=3) (d:=.au) (bE:=.af 1 []) rfl rfl (.gS _) (by decide) (eF (t:=9) (d:=.slice (I.aC.map br)) rfl (eF (t:=10) (d:=.int .i64 (I.aC.length:Int)) rfl (eF (t:=11) (d:=.int .i64 0) rfl (i0))))),hU n [] 0 h⟩)
theorem U3 (I R r) (h:CV I R=some r):ba ah 59 [.ref (ku I),.slice (R.map bd)] (.int .i64 r) []:=by
 refine bF [0,1] [.tmp 4] Tryz.func59 afS λbw aj bu=>an ?_;obtain⟨U,aY,h⟩:=ar h;obtain⟨ai,bT,h⟩:=ar h;obtain⟨aB,cF,h⟩:=ar h;obtain⟨a7,cj,h⟩:=ar h;obtain⟨aP,b0,h⟩:=ar h;refine mg (aa aY (aa bT (aa cj (aa b0 (cu b0))))) (HN ai _ cF) _ ?_;exact dV aj [.int .i64 aP.scope]
theorem aku (I R aM r) (h:Mb I R aM=some r):ba ah 96 [.slice (I.map bd),.ref (.int .i64 R),.ref (.int .i64 aM)] (.bool r) []:=by
 refine bF [0,1,2] [.tmp 4] Tryz.func96 afT λbw aj bu=>an ?_;obtain⟨U,aY,h⟩:=ar h;rcases dH h with⟨bN,h⟩|⟨bN,h⟩
 .obtain⟨ai,cF,h⟩:=ar h;refine qH (aa aY (aa bN cF)) _ ?_;exact dV aj [.bool (ai==aM)]
 .refine qH (aa aY bN) _ ?_;exact dV aj [.bool false]
theorem akv (I e_ fa r) (h:Md I e_ fa=some r):ba ah 95 [.slice (I.map c3),.fn 96 [.ref (.int .i64 e_),.ref (.int .i64 fa)]] (.int .i64 r) []:=by
 refine bF [0,1] [.tmp 4] Tryz.func95 afU λbw aj bu=>an ?_;refine aA aj λ_ bD bb ai=>an ?_;refine bh bb λeC _ bX bN _=>?_;show a6 ah (.loop ?eA) _ _;have eT:∀n cI,zw I e_ fa n cI=some r->cL ah ?eA eC (aq [(0,.slice (I.map c3)),(1,.fn 96 [.ref (.int .i64 e_),.ref (.int .i64 fa)]),(7,.int .i64 (I.length:Int)),(8,.int .i64 cI)]):=by
  refine cY λ_ eH cI h=>cV bX λ_ dJ cm aP=>an ?_;refine aA cm λ_ dR _ bp=>aO h (λcw h=>?_) λcw h=>?_
  .refine aS (dR _ (inl (aA cm λ_ cJ cd _=>bh cd λ_ b1 cz _ _=>an ?_)));obtain⟨U,dw,h⟩:=ar h;obtain⟨ai,dQ,h⟩:=ar h;refine fw dw (aku U e_ fa _ dQ) _ ?_;refine aO h (λfp h=>?_) λfp h=>?_
   .exact aT cz [.int .i64 cI]
   .refine aS (b1 _ (cJ _ (inl (dG ?_))));exact dJ _ (inr ⟨_,bx rfl,eH (i64.wrap (cI+1)) h⟩)
  .exact cT (bp 0 _ (aP 0 _ (bN _ (bD _ (inl (aT aj [.int .i64 (-1)]))))))
 exact dy h λn h=>eT n 0 h
theorem OH (I R aM r) (h:zx I R aM=some r):ba ah 60 [.ref (ku I),.int .i64 R,.int .i64 aM] (.int .i64 r) []:=by
 refine bF [0,1,2] [.tmp 6] Tryz.func60 afV λbw aj bu=>an ?_;obtain⟨U,aY,h⟩:=ar h;refine du (b5 [(6,.int .i64 U)] (λP aX=>?_) ?_)
 ·(try simp only[aR.down,simprocAttr]);refine d_ (akv I.places R aM _ aY) rfl rfl (by simp only[aR.down,simprocAttr,Ds.down]<;>rfl) rfl (inr (by rfl)) ?_;simp only[aR.down,simprocAttr];exact bR trivial
 exact dV aj [.int .i64 U]
theorem U4 (I r) (h:CW I=some r):ba ah 100 [.slice (I.map bd)] (.af 1 (r.map bd)) []:=by
 refine bF [0] [.tmp 2] Tryz.func100 afW λbw aj bu=>an ?_;refine aA aj λ_ bD bb _=>?_;rcases dH h with⟨bN,h⟩|⟨bN,h⟩
 .refine du (b5 [(0,.slice (I.map bd)),(4,.fW)] (λP aX=>?_) ?_)
  .simp only[aR.down,simprocAttr,nJ.down,(yJ bN)];exact bR (aa nJ.down (yJ bN))
  obtain⟨bI,h⟩:=Eh h;refine E_ rfl ?_ ?_
  .replace h:=bI;refine an ?_;exact jr (bb _ (inr ⟨[(2,.af 1 [])],iZ [] rfl (i1 (t:=2) (d:=.au) rfl rfl (.gS _) (by decide) (i0)),oP [.af 1 []]⟩))
  .refine aS (bD _ (inl ?_));obtain⟨u8,gZ,h⟩:=ar h;(try simp only[hj.down,Nat.zero_add,Nat.add_zero,reduceAdd]at gZ);refine c5 (aa (show∀s,dz ah s 29 0 []=some (.af 1 [],s)from λs=>by kernel_rfl) (aa (@iN ah 29 29 2 rfl rfl) (aa @iO (aa @iP (aa @hR (aa @all_cons (aa @all_nil (aa gZ (@hQ _ bd 1 λ_=>rfl))))))))) _ ?_;exact dV aj [.af 1 (I.map bd)]
 .refine du (b5 [(0,.slice (I.map bd)),(4,.bool false)] (λP aX=>?_) ?_)
  .simp only[aR.down,simprocAttr,nJ.down,(yK bN)];exact bR (aa nJ.down (yK bN))
  refine m3 rfl ?_;refine aS (bD _ (inl ?_));obtain⟨U5,jz,h⟩:=ar h;(try simp only[hj.down,Nat.zero_add,Nat.add_zero,reduceAdd]at jz);refine c5 (aa (show∀s,dz ah s 29 0 []=some (.af 1 [],s)from λs=>by kernel_rfl) (aa (@iN ah 29 29 2 rfl rfl) (aa @iO (aa @iP (aa @hR (aa @all_cons (aa @all_nil (aa jz (@hQ _ bd 1 λ_=>rfl))))))))) _ ?_;exact dV aj [.af 1 (I.map bd)]
theorem akw (I R aM r) (h:Me I R aM=some r):ba ah 181 [.int .i64 I,.ref (.int .i64 R),.ref (.ref (ku aM))] (.af 2 (r.map bf)) []:=by
 refine bF [0,1,2] [.tmp 4] Tryz.func181 afX λbw aj bu=>an ?_;refine aA aj λ_ bD bb _=>an ?_;refine aO h (λbN h=>?_) λbN h=>?_
 .refine c5 (aa (show∀s,ey ah s 134 [(0,.int .i64 1),(1,.int .i64 (i64.wrap (1+I)))]=some (.agg [.int .i64 1,.int .i64 (i64.wrap (1+I))],s)from λs=>by kernel_rfl) (show∀s,dz ah s 97 1 [(0,.agg [.int .i64 1,.int .i64 (i64.wrap (1+I))])]=some (.af 2 [.agg [.int .i64 1,.int .i64 (i64.wrap (1+I))]],s)from λs=>by kernel_rfl)) _ ?_;exact dV bb [.af 2 ([(aF.mk 1 (i64.wrap (1+I)))].map bf)]
 .refine aS (bD _ (inl (qH (aa (show∀s,ey ah s 134 [(0,.int .i64 1),(1,.int .i64 (i64.wrap ((i64.wrap (aM.out.bW+I))-R)))]=some (.agg [.int .i64 1,.int .i64 (i64.wrap ((i64.wrap (aM.out.bW+I))-R))],s)from λs=>by kernel_rfl) (show∀s,dz ah s 97 1 [(0,.agg [.int .i64 1,.int .i64 (i64.wrap ((i64.wrap (aM.out.bW+I))-R))])]=some (.af 2 [.agg [.int .i64 1,.int .i64 (i64.wrap ((i64.wrap (aM.out.bW+I))-R))]],s)from λs=>by kernel_rfl)) _ ?_)));exact dV aj [.af 2 ([(aF.mk 1 (i64.wrap ((i64.wrap (aM.out.bW+I))-R)))].map bf)]
theorem akx (I e_ fa r) (h:Mg I e_ fa=some r):ba ah 180 [.slice (I.map bf),.fn 181 [.ref (.int .i64 e_),.ref (.ref (ku fa))]] (.af 2 (r.map bf)) []:=by
 refine bF [0,1] [.tmp 4] Tryz.func180 afY λbw aj bu=>an ?_;refine an ?_;refine aA aj λ_ fk dt _=>an ?_;refine bh dt λmi _ cm cS _=>?_;show a6 ah (.loop ?hx) _ _;have hU:∀n gm e5,vo I e_ fa n gm e5=some r->cL ah ?hx mi (aq [(1,.fn 181 [.ref (.int .i64 e_),.ref (.ref (ku fa))]),(5,.af 2 (gm.map bf)),(9,.slice (I.map bf)),(10,.int .i64 (I.length:Int)),(11,.int .i64 e5)]):=by
  refine cY λjA hI gm e5 h=>cV cm λ_ dp dK aV=>an ?_;refine aA dK λ_ gT _ cp=>aO h (λfh h=>?_) λfh h=>?_
  .refine aS (gT _ (inl (aA dK λ_ b1 cz _=>bh cz λz6 eX gM _ _=>?_)));obtain⟨U,dw,h⟩:=ar h;refine c5 dw _ ?_;refine an ?_;refine aA gM λ_ hd _ _=>an ?_;refine aO h (λhC h=>?_) λhC h=>?_
   .obtain⟨ai,fG,h⟩:=ar h;refine Ui (akw U.Value e_ fa _ fG) _ ?_;refine hd _ (inl ?_);show a6 ah (.seq _ ?tY) _ _;have DO:∀nE nF oh,xm (vo I e_ fa jA) I e_ fa nE nF oh=some r->a6 ah ?tY z6 (aq [(1,.fn 181 [.ref (.int .i64 e_),.ref (.ref (ku fa))]),(5,.af 2 (nE.map bf)),(8,.af 2 (nF.map bf)),(9,.slice (I.map bf)),(10,.int .i64 (I.length:Int)),(11,.int .i64 oh)]):=by
     intro nE nF oh h;obtain⟨aq3,fq,h⟩:=ar h;(try simp only[hj.down,Nat.zero_add,Nat.add_zero,reduceAdd]at fq);refine qG (aa (@iN ah 97 97 134 rfl rfl) (aa @iO (aa @iP (aa @hR (aa @all_cons (aa @all_nil (aa fq (@hQ _ bf 2 λ_=>rfl)))))))) [(1,.fn 181 [.ref (.int .i64 e_),.ref (.ref (ku fa))]),(5,.af 2 ((nE++nF).map bf)),(9,.slice (I.map bf)),(10,.int .i64 (I.length:Int)),(11,.int .i64 oh)] ?_;refine eX _ (b1 _ (inl (wr [(1,.fn 181 [.ref (.int .i64 e_),.ref (.ref (ku fa))]),(5,.af 2 ((nE++nF).map bf)),(9,.slice (I.map bf)),(10,.int .i64 (I.length:Int)),(11,.int .i64 (i64.wrap (oh+1)))] ?_)));exact dp _ (inr ⟨_,bx rfl,hI (nE++nF) (i64.wrap (oh+1)) h⟩)
    refine aA gM λ_ s4 _ _=>?_;rcases dH h with⟨oo,h⟩|⟨oo,h⟩
    .refine du (b5 [(1,.fn 181 [.ref (.int .i64 e_),.ref (.ref (ku fa))]),(5,.af 2 (gm.map bf)),(7,.aG (bf U)),(8,.af 2 (ai.map bf)),(9,.slice (I.map bf)),(10,.int .i64 (I.length:Int)),(11,.int .i64 e5),(23,.fW)] (λP aX=>?_) ?_)
     .simp only[aR.down,simprocAttr,nJ.down,(SL oo)];exact bR (aa nJ.down (SL oo))
     obtain⟨aky,h⟩:=Eh h;refine E_ rfl ?_ ?_
     .replace h:=aky;refine qG (show∀s,dz ah s 97 1 [(0,.agg [.int .i64 U.Kind,.int .i64 U.Value])]=some (.af 2 [.agg [.int .i64 U.Kind,.int .i64 U.Value]],s)from λs=>by kernel_rfl) _ ?_;exact s4 _ (inr ⟨_,bx rfl,DO gm [U] e5 h⟩)
     .exact aS (s4 _ (inr ⟨_,bx rfl,DO gm ai e5 h⟩))
    .refine du (b5 [(1,.fn 181 [.ref (.int .i64 e_),.ref (.ref (ku fa))]),(5,.af 2 (gm.map bf)),(7,.aG (bf U)),(8,.af 2 (ai.map bf)),(9,.slice (I.map bf)),(10,.int .i64 (I.length:Int)),(11,.int .i64 e5),(23,.bool false)] (λP aX=>?_) ?_)
     .simp only[aR.down,simprocAttr,nJ.down,(SM oo)];exact bR (aa nJ.down (SM oo))
     refine m3 rfl ?_;exact aS (s4 _ (inr ⟨_,bx rfl,DO gm ai e5 h⟩))
   .refine aS (hd _ (inl ?_));show a6 ah (.seq _ ?tY) _ _;have DO:∀nE nF oh,xm (vo I e_ fa jA) I e_ fa nE nF oh=some r->a6 ah ?tY z6 (aq [(1,.fn 181 [.ref (.int .i64 e_),.ref (.ref (ku fa))]),(5,.af 2 (nE.map bf)),(8,.af 2 (nF.map bf)),(9,.slice (I.map bf)),(10,.int .i64 (I.length:Int)),(11,.int .i64 oh)]):=by
     intro nE nF oh h;obtain⟨aic,vB,h⟩:=ar h;(try simp only[hj.down,Nat.zero_add,Nat.add_zero,reduceAdd]at vB);refine qG (aa (@iN ah 97 97 134 rfl rfl) (aa @iO (aa @iP (aa @hR (aa @all_cons (aa @all_nil (aa vB (@hQ _ bf 2 λ_=>rfl)))))))) [(1,.fn 181 [.ref (.int .i64 e_),.ref (.ref (ku fa))]),(5,.af 2 ((nE++nF).map bf)),(9,.slice (I.map bf)),(10,.int .i64 (I.length:Int)),(11,.int .i64 oh)] ?_;refine eX _ (b1 _ (inl (wr [(1,.fn 181 [.ref (.int .i64 e_),.ref (.ref (ku fa))]),(5,.af 2 ((nE++nF).map bf)),(9,.slice (I.map bf)),(10,.int .i64 (I.length:Int)),(11,.int .i64 (i64.wrap (oh+1)))] ?_)));exact dp _ (inr ⟨_,bx rfl,hI (nE++nF) (i64.wrap (oh+1)) h⟩)
    refine aA gM λ_ oX _ _=>c5 @SK _ ?_;refine iE rfl ?_;refine qG (show∀s,dz ah s 97 1 [(0,.agg [.int .i64 U.Kind,.int .i64 U.Value])]=some (.af 2 [.agg [.int .i64 U.Kind,.int .i64 U.Value]],s)from λs=>by kernel_rfl) _ ?_;exact oX _ (inr ⟨_,bx rfl,DO gm [U] e5 h⟩)
  .exact cT (cp 0 _ (aV 0 _ (cS _ (fk _ (inl (aT aj [.af 2 (gm.map bf)]))))))
 obtain⟨n,h⟩:=mo h;exact oM (inr ⟨_,iZ [] rfl (eF (t:=1) (d:=.fn 181 [.ref (.int .i64 e_),.ref (.ref (ku fa))]) rfl (i1 (t:=5) (d:=.au) (bE:=.af 2 []) rfl rfl (.gS _) (by decide) (eF (t:=9) (d:=.slice (I.map bf)) rfl (eF (t:=10) (d:=.int .i64 (I.length:Int)) rfl (eF (t:=11) (d:=.int .i64 0) rfl (i0)))))),hU n [] 0 h⟩)
theorem akz (I R aM r) (h:GF I R aM=some r):ba ah 162 [.ref (ku I),.slice (R.map bf),.int .i64 aM] (.af 2 (r.map bf)) []:=by
 refine bF [0,1,2] [.tmp 6] Tryz.func162 afZ λbw aj bu=>an ?_;obtain⟨U,aY,h⟩:=ar h;refine du (b5 [(6,.af 2 (U.map bf))] (λP aX=>?_) ?_)
 ·(try simp only[aR.down,simprocAttr]);refine d_ (akx R aM I _ aY) rfl rfl (by simp only[aR.down,simprocAttr,g9,g_,ha,dm, @bn _ br br (λ_=>pR _), @bn _ dF dF (λ_=>pT _), @bn _ bL bL (λ_=>lP _), @bn _ bj bj (λ_=>hH _), @bn _ bj bj (λ_=>hH _), @bn _ c3 c3 (λ_=>qF _), @bn _ bd bd (λ_=>jF _), @bn _ fL fL (λ_=>Hl _)]<;>rfl) rfl (inr (iM (λ_=>xz _) _)) ?_;simp only[aR.down,simprocAttr];exact bR trivial
 exact dV aj [.af 2 (U.map bf)]
theorem HR (I R aM r) (h:vp I R aM=some r):ba ah 131 [.ref (ku I),.slice (R.map cy),.int .i64 aM] (.af 1 (r.map c4)) []:=by
 refine bF [0,1,2] [.tmp 6] Tryz.func131 af0 λbw aj bu=>an ?_;refine an ?_;refine aA aj λ_ fk dt _=>an ?_;refine bh dt λmi _ cm cS _=>?_;show a6 ah (.loop ?hx) _ _;have hU:∀n iF qD,zy I R aM n iF qD=some r->cL ah ?hx mi (aq [(0,.ref (ku I)),(2,.int .i64 aM),(7,.af 1 (iF.map c4)),(10,.slice (R.map cy)),(11,.int .i64 (R.length:Int)),(12,.int .i64 qD)]):=by
  refine cY λ_ hI iF qD h=>cV cm λ_ dp dK aV=>an ?_;refine aA dK λ_ gT _ cp=>aO h (λfh h=>?_) λfh h=>?_
  .refine aS (gT _ (inl (aA dK λ_ b1 cz _=>bh cz λ_ eX _ _ _=>?_)));obtain⟨U,dw,h⟩:=ar h;refine c5 dw _ ?_;obtain⟨ai,eg,h⟩:=ar h;obtain⟨Ut,cN,h⟩:=ar h;(try simp only[hj.down,Nat.zero_add,Nat.add_zero,reduceAdd]at cN);refine h5 (b5 [(0,.ref (ku I)),(2,.int .i64 aM),(7,.af 1 ((iF++[ai]).map c4)),(10,.slice (R.map cy)),(11,.int .i64 (R.length:Int)),(12,.int .i64 qD)] (λP aX=>?_) ?_)
   ·(try simp only[aR.down,simprocAttr,jk.down,eZ,cH,cN]);refine d_ (akz I U aM _ eg) (hK:= ?_);simp only[aR.down,simprocAttr,jk.down,eZ,cH,cN];(try simp only[gH.down,simprocAttr,jk.down,eZ,cH,cN]at aX⊢);exact aX
   refine eX _ (b1 _ (inl (wr [(0,.ref (ku I)),(2,.int .i64 aM),(7,.af 1 ((iF++[ai]).map c4)),(10,.slice (R.map cy)),(11,.int .i64 (R.length:Int)),(12,.int .i64 (i64.wrap (qD+1)))] ?_)));exact dp _ (inr ⟨_,bx rfl,hI (iF++[ai]) (i64.wrap (qD+1)) h⟩)
  .exact cT (cp 0 _ (aV 0 _ (cS _ (fk _ (inl (aT aj [.af 1 (iF.map c4)]))))))
 obtain⟨n,h⟩:=mo h;exact oM (inr ⟨_,iZ [] rfl (eF (t:=0) (d:=.ref (ku I)) rfl (eF (t:=2) (d:=.int .i64 aM) rfl (i1 (t:=7) (d:=.au) (bE:=.af 1 []) rfl rfl (.gS _) (by decide) (eF (t:=10) (d:=.slice (R.map cy)) rfl (eF (t:=11) (d:=.int .i64 (R.length:Int)) rfl (eF (t:=12) (d:=.int .i64 0) rfl (i0))))))),hU n [] 0 h⟩)
theorem akA (I r) (h:GG I=some r):ba ah 163 [.slice (I.map bf)] (.af 2 (r.map bf)) []:=by
 refine bF [0] [.tmp 2] Tryz.func163 af1 λbw aj bu=>an ?_;refine aA aj λ_ bD bb _=>?_;rcases dH h with⟨bN,h⟩|⟨bN,h⟩
 .refine du (b5 [(0,.slice (I.map bf)),(4,.fW)] (λP aX=>?_) ?_)
  .simp only[aR.down,simprocAttr,nJ.down,(yJ bN)];exact bR (aa nJ.down (yJ bN))
  obtain⟨bI,h⟩:=Eh h;refine E_ rfl ?_ ?_
  .replace h:=bI;refine an ?_;exact jr (bb _ (inr ⟨[(2,.af 2 [])],iZ [] rfl (i1 (t:=2) (d:=.au) rfl rfl (.gS _) (by decide) (i0)),oP [.af 2 []]⟩))
  .refine aS (bD _ (inl ?_));obtain⟨u8,gZ,h⟩:=ar h;(try simp only[hj.down,Nat.zero_add,Nat.add_zero,reduceAdd]at gZ);refine c5 (aa (show∀s,dz ah s 97 0 []=some (.af 2 [],s)from λs=>by kernel_rfl) (aa (@iN ah 97 97 134 rfl rfl) (aa @iO (aa @iP (aa @hR (aa @all_cons (aa @all_nil (aa gZ (@hQ _ bf 2 λ_=>rfl))))))))) _ ?_;exact dV aj [.af 2 (I.map bf)]
 .refine du (b5 [(0,.slice (I.map bf)),(4,.bool false)] (λP aX=>?_) ?_)
  .simp only[aR.down,simprocAttr,nJ.down,(yK bN)];exact bR (aa nJ.down (yK bN))
  refine m3 rfl ?_;refine aS (bD _ (inl ?_));obtain⟨U5,jz,h⟩:=ar h;(try simp only[hj.down,Nat.zero_add,Nat.add_zero,reduceAdd]at jz);refine c5 (aa (show∀s,dz ah s 97 0 []=some (.af 2 [],s)from λs=>by kernel_rfl) (aa (@iN ah 97 97 134 rfl rfl) (aa @iO (aa @iP (aa @hR (aa @all_cons (aa @all_nil (aa jz (@hQ _ bf 2 λ_=>rfl))))))))) _ ?_;exact dV aj [.af 2 (I.map bf)]
theorem akB (R r) (h:GI R=some r):ba ah 182 [.au,.int .i64 R] (.af 2 (r.map bf)) []:=by
 refine bF [] [.tmp 4] Tryz.func182 af2 λbw aj bu=>an ?_;have OI:Mi R=some r->a6 ah T9 bw (aq [(0,.au),(1,.int .i64 R),(6,.bool (decide (R<0)))]):=by
  intro h;have pU:GH=some r->a6 ah T8 bw (aq [(0,.af 2 [])]):=by
   intro h;exact aT aj [.af 2 []]
  refine aA aj λ_ fk _ _=>c5 (aa @Fm λs x h=> @Fl ah s 97 134 x rfl h) _ ?_;refine an ?_;refine aO h (λpj h=>?_) λpj h=>?_
  .obtain⟨akC,ie,h⟩:=ar h;refine h5 (b5 [(0,.af 2 [])] (λP aX=>?_) ?_)
   .simp only[aR.down,simprocAttr,Uk.down,pa ie,jP,-Int.reduceNatCast',sF];(try simp only[gH.down,simprocAttr,Uk.down,pa ie,jP,-Int.reduceNatCast',sF]at aX⊢);exact aX
   exact fk _ (inr ⟨_,bx rfl,pU h⟩)
  .exact aS (fk _ (inr ⟨_,iZ [] rfl (i1 (t:=0) (d:=.au) (bE:=.af 2 []) rfl rfl (.gS _) (by decide) (i0)),pU h⟩))
 refine aA aj λ_ bD _ _=>an ?_;refine aO h (λjV h=>?_) λjV h=>?_
 .cases h
 .exact aS (bD _ (inr ⟨_,bx rfl,OI h⟩))
theorem akD (I r) (h:GJ I=some r):ba ah 164 [.slice (I.map cy)] (.af 2 (r.map bf)) []:=by
 refine bF [0] [.tmp 2] Tryz.func164 af3 λbw aj bu=>an ?_;refine an ?_;refine aA aj λ_ fk dt aB=>an ?_;refine bh dt λmi _ cm cS _=>?_;show a6 ah (.loop ?hx) _ _;have hU:∀n bA e5,xo I n bA e5=some r->cL ah ?hx mi (aq [(0,.slice (I.map cy)),(3,.int .i64 bA),(9,.slice (I.map cy)),(10,.int .i64 (I.length:Int)),(11,.int .i64 e5)]):=by
  refine cY λjA hI bA e5 h=>cV cm λjl dp dK aV=>an ?_;refine aA dK λ_ gT _ cp=>aO h (λfh h=>?_) λfh h=>?_
  .refine aS (gT _ (inl ?_));show a6 ah (.seq _ ?Dp) _ _;have DP:∀lM lN oT,Mj (xo I jA) I lM lN oT=some r->a6 ah ?Dp jl (aq [(0,.slice (I.map cy)),(3,.int .i64 lM),(9,.slice (I.map cy)),(10,.int .i64 (I.length:Int)),(11,.int .i64 lN),(20,.bool oT)]):=by
    intro lM lN oT h;refine dG ?_;exact dp _ (inr ⟨_,bx rfl,hI lM (i64.wrap (lN+1)) h⟩)
   refine aA dK λ_ b1 cz _=>bh cz λ_ gI _ _ _=>?_;obtain⟨U,dQ,h⟩:=ar h;refine c5 dQ _ ?_;refine an ?_;refine an ?_;refine aO h (λhC h=>?_) λhC h=>?_
   .cases h
   .exact aS (gI _ (b1 _ (inr ⟨_,bx rfl,DP (i64.wrap (bA+(U.length:Int))) e5 (decide ((i64.wrap (bA+(U.length:Int)))<0)) h⟩)))
  .refine cT (cp 0 _ (aV 0 _ (cS _ (fk _ (inl ?_)))));obtain⟨ai,hn,h⟩:=ar h;refine dC (akB bA _ hn) _ ?_;refine aA aj λ_ nM nL _=>an ?_;refine bh nL λDQ _ DR fc _=>?_;show a6 ah (.loop ?tY) _ _;have xM:∀n fu gL,xn I n fu gL=some r->cL ah ?tY DQ (aq [(6,.af 2 (fu.map bf)),(25,.slice (I.map cy)),(26,.int .i64 (I.length:Int)),(27,.int .i64 gL)]):=by
    refine cY λ_ xN fu gL h=>cV DR λ_ pX qO tR=>an ?_;refine aA qO λ_ pV _ qz=>aO h (λjv h=>?_) λjv h=>?_
    .refine aS (pV _ (inl (aA qO λ_ oX qI _=>bh qI λ_ oY _ _ _=>?_)));obtain⟨aB,h9,h⟩:=ar h;refine c5 h9 _ ?_;obtain⟨U2,mj,h⟩:=ar h;(try simp only[hj.down,Nat.zero_add,Nat.add_zero,reduceAdd]at mj);refine qG (aa (@iN ah 97 97 134 rfl rfl) (aa @iO (aa @iP (aa @hR (aa @all_cons (aa @all_nil (aa mj (@hQ _ bf 2 λ_=>rfl)))))))) [(6,.af 2 ((fu++aB).map bf)),(25,.slice (I.map cy)),(26,.int .i64 (I.length:Int)),(27,.int .i64 gL)] ?_;refine oY _ (oX _ (inl (wr [(6,.af 2 ((fu++aB).map bf)),(25,.slice (I.map cy)),(26,.int .i64 (I.length:Int)),(27,.int .i64 (i64.wrap (gL+1)))] ?_)));exact pX _ (inr ⟨_,bx rfl,xN (fu++aB) (i64.wrap (gL+1)) h⟩)
    .exact cT (qz 2 _ (tR 2 _ (fc _ (nM _ (inl (aT aj [.af 2 (fu.map bf)]))))))
   exact dy h λn h=>xM n ai 0 h
 exact dy h λn h=>hU n 0 0 h
theorem akE (GL:arO->Option arU) (akF:∀I r,GL I=some r->ba ah 132 [.slice (I.map cy)] (.af 2 (r.map bf)) []) (I r) (h:GK GL I=some r):ba ah 132 [.slice (I.map cy)] (.af 2 (r.map bf)) []:=by
 refine bF [0] [.tmp 2] Tryz.func132 af5 λbw aj bu=>an ?_;refine aA aj λ_ bD bb ai=>an ?_;refine bh bb λ_ gg bX _ a7=>an ?_;refine aO h (λeL h=>?_) λeL h=>?_
 .refine c5 (aa (show∀s,ey ah s 134 [(0,.int .i64 0),(1,.int .i64 1)]=some (.agg [.int .i64 0,.int .i64 1],s)from λs=>by kernel_rfl) (show∀s,dz ah s 97 1 [(0,.agg [.int .i64 0,.int .i64 1])]=some (.af 2 [.agg [.int .i64 0,.int .i64 1]],s)from λs=>by kernel_rfl)) _ ?_;exact dV bX [.af 2 ([(aF.mk 0 1)].map bf)]
 .refine an ?_;refine aO h (λfh h=>?_) λfh h=>?_
  .obtain⟨U,mX,h⟩:=ar h;obtain⟨ai,dL,h⟩:=ar h;refine fw mX (akA U _ dL) _ ?_;exact dV bX [.af 2 (ai.map bf)]
  .refine aS (gg _ (bD _ (inl ?_)));obtain⟨aB,dQ,h⟩:=ar h;obtain⟨a7,eg,h⟩:=ar h;obtain⟨aP,cN,h⟩:=ar h;obtain⟨aV,fb,h⟩:=ar h;refine ko rfl (h0 [(2,.af 2 (aV.map bf))] (λP aX=>?_) ?_)
   ·(try simp only[cM.down,simprocAttr,Hr.down,J.shares,dQ,eg,(show∀s,dz ah s 98 3 [(0,.slice [.agg [.int .i64 ((aF.mk 2 7).Kind),.int .i64 ((aF.mk 2 7).Value)]]),(1,.slice (aB.map bf)),(2,.slice (aP.map bf))]=some (.af 1 [.slice [.agg [.int .i64 ((aF.mk 2 7).Kind),.int .i64 ((aF.mk 2 7).Value)]],.slice (aB.map bf),.slice (aP.map bf)],s)from λs=>by kernel_rfl)]);refine g1 (((akF a7 _ cN)).wide (Fj rfl rfl (by simp only[dm,J.share,J.shares, @bn _ bf bf (λ_=>oi _)]<;>rfl)) rfl rfl) (hK:= ?_);simp only[cM.down,simprocAttr,Hr.down,J.shares,dQ,eg,(show∀s,dz ah s 98 3 [(0,.slice [.agg [.int .i64 ((aF.mk 2 7).Kind),.int .i64 ((aF.mk 2 7).Value)]]),(1,.slice (aB.map bf)),(2,.slice (aP.map bf))]=some (.af 1 [.slice [.agg [.int .i64 ((aF.mk 2 7).Kind),.int .i64 ((aF.mk 2 7).Value)]],.slice (aB.map bf),.slice (aP.map bf)],s)from λs=>by kernel_rfl)];refine g1 (akD [[(aF.mk 2 7)],aB,aP] _ fb) rfl rfl (by simp only[cM.down,simprocAttr,(show∀s,ey ah s 134 [(0,.int .i64 2),(1,.int .i64 7)]=some (.agg [.int .i64 2,.int .i64 7],s)from λs=>by kernel_rfl),(show∀s,dz ah s 97 1 [(0,.agg [.int .i64 2,.int .i64 7])]=some (.af 2 [.agg [.int .i64 2,.int .i64 7]],s)from λs=>by kernel_rfl),Ks,Kr,J.shares,dm,Kq, @bn _ bf bf (λ_=>oi _),dQ,eg, @hQ _ cy 1 (λ_=>rfl),(show∀s,dz ah s 98 3 [(0,.slice [.agg [.int .i64 ((aF.mk 2 7).Kind),.int .i64 ((aF.mk 2 7).Value)]]),(1,.slice (aB.map bf)),(2,.slice (aP.map bf))]=some (.af 1 [.slice [.agg [.int .i64 ((aF.mk 2 7).Kind),.int .i64 ((aF.mk 2 7).Value)]],.slice (aB.map bf),.slice (aP.map bf)],s)from λs=>by kernel_rfl),g9,g_,ha,dm,J.shares, @bn _ bf bf (λ_=>oi _), @bn _ bf bf (λ_=>oi _), @bn _ bf bf (λ_=>oi _), @bn _ cy cy (λ_=>rP _)]<;>rfl) rfl (inr (iM (λ_=>xz _) _)) ?_;simp only[cM.down,simprocAttr,Hr.down,J.shares,dQ,eg,(show∀s,dz ah s 98 3 [(0,.slice [.agg [.int .i64 ((aF.mk 2 7).Kind),.int .i64 ((aF.mk 2 7).Value)]]),(1,.slice (aB.map bf)),(2,.slice (aP.map bf))]=some (.af 1 [.slice [.agg [.int .i64 ((aF.mk 2 7).Kind),.int .i64 ((aF.mk 2 7).Value)]],.slice (aB.map bf),.slice (aP.map bf)],s)from λs=>by kernel_rfl)];refine⟨hc (by kernel_rfl),?_⟩;exact bR (aa Hr.down (aa dQ (aa eg (show∀s,dz ah s 98 3 [(0,.slice [.agg [.int .i64 ((aF.mk 2 7).Kind),.int .i64 ((aF.mk 2 7).Value)]]),(1,.slice (aB.map bf)),(2,.slice (aP.map bf))]=some (.af 1 [.slice [.agg [.int .i64 ((aF.mk 2 7).Kind),.int .i64 ((aF.mk 2 7).Value)]],.slice (aB.map bf),.slice (aP.map bf)],s)from λs=>by kernel_rfl))))
   exact dV aj [.af 2 (aV.map bf)]
theorem akG:∀n I r,xp n I=some r->ba ah 132 [.slice (I.map cy)] (.af 2 (r.map bf)) []:=by
 intro n;induction n with
 |zero=>intro I r h;cases(show none=some r from h)
 |succ n ih=>intro I r h;exact akE (xp n) ih I r h
theorem akH (I r) (h:GM I=some r):ba ah 132 [.slice (I.map cy)] (.af 2 (r.map bf)) []:=by
 obtain⟨n,h⟩:=mo h;exact akG n I r h
theorem U6 (I r) (h:CX I=some r):ba ah 166 [.int .i64 I] (.af 2 (r.map bf)) []:=by
 refine bF [0] [.tmp 2] Tryz.func166 af6 λbw aj bu=>an ?_;refine c5 (aa (show∀s,ey ah s 134 [(0,.int .i64 0),(1,.int .i64 I)]=some (.agg [.int .i64 0,.int .i64 I],s)from λs=>by kernel_rfl) (show∀s,dz ah s 97 1 [(0,.agg [.int .i64 0,.int .i64 I])]=some (.af 2 [.agg [.int .i64 0,.int .i64 I]],s)from λs=>by kernel_rfl)) _ ?_;exact dV aj [.af 2 ([(aF.mk 0 I)].map bf)]
theorem U7 (R r) (h:CY R=some r):ba ah 183 [.au,.int .i64 R] (.af 1 []) []:=by
 refine bF [] [.tmp 4] Tryz.func183 af7 λbw aj bu=>an ?_;have OI:Mm R=some r->a6 ah Ua bw (aq [(0,.au),(1,.int .i64 R),(6,.bool (decide (R<0)))]):=by
  intro h;have pU:GN=some r->a6 ah T_ bw (aq [(0,.af 1 [])]):=by
   intro h;exact aT aj [.af 1 []]
  refine aA aj λ_ fk _ _=>c5 (aa @Fm λs x h=> @Fl ah s 98 97 x rfl h) _ ?_;refine an ?_;refine aO h (λpj h=>?_) λpj h=>?_
  .obtain⟨akC,ie,h⟩:=ar h;refine h5 (b5 [(0,.af 1 [])] (λP aX=>?_) ?_)
   .simp only[aR.down,simprocAttr,Ul.down,pa ie,jP,-Int.reduceNatCast',sF];(try simp only[gH.down,simprocAttr,Ul.down,pa ie,jP,-Int.reduceNatCast',sF]at aX⊢);exact aX
   exact fk _ (inr ⟨_,bx rfl,pU h⟩)
  .exact aS (fk _ (inr ⟨_,iZ [] rfl (i1 (t:=0) (d:=.au) (bE:=.af 1 []) rfl rfl (.gS _) (by decide) (i0)),pU h⟩))
 refine aA aj λ_ bD _ _=>an ?_;refine aO h (λjV h=>?_) λjV h=>?_
 .cases h
 .exact aS (bD _ (inr ⟨_,bx rfl,OI h⟩))
theorem akI (I r) (h:GO I=some r):ba ah 165 [.slice (I.map nc)] (.af 1 (r.map cy)) []:=by
 refine bF [0] [.tmp 2] Tryz.func165 af8 λbw aj bu=>an ?_;refine an ?_;refine aA aj λ_ fk dt aB=>an ?_;refine bh dt λmi _ cm cS _=>?_;show a6 ah (.loop ?hx) _ _;have hU:∀n bA e5,xr I n bA e5=some r->cL ah ?hx mi (aq [(0,.slice (I.map nc)),(3,.int .i64 bA),(9,.slice (I.map nc)),(10,.int .i64 (I.length:Int)),(11,.int .i64 e5)]):=by
  refine cY λjA hI bA e5 h=>cV cm λjl dp dK aV=>an ?_;refine aA dK λ_ gT _ cp=>aO h (λfh h=>?_) λfh h=>?_
  .refine aS (gT _ (inl ?_));show a6 ah (.seq _ ?Dp) _ _;have DP:∀lM lN oT,Mn (xr I jA) I lM lN oT=some r->a6 ah ?Dp jl (aq [(0,.slice (I.map nc)),(3,.int .i64 lM),(9,.slice (I.map nc)),(10,.int .i64 (I.length:Int)),(11,.int .i64 lN),(20,.bool oT)]):=by
    intro lM lN oT h;refine dG ?_;exact dp _ (inr ⟨_,bx rfl,hI lM (i64.wrap (lN+1)) h⟩)
   refine aA dK λ_ b1 cz _=>bh cz λ_ gI _ _ _=>?_;obtain⟨U,dQ,h⟩:=ar h;refine c5 dQ _ ?_;refine an ?_;refine an ?_;refine aO h (λhC h=>?_) λhC h=>?_
   .cases h
   .exact aS (gI _ (b1 _ (inr ⟨_,bx rfl,DP (i64.wrap (bA+(U.length:Int))) e5 (decide ((i64.wrap (bA+(U.length:Int)))<0)) h⟩)))
  .refine cT (cp 0 _ (aV 0 _ (cS _ (fk _ (inl ?_)))));obtain⟨ai,hn,h⟩:=ar h;refine dC (U7 bA _ hn) _ ?_;refine aA aj λ_ nM nL _=>an ?_;refine bh nL λDQ _ DR fc _=>?_;show a6 ah (.loop ?tY) _ _;have xM:∀n fu gL,xq I n fu gL=some r->cL ah ?tY DQ (aq [(6,.af 1 (fu.map cy)),(25,.slice (I.map nc)),(26,.int .i64 (I.length:Int)),(27,.int .i64 gL)]):=by
    refine cY λ_ xN fu gL h=>cV DR λ_ pX qO tR=>an ?_;refine aA qO λ_ pV _ qz=>aO h (λjv h=>?_) λjv h=>?_
    .refine aS (pV _ (inl (aA qO λ_ oX qI _=>bh qI λ_ oY _ _ _=>?_)));obtain⟨aB,h9,h⟩:=ar h;refine c5 h9 _ ?_;obtain⟨U2,mj,h⟩:=ar h;(try simp only[hj.down,Nat.zero_add,Nat.add_zero,reduceAdd]at mj);refine qG (aa (@iN ah 98 98 97 rfl rfl) (aa @iO (aa @iP (aa @hR (aa @all_cons (aa @all_nil (aa mj (@hQ _ cy 1 λ_=>rfl)))))))) [(6,.af 1 ((fu++aB).map cy)),(25,.slice (I.map nc)),(26,.int .i64 (I.length:Int)),(27,.int .i64 gL)] ?_;refine oY _ (oX _ (inl (wr [(6,.af 1 ((fu++aB).map cy)),(25,.slice (I.map nc)),(26,.int .i64 (I.length:Int)),(27,.int .i64 (i64.wrap (gL+1)))] ?_)));exact pX _ (inr ⟨_,bx rfl,xN (fu++aB) (i64.wrap (gL+1)) h⟩)
    .exact cT (qz 2 _ (tR 2 _ (fc _ (nM _ (inl (aT aj [.af 1 (fu.map cy)]))))))
   exact dy h λn h=>xM n [] 0 h
 exact dy h λn h=>hU n 0 0 h
theorem akJ (I r) (h:GP I=some r):ba ah 165 [.af 1 (I.map pS)] (.af 1 (r.map c4)) [.hole]:=by
 refine bF [0] [.tmp 2] Tryz.func165 af9 λbw aj bu=>an ?_;refine an ?_;refine aA aj λ_ fk dt aB=>an ?_;refine bh dt λmi _ cm cS _=>?_;have hU:∀n bA e5,xu I n bA e5=some r->cL ah Uc mi (aq [(0,.af 1 (I.map pS)),(3,.int .i64 bA),(9,.h 0 []),(10,.int .i64 (I.length:Int)),(11,.int .i64 e5)]):=by
  refine cY λjA hI bA e5 h=>cV cm λjl dp dK aV=>an ?_;refine aA dK λ_ gT _ cp=>aO h (λfh h=>?_) λfh h=>?_
  .refine aS (gT _ (inl ?_));have DP:∀lM lN oT,Mq (xu I jA) I lM lN oT=some r->a6 ah Ub jl (aq [(0,.af 1 (I.map pS)),(3,.int .i64 lM),(9,.h 0 []),(10,.int .i64 (I.length:Int)),(11,.int .i64 lN),(20,.bool oT)]):=by
    intro lM lN oT h;refine dG ?_;exact dp _ (inr ⟨_,bx rfl,hI lM (i64.wrap (lN+1)) h⟩)
   refine aA dK λ_ b1 cz _=>bh cz λ_ gI _ _ _=>?_;obtain⟨U,dQ,h⟩:=ar h;refine c5 (aa dQ (aa (cu dQ) @Fo)) _ ?_;refine c5 (cu dQ) _ ?_;refine an ?_;refine aO h (λhC h=>?_) λhC h=>?_
   .cases h
   .exact aS (gI _ (b1 _ (inr ⟨_,bx rfl,DP (i64.wrap (bA+(U.length:Int))) e5 (decide ((i64.wrap (bA+(U.length:Int)))<0)) h⟩)))
  .refine cT (cp 0 _ (aV 0 _ (cS _ (fk _ (inl ?_)))));obtain⟨ai,hn,h⟩:=ar h;refine dC (U7 bA _ hn) _ ?_;refine aA aj λ_ nM nL _=>an ?_;refine bh nL λDQ _ DR fc _=>?_;have xM:∀n qE fu gL,xt I n qE fu gL=some r->cL ah Ud DQ (aq [(0,.af 1 (qE.map tX)),(6,.af 1 (fu.map c4)),(25,.h 0 []),(26,.int .i64 (I.length:Int)),(27,.int .i64 gL)]):=by
    refine cY λ_ xN qE fu gL h=>cV DR λ_ pX qO tR=>an ?_;refine aA qO λ_ pV _ qz=>aO h (λjv h=>?_) λjv h=>?_
    .refine aS (pV _ (inl (aA qO λ_ oX qI _=>bh qI λ_ oY _ _ _=>?_)));obtain⟨aB,h9,h⟩:=ar h;obtain⟨U8,oZ,h⟩:=ar h;refine du (b5 [(0,.af 1 (qE.map tX)),(6,.af 1 (fu.map c4)),(8,.h 0 [Int.toNat gL]),(25,.h 0 []),(26,.int .i64 (I.length:Int)),(27,.int .i64 gL)] (λP aX=>?_) ?_)
     .simp only[aR.down,simprocAttr,h9,cu h9,Ho,M_,(Hp oZ),Fo];exact bR (aa h9 (aa (cu h9) (aa @Ho (aa @M_ (aa (Hp oZ) @Fo)))))
     obtain⟨U8,mK,h⟩:=ar h;(try simp only[hj.down,Nat.zero_add,Nat.add_zero,reduceAdd]at mK);refine h5 (b5 [(0,.af 1 ((List.set qE (Int.toNat gL) (true,aB.2)).map tX)),(6,.af 1 ((fu++aB.2).map c4)),(25,.h 0 []),(26,.int .i64 (I.length:Int)),(27,.int .i64 gL)] (λP aX=>?_) ?_)
     .simp only[aR.down,simprocAttr,Um.down,cu h9,(Hp oZ),mK];exact bR (aa Um.down (aa (cu h9) (aa (Hp oZ) mK)))
     refine oY _ (oX _ (inl (wr [(0,.af 1 ((List.set qE (Int.toNat gL) (true,aB.2)).map tX)),(6,.af 1 ((fu++aB.2).map c4)),(25,.h 0 []),(26,.int .i64 (I.length:Int)),(27,.int .i64 (i64.wrap (gL+1)))] ?_)));exact pX _ (inr ⟨_,bx rfl,xN (List.set qE (Int.toNat gL) (true,aB.2)) (fu++aB.2) (i64.wrap (gL+1)) h⟩)
    .refine cT (qz 2 _ (tR 2 _ (fc _ (nM _ (inl (an ?_))))));exact jr (aj _ (inl (lj [.af 1 (fu.map c4)] rfl (by cases gU h;rfl) (by decide) (lJ (h1 (lK))))))
   obtain⟨n,h⟩:=mo h;exact oM (inr ⟨_,aaD [0] [] rfl rfl (aaF (t:=0) (d:=.af 1 (I.map pS)) (bE:=.af 1 ((List.map (λx=>(false,x)) I).map tX)) rfl rfl (acf Ho _) rfl rfl (by decide) (Fe (t:=6) (d:=.af 1 []) rfl (Fe (t:=25) (d:=.h 0 []) rfl (Fe (t:=26) (d:=.int .i64 (I.length:Int)) rfl (Fe (t:=27) (d:=.int .i64 0) rfl (aaE)))))),xM n (List.map (λx=>(false,x)) I) [] 0 h⟩)
 exact dy h λn h=>hU n 0 0 h
theorem U9 (cW c1 cX db c9 dB dD dI dE R aM r) (h:zz cW c1 cX db c9 dB dD dI dE R aM=some r):ba ah 133 [.aG (.agg [.agg [.slice (cW.map br),.slice (c1.map dF),.slice (cX.map bL),.slice (db.map bj),.slice (c9.map bj)],.slice (dB.map c3),.agg [.int .i64 dD,.af 1 (dI.map bd),.af 5 (dE.map dO)]]),.int .i64 R,.af 1 (aM.map c4)] (.af 1 (r.map c4)) [.aG (.agg [.agg [.slice (cW.map br),.slice (c1.map dF),.slice (cX.map bL),.slice (db.map bj),.slice (c9.map bj)],.slice (dB.map c3),.agg [.int .i64 dD,.af 1 (dI.map bd),.af 5 (dE.map dO)]]),.hole,.hole]:=by
 refine bF [0,1,2] [.tmp 6] Tryz.func133 af_ λbw aj bu=>an ?_;obtain⟨U,aY,h⟩:=ar h;obtain⟨ai,bT,h⟩:=ar h;refine du (b5 [(0,.aG (.agg [.agg [.slice (cW.map br),.slice (c1.map dF),.slice (cX.map bL),.slice (db.map bj),.slice (c9.map bj)],.slice (dB.map c3),.agg [.int .i64 dD,.af 1 (dI.map bd),.af 5 (dE.map dO)]])),(7,.af 1 (ai.map c4))] (λP aX=>?_) ?_)
 ·(try simp only[aR.down,simprocAttr,NB.down,eZ,cH]);refine d_ (U6 R _ aY) (hK:= ?_);simp only[aR.down,simprocAttr,NB.down,eZ,cH];refine ma [⟨.h 12 [],true,_,.hole⟩] (akJ [[U],aM] _ bT) rfl rfl rfl (by simp only[aR.down,simprocAttr, @n5 ah 98 97 1 1 [.au] rfl rfl rfl (by kernel_rfl),eZ,n6,cH,n7,ed,hR,List.nil_append,List.cons_append, @n5 ah 218 98 2 1 [.au,.au] rfl rfl rfl (by kernel_rfl),n8,mA,lI,g9,g_,ha,dm,or_true,true_or, @bn _ bf bf (λ_=>oi _),J.shares, @bn _ c4 cy (λ_=>s0 _), @bn _ c4 cy (λ_=>s0 _), @bn _ pS nc (λ_=>adR _)]) rfl rfl (inl rfl) ?_;simp only[aR.down,simprocAttr, @n5 ah 98 97 1 1 [.au] rfl rfl rfl (by kernel_rfl),eZ,n6,cH,n7,ed,hR,List.nil_append,List.cons_append, @n5 ah 218 98 2 1 [.au,.au] rfl rfl rfl (by kernel_rfl),kp];(try simp only[gH.down,simprocAttr,NB.down,eZ,cH]at aX⊢);exact aX
 refine aA aj λ_ dJ cm _=>bh cm λjl _ dK eL _=>?_;show a6 ah (.loop ?eA) _ _;have eT:∀n dW,CZ cW c1 cX db c9 dB dD dI dE n dW=some r->cL ah ?eA jl (aq [(0,.aG (.agg [.agg [.slice (cW.map br),.slice (c1.map dF),.slice (cX.map bL),.slice (db.map bj),.slice (c9.map bj)],.slice (dB.map c3),.agg [.int .i64 dD,.af 1 (dI.map bd),.af 5 (dE.map dO)]])),(7,.af 1 (dW.map c4))]):=by
  refine cY λ_ eH dW h=>cV dK λ_ dR e6 bp=>aA e6 λ_ gT _ cp=>an ?_;refine aO h (λfU h=>?_) λfU h=>?_
  .refine aS (gT _ (inl (bh e6 λ_ eX _ _ _=>?_)));obtain⟨aB,dw,h⟩:=ar h;obtain⟨aq4,dQ,h⟩:=ar h;(try simp only[hj.down,Nat.zero_add,Nat.add_zero,reduceAdd]at dQ);refine h5 (b5 [(0,.aG (.agg [.agg [.slice (cW.map br),.slice (c1.map dF),.slice (cX.map bL),.slice (db.map bj),.slice (c9.map bj)],.slice (dB.map c3),.agg [.int .i64 dD,.af 1 (dI.map bd),.af 5 (dE.map dO)]])),(7,.af 1 ((dW++[aB]).map c4))] (λP aX=>?_) ?_)
   ·(try simp only[aR.down,simprocAttr,jk.down,eZ,cH,dQ]);refine d_ (U6 0 _ dw) (hK:= ?_);simp only[aR.down,simprocAttr,jk.down,eZ,cH,dQ];(try simp only[gH.down,simprocAttr,jk.down,eZ,cH,dQ]at aX⊢);exact aX
   exact eX _ (dR _ (inr ⟨_,bx rfl,eH (dW++[aB]) h⟩))
  .refine cT (cp 0 _ (bp 0 _ (eL _ (dJ _ (inl (an ?_))))));exact jr (aj _ (inl (lj [.af 1 (dW.map c4)] rfl (by cases gU h;rfl) (by decide) (lJ (mb (by cases gU h;rfl) rfl rfl rfl (h1 (h1 (lK))))))))
 exact dy h λn h=>eT n ai h
theorem akK (I r) (h:Mt I=some r):ba ah 134 [.int .i64 I] (.af 2 (r.map bf)) []:=by
 refine bF [0] [.tmp 2] Tryz.func134 aga λbw aj bu=>an ?_;refine c5 (aa (show∀s,ey ah s 134 [(0,.int .i64 1),(1,.int .i64 I)]=some (.agg [.int .i64 1,.int .i64 I],s)from λs=>by kernel_rfl) (show∀s,dz ah s 97 1 [(0,.agg [.int .i64 1,.int .i64 I])]=some (.af 2 [.agg [.int .i64 1,.int .i64 I]],s)from λs=>by kernel_rfl)) _ ?_;exact dV aj [.af 2 ([(aF.mk 1 I)].map bf)]
theorem akL (cW c1 cX db c9 dB dD dI dE R aM bG r) (h:GQ cW c1 cX db c9 dB dD dI dE R aM bG=some r):ba ah 97 [.aG (.agg [.agg [.slice (cW.map br),.slice (c1.map dF),.slice (cX.map bL),.slice (db.map bj),.slice (c9.map bj)],.slice (dB.map c3),.agg [.int .i64 dD,.af 1 (dI.map bd),.af 5 (dE.map dO)]]),.int .i64 R,.int .i64 aM,oj bG] (.tuple []) [.aG (.agg [.agg [.slice (r.1.map br),.slice (r.2.1.map dF),.slice (r.2.2.1.map bL),.slice (r.2.2.2.1.map bj),.slice (r.2.2.2.2.1.map bj)],.slice (r.2.2.2.2.2.1.map c3),.agg [.int .i64 r.2.2.2.2.2.2.1,.af 1 (r.2.2.2.2.2.2.2.1.map bd),.af 5 (r.2.2.2.2.2.2.2.2.map dO)]]),.hole,.hole,.hole]:=by
 refine bF [0,1,2,3] [] Tryz.func97 agb λbw aj bu=>an ?_;obtain⟨U,aY,h⟩:=ar h;obtain⟨ai,bT,h⟩:=ar h;obtain⟨aB,cF,h⟩:=ar h;refine ko rfl (h0 [(0,.aG (.agg [.agg [.slice (cW.map br),.slice (c1.map dF),.slice (cX.map bL),.slice (db.map bj),.slice (c9.map bj)],.slice (dB.map c3),.agg [.int .i64 dD,.af 1 (dI.map bd),.af 5 (dE.map dO)]])),(1,.int .i64 R),(2,.int .i64 aM),(7,.aG (oj bG)),(8,.int .i64 ai),(9,.int .i64 aB)] (λP aX=>?_) ?_)
 ·(try simp only[cM.down,simprocAttr,aY,bT]);refine g1 (U3 (hS.mk (cG.mk cW c1 cX db c9) dB (cr.mk dD dI dE)) U _ cF) rfl rfl (by simp only[cM.down,simprocAttr,aY,bT,Hs.down]<;>rfl) rfl (inr (by rfl)) ?_;simp only[cM.down,simprocAttr,aY,bT];refine⟨hc (by kernel_rfl),?_⟩;exact bR (aa aY bT)
 obtain⟨a7,b0,h⟩:=ar h;refine c5 b0 _ ?_;obtain⟨aP,ie,h⟩:=ar h;obtain⟨aV,jz,h⟩:=ar h;refine qH (aa ie jz) _ ?_;refine c5 (aa (show∀s,ey ah s 134 [(0,.int .i64 2),(1,.int .i64 3)]=some (.agg [.int .i64 2,.int .i64 3],s)from λs=>by kernel_rfl) (aa (show∀s,ey ah s 134 [(0,.int .i64 1),(1,.int .i64 0)]=some (.agg [.int .i64 1,.int .i64 0],s)from λs=>by kernel_rfl) (aa (show∀s,ey ah s 134 [(0,.int .i64 0),(1,.int .i64 R)]=some (.agg [.int .i64 0,.int .i64 R],s)from λs=>by kernel_rfl) (show∀s,dz ah s 97 3 [(0,.agg [.int .i64 2,.int .i64 3]),(1,.agg [.int .i64 1,.int .i64 0]),(2,.agg [.int .i64 0,.int .i64 R])]=some (.af 2 [.agg [.int .i64 2,.int .i64 3],.agg [.int .i64 1,.int .i64 0],.agg [.int .i64 0,.int .i64 R]],s)from λs=>by kernel_rfl)))) _ ?_;obtain⟨bp,dw,h⟩:=ar h;obtain⟨cp,dQ,h⟩:=ar h;refine ko rfl (h0 [(0,.aG (.agg [.agg [.slice (cW.map br),.slice (c1.map dF),.slice (cX.map bL),.slice (db.map bj),.slice (c9.map bj)],.slice (dB.map c3),.agg [.int .i64 dD,.af 1 (dI.map bd),.af 5 (dE.map dO)]])),(2,.int .i64 aM),(7,.aG (oj bG)),(8,.int .i64 ai),(9,.int .i64 aB),(10,.aG (br a7)),(12,.aG (c2 aV)),(13,.af 2 ([(aF.mk 2 3),(aF.mk 1 0),(aF.mk 0 R)].map bf)),(14,.aG (.agg [.af 1 (bp.map bd),.au,.str aP.Name,.af 1 (cp.map c4),.au]))] (λP aX=>?_) ?_)
 ·(try simp only[cM.down,simprocAttr,Ht.down,fN,cH]);refine g1 (U4 bG.hB _ dw) (hK:= ?_);simp only[cM.down,simprocAttr,Ht.down,fN,cH];refine g1 (HR (hS.mk (cG.mk cW c1 cX db c9) dB (cr.mk dD dI dE)) aP.a9 aB _ dQ) rfl rfl (by simp only[cM.down,simprocAttr, @Kk ah 100 [(29,0),(97,1),(9,2),(98,3),(98,4)] [.au,.au,(.str []),.au,.au] rfl rfl (by kernel_rfl),fN,n6,cH,n7,ed,hR,List.nil_append,List.cons_append,g9,g_,ha,dm, @bn _ br br (λ_=>pR _), @bn _ dF dF (λ_=>pT _), @bn _ bL bL (λ_=>lP _), @bn _ bj bj (λ_=>hH _), @bn _ bj bj (λ_=>hH _), @bn _ c3 c3 (λ_=>qF _), @bn _ bd bd (λ_=>jF _), @bn _ dO fL (λ_=>oW _)]<;>rfl) rfl (inr (iM (λ_=>xA _) _)) ?_;simp only[cM.down,simprocAttr,Ht.down,fN,cH];refine⟨hc (by kernel_rfl),?_⟩;exact bR Ht.down
 obtain⟨di,cN,h⟩:=ar h;obtain⟨aq5,fb,h⟩:=ar h;(try simp only[hj.down,Nat.zero_add,Nat.add_zero,reduceAdd]at fb);obtain⟨cE,fy,h⟩:=ar h;refine du (b5 [(0,.aG (.agg [.agg [.slice (cW.map br),.slice (c1.map dF),.slice (cX.map bL),.slice (db.map bj),.slice (c9.map bj)],.slice (dB.map c3),.agg [.int .i64 dD,.af 1 (dI.map bd),.af 5 (dE.map dO)]])),(2,.int .i64 aM),(8,.int .i64 ai),(9,.int .i64 aB),(10,.aG (br a7)),(12,.aG (c2 aV)),(14,.aG (.agg [.af 1 (bp.map bd),.af 2 (cE.map bf),.str aP.Name,.af 1 (cp.map c4),.au]))] (λP aX=>?_) ?_)
 ·(try simp only[aR.down,simprocAttr,jk.down,eZ,cH,fb]);refine d_ (HR (hS.mk (cG.mk cW c1 cX db c9) dB (cr.mk dD dI dE)) bG.guards aB _ cN) rfl rfl (by simp only[aR.down,simprocAttr, @n5 ah 98 97 1 1 [.au] rfl rfl rfl (by kernel_rfl),eZ,n6,cH,n7,ed,hR,List.nil_append,List.cons_append, @iN ah 98 98 97 rfl rfl,iO,iP,all_cons,all_nil,fb, @hQ _ c4 1 (λ_=>rfl),g9,g_,ha,dm, @bn _ br br (λ_=>pR _), @bn _ dF dF (λ_=>pT _), @bn _ bL bL (λ_=>lP _), @bn _ bj bj (λ_=>hH _), @bn _ bj bj (λ_=>hH _), @bn _ c3 c3 (λ_=>qF _), @bn _ bd bd (λ_=>jF _), @bn _ dO fL (λ_=>oW _)]<;>rfl) rfl (inr (iM (λ_=>xA _) _)) ?_;simp only[aR.down,simprocAttr,jk.down,eZ,cH,fb];refine d_ (akH ([[(aF.mk 2 3),(aF.mk 1 0),(aF.mk 0 R)]]++di) _ fy) rfl rfl (by simp only[aR.down,simprocAttr, @n5 ah 98 97 1 1 [.au] rfl rfl rfl (by kernel_rfl),eZ,n6,cH,n7,ed,hR,List.nil_append,List.cons_append, @iN ah 98 98 97 rfl rfl,iO,iP,all_cons,all_nil,fb, @hQ _ c4 1 (λ_=>rfl),g9,g_,ha,dm, @bn _ c4 cy (λ_=>s0 _)]<;>rfl) rfl (inr (iM (λ_=>xz _) _)) ?_;simp only[aR.down,simprocAttr,jk.down,eZ,cH,fb];(try simp only[gH.down,simprocAttr,jk.down,eZ,cH,fb]at aX⊢);exact aX
 show a6 ah (.seq _ ?Nw) _ _;have U_:∀zA,xv cW c1 cX db c9 dB dD dI dE aP bp cp cE zA=some r->a6 ah ?Nw bw (aq [(0,.aG (.agg [.agg [.slice (cW.map br),.slice (c1.map dF),.slice (cX.map bL),.slice (db.map bj),.slice (c9.map bj)],.slice (dB.map c3),.agg [.int .i64 dD,.af 1 (dI.map bd),.af 5 (dE.map dO)]])),(14,.aG (.agg [.af 1 (bp.map bd),.af 2 (cE.map bf),.str aP.Name,.af 1 (cp.map c4),.af 1 (zA.map c4)]))]):=by
  intro zA h;obtain⟨aq6,iR,h⟩:=ar h;(try simp only[hj.down,Nat.zero_add,Nat.add_zero,reduceAdd]at iR);refine acn 0 8 [1,2,3,4,5,6,7,8,0,9,10,11,12] rfl rfl [(0,.aG (.agg [.agg [.slice (cW.map br),.slice (c1.map dF),.slice (cX.map bL),.slice (db.map bj),.slice (c9.map bj)],.slice (dB.map c3),.agg [.int .i64 dD,.af 1 (dI.map bd),.af 5 ((dE++[(bH.mk bp cE aP.Name cp zA)]).map dO)]]))] (λP aX=>?_) (λP aX=>?_) ?_
  .simp only[cM.down,simprocAttr,xE.down,eZ,cH,iR];refine⟨hc (by kernel_rfl),?_⟩;(try simp only[gH.down,simprocAttr,xE.down,eZ,cH,iR]at aX⊢);exact aX
  .simp only[tF,List.map_cons,List.map_nil,List.getD_cons_zero,List.getD_cons_succ,simprocAttr];simp only[cM.down,simprocAttr,xE.down,eZ,cH,iR];refine⟨hc (by kernel_rfl),?_⟩;(try simp only[gH.down,simprocAttr,xE.down,eZ,cH,iR]at aX⊢);exact aX
  exact bu _ (inl (lj [] rfl (by cases gU h;rfl) (by decide) (lJ (mb (by cases gU h;rfl) rfl rfl rfl (h1 (h1 (h1 (lK))))))))
 refine aA aj λ_ ng ua me=>an ?_;refine aO h (λfc h=>?_) λfc h=>?_
 .obtain⟨de,hJ,h⟩:=ar h;obtain⟨gx,lS,h⟩:=ar h;obtain⟨eK,xF,h⟩:=ar h;refine sD rfl (h0 [(0,.aG (.agg [.agg [.slice (cW.map br),.slice (c1.map dF),.slice (cX.map bL),.slice (db.map bj),.slice (c9.map bj)],.slice (dB.map c3),.agg [.int .i64 dD,.af 1 (dI.map bd),.af 5 (dE.map dO)]])),(14,.aG (.agg [.af 1 (bp.map bd),.af 2 (cE.map bf),.str aP.Name,.af 1 (cp.map c4),.af 1 (eK.map c4)]))] (λP aX=>?_) ?_)
  ·(try simp only[cM.down,simprocAttr]);refine g1 (OH (hS.mk (cG.mk cW c1 cX db c9) dB (cr.mk dD dI dE)) aV.Number 0 _ hJ) rfl rfl (by simp only[cM.down,simprocAttr,Hs.down]<;>rfl) rfl (inr (by rfl)) ?_;simp only[cM.down,simprocAttr];refine g1 (HR (hS.mk (cG.mk cW c1 cX db c9) dB (cr.mk dD dI dE)) aV.a9 aB _ lS) rfl rfl (by simp only[cM.down,simprocAttr,Hs.down]<;>rfl) rfl (inr (iM (λ_=>xA _) _)) ?_;simp only[cM.down,simprocAttr];refine SH [⟨.h 0 [],true,_,_⟩,⟨.int .i64 de,false,_,.hole⟩,⟨.h 92 [],true,_,.hole⟩] (U9 cW c1 cX db c9 dB dD dI dE de gx _ xF) rfl rfl rfl (by simp only[cM.down,simprocAttr,Un.down]) rfl rfl (inl rfl) ?_;simp only[cM.down,simprocAttr,kp];refine⟨hc (by kernel_rfl),?_⟩;exact bR trivial
  exact ng _ (inr ⟨_,bx rfl,U_ eK h⟩)
 .refine an ?_;refine aA ua λ_ oY z3 _=>?_;obtain⟨gA,h9,h⟩:=ar h;obtain⟨ik,oZ,h⟩:=ar h;refine fw (aa oZ (cu oZ)) (HN a7 _ h9) _ ?_;refine bh z3 λOw _ DA h3 _=>?_;show a6 ah (.loop ?Nj) _ _;have akM:∀n pM pN,zB aM cW c1 cX db c9 dB dD dI dE ai aB aP bp cp cE ik n pM pN=some r->cL ah ?Nj Ow (aq [(0,.aG (.agg [.agg [.slice (cW.map br),.slice (c1.map dF),.slice (cX.map bL),.slice (db.map bj),.slice (c9.map bj)],.slice (dB.map c3),.agg [.int .i64 dD,.af 1 (dI.map bd),.af 5 (dE.map dO)]])),(2,.int .i64 aM),(8,.int .i64 ai),(9,.int .i64 aB),(14,.aG (.agg [.af 1 (bp.map bd),.af 2 (cE.map bf),.str aP.Name,.af 1 (cp.map c4),.au])),(15,.af 1 (pM.map c4)),(101,.int .i64 ik.scope),(102,.int .i64 pN)]):=by
   refine cY λ_ akN pM pN h=>cV DA λ_ xI uc Ox=>an ?_;refine aA uc λ_ akO _ akP=>aO h (λqQ h=>?_) λqQ h=>?_
   .refine aS (akO _ (inl (aA uc λ_ Oy N3 _=>bh N3 λ_ xK _ _ _=>an ?_)));obtain⟨kH,HE,h⟩:=ar h;obtain⟨aq7,HS,h⟩:=ar h;(try simp only[hj.down,Nat.zero_add,Nat.add_zero,reduceAdd]at HS);refine h5 (b5 [(0,.aG (.agg [.agg [.slice (cW.map br),.slice (c1.map dF),.slice (cX.map bL),.slice (db.map bj),.slice (c9.map bj)],.slice (dB.map c3),.agg [.int .i64 dD,.af 1 (dI.map bd),.af 5 (dE.map dO)]])),(2,.int .i64 aM),(8,.int .i64 ai),(9,.int .i64 aB),(14,.aG (.agg [.af 1 (bp.map bd),.af 2 (cE.map bf),.str aP.Name,.af 1 (cp.map c4),.au])),(15,.af 1 ((pM++[kH]).map c4)),(101,.int .i64 ik.scope),(102,.int .i64 pN)] (λP aX=>?_) ?_)
    ·(try simp only[aR.down,simprocAttr,jk.down,eZ,cH,HS]);refine d_ (akK pN _ HE) (hK:= ?_);simp only[aR.down,simprocAttr,jk.down,eZ,cH,HS];(try simp only[gH.down,simprocAttr,jk.down,eZ,cH,HS]at aX⊢);exact aX
    refine xK _ (Oy _ (inl (wr [(0,.aG (.agg [.agg [.slice (cW.map br),.slice (c1.map dF),.slice (cX.map bL),.slice (db.map bj),.slice (c9.map bj)],.slice (dB.map c3),.agg [.int .i64 dD,.af 1 (dI.map bd),.af 5 (dE.map dO)]])),(2,.int .i64 aM),(8,.int .i64 ai),(9,.int .i64 aB),(14,.aG (.agg [.af 1 (bp.map bd),.af 2 (cE.map bf),.str aP.Name,.af 1 (cp.map c4),.au])),(15,.af 1 ((pM++[kH]).map c4)),(101,.int .i64 ik.scope),(102,.int .i64 (i64.wrap (pN+1)))] ?_)));exact xI _ (inr ⟨_,bx rfl,akN (pM++[kH]) (i64.wrap (pN+1)) h⟩)
   .refine cT (akP 0 _ (Ox 0 _ (h3 _ (oY _ (inl ?_)))));obtain⟨kI,vz,h⟩:=ar h;obtain⟨i3,DK,h⟩:=ar h;obtain⟨me,akQ,h⟩:=ar h;refine h5 (b5 [(0,.aG (.agg [.agg [.slice (cW.map br),.slice (c1.map dF),.slice (cX.map bL),.slice (db.map bj),.slice (c9.map bj)],.slice (dB.map c3),.agg [.int .i64 dD,.af 1 (dI.map bd),.af 5 (dE.map dO)]])),(14,.aG (.agg [.af 1 (bp.map bd),.af 2 (cE.map bf),.str aP.Name,.af 1 (cp.map c4),.af 1 (me.map c4)]))] (λP aX=>?_) ?_)
    ·(try simp only[aR.down,simprocAttr]);refine d_ (OH (hS.mk (cG.mk cW c1 cX db c9) dB (cr.mk dD dI dE)) ai (i64.wrap (aM+1)) _ vz) rfl rfl (by simp only[aR.down,simprocAttr,Hs.down]<;>rfl) rfl (inr (by rfl)) ?_;simp only[aR.down,simprocAttr];refine d_ (HR (hS.mk (cG.mk cW c1 cX db c9) dB (cr.mk dD dI dE)) pM aB _ DK) rfl rfl (by simp only[aR.down,simprocAttr,g9,g_,ha,dm, @bn _ br br (λ_=>pR _), @bn _ dF dF (λ_=>pT _), @bn _ bL bL (λ_=>lP _), @bn _ bj bj (λ_=>hH _), @bn _ bj bj (λ_=>hH _), @bn _ c3 c3 (λ_=>qF _), @bn _ bd bd (λ_=>jF _), @bn _ dO fL (λ_=>oW _), @bn _ c4 cy (λ_=>s0 _)]<;>rfl) rfl (inr (iM (λ_=>xA _) _)) ?_;simp only[aR.down,simprocAttr];refine ma [⟨.h 0 [],true,_,_⟩,⟨.int .i64 kI,false,_,.hole⟩,⟨.h 120 [],true,_,.hole⟩] (U9 cW c1 cX db c9 dB dD dI dE kI i3 _ akQ) rfl rfl rfl (by simp only[aR.down,simprocAttr,Un.down]) rfl rfl (inl rfl) ?_;simp only[aR.down,simprocAttr,kp];exact bR trivial
    exact ng _ (inr ⟨_,bx rfl,U_ me h⟩)
  obtain⟨n,h⟩:=mo h;exact oM (inr ⟨_,iZ [] rfl (eF (t:=0) (d:=.aG (.agg [.agg [.slice (cW.map br),.slice (c1.map dF),.slice (cX.map bL),.slice (db.map bj),.slice (c9.map bj)],.slice (dB.map c3),.agg [.int .i64 dD,.af 1 (dI.map bd),.af 5 (dE.map dO)]])) rfl (eF (t:=2) (d:=.int .i64 aM) rfl (eF (t:=8) (d:=.int .i64 ai) rfl (eF (t:=9) (d:=.int .i64 aB) rfl (eF (t:=14) (d:=.aG (.agg [.af 1 (bp.map bd),.af 2 (cE.map bf),.str aP.Name,.af 1 (cp.map c4),.au])) rfl (i1 (t:=15) (d:=.au) (bE:=.af 1 []) rfl rfl (.gS _) (by decide) (eF (t:=101) (d:=.int .i64 ik.scope) rfl (eF (t:=102) (d:=.int .i64 0) rfl (i0))))))))),akM n [] 0 h⟩)
theorem akR (I r) (h:GR I=some r):ba ah 99 [.slice (I.map cy)] (.af 1 (r.map cy)) []:=by
 refine bF [0] [.tmp 2] Tryz.func99 agc λbw aj bu=>an ?_;refine aA aj λ_ bD bb _=>?_;rcases dH h with⟨bN,h⟩|⟨bN,h⟩
 .refine du (b5 [(0,.slice (I.map cy)),(4,.fW)] (λP aX=>?_) ?_)
  .simp only[aR.down,simprocAttr,nJ.down,(yJ bN)];exact bR (aa nJ.down (yJ bN))
  obtain⟨bI,h⟩:=Eh h;refine E_ rfl ?_ ?_
  .replace h:=bI;refine an ?_;exact jr (bb _ (inr ⟨[(2,.af 1 [])],iZ [] rfl (i1 (t:=2) (d:=.au) rfl rfl (.gS _) (by decide) (i0)),oP [.af 1 []]⟩))
  .refine aS (bD _ (inl ?_));obtain⟨u8,gZ,h⟩:=ar h;(try simp only[hj.down,Nat.zero_add,Nat.add_zero,reduceAdd]at gZ);refine c5 (aa (show∀s,dz ah s 98 0 []=some (.af 1 [],s)from λs=>by kernel_rfl) (aa (@iN ah 98 98 97 rfl rfl) (aa @iO (aa @iP (aa @hR (aa @all_cons (aa @all_nil (aa gZ (@hQ _ cy 1 λ_=>rfl))))))))) _ ?_;exact dV aj [.af 1 (I.map cy)]
 .refine du (b5 [(0,.slice (I.map cy)),(4,.bool false)] (λP aX=>?_) ?_)
  .simp only[aR.down,simprocAttr,nJ.down,(yK bN)];exact bR (aa nJ.down (yK bN))
  refine m3 rfl ?_;refine aS (bD _ (inl ?_));obtain⟨U5,jz,h⟩:=ar h;(try simp only[hj.down,Nat.zero_add,Nat.add_zero,reduceAdd]at jz);refine c5 (aa (show∀s,dz ah s 98 0 []=some (.af 1 [],s)from λs=>by kernel_rfl) (aa (@iN ah 98 98 97 rfl rfl) (aa @iO (aa @iP (aa @hR (aa @all_cons (aa @all_nil (aa jz (@hQ _ cy 1 λ_=>rfl))))))))) _ ?_;exact dV aj [.af 1 (I.map cy)]
theorem akS (xw:arW->arX->arY->arD->arD->(List arG)->Int->arG->arZ->Int->Int->fE->Option (arW×arX×arY×arD×arD×(List arG)×Int×arG×arZ)) (HT:∀cW c1 cX db c9 dB dD dI dE R aM bG r,xw cW c1 cX db c9 dB dD dI dE R aM bG=some r->ba ah 61 [.aG (.agg [.agg [.slice (cW.map br),.slice (c1.map dF),.slice (cX.map bL),.slice (db.map bj),.slice (c9.map bj)],.slice (dB.map c3),.agg [.int .i64 dD,.af 1 (dI.map bd),.af 5 (dE.map dO)]]),.int .i64 R,.int .i64 aM,oj bG] (.tuple []) [.aG (.agg [.agg [.slice (r.1.map br),.slice (r.2.1.map dF),.slice (r.2.2.1.map bL),.slice (r.2.2.2.1.map bj),.slice (r.2.2.2.2.1.map bj)],.slice (r.2.2.2.2.2.1.map c3),.agg [.int .i64 r.2.2.2.2.2.2.1,.af 1 (r.2.2.2.2.2.2.2.1.map bd),.af 5 (r.2.2.2.2.2.2.2.2.map dO)]]),.hole,.hole,.hole]) (cW c1 cX db c9 dB dD dI dE R aM bG r) (h:Mv xw cW c1 cX db c9 dB dD dI dE R aM bG=some r):ba ah 61 [.aG (.agg [.agg [.slice (cW.map br),.slice (c1.map dF),.slice (cX.map bL),.slice (db.map bj),.slice (c9.map bj)],.slice (dB.map c3),.agg [.int .i64 dD,.af 1 (dI.map bd),.af 5 (dE.map dO)]]),.int .i64 R,.int .i64 aM,oj bG] (.tuple []) [.aG (.agg [.agg [.slice (r.1.map br),.slice (r.2.1.map dF),.slice (r.2.2.1.map bL),.slice (r.2.2.2.1.map bj),.slice (r.2.2.2.2.1.map bj)],.slice (r.2.2.2.2.2.1.map c3),.agg [.int .i64 r.2.2.2.2.2.2.1,.af 1 (r.2.2.2.2.2.2.2.1.map bd),.af 5 (r.2.2.2.2.2.2.2.2.map dO)]]),.hole,.hole,.hole]:=by
 refine bF [0,1,2,3] [] Tryz.func61 agd λbw aj bu=>an ?_;obtain⟨U,aY,h⟩:=ar h;obtain⟨ai,bT,h⟩:=ar h;obtain⟨aB,cF,h⟩:=ar h;refine qH (aa aY (aa bT cF)) _ ?_;obtain⟨a7,b0,h⟩:=ar h;refine c5 b0 _ ?_;refine an ?_;refine bh aj λ_ cJ _ _ di=>an ?_;refine aO h (λjV h=>?_) λjV h=>?_
 .obtain⟨aP,dw,h⟩:=ar h;refine h5 (b5 [(0,.aG (.agg [.agg [.slice (aP.1.map br),.slice (aP.2.1.map dF),.slice (aP.2.2.1.map bL),.slice (aP.2.2.2.1.map bj),.slice (aP.2.2.2.2.1.map bj)],.slice (aP.2.2.2.2.2.1.map c3),.agg [.int .i64 aP.2.2.2.2.2.2.1,.af 1 (aP.2.2.2.2.2.2.2.1.map bd),.af 5 (aP.2.2.2.2.2.2.2.2.map dO)]]))] (λP aX=>?_) ?_)
  ·(try simp only[aR.down,simprocAttr]);refine ma [⟨.h 0 [],true,_,_⟩,⟨.int .i64 R,false,_,.hole⟩,⟨.int .i64 aM,false,_,.hole⟩,⟨oj bG,false,_,.hole⟩] (akL cW c1 cX db c9 dB dD dI dE R aM bG _ dw) rfl rfl rfl (by simp only[aR.down,simprocAttr,Dt.down]) rfl rfl (inl rfl) ?_;simp only[aR.down,simprocAttr,kp];exact bR trivial
  exact cJ _ (bu _ (inl (lj [] rfl (by cases gU h;rfl) (by decide) (lJ (mb (by cases gU h;rfl) rfl rfl rfl (h1 (h1 (h1 (lK)))))))))
 .refine an ?_;refine aO h (λfp h=>?_) λfp h=>?_
  .obtain⟨aV,fb,h⟩:=ar h;refine du (b5 [(0,.aG (.agg [.agg [.slice (aV.1.map br),.slice (aV.2.1.map dF),.slice (aV.2.2.1.map bL),.slice (aV.2.2.2.1.map bj),.slice (aV.2.2.2.2.1.map bj)],.slice (aV.2.2.2.2.2.1.map c3),.agg [.int .i64 aV.2.2.2.2.2.2.1,.af 1 (aV.2.2.2.2.2.2.2.1.map bd),.af 5 (aV.2.2.2.2.2.2.2.2.map dO)]])),(1,.int .i64 R),(2,.int .i64 aM),(7,.aG (oj bG)),(8,.aG (br aB))] (λP aX=>?_) ?_)
   ·(try simp only[aR.down,simprocAttr]);refine ma [⟨.h 0 [],true,_,_⟩,⟨.int .i64 R,false,_,.hole⟩,⟨.int .i64 (i64.wrap (aM+1)),false,_,.hole⟩,⟨oj bG,false,_,.hole⟩] (HT cW c1 cX db c9 dB dD dI dE R (i64.wrap (aM+1)) bG _ fb) rfl rfl rfl (by simp only[aR.down,simprocAttr,Dt.down]) rfl rfl (inl rfl) ?_;simp only[aR.down,simprocAttr,kp];exact bR trivial
   obtain⟨bp,fG,h⟩:=ar h;obtain⟨cp,hn,h⟩:=ar h;refine sD rfl (h0 [(0,.aG (.agg [.agg [.slice (cp.1.map br),.slice (cp.2.1.map dF),.slice (cp.2.2.1.map bL),.slice (cp.2.2.2.1.map bj),.slice (cp.2.2.2.2.1.map bj)],.slice (cp.2.2.2.2.2.1.map c3),.agg [.int .i64 cp.2.2.2.2.2.2.1,.af 1 (cp.2.2.2.2.2.2.2.1.map bd),.af 5 (cp.2.2.2.2.2.2.2.2.map dO)]]))] (λP aX=>?_) ?_)
   ·(try simp only[cM.down,simprocAttr]);refine g1 (US aB (i64.wrap (aM+1)) _ fG) (hK:= ?_);simp only[cM.down,simprocAttr];refine SH [⟨.h 0 [],true,_,_⟩,⟨.int .i64 R,false,_,.hole⟩,⟨.int .i64 bp,false,_,.hole⟩,⟨oj bG,false,_,.hole⟩] (HT aV.1 aV.2.1 aV.2.2.1 aV.2.2.2.1 aV.2.2.2.2.1 aV.2.2.2.2.2.1 aV.2.2.2.2.2.2.1 aV.2.2.2.2.2.2.2.1 aV.2.2.2.2.2.2.2.2 R bp bG _ hn) rfl rfl rfl (by simp only[cM.down,simprocAttr,Dt.down]) rfl rfl (inl rfl) ?_;simp only[cM.down,simprocAttr,kp];refine⟨hc (by kernel_rfl),?_⟩;exact bR trivial
   exact cJ _ (bu _ (inl (lj [] rfl (by cases gU h;rfl) (by decide) (lJ (mb (by cases gU h;rfl) rfl rfl rfl (h1 (h1 (h1 (lK)))))))))
  .refine an ?_;refine aO h (λom h=>?_) λom h=>?_
   .obtain⟨di,jH,h⟩:=ar h;obtain⟨cE,hJ,h⟩:=ar h;obtain⟨aq8,lS,h⟩:=ar h;(try simp only[hj.down,Nat.zero_add,Nat.add_zero,reduceAdd]at lS);refine SI rfl (h0 (K:=eB _) [(0,.aG (.agg [.agg [.slice (cW.map br),.slice (c1.map dF),.slice (cX.map bL),.slice (db.map bj),.slice (c9.map bj)],.slice (dB.map c3),.agg [.int .i64 dD,.af 1 (dI.map bd),.af 5 (dE.map dO)]])),(1,.int .i64 R),(2,.int .i64 aM),(7,.aG (.agg [.slice (bG.hB.map bd),.af 1 ((di++[cE]).map cy)]))] (λP aX=>?_) (SJ [(0,.aG (.agg [.agg [.slice (cW.map br),.slice (c1.map dF),.slice (cX.map bL),.slice (db.map bj),.slice (c9.map bj)],.slice (dB.map c3),.agg [.int .i64 dD,.af 1 (dI.map bd),.af 5 (dE.map dO)]])),(1,.int .i64 R),(2,.int .i64 aM),(7,.ref (.agg [.slice (bG.hB.map bd),.slice ((di++[cE]).map cy)]))] (iZ [] rfl (eF rfl (eF rfl (eF rfl (i1 (t:=7) (d:=.aG (.agg [.slice (bG.hB.map bd),.af 1 ((di++[cE]).map cy)])) (bE:=.ref (.agg [.slice (bG.hB.map bd),.slice ((di++[cE]).map cy)])) rfl rfl (Fj rfl rfl (by simp only[Uo.down,J.share,J.shares]<;>rfl)) (by decide) (i0)))))) ?_))
    ·(try simp only[cM.down,simprocAttr,hJ,(show∀s,dz ah s 98 1 [(0,.slice (cE.map bf))]=some (.af 1 [.slice (cE.map bf)],s)from λs=>by kernel_rfl),NC.down,lS]);refine g1 (akR bG.guards _ jH) (hK:= ?_);simp only[cM.down,simprocAttr,hJ,(show∀s,dz ah s 98 1 [(0,.slice (cE.map bf))]=some (.af 1 [.slice (cE.map bf)],s)from λs=>by kernel_rfl),NC.down,lS];refine⟨hc (by kernel_rfl),?_⟩;exact bR (aa hJ (aa (show∀s,dz ah s 98 1 [(0,.slice (cE.map bf))]=some (.af 1 [.slice (cE.map bf)],s)from λs=>by kernel_rfl) (aa NC.down lS)))
    obtain⟨de,qN,h⟩:=ar h;refine h5 (b5 [(0,.aG (.agg [.agg [.slice (de.1.map br),.slice (de.2.1.map dF),.slice (de.2.2.1.map bL),.slice (de.2.2.2.1.map bj),.slice (de.2.2.2.2.1.map bj)],.slice (de.2.2.2.2.2.1.map c3),.agg [.int .i64 de.2.2.2.2.2.2.1,.af 1 (de.2.2.2.2.2.2.2.1.map bd),.af 5 (de.2.2.2.2.2.2.2.2.map dO)]]))] (λP aX=>?_) ?_)
    ·(try simp only[aR.down,simprocAttr]);refine ma [⟨.h 0 [],true,_,_⟩,⟨.int .i64 R,false,_,.hole⟩,⟨.int .i64 (i64.wrap (aM+1)),false,_,.hole⟩,⟨.agg [.slice (bG.hB.map bd),.slice ((di++[cE]).map cy)],false,_,.hole⟩] (HT cW c1 cX db c9 dB dD dI dE R (i64.wrap (aM+1)) (fE.mk bG.hB (di++[cE])) _ qN) rfl rfl (by simp only[aR.down,simprocAttr,List.map_append,List.map_set,List.map_cons,List.map_nil]) (by simp only[aR.down,simprocAttr,Dt.down]) rfl rfl (inl rfl) ?_;simp only[aR.down,simprocAttr,kp];exact bR trivial
    exact cJ _ (bu _ (inl (lj [] rfl (by cases gU h;rfl) (by decide) (lJ (mb (by cases gU h;rfl) rfl rfl rfl (h1 (h1 (h1 (lK)))))))))
   .refine an ?_;refine aO h (λkK h=>?_) λkK h=>?_
    .obtain⟨gx,oZ,h⟩:=ar h;obtain⟨U8,mj,h⟩:=ar h;(try simp only[hj.down,Nat.zero_add,Nat.add_zero,reduceAdd]at mj);refine SI rfl (h0 (K:=eB _) [(0,.aG (.agg [.agg [.slice (cW.map br),.slice (c1.map dF),.slice (cX.map bL),.slice (db.map bj),.slice (c9.map bj)],.slice (dB.map c3),.agg [.int .i64 dD,.af 1 (dI.map bd),.af 5 (dE.map dO)]])),(1,.int .i64 R),(2,.int .i64 aM),(7,.aG (.agg [.af 1 ((gx++[a7.Number]).map bd),.slice (bG.guards.map cy)]))] (λP aX=>?_) (SJ [(0,.aG (.agg [.agg [.slice (cW.map br),.slice (c1.map dF),.slice (cX.map bL),.slice (db.map bj),.slice (c9.map bj)],.slice (dB.map c3),.agg [.int .i64 dD,.af 1 (dI.map bd),.af 5 (dE.map dO)]])),(1,.int .i64 R),(2,.int .i64 aM),(7,.ref (.agg [.slice ((gx++[a7.Number]).map bd),.slice (bG.guards.map cy)]))] (iZ [] rfl (eF rfl (eF rfl (eF rfl (i1 (t:=7) (d:=.aG (.agg [.af 1 ((gx++[a7.Number]).map bd),.slice (bG.guards.map cy)])) (bE:=.ref (.agg [.slice ((gx++[a7.Number]).map bd),.slice (bG.guards.map cy)])) rfl rfl (Fj rfl rfl (by simp only[Uo.down,J.share,J.shares]<;>rfl)) (by decide) (i0)))))) ?_))
     ·(try simp only[cM.down,simprocAttr,(show∀s,dz ah s 29 1 [(0,.int .i64 a7.Number)]=some (.af 1 [.int .i64 a7.Number],s)from λs=>by kernel_rfl),t_.down,mj]);refine g1 (U4 bG.hB _ oZ) (hK:= ?_);simp only[cM.down,simprocAttr,(show∀s,dz ah s 29 1 [(0,.int .i64 a7.Number)]=some (.af 1 [.int .i64 a7.Number],s)from λs=>by kernel_rfl),t_.down,mj];refine⟨hc (by kernel_rfl),?_⟩;exact bR (aa (show∀s,dz ah s 29 1 [(0,.int .i64 a7.Number)]=some (.af 1 [.int .i64 a7.Number],s)from λs=>by kernel_rfl) (aa t_.down mj))
     obtain⟨eK,rU,h⟩:=ar h;refine h5 (b5 [(0,.aG (.agg [.agg [.slice (eK.1.map br),.slice (eK.2.1.map dF),.slice (eK.2.2.1.map bL),.slice (eK.2.2.2.1.map bj),.slice (eK.2.2.2.2.1.map bj)],.slice (eK.2.2.2.2.2.1.map c3),.agg [.int .i64 eK.2.2.2.2.2.2.1,.af 1 (eK.2.2.2.2.2.2.2.1.map bd),.af 5 (eK.2.2.2.2.2.2.2.2.map dO)]]))] (λP aX=>?_) ?_)
     ·(try simp only[aR.down,simprocAttr]);refine ma [⟨.h 0 [],true,_,_⟩,⟨.int .i64 R,false,_,.hole⟩,⟨.int .i64 (i64.wrap (aM+1)),false,_,.hole⟩,⟨.agg [.slice ((gx++[a7.Number]).map bd),.slice (bG.guards.map cy)],false,_,.hole⟩] (HT cW c1 cX db c9 dB dD dI dE R (i64.wrap (aM+1)) (fE.mk (gx++[a7.Number]) bG.guards) _ rU) rfl rfl (by simp only[aR.down,simprocAttr,List.map_append,List.map_set,List.map_cons,List.map_nil]) (by simp only[aR.down,simprocAttr,Dt.down]) rfl rfl (inl rfl) ?_;simp only[aR.down,simprocAttr,kp];exact bR trivial
     exact cJ _ (bu _ (inl (lj [] rfl (by cases gU h;rfl) (by decide) (lJ (mb (by cases gU h;rfl) rfl rfl rfl (h1 (h1 (h1 (lK)))))))))
    .exact aS (cJ _ (bu _ (inl (lj [] rfl (by cases gU h;rfl) (by decide) (lJ (mb (by cases gU h;rfl) rfl rfl rfl (h1 (h1 (h1 (lK))))))))))
theorem akT:∀n cW c1 cX db c9 dB dD dI dE R aM bG r,zC n cW c1 cX db c9 dB dD dI dE R aM bG=some r->ba ah 61 [.aG (.agg [.agg [.slice (cW.map br),.slice (c1.map dF),.slice (cX.map bL),.slice (db.map bj),.slice (c9.map bj)],.slice (dB.map c3),.agg [.int .i64 dD,.af 1 (dI.map bd),.af 5 (dE.map dO)]]),.int .i64 R,.int .i64 aM,oj bG] (.tuple []) [.aG (.agg [.agg [.slice (r.1.map br),.slice (r.2.1.map dF),.slice (r.2.2.1.map bL),.slice (r.2.2.2.1.map bj),.slice (r.2.2.2.2.1.map bj)],.slice (r.2.2.2.2.2.1.map c3),.agg [.int .i64 r.2.2.2.2.2.2.1,.af 1 (r.2.2.2.2.2.2.2.1.map bd),.af 5 (r.2.2.2.2.2.2.2.2.map dO)]]),.hole,.hole,.hole]:=by
 intro n;induction n with
 |zero=>intro cW c1 cX db c9 dB dD dI dE R aM bG r h;cases(show none=some r from h)
 |succ n ih=>intro cW c1 cX db c9 dB dD dI dE R aM bG r h;exact akS (zC n) ih cW c1 cX db c9 dB dD dI dE R aM bG r h
theorem akU (cW c1 cX db c9 dB dD dI dE R aM bG r) (h:GS cW c1 cX db c9 dB dD dI dE R aM bG=some r):ba ah 61 [.aG (.agg [.agg [.slice (cW.map br),.slice (c1.map dF),.slice (cX.map bL),.slice (db.map bj),.slice (c9.map bj)],.slice (dB.map c3),.agg [.int .i64 dD,.af 1 (dI.map bd),.af 5 (dE.map dO)]]),.int .i64 R,.int .i64 aM,oj bG] (.tuple []) [.aG (.agg [.agg [.slice (r.1.map br),.slice (r.2.1.map dF),.slice (r.2.2.1.map bL),.slice (r.2.2.2.1.map bj),.slice (r.2.2.2.2.1.map bj)],.slice (r.2.2.2.2.2.1.map c3),.agg [.int .i64 r.2.2.2.2.2.2.1,.af 1 (r.2.2.2.2.2.2.2.1.map bd),.af 5 (r.2.2.2.2.2.2.2.2.map dO)]]),.hole,.hole,.hole]:=by
 obtain⟨n,h⟩:=mo h;exact akT n cW c1 cX db c9 dB dD dI dE R aM bG r h
theorem Va (I R r) (h:GU I R=some r):ba ah 101 [lQ I,.slice (R.map bd)] (.bool r) []:=by
 refine bF [0,1] [.tmp 4] Tryz.func101 age λbw aj bu=>an ?_;rcases dH h with⟨lB,h⟩|⟨lB,h⟩
 .obtain⟨U,bT,h⟩:=ar h;refine fw lB (UY R _ bT) _ ?_;exact dV aj [.bool U]
 .refine c5 lB _ ?_;exact dV aj [.bool false]
theorem Vb (I r) (h:GV I=some r):ba ah 136 [fL I] (.bool r) []:=by
 refine bF [0] [.tmp 2] Tryz.func136 agf λbw aj bu=>an ?_;refine an ?_;refine aA aj λ_ fk dt _=>an ?_;refine bh dt λmi _ cm cS _=>?_;show a6 ah (.loop ?hx) _ _;have hU:∀n bA sZ,zD I n bA sZ=some r->cL ah ?hx mi (aq [(1,.aG (fL I)),(3,.int .i64 bA),(7,.slice (I.cx.map bd)),(8,.int .i64 (I.cx.length:Int)),(9,.int .i64 sZ)]):=by
  refine cY λ_ hI bA sZ h=>cV cm λ_ dp dK aV=>an ?_;refine aA dK λ_ gT _ cp=>aO h (λfh h=>?_) λfh h=>?_
  .refine aS (gT _ (inl (aA dK λ_ b1 cz _=>bh cz λ_ eX gM _ _=>?_)));obtain⟨U,dw,h⟩:=ar h;refine c5 dw _ ?_;refine aA gM λ_ eS el _=>?_;obtain⟨ai,cN,h⟩:=ar h;refine dC (kc U 1 7 _ cN) _ ?_;refine aO h (λhC h=>?_) λhC h=>?_
   .exact aT el [.bool false]
   .refine aS (eS _ (inl (dG ?_)));refine eX _ (b1 _ (inl (dG ?_)));exact dp _ (inr ⟨_,bx rfl,hI (i64.wrap (bA*(i64.wrap (U+1)))) (i64.wrap (sZ+1)) h⟩)
  .refine cT (cp 0 _ (aV 0 _ (cS _ (fk _ (inl (nf (decide ((I.cx.length:Int)<=8)) [(2,.bool ((decide ((I.cx.length:Int)<=8))&&(decide (bA<=4096))))] ?_))))));exact dV aj [.bool ((decide ((I.cx.length:Int)<=8))&&(decide (bA<=4096)))]
 exact dy h λn h=>hU n 1 0 h
theorem OJ (I r) (h:zE I=some r):ba ah 138 [fL I] (.af 1 (r.map cy)) []:=by
 refine bF [0] [.tmp 2] Tryz.func138 agh λbw aj bu=>an ?_;obtain⟨U,aY,h⟩:=ar h;refine du (b5 [(2,.af 1 (U.map cy))] (λP aX=>?_) ?_)
 ·(try simp only[aR.down,simprocAttr,(show∀s,dz ah s 98 1 [(0,.slice (I.Guard.map bf))]=some (.af 1 [.slice (I.Guard.map bf)],s)from λs=>by kernel_rfl),ND.down,J.shares,(show∀s,dz ah s 218 3 [(0,.slice [.slice (I.Guard.map bf)]),(1,.slice (I.a9.map cy)),(2,.slice (I.Next.map cy))]=some (.af 1 [.slice [.slice (I.Guard.map bf)],.slice (I.a9.map cy),.slice (I.Next.map cy)],s)from λs=>by kernel_rfl)]);refine d_ (akI [[I.Guard],I.a9,I.Next] _ aY) (hK:= ?_);simp only[aR.down,simprocAttr,(show∀s,dz ah s 98 1 [(0,.slice (I.Guard.map bf))]=some (.af 1 [.slice (I.Guard.map bf)],s)from λs=>by kernel_rfl),ND.down,J.shares,(show∀s,dz ah s 218 3 [(0,.slice [.slice (I.Guard.map bf)]),(1,.slice (I.a9.map cy)),(2,.slice (I.Next.map cy))]=some (.af 1 [.slice [.slice (I.Guard.map bf)],.slice (I.a9.map cy),.slice (I.Next.map cy)],s)from λs=>by kernel_rfl)];exact bR (aa (show∀s,dz ah s 98 1 [(0,.slice (I.Guard.map bf))]=some (.af 1 [.slice (I.Guard.map bf)],s)from λs=>by kernel_rfl) (aa ND.down (show∀s,dz ah s 218 3 [(0,.slice [.slice (I.Guard.map bf)]),(1,.slice (I.a9.map cy)),(2,.slice (I.Next.map cy))]=some (.af 1 [.slice [.slice (I.Guard.map bf)],.slice (I.a9.map cy),.slice (I.Next.map cy)],s)from λs=>by kernel_rfl)))
 exact dV aj [.af 1 (U.map cy)]
theorem akV (I R aM r) (h:GW I R aM=some r):ba ah 139 [.slice (I.map bf),.ref (.int .i64 R),.ref (fL aM)] (.bool r) []:=by
 refine bF [0,1,2] [.tmp 4] Tryz.func139 agi λbw aj bu=>an ?_;obtain⟨U,aY,h⟩:=ar h;refine dC (UW I (i64.wrap (R+(aM.cx.length:Int))) 60 _ aY) _ ?_;exact dV aj [.bool (!U)]
theorem akW (I e_ fa r) (h:Mx I e_ fa=some r):ba ah 167 [.slice (I.map cy),.fn 139 [.ref (.int .i64 e_),.ref (fL fa)]] (.int .i64 r) []:=by
 refine bF [0,1] [.tmp 4] Tryz.func167 agj λbw aj bu=>an ?_;refine aA aj λ_ bD bb ai=>an ?_;refine bh bb λeC _ bX bN _=>?_;show a6 ah (.loop ?eA) _ _;have eT:∀n cI,GX I e_ fa n cI=some r->cL ah ?eA eC (aq [(0,.slice (I.map cy)),(1,.fn 139 [.ref (.int .i64 e_),.ref (fL fa)]),(7,.int .i64 (I.length:Int)),(8,.int .i64 cI)]):=by
  refine cY λ_ eH cI h=>cV bX λ_ dJ cm aP=>an ?_;refine aA cm λ_ dR _ bp=>aO h (λcw h=>?_) λcw h=>?_
  .refine aS (dR _ (inl (aA cm λ_ cJ cd _=>bh cd λ_ b1 cz _ _=>an ?_)));obtain⟨U,dw,h⟩:=ar h;obtain⟨ai,dQ,h⟩:=ar h;refine fw dw (akV U e_ fa _ dQ) _ ?_;refine aO h (λfp h=>?_) λfp h=>?_
   .exact aT cz [.int .i64 cI]
   .refine aS (b1 _ (cJ _ (inl (dG ?_))));exact dJ _ (inr ⟨_,bx rfl,eH (i64.wrap (cI+1)) h⟩)
  .exact cT (bp 0 _ (aP 0 _ (bN _ (bD _ (inl (aT aj [.int .i64 (-1)]))))))
 exact dy h λn h=>eT n 0 h
theorem OK (I e_ fa r) (h:xx I e_ fa=some r):ba ah 137 [.slice (I.map cy),.fn 139 [.ref (.int .i64 e_),.ref (fL fa)]] (.bool r) []:=by
 refine bF [0,1] [.tmp 4] Tryz.func137 agk λbw aj bu=>an ?_;obtain⟨U,aY,h⟩:=ar h;refine dC (akW I e_ fa _ aY) _ ?_;exact dV aj [.bool (decide (0<=U))]
theorem akX (I R r) (h:GY I R=some r):ba ah 104 [fL I,.int .i64 R] (.bool r) []:=by
 refine bF [0,1] [.tmp 4] Tryz.func104 Np λbw aj bu=>an ?_;refine aA aj λ_ bD bb ai=>?_;obtain⟨U,bT,h⟩:=ar h;refine du (b5 [(2,.aG (fL I)),(3,.aG (.int .i64 R)),(15,.bool ((!U)||((I.Next.length:Int) !=R)))] (λP aX=>?_) ?_)
 .rcases Bool.eq_false_or_eq_true (U)with rV|rV
  ·(try simp only[aR.down,simprocAttr,rV]);refine d_ (Vb I _ bT) (hK:= ?_);simp only[aR.down,simprocAttr,rV];exact bR rV
  ·(try simp only[aR.down,simprocAttr,rV]);refine d_ (Vb I _ bT) (hK:= ?_);simp only[aR.down,simprocAttr,rV];exact bR rV
 refine aO h (λeL h=>?_) λeL h=>?_
 .exact aT bb [.bool false]
 .refine aS (bD _ (inl (aA aj λ_ gT h2 cp=>an ?_)));rcases dH h with⟨jV,h⟩|⟨jV,h⟩
  .rcases dH h with⟨gp,h⟩|⟨gp,h⟩
   .refine c5 (aa jV gp) _ ?_;refine iE rfl ?_;exact aT h2 [.bool false]
   .rcases dH h with⟨h8,h⟩|⟨h8,h⟩
    .refine c5 (aa jV (aa gp h8)) _ ?_;refine iE rfl ?_;exact aT h2 [.bool false]
    .obtain⟨ai,cN,h⟩:=ar h;refine fw (aa jV (aa gp h8)) (lq I.Name _ cN) _ ?_;refine aO h (λhC h=>?_) λhC h=>?_
     .exact aT h2 [.bool false]
     .refine aS (gT _ (inl ?_));obtain⟨aB,hn,h⟩:=ar h;obtain⟨a7,iR,h⟩:=ar h;refine du (b5 [(4,.bool (!a7))] (λP aX=>?_) ?_)
      ·(try simp only[aR.down,simprocAttr]);refine d_ (OJ I _ hn) (hK:= ?_);simp only[aR.down,simprocAttr];refine d_ (OK aB R I _ iR) rfl rfl (by simp only[aR.down,simprocAttr,NF.down]<;>rfl) rfl (inr (by rfl)) ?_;simp only[aR.down,simprocAttr];exact bR trivial
      exact dV aj [.bool (!a7)]
  .rcases dH h with⟨om,h⟩|⟨om,h⟩
   .obtain⟨aP,k1,h⟩:=ar h;refine fw (aa jV om) (lq I.Name _ k1) _ ?_;refine aO h (λir h=>?_) λir h=>?_
    .exact aT h2 [.bool false]
    .refine aS (gT _ (inl ?_));obtain⟨aV,xF,h⟩:=ar h;obtain⟨bp,qN,h⟩:=ar h;refine du (b5 [(4,.bool (!bp))] (λP aX=>?_) ?_)
     ·(try simp only[aR.down,simprocAttr]);refine d_ (OJ I _ xF) (hK:= ?_);simp only[aR.down,simprocAttr];refine d_ (OK aV R I _ qN) rfl rfl (by simp only[aR.down,simprocAttr,NF.down]<;>rfl) rfl (inr (by rfl)) ?_;simp only[aR.down,simprocAttr];exact bR trivial
     exact dV aj [.bool (!bp)]
   .refine c5 (aa jV om) _ ?_;refine m3 rfl ?_;refine aS (gT _ (inl ?_));obtain⟨cp,vB,h⟩:=ar h;obtain⟨di,h9,h⟩:=ar h;refine du (b5 [(4,.bool (!di))] (λP aX=>?_) ?_)
    ·(try simp only[aR.down,simprocAttr]);refine d_ (OJ I _ vB) (hK:= ?_);simp only[aR.down,simprocAttr];refine d_ (OK cp R I _ h9) rfl rfl (by simp only[aR.down,simprocAttr,NF.down]<;>rfl) rfl (inr (by rfl)) ?_;simp only[aR.down,simprocAttr];exact bR trivial
    exact dV aj [.bool (!di)]
theorem akY (I R r) (h:GZ I R=some r):ba ah 103 [fL I,.ref (lQ R)] (.bool r) []:=by
 refine bF [0,1] [.tmp 3] Tryz.func103 agm λbw aj bu=>an ?_;obtain⟨U,aY,h⟩:=ar h;refine dC (akX I R.bW _ aY) _ ?_;exact dV aj [.bool (!U)]
theorem akZ (I R r) (h:My I R=some r):ba ah 135 [.slice (I.map fL),.fn 103 [.ref (lQ R)]] (.int .i64 r) []:=by
 refine bF [0,1] [.tmp 4] Tryz.func135 agn λbw aj bu=>an ?_;refine aA aj λ_ bD bb ai=>an ?_;refine bh bb λeC _ bX bN _=>?_;show a6 ah (.loop ?eA) _ _;have eT:∀n cI,G0 I R n cI=some r->cL ah ?eA eC (aq [(0,.slice (I.map fL)),(1,.fn 103 [.ref (lQ R)]),(7,.int .i64 (I.length:Int)),(8,.int .i64 cI)]):=by
  refine cY λ_ eH cI h=>cV bX λ_ dJ cm aP=>an ?_;refine aA cm λ_ dR _ bp=>aO h (λcw h=>?_) λcw h=>?_
  .refine aS (dR _ (inl (aA cm λ_ cJ cd _=>bh cd λ_ b1 cz _ _=>an ?_)));obtain⟨U,dw,h⟩:=ar h;obtain⟨ai,dQ,h⟩:=ar h;refine fw dw (akY U R _ dQ) _ ?_;refine aO h (λfp h=>?_) λfp h=>?_
   .exact aT cz [.int .i64 cI]
   .refine aS (b1 _ (cJ _ (inl (dG ?_))));exact dJ _ (inr ⟨_,bx rfl,eH (i64.wrap (cI+1)) h⟩)
  .exact cT (bp 0 _ (aP 0 _ (bN _ (bD _ (inl (aT aj [.int .i64 (-1)]))))))
 exact dy h λn h=>eT n 0 h
theorem ak0 (I R r) (h:Mz I R=some r):ba ah 102 [.slice (I.map fL),.fn 103 [.ref (lQ R)]] (.bool r) []:=by
 refine bF [0,1] [.tmp 4] Tryz.func102 ago λbw aj bu=>an ?_;obtain⟨U,aY,h⟩:=ar h;refine dC (akZ I R _ aY) _ ?_;exact dV aj [.bool (decide (0<=U))]
theorem ak1 (I r) (h:C0 I=some r):ba ah 62 [lQ I] (.bool r) []:=by
 refine bF [0] [.tmp 2] Tryz.func62 agp λbw aj bu=>an ?_;refine aA aj λ_ bD bb ai=>?_;obtain⟨U,bT,h⟩:=ar h;rcases dH h with⟨cS,h⟩|⟨cS,h⟩
 .refine fw (hz cS) (kc I.bW 0 21 _ bT) _ ?_;refine iE rfl ?_;exact aT bb [.bool false]
 .obtain⟨ai,b0,h⟩:=ar h;refine du (b5 [(1,.aG (lQ I)),(19,.bool ((!ai)||(decide (60<(I.g3.length:Int)))))] (λP aX=>?_) ?_)
  .rcases Bool.eq_false_or_eq_true (ai)with jt|jt
   ·(try simp only[aR.down,simprocAttr,(bV cS),jt]);refine d_ (kc I.bW 0 21 _ bT) (hK:= ?_);simp only[aR.down,simprocAttr,(bV cS),jt];refine ij (Va I I.Start _ b0) (hK:= ?_);simp only[aR.down,simprocAttr,(bV cS),jt];exact bR (aa (bV cS) jt)
   ·(try simp only[aR.down,simprocAttr,(bV cS),jt]);refine d_ (kc I.bW 0 21 _ bT) (hK:= ?_);simp only[aR.down,simprocAttr,(bV cS),jt];refine ij (Va I I.Start _ b0) (hK:= ?_);simp only[aR.down,simprocAttr,(bV cS),jt];exact bR (aa (bV cS) jt)
  refine aO h (λfh h=>?_) λfh h=>?_
  .exact aT bb [.bool false]
  .refine aS (bD _ (inl ?_));obtain⟨aB,dL,h⟩:=ar h;refine du (b5 [(2,.bool (!aB))] (λP aX=>?_) ?_)
   ·(try simp only[aR.down,simprocAttr]);refine d_ (ak0 I.g3 I _ dL) rfl rfl (by simp only[aR.down,simprocAttr,g9,g_,ha,dm, @bn _ bd bd (λ_=>jF _), @bn _ fL fL (λ_=>Hl _)]<;>rfl) rfl (inr (by rfl)) ?_;simp only[aR.down,simprocAttr];exact bR trivial
   exact dV aj [.bool (!aB)]
theorem Vc (I R r) (h:G1 I R=some r):ba ah 26 [fF I,dF R] (.tuple [gb r.1,.bool r.2]) []:=by
 refine bF [0,1] [.cell 4 32,.tmp 5] Tryz.func26 Dp λbw aj bu=>an ?_;obtain⟨U,aY,h⟩:=ar h;refine mg (aa (@Kk ah 112 [(39,0),(85,5),(32,6)] [(.agg [.au,.au,.au,.au,.au]),.au,(.agg [(.int .i64 0),.au,.au])] rfl rfl (by kernel_rfl)) (aa @n6 (aa @n7 (aa @ed (aa @hR (aa @List.nil_append.{0} @List.cons_append.{0})))))) (akq I _ aY) _ ?_;refine aA aj λ_ gg bX a7=>an ?_;refine aO h (λeL h=>?_) λeL h=>?_
 .refine c5 (show∀s,ey ah s 32 []=some (.agg [.int .i64 0,.au,.au],s)from λs=>by kernel_rfl) _ ?_;exact jr (bX _ (inr ⟨[(4,.aG (gb (cr.mk 0 [] []))),(5,.bool false)],iZ [] rfl (i1 (t:=4) (d:=.aG (.agg [.int .i64 0,.au,.au])) rfl rfl (.aG (.agg (.cons (.refl _) (.cons (.gS _) (.cons (.gS _) (.nil)))))) (by decide) (eF rfl (i0))),oP [gb (cr.mk 0 [] []),.bool false]⟩))
 .refine aS (gg _ (inr ⟨[(3,.aG (dF R)),(4,.aG (.agg [.int .i64 0,.au,.au])),(6,.aG (.agg [fF I,.slice (U.map c3),.agg [.int .i64 0,.au,.au]])),(21,.bool (decide (64<(U.length:Int))))],iZ [] rfl (eF rfl (eF rfl (i1 (t:=6) (d:=.aG (.agg [fF I,.af 1 (U.map h7),.agg [.int .i64 0,.au,.au]])) (bE:=.aG (.agg [fF I,.slice (U.map c3),.agg [.int .i64 0,.au,.au]])) rfl rfl (.aG (Fj rfl rfl (by simp only[dm,J.share,J.shares,TV, @bn _ h7 c3 (λ_=>M7 _)]<;>rfl))) (by decide) (eF rfl (i0))))),(aA aj λ_ gT h2 cp=>an ?_)⟩));refine bh h2 λak2 _ cz fU _=>?_;have j_:∀n nH rN,zF I R U n nH rN=some r->cL ah Ue ak2 (aq [(3,.aG (dF R)),(4,.aG (.agg [.int .i64 0,.au,.au])),(6,.aG (.agg [fF I,.slice (U.map c3),.agg [.int .i64 nH,.au,.au]])),(26,.slice (U.map c3)),(27,.int .i64 (U.length:Int)),(28,.int .i64 rN)]):=by
   refine cY λ_ ka nH rN h=>cV cz λ_ eX gM de=>an ?_;refine aA gM λ_ gh _ eK=>aO h (λh8 h=>?_) λh8 h=>?_
   .refine aS (gh _ (inl (aA gM λ_ hd im _=>bh im λ_ jG _ _ _=>?_)));obtain⟨ai,fy,h⟩:=ar h;refine c5 (aa fy @Fo) _ ?_;obtain⟨aB,hn,h⟩:=ar h;refine sD rfl (h0 [(3,.aG (dF R)),(4,.aG (.agg [.int .i64 0,.au,.au])),(6,.aG (.agg [fF I,.slice (U.map c3),.agg [.int .i64 (ti true nH (i64.wrap (1+aB))),.au,.au]])),(26,.slice (U.map c3)),(27,.int .i64 (U.length:Int)),(28,.int .i64 rN)] (λP aX=>?_) ?_)
    ·(try simp only[cM.down,simprocAttr, @Fq,Fs]);refine g1 (ba.sH (U3 (hS.mk I U (cr.mk nH [] [])) ai _ hn) (.wd (.ref (.agg (.cons (.refl _) (.cons (.refl _) (.cons (.agg (.cons (.refl _) (.cons (.qn) (.cons (.qn) (.nil))))) (.nil)))))) rfl rfl (.eq rfl (.nil)))) rfl rfl (by simp only[cM.down,simprocAttr, @Fq,Fs,g9,g_,ha,dm, @bn _ br br (λ_=>pR _), @bn _ dF dF (λ_=>pT _), @bn _ bL bL (λ_=>lP _), @bn _ bj bj (λ_=>hH _), @bn _ bj bj (λ_=>hH _), @bn _ c3 c3 (λ_=>qF _)]<;>rfl) rfl (inr (by rfl)) ?_;simp only[cM.down,simprocAttr, @Fq,Fs];refine⟨hc (by kernel_rfl),?_⟩;exact bR (aa @Fq @Fs)
    refine jG _ (hd _ (inl (dG ?_)));exact eX _ (inr ⟨_,bx rfl,ka (ti true nH (i64.wrap (1+aB))) (i64.wrap (rN+1)) h⟩)
   .refine cT (eK 0 _ (de 0 _ (fU _ (gT _ (inl ?_)))));obtain⟨a7,k1,h⟩:=ar h;obtain⟨aq9,jH,h⟩:=ar h;(try simp only[hj.down,Nat.zero_add,Nat.add_zero,reduceAdd]at jH);refine ko rfl (h0 [(4,.aG (.agg [.int .i64 0,.au,.au])),(6,.aG (.agg [fF I,.slice (U.map c3),.agg [.int .i64 nH,.af 1 (([a7]++R.e7).map bd),.au]]))] (λP aX=>?_) ?_)
    ·(try simp only[cM.down,simprocAttr,(show∀s,dz ah s 29 1 [(0,.int .i64 a7)]=some (.af 1 [.int .i64 a7],s)from λs=>by kernel_rfl),t_.down,jH]);refine g1 (ba.sH (OH (hS.mk I U (cr.mk nH [] [])) R.gl 0 _ k1) (.wd (.ref (.agg (.cons (.refl _) (.cons (.refl _) (.cons (.agg (.cons (.refl _) (.cons (.qn) (.cons (.qn) (.nil))))) (.nil)))))) rfl rfl (.eq rfl (.eq rfl (.nil))))) rfl rfl (by simp only[cM.down,simprocAttr,(show∀s,dz ah s 29 1 [(0,.int .i64 a7)]=some (.af 1 [.int .i64 a7],s)from λs=>by kernel_rfl), @iN ah 29 29 2 rfl rfl,iO,iP,hR,all_cons,all_nil,jH, @hQ _ bd 1 (λ_=>rfl),g9,g_,ha,dm, @bn _ br br (λ_=>pR _), @bn _ dF dF (λ_=>pT _), @bn _ bL bL (λ_=>lP _), @bn _ bj bj (λ_=>hH _), @bn _ bj bj (λ_=>hH _), @bn _ c3 c3 (λ_=>qF _)]<;>rfl) rfl (inr (by rfl)) ?_;simp only[cM.down,simprocAttr,(show∀s,dz ah s 29 1 [(0,.int .i64 a7)]=some (.af 1 [.int .i64 a7],s)from λs=>by kernel_rfl),t_.down,jH];refine⟨hc (by kernel_rfl),?_⟩;exact bR (aa (show∀s,dz ah s 29 1 [(0,.int .i64 a7)]=some (.af 1 [.int .i64 a7],s)from λs=>by kernel_rfl) (aa t_.down jH))
    refine aA aj λ_ DL vy _=>bh vy λak3 _ vv hL _=>?_;have xM:∀n oV fu,C1 I U n oV fu=some r->cL ah Uf ak3 (aq [(4,.aG (.agg [.int .i64 0,.au,.au])),(6,.aG (.agg [fF I,.slice (U.map c3),.agg [.int .i64 oV,.af 1 (fu.map bd),.au]]))]):=by
     refine cY λ_ xN oV fu h=>cV vv λ_ NU Vd tQ=>aA Vd λ_ oX _ ak4=>agR _ ?_;refine aO h (λkK h=>?_) λkK h=>?_
     .refine aS (oX _ (inl (bh Vd λ_ DF _ _ _=>?_)));obtain⟨aq_,mj,h⟩:=ar h;(try simp only[hj.down,Nat.zero_add,Nat.add_zero,reduceAdd]at mj);refine qG (aa (show∀s,dz ah s 29 1 [(0,.int .i64 0)]=some (.af 1 [.int .i64 0],s)from λs=>by kernel_rfl) (aa (@iN ah 29 29 2 rfl rfl) (aa @iO (aa @iP (aa @hR (aa @all_cons (aa @all_nil (aa mj (@hQ _ bd 1 λ_=>rfl))))))))) [(4,.aG (.agg [.int .i64 0,.au,.au])),(6,.aG (.agg [fF I,.slice (U.map c3),.agg [.int .i64 oV,.af 1 ((fu++[0]).map bd),.au]]))] ?_;exact DF _ (NU _ (inr ⟨_,bx rfl,xN oV (fu++[0]) h⟩))
     .refine cT (ak4 2 _ (tQ 2 _ (hL _ (DL _ (inl (aA aj λ_ xI uc _=>an ?_))))));refine bh uc λak5 _ ak6 o0 _=>?_;have ak7:∀n nG vq pO pP pQ oU,vr U n nG vq pO pP pQ oU=some r->cL ah Ug ak5 (aq [(4,.aG (.agg [.int .i64 0,.au,.au])),(6,.aG (.agg [fF nG,.slice (vq.map c3),.agg [.int .i64 pO,.af 1 (pP.map bd),.af 5 (pQ.map dO)]])),(85,.slice (U.map c3)),(86,.int .i64 (U.length:Int)),(87,.int .i64 oU)]):=by
       refine cY λ_ ak8 nG vq pO pP pQ oU h=>cV ak6 λ_ ak9 Ve ak_=>an ?_;refine aA Ve λ_ xK _ N6=>aO h (λOG h=>?_) λOG h=>?_
       .refine aS (xK _ (inl (aA Ve λ_ Oz DG _=>bh DG λ_ NW _ _ _=>?_)));obtain⟨aP,DN,h⟩:=ar h;refine c5 DN _ ?_;obtain⟨aV,vz,h⟩:=ar h;obtain⟨bp,DK,h⟩:=ar h;refine h5 (b5 [(4,.aG (.agg [.int .i64 0,.au,.au])),(6,.aG (.agg [.agg [.slice (bp.1.map br),.slice (bp.2.1.map dF),.slice (bp.2.2.1.map bL),.slice (bp.2.2.2.1.map bj),.slice (bp.2.2.2.2.1.map bj)],.slice (bp.2.2.2.2.2.1.map c3),.agg [.int .i64 bp.2.2.2.2.2.2.1,.af 1 (bp.2.2.2.2.2.2.2.1.map bd),.af 5 (bp.2.2.2.2.2.2.2.2.map dO)]])),(85,.slice (U.map c3)),(86,.int .i64 (U.length:Int)),(87,.int .i64 oU)] (λP aX=>?_) ?_)
        ·(try simp only[aR.down,simprocAttr,vz,(show∀s,ey ah s 116 []=some (.agg [.au,.au],s)from λs=>by kernel_rfl)]);refine ma [⟨.h 6 [],true,_,_⟩,⟨.int .i64 oU,false,_,.hole⟩,⟨.int .i64 aV,false,_,.hole⟩,⟨.agg [.au,.au],false,_,.hole⟩] (ba.sH (akU nG.aC nG.b7 nG.hA nG.hg nG.hh vq pO pP pQ oU aV (fE.mk [] []) _ DK) (.eq rfl (.eq rfl (.eq rfl (.wd (.agg (.cons (.qn) (.cons (.qn) (.nil)))) rfl rfl (.nil)))))) rfl rfl rfl (by simp only[aR.down,simprocAttr,vz,(show∀s,ey ah s 116 []=some (.agg [.au,.au],s)from λs=>by kernel_rfl),n8,mA,lI,g9,g_,ha,dm,or_true,true_or, @bn _ br br (λ_=>pR _), @bn _ dF dF (λ_=>pT _), @bn _ bL bL (λ_=>lP _), @bn _ bj bj (λ_=>hH _), @bn _ bj bj (λ_=>hH _), @bn _ c3 c3 (λ_=>qF _), @bn _ bd bd (λ_=>jF _), @bn _ dO fL (λ_=>oW _)]) rfl rfl (inl rfl) ?_;simp only[aR.down,simprocAttr,vz,(show∀s,ey ah s 116 []=some (.agg [.au,.au],s)from λs=>by kernel_rfl),kp];exact bR (aa vz (show∀s,ey ah s 116 []=some (.agg [.au,.au],s)from λs=>by kernel_rfl))
        refine NW _ (Oz _ (inl (dG ?_)));exact ak9 _ (inr ⟨_,bx rfl,ak8 (cG.mk bp.1 bp.2.1 bp.2.2.1 bp.2.2.2.1 bp.2.2.2.2.1) bp.2.2.2.2.2.1 bp.2.2.2.2.2.2.1 bp.2.2.2.2.2.2.2.1 bp.2.2.2.2.2.2.2.2 (i64.wrap (oU+1)) h⟩)
       .refine cT (N6 4 _ (ak_ 4 _ (o0 _ (xI _ (inl ?_)))));obtain⟨cp,NZ,h⟩:=ar h;refine ko rfl (h0 [(4,.aG (.agg [.int .i64 pO,.af 1 (pP.map bd),.af 5 (pQ.map dO)])),(5,.bool cp)] (λP aX=>?_) ?_)
        ·(try simp only[cM.down,simprocAttr]);refine g1 (ak1 (cr.mk pO pP pQ) _ NZ) rfl rfl (by simp only[cM.down,simprocAttr,Hq.down]<;>rfl) rfl (inr (by rfl)) ?_;simp only[cM.down,simprocAttr];refine⟨hc (by kernel_rfl),?_⟩;exact bR trivial
        exact dV aj [gb (cr.mk pO pP pQ),.bool cp]
      obtain⟨n,h⟩:=mo h;exact oM (inr ⟨_,iZ [] rfl (eF (t:=4) (d:=.aG (.agg [.int .i64 0,.au,.au])) rfl (i1 (t:=6) (d:=.aG (.agg [fF I,.slice (U.map c3),.agg [.int .i64 oV,.af 1 (fu.map bd),.au]])) (bE:=.aG (.agg [fF I,.slice (U.map c3),.agg [.int .i64 oV,.af 1 (fu.map bd),.af 5 []]])) rfl rfl (.aG (.agg (.cons (.refl _) (.cons (.refl _) (.cons (.agg (.cons (.refl _) (.cons (.refl _) (.cons (.gS _) (.nil))))) (.nil)))))) (by decide) (eF (t:=85) (d:=.slice (U.map c3)) rfl (eF (t:=86) (d:=.int .i64 (U.length:Int)) rfl (eF (t:=87) (d:=.int .i64 0) rfl (i0)))))),ak7 n I U oV fu [] 0 h⟩)
    exact dy h λn h=>xM n nH ([a7]++R.e7) h
  exact dy h λn h=>j_ n 0 0 h
theorem Vf (I R r) (h:C2 I R=some r):ba ah 7 [fF I,.int .i64 R] (.tuple [gb r.1,.int .i64 r.2]) []:=by
 refine bF [0,1] [.cell 4 32,.tmp 5] Tryz.func7 JG λbw aj bu=>an ?_;refine aA aj λ_ bD bb ai=>bh bb λ_ fk dt _ aB=>?_;obtain⟨U,cF,h⟩:=ar h;refine dC (akp I _ cF) _ ?_;refine aO h (λeL h=>?_) λeL h=>?_
 .refine c5 (show∀s,ey ah s 32 []=some (.agg [.int .i64 0,.au,.au],s)from λs=>by kernel_rfl) _ ?_;exact jr (dt _ (inr ⟨[(4,.aG (gb (cr.mk 0 [] []))),(5,.int .i64 1)],iZ [] rfl (i1 (t:=4) (d:=.aG (.agg [.int .i64 0,.au,.au])) rfl rfl (.aG (.agg (.cons (.refl _) (.cons (.gS _) (.cons (.gS _) (.nil)))))) (by decide) (eF rfl (i0))),oP [gb (cr.mk 0 [] []),.int .i64 1]⟩))
 .obtain⟨ai,ie,h⟩:=ar h;refine dC (Ab R (I.b7.length:Int) _ ie) _ ?_;refine aO h (λfU h=>?_) λfU h=>?_
  .refine c5 (show∀s,ey ah s 32 []=some (.agg [.int .i64 0,.au,.au],s)from λs=>by kernel_rfl) _ ?_;exact jr (dt _ (inr ⟨[(4,.aG (gb (cr.mk 0 [] []))),(5,.int .i64 2)],iZ [] rfl (i1 (t:=4) (d:=.aG (.agg [.int .i64 0,.au,.au])) rfl rfl (.aG (.agg (.cons (.refl _) (.cons (.gS _) (.cons (.gS _) (.nil)))))) (by decide) (eF rfl (i0))),oP [gb (cr.mk 0 [] []),.int .i64 2]⟩))
  .refine aS (fk _ (bD _ (inl ?_)));obtain⟨aB,dw,h⟩:=ar h;obtain⟨a7,dQ,h⟩:=ar h;refine aco 9 11 [0,1,2,3,4,5,6,7,8,10,11,9,12] rfl rfl [(4,.aG (.agg [.int .i64 0,.au,.au])),(6,.aG (gb a7.1)),(7,.bool a7.2)] (λP aX=>?_) (λP aX=>?_) ?_
   ·(try simp only[cM.down,simprocAttr,dw,yN]);refine g1 (Vc I aB _ dQ) (hK:= ?_);simp only[cM.down,simprocAttr,dw,yN];refine⟨hc (by kernel_rfl),?_⟩;exact bR (aa dw @yN)
   .simp only[tF,List.map_cons,List.map_nil,List.getD_cons_zero,List.getD_cons_succ,simprocAttr];(try simp only[cM.down,simprocAttr,dw,yN]);refine g1 (Vc I aB _ dQ) (hK:= ?_);simp only[cM.down,simprocAttr,dw,yN];refine⟨hc (by kernel_rfl),?_⟩;exact bR (aa dw @yN)
   refine aA aj λ_ hd im _=>an ?_;refine aO h (λhC h=>?_) λhC h=>?_
   .refine c5 (show∀s,ey ah s 32 []=some (.agg [.int .i64 0,.au,.au],s)from λs=>by kernel_rfl) _ ?_;exact jr (im _ (inr ⟨[(4,.aG (gb (cr.mk 0 [] []))),(5,.int .i64 5)],iZ [] rfl (i1 (t:=4) (d:=.aG (.agg [.int .i64 0,.au,.au])) rfl rfl (.aG (.agg (.cons (.refl _) (.cons (.gS _) (.cons (.gS _) (.nil)))))) (by decide) (eF rfl (i0))),oP [gb (cr.mk 0 [] []),.int .i64 5]⟩))
   .exact aS (hd _ (inl (aT aj [gb a7.1,.int .i64 0])))
theorem OL (I R r) (h:zG I R=some r):ba ah 27 [.slice (I.map bd),.slice (R.map bd)] (.bool r) []:=by
 refine bF [0,1] [.tmp 4] Tryz.func27 agt λbw aj bu=>an ?_;refine aA aj λ_ bD bb ai=>an ?_;refine aO h (λbN h=>?_) λbN h=>?_
 .exact aT bb [.bool false]
 .refine aS (bD _ (inl (aA aj λ_ dp dK _=>an ?_)));refine bh dK λkb _ h2 cw _=>?_;show a6 ah (.loop ?hT) _ _;have hV:∀n c0,MC I R n c0=some r->cL ah ?hT kb (aq [(0,.slice (I.map bd)),(1,.slice (R.map bd)),(5,.int .i64 c0)]):=by
   refine cY λ_ hk c0 h=>cV h2 λ_ cJ cd di=>aA cd λ_ b1 _ cE=>an ?_;refine aO h (λgp h=>?_) λgp h=>?_
   .refine aS (b1 _ (inl (aA cd λ_ gh gB _=>bh gB λ_ eS el _ _=>?_)));obtain⟨U,cN,h⟩:=ar h;obtain⟨ai,fb,h⟩:=ar h;refine qH (aa cN fb) _ ?_;refine aO h (λlp h=>?_) λlp h=>?_
    .exact aT el [.bool false]
    .refine aS (eS _ (gh _ (inl (dG ?_))));exact cJ _ (inr ⟨_,bx rfl,hk (i64.wrap (c0+1)) h⟩)
   .exact cT (cE 0 _ (di 0 _ (cw _ (dp _ (inl (aT aj [.bool true]))))))
  exact dy h λn h=>hV n 0 h
theorem ala (I R r) (h:C3 I R=some r):ba ah 141 [bf I,bf R] (.bool r) []:=by
 refine bF [0,1] [.tmp 4] Tryz.func141 agu λbw aj bu=>an ?_;refine aA aj λ_ bD bb _=>an ?_;refine aO h (λbN h=>?_) λbN h=>?_
 .exact aT bb [.bool false]
 .refine aS (bD _ (inl (aA aj λ_ dp dK _=>an ?_)));refine aO h (λcw h=>?_) λcw h=>?_
  .exact aT dK [.bool false]
  .exact aS (dp _ (inl (aT aj [.bool true])))
theorem Vg (I R r) (h:zH I R=some r):ba ah 105 [.slice (I.map bf),.slice (R.map bf)] (.bool r) []:=by
 refine bF [0,1] [.tmp 4] Tryz.func105 agv λbw aj bu=>an ?_;refine aA aj λ_ bD bb ai=>an ?_;refine aO h (λbN h=>?_) λbN h=>?_
 .exact aT bb [.bool false]
 .refine aS (bD _ (inl (aA aj λ_ dp dK _=>an ?_)));refine bh dK λkb _ h2 cw _=>?_;show a6 ah (.loop ?hT) _ _;have hV:∀n c0,MD I R n c0=some r->cL ah ?hT kb (aq [(0,.slice (I.map bf)),(1,.slice (R.map bf)),(5,.int .i64 c0)]):=by
   refine cY λ_ hk c0 h=>cV h2 λ_ cJ cd di=>aA cd λ_ b1 _ cE=>an ?_;refine aO h (λgp h=>?_) λgp h=>?_
   .refine aS (b1 _ (inl (aA cd λ_ gh gB _=>bh gB λ_ eS el _ _=>?_)));obtain⟨U,cN,h⟩:=ar h;obtain⟨ai,fb,h⟩:=ar h;obtain⟨aB,fy,h⟩:=ar h;refine mg (aa cN fb) (ala U ai _ fy) _ ?_;refine aO h (λiq h=>?_) λiq h=>?_
    .exact aT el [.bool false]
    .refine aS (eS _ (gh _ (inl (dG ?_))));exact cJ _ (inr ⟨_,bx rfl,hk (i64.wrap (c0+1)) h⟩)
   .exact cT (cE 0 _ (di 0 _ (cw _ (dp _ (inl (aT aj [.bool true]))))))
  exact dy h λn h=>hV n 0 h
theorem OM (I R r) (h:zI I R=some r):ba ah 106 [.slice (I.map cy),.slice (R.map cy)] (.bool r) []:=by
 refine bF [0,1] [.tmp 4] Tryz.func106 Nq λbw aj bu=>an ?_;refine aA aj λ_ bD bb ai=>an ?_;refine aO h (λbN h=>?_) λbN h=>?_
 .exact aT bb [.bool false]
 .refine aS (bD _ (inl (aA aj λ_ dp dK _=>an ?_)));refine bh dK λkb _ h2 cw _=>?_;show a6 ah (.loop ?hT) _ _;have hV:∀n c0,ME I R n c0=some r->cL ah ?hT kb (aq [(0,.slice (I.map cy)),(1,.slice (R.map cy)),(5,.int .i64 c0)]):=by
   refine cY λ_ hk c0 h=>cV h2 λ_ cJ cd di=>aA cd λ_ b1 _ cE=>an ?_;refine aO h (λgp h=>?_) λgp h=>?_
   .refine aS (b1 _ (inl (aA cd λ_ gh gB _=>bh gB λ_ eS el _ _=>?_)));obtain⟨U,cN,h⟩:=ar h;obtain⟨ai,fb,h⟩:=ar h;obtain⟨aB,fy,h⟩:=ar h;refine mg (aa cN fb) (Vg U ai _ fy) _ ?_;refine aO h (λiq h=>?_) λiq h=>?_
    .exact aT el [.bool false]
    .refine aS (eS _ (gh _ (inl (dG ?_))));exact cJ _ (inr ⟨_,bx rfl,hk (i64.wrap (c0+1)) h⟩)
   .exact cT (cE 0 _ (di 0 _ (cw _ (dp _ (inl (aT aj [.bool true]))))))
  exact dy h λn h=>hV n 0 h
theorem alb (I R r) (h:C4 I R=some r):ba ah 63 [fL I,fL R] (.bool r) []:=by
 refine bF [0,1] [.tmp 4] Tryz.func63 agw λbw aj bu=>an ?_;refine aA aj λ_ bD bb ai=>?_;obtain⟨U,bT,h⟩:=ar h;refine dC (OL I.cx R.cx _ bT) _ ?_;refine aO h (λcS h=>?_) λcS h=>?_
 .exact aT bb [.bool false]
 .refine aS (bD _ (inl (aA aj λ_ dR e6 _=>?_)));obtain⟨ai,ie,h⟩:=ar h;refine dC (Vg I.Guard R.Guard _ ie) _ ?_;refine aO h (λfU h=>?_) λfU h=>?_
  .exact aT e6 [.bool false]
  .refine aS (dR _ (inl (aA aj λ_ gI kL _=>an ?_)));refine aO h (λh8 h=>?_) λh8 h=>?_
   .exact aT kL [.bool false]
   .refine aS (gI _ (inl (aA aj λ_ jG kZ _=>?_)));obtain⟨aB,fy,h⟩:=ar h;refine dC (OM I.a9 R.a9 _ fy) _ ?_;refine aO h (λiq h=>?_) λiq h=>?_
    .exact aT kZ [.bool false]
    .refine aS (jG _ (inl (aA aj λ_ nM nL _=>?_)));obtain⟨a7,k1,h⟩:=ar h;refine dC (OM I.Next R.Next _ k1) _ ?_;refine aO h (λir h=>?_) λir h=>?_
     .exact aT nL [.bool false]
     .exact aS (nM _ (inl (aT aj [.bool true])))
theorem alc (I R r) (h:G2 I R=some r):ba ah 28 [.slice (I.map fL),.slice (R.map fL)] (.bool r) []:=by
 refine bF [0,1] [.tmp 4] Tryz.func28 agx λbw aj bu=>an ?_;refine aA aj λ_ bD bb ai=>an ?_;refine aO h (λbN h=>?_) λbN h=>?_
 .exact aT bb [.bool false]
 .refine aS (bD _ (inl (aA aj λ_ dp dK _=>an ?_)));refine bh dK λkb _ h2 cw _=>?_;show a6 ah (.loop ?hT) _ _;have hV:∀n c0,MF I R n c0=some r->cL ah ?hT kb (aq [(0,.slice (I.map fL)),(1,.slice (R.map fL)),(5,.int .i64 c0)]):=by
   refine cY λ_ hk c0 h=>cV h2 λ_ cJ cd di=>aA cd λ_ b1 _ cE=>an ?_;refine aO h (λgp h=>?_) λgp h=>?_
   .refine aS (b1 _ (inl (aA cd λ_ gh gB _=>bh gB λ_ eS el _ _=>?_)));obtain⟨U,cN,h⟩:=ar h;obtain⟨ai,fb,h⟩:=ar h;obtain⟨aB,fy,h⟩:=ar h;refine mg (aa cN fb) (alb U ai _ fy) _ ?_;refine aO h (λiq h=>?_) λiq h=>?_
    .exact aT el [.bool false]
    .refine aS (eS _ (gh _ (inl (dG ?_))));exact cJ _ (inr ⟨_,bx rfl,hk (i64.wrap (c0+1)) h⟩)
   .exact cT (cE 0 _ (di 0 _ (cw _ (dp _ (inl (aT aj [.bool true]))))))
  exact dy h λn h=>hV n 0 h
theorem Ac (I R r) (h:zJ I R=some r):ba ah 8 [lQ I,lQ R] (.bool r) []:=by
 refine bF [0,1] [.tmp 4] Tryz.func8 hx λbw aj bu=>an ?_;refine aA aj λ_ bD bb ai=>an ?_;refine aO h (λbN h=>?_) λbN h=>?_
 .exact aT bb [.bool false]
 .refine aS (bD _ (inl (aA aj λ_ dp dK _=>?_)));obtain⟨U,gZ,h⟩:=ar h;refine dC (OL I.Start R.Start _ gZ) _ ?_;refine aO h (λfh h=>?_) λfh h=>?_
  .exact aT dK [.bool false]
  .refine aS (dp _ (inl (aA aj λ_ eX gM _=>?_)));obtain⟨ai,dw,h⟩:=ar h;refine dC (alc I.g3 R.g3 _ dw) _ ?_;refine aO h (λh8 h=>?_) λh8 h=>?_
   .exact aT gM [.bool false]
   .exact aS (eX _ (inl (aT aj [.bool true])))
theorem ald (I R r) (h:C5 I R=some r):ba ah 142 [c2 I,c2 R] (.bool r) []:=by
 refine bF [0,1] [.tmp 4] Tryz.func142 agy λbw aj bu=>an ?_;refine aA aj λ_ bD bb _=>an ?_;refine aO h (λbN h=>?_) λbN h=>?_
 .exact aT bb [.bool false]
 .refine aS (bD _ (inl (aA aj λ_ dp dK _=>an ?_)));refine aO h (λcw h=>?_) λcw h=>?_
  .exact aT dK [.bool false]
  .refine aS (dp _ (inl (aA aj λ_ b1 cz _=>an ?_)));refine aO h (λgp h=>?_) λgp h=>?_
   .exact aT cz [.bool false]
   .refine aS (b1 _ (inl (aA aj λ_ eS el _=>?_)));obtain⟨U,cN,h⟩:=ar h;refine dC (OM I.a9 R.a9 _ cN) _ ?_;refine aO h (λhC h=>?_) λhC h=>?_
    .exact aT el [.bool false]
    .exact aS (eS _ (inl (aT aj [.bool true])))
theorem ale (I R r) (h:G3 I R=some r):ba ah 107 [.slice (I.map c2),.slice (R.map c2)] (.bool r) []:=by
 refine bF [0,1] [.tmp 4] Tryz.func107 agz λbw aj bu=>an ?_;refine aA aj λ_ bD bb ai=>an ?_;refine aO h (λbN h=>?_) λbN h=>?_
 .exact aT bb [.bool false]
 .refine aS (bD _ (inl (aA aj λ_ dp dK _=>an ?_)));refine bh dK λkb _ h2 cw _=>?_;show a6 ah (.loop ?hT) _ _;have hV:∀n c0,MG I R n c0=some r->cL ah ?hT kb (aq [(0,.slice (I.map c2)),(1,.slice (R.map c2)),(5,.int .i64 c0)]):=by
   refine cY λ_ hk c0 h=>cV h2 λ_ cJ cd di=>aA cd λ_ b1 _ cE=>an ?_;refine aO h (λgp h=>?_) λgp h=>?_
   .refine aS (b1 _ (inl (aA cd λ_ gh gB _=>bh gB λ_ eS el _ _=>?_)));obtain⟨U,cN,h⟩:=ar h;obtain⟨ai,fb,h⟩:=ar h;obtain⟨aB,fy,h⟩:=ar h;refine mg (aa cN fb) (ald U ai _ fy) _ ?_;refine aO h (λiq h=>?_) λiq h=>?_
    .exact aT el [.bool false]
    .refine aS (eS _ (gh _ (inl (dG ?_))));exact cJ _ (inr ⟨_,bx rfl,hk (i64.wrap (c0+1)) h⟩)
   .exact cT (cE 0 _ (di 0 _ (cw _ (dp _ (inl (aT aj [.bool true]))))))
  exact dy h λn h=>hV n 0 h
theorem alf (I R r) (h:C6 I R=some r):ba ah 64 [br I,br R] (.bool r) []:=by
 refine bF [0,1] [.tmp 4] Tryz.func64 agA λbw aj bu=>an ?_;refine aA aj λ_ bD bb _=>an ?_;refine aO h (λbN h=>?_) λbN h=>?_
 .exact aT bb [.bool false]
 .refine aS (bD _ (inl (aA aj λ_ dp dK _=>an ?_)));refine aO h (λcw h=>?_) λcw h=>?_
  .exact aT dK [.bool false]
  .refine aS (dp _ (inl (aA aj λ_ b1 cz _=>?_)));obtain⟨U,dL,h⟩:=ar h;refine dC (ale I.Body R.Body _ dL) _ ?_;refine aO h (λg5 h=>?_) λg5 h=>?_
   .exact aT cz [.bool false]
   .exact aS (b1 _ (inl (aT aj [.bool true])))
theorem alg (I R r) (h:G4 I R=some r):ba ah 29 [.slice (I.map br),.slice (R.map br)] (.bool r) []:=by
 refine bF [0,1] [.tmp 4] Tryz.func29 agB λbw aj bu=>an ?_;refine aA aj λ_ bD bb ai=>an ?_;refine aO h (λbN h=>?_) λbN h=>?_
 .exact aT bb [.bool false]
 .refine aS (bD _ (inl (aA aj λ_ dp dK _=>an ?_)));refine bh dK λkb _ h2 cw _=>?_;show a6 ah (.loop ?hT) _ _;have hV:∀n c0,MH I R n c0=some r->cL ah ?hT kb (aq [(0,.slice (I.map br)),(1,.slice (R.map br)),(5,.int .i64 c0)]):=by
   refine cY λ_ hk c0 h=>cV h2 λ_ cJ cd di=>aA cd λ_ b1 _ cE=>an ?_;refine aO h (λgp h=>?_) λgp h=>?_
   .refine aS (b1 _ (inl (aA cd λ_ gh gB _=>bh gB λ_ eS el _ _=>?_)));obtain⟨U,cN,h⟩:=ar h;obtain⟨ai,fb,h⟩:=ar h;obtain⟨aB,fy,h⟩:=ar h;refine mg (aa cN fb) (alf U ai _ fy) _ ?_;refine aO h (λiq h=>?_) λiq h=>?_
    .exact aT el [.bool false]
    .refine aS (eS _ (gh _ (inl (dG ?_))));exact cJ _ (inr ⟨_,bx rfl,hk (i64.wrap (c0+1)) h⟩)
   .exact cT (cE 0 _ (di 0 _ (cw _ (dp _ (inl (aT aj [.bool true]))))))
  exact dy h λn h=>hV n 0 h
theorem alh (I R r) (h:C7 I R=some r):ba ah 65 [dF I,dF R] (.bool r) []:=by
 refine bF [0,1] [.tmp 4] Tryz.func65 agC λbw aj bu=>an ?_;refine aA aj λ_ bD bb _=>an ?_;refine aO h (λbN h=>?_) λbN h=>?_
 .exact aT bb [.bool false]
 .refine aS (bD _ (inl (aA aj λ_ dp dK _=>?_)));obtain⟨U,gZ,h⟩:=ar h;refine dC (OL I.e7 R.e7 _ gZ) _ ?_;refine aO h (λfh h=>?_) λfh h=>?_
  .exact aT dK [.bool false]
  .exact aS (dp _ (inl (aT aj [.bool true])))
theorem ali (I R r) (h:G5 I R=some r):ba ah 30 [.slice (I.map dF),.slice (R.map dF)] (.bool r) []:=by
 refine bF [0,1] [.tmp 4] Tryz.func30 Nr λbw aj bu=>an ?_;refine aA aj λ_ bD bb ai=>an ?_;refine aO h (λbN h=>?_) λbN h=>?_
 .exact aT bb [.bool false]
 .refine aS (bD _ (inl (aA aj λ_ dp dK _=>an ?_)));refine bh dK λkb _ h2 cw _=>?_;show a6 ah (.loop ?hT) _ _;have hV:∀n c0,MI I R n c0=some r->cL ah ?hT kb (aq [(0,.slice (I.map dF)),(1,.slice (R.map dF)),(5,.int .i64 c0)]):=by
   refine cY λ_ hk c0 h=>cV h2 λ_ cJ cd di=>aA cd λ_ b1 _ cE=>an ?_;refine aO h (λgp h=>?_) λgp h=>?_
   .refine aS (b1 _ (inl (aA cd λ_ gh gB _=>bh gB λ_ eS el _ _=>?_)));obtain⟨U,cN,h⟩:=ar h;obtain⟨ai,fb,h⟩:=ar h;obtain⟨aB,fy,h⟩:=ar h;refine mg (aa cN fb) (alh U ai _ fy) _ ?_;refine aO h (λiq h=>?_) λiq h=>?_
    .exact aT el [.bool false]
    .refine aS (eS _ (gh _ (inl (dG ?_))));exact cJ _ (inr ⟨_,bx rfl,hk (i64.wrap (c0+1)) h⟩)
   .exact cT (cE 0 _ (di 0 _ (cw _ (dp _ (inl (aT aj [.bool true]))))))
  exact dy h λn h=>hV n 0 h
theorem alj (I R r) (h:C8 I R=some r):ba ah 66 [bL I,bL R] (.bool r) []:=by
 refine bF [0,1] [.tmp 4] Tryz.func66 agD λbw aj bu=>an ?_;refine aA aj λ_ bD bb _=>an ?_;refine aO h (λbN h=>?_) λbN h=>?_
 .exact aT bb [.bool false]
 .refine aS (bD _ (inl (aA aj λ_ dp dK _=>an ?_)));refine aO h (λcw h=>?_) λcw h=>?_
  .exact aT dK [.bool false]
  .refine aS (dp _ (inl (aA aj λ_ b1 cz _=>an ?_)));refine aO h (λgp h=>?_) λgp h=>?_
   .exact aT cz [.bool false]
   .exact aS (b1 _ (inl (aT aj [.bool true])))
theorem alk (I R r) (h:G6 I R=some r):ba ah 31 [.slice (I.map bL),.slice (R.map bL)] (.bool r) []:=by
 refine bF [0,1] [.tmp 4] Tryz.func31 Ns λbw aj bu=>an ?_;refine aA aj λ_ bD bb ai=>an ?_;refine aO h (λbN h=>?_) λbN h=>?_
 .exact aT bb [.bool false]
 .refine aS (bD _ (inl (aA aj λ_ dp dK _=>an ?_)));refine bh dK λkb _ h2 cw _=>?_;show a6 ah (.loop ?hT) _ _;have hV:∀n c0,MJ I R n c0=some r->cL ah ?hT kb (aq [(0,.slice (I.map bL)),(1,.slice (R.map bL)),(5,.int .i64 c0)]):=by
   refine cY λ_ hk c0 h=>cV h2 λ_ cJ cd di=>aA cd λ_ b1 _ cE=>an ?_;refine aO h (λgp h=>?_) λgp h=>?_
   .refine aS (b1 _ (inl (aA cd λ_ gh gB _=>bh gB λ_ eS el _ _=>?_)));obtain⟨U,cN,h⟩:=ar h;obtain⟨ai,fb,h⟩:=ar h;obtain⟨aB,fy,h⟩:=ar h;refine mg (aa cN fb) (alj U ai _ fy) _ ?_;refine aO h (λiq h=>?_) λiq h=>?_
    .exact aT el [.bool false]
    .refine aS (eS _ (gh _ (inl (dG ?_))));exact cJ _ (inr ⟨_,bx rfl,hk (i64.wrap (c0+1)) h⟩)
   .exact cT (cE 0 _ (di 0 _ (cw _ (dp _ (inl (aT aj [.bool true]))))))
  exact dy h λn h=>hV n 0 h
theorem Vh (I R r) (h:C9 I R=some r):ba ah 32 [.slice (I.map bj),.slice (R.map bj)] (.bool r) []:=by
 refine bF [0,1] [.tmp 4] Tryz.func32 agE λbw aj bu=>an ?_;refine aA aj λ_ bD bb ai=>an ?_;refine aO h (λbN h=>?_) λbN h=>?_
 .exact aT bb [.bool false]
 .refine aS (bD _ (inl (aA aj λ_ dp dK _=>an ?_)));refine bh dK λkb _ h2 cw _=>?_;show a6 ah (.loop ?hT) _ _;have hV:∀n c0,MK I R n c0=some r->cL ah ?hT kb (aq [(0,.slice (I.map bj)),(1,.slice (R.map bj)),(5,.int .i64 c0)]):=by
   refine cY λ_ hk c0 h=>cV h2 λ_ cJ cd di=>aA cd λ_ b1 _ cE=>an ?_;refine aO h (λgp h=>?_) λgp h=>?_
   .refine aS (b1 _ (inl (aA cd λ_ gh gB _=>bh gB λ_ eS el _ _=>?_)));obtain⟨U,cN,h⟩:=ar h;obtain⟨ai,fb,h⟩:=ar h;refine qH (aa cN fb) _ ?_;refine aO h (λlp h=>?_) λlp h=>?_
    .exact aT el [.bool false]
    .refine aS (eS _ (gh _ (inl (dG ?_))));exact cJ _ (inr ⟨_,bx rfl,hk (i64.wrap (c0+1)) h⟩)
   .exact cT (cE 0 _ (di 0 _ (cw _ (dp _ (inl (aT aj [.bool true]))))))
  exact dy h λn h=>hV n 0 h
theorem alm (I R r) (h:C_ I R=some r):ba ah 9 [fF I,fF R] (.bool r) []:=by
 refine bF [0,1] [.tmp 4] Tryz.func9 JH λbw aj bu=>an ?_;refine aA aj λ_ bD bb ai=>?_;obtain⟨U,bT,h⟩:=ar h;refine dC (alg I.aC R.aC _ bT) _ ?_;refine aO h (λcS h=>?_) λcS h=>?_
 .exact aT bb [.bool false]
 .refine aS (bD _ (inl (aA aj λ_ dR e6 _=>?_)));obtain⟨ai,ie,h⟩:=ar h;refine dC (ali I.b7 R.b7 _ ie) _ ?_;refine aO h (λfU h=>?_) λfU h=>?_
  .exact aT e6 [.bool false]
  .refine aS (dR _ (inl (aA aj λ_ gI kL _=>?_)));obtain⟨aB,dQ,h⟩:=ar h;refine dC (alk I.hA R.hA _ dQ) _ ?_;refine aO h (λfp h=>?_) λfp h=>?_
   .exact aT kL [.bool false]
   .refine aS (gI _ (inl (aA aj λ_ ju jm _=>?_)));obtain⟨a7,fG,h⟩:=ar h;refine dC (Vh I.hg R.hg _ fG) _ ?_;refine aO h (λgn h=>?_) λgn h=>?_
    .exact aT jm [.bool false]
    .refine aS (ju _ (inl (aA aj λ_ mh mJ _=>?_)));obtain⟨aP,jH,h⟩:=ar h;refine dC (Vh I.hh R.hh _ jH) _ ?_;refine aO h (λoo h=>?_) λoo h=>?_
     .exact aT mJ [.bool false]
     .exact aS (mh _ (inl (aT aj [.bool true])))
theorem vD (I r) (h:rO I=some r):ba ah 67 [.int .i64 I] (.str r) []:=by
 refine bF [] [.tmp 2] Tryz.func67 agF λbw aj bu=>an ?_;refine aA aj λ_ bD bb _=>an ?_;refine aO h (λbN h=>?_) λbN h=>?_
 .exact aT bb [.str ([109,48]:arE)]
 .refine aS (bD _ (inl (an ?_)));refine aA aj λ_ dR e6 _=>bh e6 λkb _ h2 cw _=>?_;have hV:∀n nb dA,xy n nb dA=some r->cL ah Uh kb (aq [(0,.int .i64 nb),(3,.str dA)]):=by
   refine cY λ_ hk nb dA h=>cV h2 λ_ cJ cd di=>aA cd λ_ b1 _ cE=>an ?_;refine aO h (λgp h=>?_) λgp h=>?_
   .refine aS (b1 _ (inl (bh cd λ_ gh _ _ _=>?_)));obtain⟨u16,eg,h⟩:=ar h;(try simp only[hj.down,Nat.zero_add,Nat.add_zero,reduceAdd]at eg);refine c5 (aa (@aaL .i64 10 (by decide)) (aa (@aaG ah 3 5 .u8 rfl rfl) (aa (show∀s,dz ah s 160 1 [(0,.int .u8 (u8.wrap (i64.wrap (48+(Int.tmod nb 10)))))]=some (.af 1 [.int .u8 (u8.wrap (i64.wrap (48+(Int.tmod nb 10))))],s)from λs=>by kernel_rfl) (aa ((@aaH ah 160 9 5 rfl rfl rfl).2.2) (aa @aaJ (aa @aaI (aa eg (aa @Sp @Sq)))))))) [(0,.int .i64 nb),(3,.str ([(th (i64.wrap (48+(Int.tmod nb 10))))]++dA))] ?_;refine qG (@aaK .i64 10 (by decide)) [(0,.int .i64 (i64.wrap (Int.tdiv nb 10))),(3,.str ([(th (i64.wrap (48+(Int.tmod nb 10))))]++dA))] ?_;exact gh _ (cJ _ (inr ⟨_,bx rfl,hk (i64.wrap (Int.tdiv nb 10)) ([(th (i64.wrap (48+(Int.tmod nb 10))))]++dA) h⟩))
   .refine cT (cE 0 _ (di 0 _ (cw _ (dR _ (inl ?_)))));obtain⟨z2,fy,h⟩:=ar h;(try simp only[hj.down,Nat.zero_add,Nat.add_zero,reduceAdd]at fy);refine c5 (aa fy (aa @Sp @Sq)) [(2,.str (([109]:arE)++dA))] ?_;exact dV aj [.str (([109]:arE)++dA)]
  exact dy h λn h=>hV n I ([]:arE) h
theorem Vi (I R r) (h:Da I R=some r):ba ah 69 [.af 2 (I.map bf),.int .i64 R] (.int .i64 r.1) [.af 2 (r.2.map bf),.hole]:=by
 refine bF [0] [.tmp 4] Tryz.func69 agG λbw aj bu=>an ?_;refine aA aj λ_ bD bb ai=>an ?_;refine bh bb λeC _ bX bN _=>?_;show a6 ah (.loop ?eA) _ _;have eT:∀n bQ a1 aL,zK n bQ a1 aL=some r->cL ah ?eA eC (aq [(0,.af 2 (bQ.map bf)),(1,.int .i64 a1),(5,.int .i64 aL)]):=by
  refine cY λ_ eH bQ a1 aL h=>cV bX λ_ dJ cm aP=>aA cm λ_ dp _ aV=>an ?_;refine aO h (λcw h=>?_) λcw h=>?_
  .refine aS (dp _ (inl (aA cm λ_ cJ cd _=>bh cd λ_ b1 _ _ _=>?_)));obtain⟨U,dL,h⟩:=ar h;refine du (b5 [(0,.af 2 ((List.set bQ (Int.toNat aL) (aF.mk a1 U.Value)).map bf)),(1,.int .i64 a1),(5,.int .i64 aL)] (λP aX=>?_) ?_)
   .simp only[aR.down,simprocAttr,dL,cu dL,ed,dN];exact bR (aa dL (aa (cu dL) @ed))
   refine ws [(0,.af 2 ((List.set bQ (Int.toNat aL) (aF.mk a1 U.Value)).map bf)),(1,.int .i64 (i64.wrap (a1+1))),(5,.int .i64 aL)] ?_;obtain⟨ai,eg,h⟩:=ar h;refine du (b5 [(0,.af 2 ((List.set (List.set bQ (Int.toNat aL) (aF.mk a1 U.Value)) (Int.toNat aL) (aF.mk ai.Kind (i64.wrap (a1+1)))).map bf)),(1,.int .i64 (i64.wrap (a1+1))),(5,.int .i64 aL)] (λP aX=>?_) ?_)
   .simp only[aR.down,simprocAttr,eg,cu eg,ed,dN];exact bR (aa eg (aa (cu eg) @ed))
   refine wr [(0,.af 2 ((List.set (List.set bQ (Int.toNat aL) (aF.mk a1 U.Value)) (Int.toNat aL) (aF.mk ai.Kind (i64.wrap (a1+1)))).map bf)),(1,.int .i64 (i64.wrap ((i64.wrap (a1+1))+1))),(5,.int .i64 aL)] ?_;refine b1 _ (cJ _ (inl (wr [(0,.af 2 ((List.set (List.set bQ (Int.toNat aL) (aF.mk a1 U.Value)) (Int.toNat aL) (aF.mk ai.Kind (i64.wrap (a1+1)))).map bf)),(1,.int .i64 (i64.wrap ((i64.wrap (a1+1))+1))),(5,.int .i64 (i64.wrap (aL+1)))] ?_)));exact dJ _ (inr ⟨_,bx rfl,eH (List.set (List.set bQ (Int.toNat aL) (aF.mk a1 U.Value)) (Int.toNat aL) (aF.mk ai.Kind (i64.wrap (a1+1)))) (i64.wrap ((i64.wrap (a1+1))+1)) (i64.wrap (aL+1)) h⟩)
  .refine cT (aV 0 _ (aP 0 _ (bN _ (bD _ (inl (an ?_))))));exact jr (aj _ (inl (lj [.int .i64 a1] rfl (by cases gU h;rfl) (by decide) (lJ (mb (by cases gU h;rfl) rfl rfl rfl (h1 (lK)))))))
 exact dy h λn h=>eT n I R 0 h
theorem ON (I R r) (h:zM I R=some r):ba ah 70 [.af 1 (I.map c4),.int .i64 R] (.int .i64 r.1) [.af 1 (r.2.map c4),.hole]:=by
 refine bF [0] [.tmp 4] Tryz.func70 agH λbw aj bu=>an ?_;refine aA aj λ_ bD bb ai=>an ?_;refine bh bb λeC _ bX bN _=>?_;show a6 ah (.loop ?eA) _ _;have eT:∀n bQ a1 aL,zL n bQ a1 aL=some r->cL ah ?eA eC (aq [(0,.af 1 (bQ.map c4)),(1,.int .i64 a1),(5,.int .i64 aL)]):=by
  refine cY λ_ eH bQ a1 aL h=>cV bX λ_ dJ cm aP=>aA cm λ_ dp _ aV=>an ?_;refine aO h (λcw h=>?_) λcw h=>?_
  .refine aS (dp _ (inl (aA cm λ_ cJ cd _=>bh cd λ_ b1 _ _ _=>?_)));obtain⟨U,dL,h⟩:=ar h;obtain⟨ai,dw,h⟩:=ar h;refine h5 (b5 [(0,.af 1 ((List.set bQ (Int.toNat aL) ai.2).map c4)),(1,.int .i64 ai.1),(5,.int .i64 aL)] (λP aX=>?_) ?_)
   ·(try simp only[aR.down,simprocAttr,dL,cu dL]);refine ma [⟨.h 0 [Int.toNat aL],true,_,_⟩,⟨.int .i64 a1,false,_,.hole⟩] (Vi U a1 _ dw) rfl rfl rfl (by simp only[aR.down,simprocAttr,dL,cu dL,Up.down]) rfl rfl (inl rfl) ?_;simp only[aR.down,simprocAttr,dL,cu dL,kp,(vb (cu dL)),vc];exact bR (aa dL (cu dL))
   refine b1 _ (cJ _ (inl (wr [(0,.af 1 ((List.set bQ (Int.toNat aL) ai.2).map c4)),(1,.int .i64 ai.1),(5,.int .i64 (i64.wrap (aL+1)))] ?_)));exact dJ _ (inr ⟨_,bx rfl,eH (List.set bQ (Int.toNat aL) ai.2) ai.1 (i64.wrap (aL+1)) h⟩)
  .refine cT (aV 0 _ (aP 0 _ (bN _ (bD _ (inl (an ?_))))));exact jr (aj _ (inl (lj [.int .i64 a1] rfl (by cases gU h;rfl) (by decide) (lJ (mb (by cases gU h;rfl) rfl rfl rfl (h1 (lK)))))))
 exact dy h λn h=>eT n I R 0 h
theorem aln (I R r) (h:G8 I R=some r):ba ah 68 [.af 4 (I.map iG),.int .i64 R] (.int .i64 r.1) [.af 4 (r.2.map iG),.hole]:=by
 refine bF [0] [.tmp 4] Tryz.func68 Nt λbw aj bu=>an ?_;refine aA aj λ_ bD bb ai=>an ?_;refine bh bb λeC _ bX bN a7=>?_;show a6 ah (.loop ?eA) _ _;have eT:∀n bQ a1 aL,zN n bQ a1 aL=some r->cL ah ?eA eC (aq [(0,.af 4 (bQ.map iG)),(1,.int .i64 a1),(5,.int .i64 aL)]):=by
  refine cY λ_ eH bQ a1 aL h=>cV bX λ_ dJ cm aP=>aA cm λ_ dp _ aV=>an ?_;refine aO h (λcw h=>?_) λcw h=>?_
  .refine aS (dp _ (inl (aA cm λ_ cJ cd _=>bh cd λ_ b1 _ _ _=>?_)));obtain⟨U,dL,h⟩:=ar h;refine du (b5 [(0,.af 4 ((List.set bQ (Int.toNat aL) (bk.mk a1 U.Number U.Name U.a9)).map iG)),(1,.int .i64 a1),(5,.int .i64 aL)] (λP aX=>?_) ?_)
   .simp only[aR.down,simprocAttr,dL,cu dL,ed,dN];exact bR (aa dL (aa (cu dL) @ed))
   refine ws [(0,.af 4 ((List.set bQ (Int.toNat aL) (bk.mk a1 U.Number U.Name U.a9)).map iG)),(1,.int .i64 (i64.wrap (a1+1))),(5,.int .i64 aL)] ?_;obtain⟨ai,eg,h⟩:=ar h;refine du (b5 [(0,.af 4 ((List.set (List.set bQ (Int.toNat aL) (bk.mk a1 U.Number U.Name U.a9)) (Int.toNat aL) (bk.mk ai.Kind (i64.wrap (a1+1)) ai.Name ai.a9)).map iG)),(1,.int .i64 (i64.wrap (a1+1))),(5,.int .i64 aL)] (λP aX=>?_) ?_)
   .simp only[aR.down,simprocAttr,eg,cu eg,ed,dN];exact bR (aa eg (aa (cu eg) @ed))
   refine ws [(0,.af 4 ((List.set (List.set bQ (Int.toNat aL) (bk.mk a1 U.Number U.Name U.a9)) (Int.toNat aL) (bk.mk ai.Kind (i64.wrap (a1+1)) ai.Name ai.a9)).map iG)),(1,.int .i64 (i64.wrap ((i64.wrap (a1+1))+1))),(5,.int .i64 aL)] ?_;obtain⟨aB,fy,h⟩:=ar h;obtain⟨a7,fG,h⟩:=ar h;refine du (b5 [(0,.af 4 ((List.set (List.set (List.set bQ (Int.toNat aL) (bk.mk a1 U.Number U.Name U.a9)) (Int.toNat aL) (bk.mk ai.Kind (i64.wrap (a1+1)) ai.Name ai.a9)) (Int.toNat aL) (bk.mk a7.Kind a7.Number aB a7.a9)).map iG)),(1,.int .i64 (i64.wrap ((i64.wrap (a1+1))+1))),(5,.int .i64 aL)] (λP aX=>?_) ?_)
   ·(try simp only[aR.down,simprocAttr,fG,cu fG,ed,dN]);refine d_ (vD (i64.wrap ((i64.wrap (a1+1))+1)) _ fy) (hK:= ?_);simp only[aR.down,simprocAttr,fG,cu fG,ed,dN];exact bR (aa fG (aa (cu fG) @ed))
   refine ws [(0,.af 4 ((List.set (List.set (List.set bQ (Int.toNat aL) (bk.mk a1 U.Number U.Name U.a9)) (Int.toNat aL) (bk.mk ai.Kind (i64.wrap (a1+1)) ai.Name ai.a9)) (Int.toNat aL) (bk.mk a7.Kind a7.Number aB a7.a9)).map iG)),(1,.int .i64 (i64.wrap ((i64.wrap ((i64.wrap (a1+1))+1))+1))),(5,.int .i64 aL)] ?_;obtain⟨aP,fq,h⟩:=ar h;obtain⟨aV,k1,h⟩:=ar h;refine h5 (b5 [(0,.af 4 ((List.set (List.set (List.set (List.set bQ (Int.toNat aL) (bk.mk a1 U.Number U.Name U.a9)) (Int.toNat aL) (bk.mk ai.Kind (i64.wrap (a1+1)) ai.Name ai.a9)) (Int.toNat aL) (bk.mk a7.Kind a7.Number aB a7.a9)) (Int.toNat aL) (bk.mk aP.Kind aP.Number aP.Name aV.2)).map iG)),(1,.int .i64 aV.1),(5,.int .i64 aL)] (λP aX=>?_) ?_)
   ·(try simp only[aR.down,simprocAttr,fq,cu fq]);refine ma [⟨.h 0 [Int.toNat aL,3],true,_,_⟩,⟨.int .i64 (i64.wrap ((i64.wrap ((i64.wrap (a1+1))+1))+1)),false,_,.hole⟩] (ON aP.a9 (i64.wrap ((i64.wrap ((i64.wrap (a1+1))+1))+1)) _ k1) rfl rfl rfl (by simp only[aR.down,simprocAttr,fq,cu fq,NG.down]) rfl rfl (inl rfl) ?_;simp only[aR.down,simprocAttr,fq,cu fq,kp,(vb (cu fq)),vc];exact bR (aa fq (cu fq))
   refine b1 _ (cJ _ (inl (wr [(0,.af 4 ((List.set (List.set (List.set (List.set bQ (Int.toNat aL) (bk.mk a1 U.Number U.Name U.a9)) (Int.toNat aL) (bk.mk ai.Kind (i64.wrap (a1+1)) ai.Name ai.a9)) (Int.toNat aL) (bk.mk a7.Kind a7.Number aB a7.a9)) (Int.toNat aL) (bk.mk aP.Kind aP.Number aP.Name aV.2)).map iG)),(1,.int .i64 aV.1),(5,.int .i64 (i64.wrap (aL+1)))] ?_)));exact dJ _ (inr ⟨_,bx rfl,eH (List.set (List.set (List.set (List.set bQ (Int.toNat aL) (bk.mk a1 U.Number U.Name U.a9)) (Int.toNat aL) (bk.mk ai.Kind (i64.wrap (a1+1)) ai.Name ai.a9)) (Int.toNat aL) (bk.mk a7.Kind a7.Number aB a7.a9)) (Int.toNat aL) (bk.mk aP.Kind aP.Number aP.Name aV.2)) aV.1 (i64.wrap (aL+1)) h⟩)
  .refine cT (aV 0 _ (aP 0 _ (bN _ (bD _ (inl (an ?_))))));exact jr (aj _ (inl (lj [.int .i64 a1] rfl (by cases gU h;rfl) (by decide) (lJ (mb (by cases gU h;rfl) rfl rfl rfl (h1 (lK)))))))
 exact dy h λn h=>eT n I R 0 h
theorem alo (I R r) (h:G9 I R=some r):ba ah 33 [.af 3 (I.map g4),.int .i64 R] (.int .i64 r.1) [.af 3 (r.2.map g4),.hole]:=by
 refine bF [0] [.tmp 4] Tryz.func33 tY λbw aj bu=>an ?_;refine aA aj λ_ bD bb ai=>an ?_;refine bh bb λeC _ bX bN a7=>?_;show a6 ah (.loop ?eA) _ _;have eT:∀n bQ a1 aL,zO n bQ a1 aL=some r->cL ah ?eA eC (aq [(0,.af 3 (bQ.map g4)),(1,.int .i64 a1),(5,.int .i64 aL)]):=by
  refine cY λ_ eH bQ a1 aL h=>cV bX λ_ dJ cm aP=>aA cm λ_ dp _ aV=>an ?_;refine aO h (λcw h=>?_) λcw h=>?_
  .refine aS (dp _ (inl (aA cm λ_ cJ cd _=>bh cd λ_ b1 _ _ _=>?_)));obtain⟨U,dL,h⟩:=ar h;obtain⟨ai,dw,h⟩:=ar h;refine du (b5 [(0,.af 3 ((List.set bQ (Int.toNat aL) (bg.mk U ai.bW ai.Body)).map g4)),(1,.int .i64 a1),(5,.int .i64 aL)] (λP aX=>?_) ?_)
   ·(try simp only[aR.down,simprocAttr,dw,cu dw,ed,dN]);refine d_ (vD a1 _ dL) (hK:= ?_);simp only[aR.down,simprocAttr,dw,cu dw,ed,dN];exact bR (aa dw (aa (cu dw) @ed))
   refine ws [(0,.af 3 ((List.set bQ (Int.toNat aL) (bg.mk U ai.bW ai.Body)).map g4)),(1,.int .i64 (i64.wrap (a1+1))),(5,.int .i64 aL)] ?_;obtain⟨aB,cN,h⟩:=ar h;refine du (b5 [(0,.af 3 ((List.set (List.set bQ (Int.toNat aL) (bg.mk U ai.bW ai.Body)) (Int.toNat aL) (bg.mk aB.Name (i64.wrap (a1+1)) aB.Body)).map g4)),(1,.int .i64 (i64.wrap (a1+1))),(5,.int .i64 aL)] (λP aX=>?_) ?_)
   .simp only[aR.down,simprocAttr,cN,cu cN,ed,dN];exact bR (aa cN (aa (cu cN) @ed))
   refine ws [(0,.af 3 ((List.set (List.set bQ (Int.toNat aL) (bg.mk U ai.bW ai.Body)) (Int.toNat aL) (bg.mk aB.Name (i64.wrap (a1+1)) aB.Body)).map g4)),(1,.int .i64 (i64.wrap ((i64.wrap (a1+1))+1))),(5,.int .i64 aL)] ?_;obtain⟨a7,fG,h⟩:=ar h;obtain⟨aP,hn,h⟩:=ar h;refine h5 (b5 [(0,.af 3 ((List.set (List.set (List.set bQ (Int.toNat aL) (bg.mk U ai.bW ai.Body)) (Int.toNat aL) (bg.mk aB.Name (i64.wrap (a1+1)) aB.Body)) (Int.toNat aL) (bg.mk a7.Name a7.bW aP.2)).map g4)),(1,.int .i64 aP.1),(5,.int .i64 aL)] (λP aX=>?_) ?_)
   ·(try simp only[aR.down,simprocAttr,fG,cu fG]);refine ma [⟨.h 0 [Int.toNat aL,2],true,_,_⟩,⟨.int .i64 (i64.wrap ((i64.wrap (a1+1))+1)),false,_,.hole⟩] (aln a7.Body (i64.wrap ((i64.wrap (a1+1))+1)) _ hn) rfl rfl rfl (by simp only[aR.down,simprocAttr,fG,cu fG,mA,lI,g9,g_,ha,dm,or_true,true_or, @bn _ iG c2 (λ_=>M6 _)]) rfl rfl (inl rfl) ?_;simp only[aR.down,simprocAttr,fG,cu fG,kp,(vb (cu fG)),vc];exact bR (aa fG (cu fG))
   refine b1 _ (cJ _ (inl (wr [(0,.af 3 ((List.set (List.set (List.set bQ (Int.toNat aL) (bg.mk U ai.bW ai.Body)) (Int.toNat aL) (bg.mk aB.Name (i64.wrap (a1+1)) aB.Body)) (Int.toNat aL) (bg.mk a7.Name a7.bW aP.2)).map g4)),(1,.int .i64 aP.1),(5,.int .i64 (i64.wrap (aL+1)))] ?_)));exact dJ _ (inr ⟨_,bx rfl,eH (List.set (List.set (List.set bQ (Int.toNat aL) (bg.mk U ai.bW ai.Body)) (Int.toNat aL) (bg.mk aB.Name (i64.wrap (a1+1)) aB.Body)) (Int.toNat aL) (bg.mk a7.Name a7.bW aP.2)) aP.1 (i64.wrap (aL+1)) h⟩)
  .refine cT (aV 0 _ (aP 0 _ (bN _ (bD _ (inl (an ?_))))));exact jr (aj _ (inl (lj [.int .i64 a1] rfl (by cases gU h;rfl) (by decide) (lJ (mb (by cases gU h;rfl) rfl rfl rfl (h1 (lK)))))))
 exact dy h λn h=>eT n I R 0 h
theorem OO (I R r) (h:zQ I R=some r):ba ah 37 [.af 1 (I.map bd),.int .i64 R] (.int .i64 r.1) [.af 1 (r.2.map bd),.hole]:=by
 refine bF [0] [.tmp 4] Tryz.func37 Nu λbw aj bu=>an ?_;refine aA aj λ_ bD bb _=>an ?_;refine bh bb λeC _ bX bN _=>?_;show a6 ah (.loop ?eA) _ _;have eT:∀n bQ a1 aL,zP n bQ a1 aL=some r->cL ah ?eA eC (aq [(0,.af 1 (bQ.map bd)),(1,.int .i64 a1),(5,.int .i64 aL)]):=by
  refine cY λ_ eH bQ a1 aL h=>cV bX λ_ dJ cm aP=>aA cm λ_ dp _ aV=>an ?_;refine aO h (λcw h=>?_) λcw h=>?_
  .refine aS (dp _ (inl (aA cm λ_ cJ cd _=>bh cd λ_ b1 _ _ _=>?_)));obtain⟨U,dL,h⟩:=ar h;refine du (b5 [(0,.af 1 ((List.set bQ (Int.toNat aL) a1).map bd)),(1,.int .i64 a1),(5,.int .i64 aL)] (λP aX=>?_) ?_)
   .simp only[aR.down,simprocAttr,dL,cu dL,ed,dN];exact bR (aa dL (aa (cu dL) @ed))
   refine wr [(0,.af 1 ((List.set bQ (Int.toNat aL) a1).map bd)),(1,.int .i64 (i64.wrap (a1+1))),(5,.int .i64 aL)] ?_;refine b1 _ (cJ _ (inl (wr [(0,.af 1 ((List.set bQ (Int.toNat aL) a1).map bd)),(1,.int .i64 (i64.wrap (a1+1))),(5,.int .i64 (i64.wrap (aL+1)))] ?_)));exact dJ _ (inr ⟨_,bx rfl,eH (List.set bQ (Int.toNat aL) a1) (i64.wrap (a1+1)) (i64.wrap (aL+1)) h⟩)
  .refine cT (aV 0 _ (aP 0 _ (bN _ (bD _ (inl (an ?_))))));exact jr (aj _ (inl (lj [.int .i64 a1] rfl (by cases gU h;rfl) (by decide) (lJ (mb (by cases gU h;rfl) rfl rfl rfl (h1 (lK)))))))
 exact dy h λn h=>eT n I R 0 h
theorem alp (I R r) (h:G_ I R=some r):ba ah 34 [.af 2 (I.map hi),.int .i64 R] (.int .i64 r.1) [.af 2 (r.2.map hi),.hole]:=by
 refine bF [0] [.tmp 4] Tryz.func34 Nv λbw aj bu=>an ?_;refine aA aj λ_ bD bb ai=>an ?_;refine bh bb λeC _ bX bN _=>?_;show a6 ah (.loop ?eA) _ _;have eT:∀n bQ a1 aL,zR n bQ a1 aL=some r->cL ah ?eA eC (aq [(0,.af 2 (bQ.map hi)),(1,.int .i64 a1),(5,.int .i64 aL)]):=by
  refine cY λ_ eH bQ a1 aL h=>cV bX λ_ dJ cm aP=>aA cm λ_ dp _ aV=>an ?_;refine aO h (λcw h=>?_) λcw h=>?_
  .refine aS (dp _ (inl (aA cm λ_ cJ cd _=>bh cd λ_ b1 _ _ _=>?_)));obtain⟨U,dL,h⟩:=ar h;refine du (b5 [(0,.af 2 ((List.set bQ (Int.toNat aL) (dn.mk a1 U.e7)).map hi)),(1,.int .i64 a1),(5,.int .i64 aL)] (λP aX=>?_) ?_)
   .simp only[aR.down,simprocAttr,dL,cu dL,ed,dN];exact bR (aa dL (aa (cu dL) @ed))
   refine ws [(0,.af 2 ((List.set bQ (Int.toNat aL) (dn.mk a1 U.e7)).map hi)),(1,.int .i64 (i64.wrap (a1+1))),(5,.int .i64 aL)] ?_;obtain⟨ai,eg,h⟩:=ar h;obtain⟨aB,cN,h⟩:=ar h;refine h5 (b5 [(0,.af 2 ((List.set (List.set bQ (Int.toNat aL) (dn.mk a1 U.e7)) (Int.toNat aL) (dn.mk ai.gl aB.2)).map hi)),(1,.int .i64 aB.1),(5,.int .i64 aL)] (λP aX=>?_) ?_)
   ·(try simp only[aR.down,simprocAttr,eg,cu eg]);refine ma [⟨.h 0 [Int.toNat aL,1],true,_,_⟩,⟨.int .i64 (i64.wrap (a1+1)),false,_,.hole⟩] (OO ai.e7 (i64.wrap (a1+1)) _ cN) rfl rfl rfl (by simp only[aR.down,simprocAttr,eg,cu eg,Uq.down]) rfl rfl (inl rfl) ?_;simp only[aR.down,simprocAttr,eg,cu eg,kp,(vb (cu eg)),vc];exact bR (aa eg (cu eg))
   refine b1 _ (cJ _ (inl (wr [(0,.af 2 ((List.set (List.set bQ (Int.toNat aL) (dn.mk a1 U.e7)) (Int.toNat aL) (dn.mk ai.gl aB.2)).map hi)),(1,.int .i64 aB.1),(5,.int .i64 (i64.wrap (aL+1)))] ?_)));exact dJ _ (inr ⟨_,bx rfl,eH (List.set (List.set bQ (Int.toNat aL) (dn.mk a1 U.e7)) (Int.toNat aL) (dn.mk ai.gl aB.2)) aB.1 (i64.wrap (aL+1)) h⟩)
  .refine cT (aV 0 _ (aP 0 _ (bN _ (bD _ (inl (an ?_))))));exact jr (aj _ (inl (lj [.int .i64 a1] rfl (by cases gU h;rfl) (by decide) (lJ (mb (by cases gU h;rfl) rfl rfl rfl (h1 (lK)))))))
 exact dy h λn h=>eT n I R 0 h
theorem alq (I R r) (h:Ha I R=some r):ba ah 35 [.af 3 (I.map bL),.int .i64 R] (.int .i64 r.1) [.af 3 (r.2.map bL),.hole]:=by
 refine bF [0] [.tmp 4] Tryz.func35 agI λbw aj bu=>an ?_;refine aA aj λ_ bD bb ai=>an ?_;refine bh bb λeC _ bX bN a7=>?_;show a6 ah (.loop ?eA) _ _;have eT:∀n bQ a1 aL,zS n bQ a1 aL=some r->cL ah ?eA eC (aq [(0,.af 3 (bQ.map bL)),(1,.int .i64 a1),(5,.int .i64 aL)]):=by
  refine cY λ_ eH bQ a1 aL h=>cV bX λ_ dJ cm aP=>aA cm λ_ dp _ aV=>an ?_;refine aO h (λcw h=>?_) λcw h=>?_
  .refine aS (dp _ (inl (aA cm λ_ cJ cd _=>bh cd λ_ b1 _ _ _=>?_)));obtain⟨U,dL,h⟩:=ar h;obtain⟨ai,dw,h⟩:=ar h;refine du (b5 [(0,.af 3 ((List.set bQ (Int.toNat aL) (cq.mk U ai.ct ai.Result)).map bL)),(1,.int .i64 a1),(5,.int .i64 aL)] (λP aX=>?_) ?_)
   ·(try simp only[aR.down,simprocAttr,dw,cu dw,ed,dN]);refine d_ (vD a1 _ dL) (hK:= ?_);simp only[aR.down,simprocAttr,dw,cu dw,ed,dN];exact bR (aa dw (aa (cu dw) @ed))
   refine ws [(0,.af 3 ((List.set bQ (Int.toNat aL) (cq.mk U ai.ct ai.Result)).map bL)),(1,.int .i64 (i64.wrap (a1+1))),(5,.int .i64 aL)] ?_;obtain⟨aB,cN,h⟩:=ar h;obtain⟨a7,fb,h⟩:=ar h;refine du (b5 [(0,.af 3 ((List.set (List.set bQ (Int.toNat aL) (cq.mk U ai.ct ai.Result)) (Int.toNat aL) (cq.mk a7.Left aB a7.Result)).map bL)),(1,.int .i64 (i64.wrap (a1+1))),(5,.int .i64 aL)] (λP aX=>?_) ?_)
   ·(try simp only[aR.down,simprocAttr,fb,cu fb,ed,dN]);refine d_ (vD (i64.wrap (a1+1)) _ cN) (hK:= ?_);simp only[aR.down,simprocAttr,fb,cu fb,ed,dN];exact bR (aa fb (aa (cu fb) @ed))
   refine ws [(0,.af 3 ((List.set (List.set bQ (Int.toNat aL) (cq.mk U ai.ct ai.Result)) (Int.toNat aL) (cq.mk a7.Left aB a7.Result)).map bL)),(1,.int .i64 (i64.wrap ((i64.wrap (a1+1))+1))),(5,.int .i64 aL)] ?_;obtain⟨aP,hn,h⟩:=ar h;obtain⟨aV,iR,h⟩:=ar h;refine du (b5 [(0,.af 3 ((List.set (List.set (List.set bQ (Int.toNat aL) (cq.mk U ai.ct ai.Result)) (Int.toNat aL) (cq.mk a7.Left aB a7.Result)) (Int.toNat aL) (cq.mk aV.Left aV.ct aP)).map bL)),(1,.int .i64 (i64.wrap ((i64.wrap (a1+1))+1))),(5,.int .i64 aL)] (λP aX=>?_) ?_)
   ·(try simp only[aR.down,simprocAttr,iR,cu iR,ed,dN]);refine d_ (vD (i64.wrap ((i64.wrap (a1+1))+1)) _ hn) (hK:= ?_);simp only[aR.down,simprocAttr,iR,cu iR,ed,dN];exact bR (aa iR (aa (cu iR) @ed))
   refine wr [(0,.af 3 ((List.set (List.set (List.set bQ (Int.toNat aL) (cq.mk U ai.ct ai.Result)) (Int.toNat aL) (cq.mk a7.Left aB a7.Result)) (Int.toNat aL) (cq.mk aV.Left aV.ct aP)).map bL)),(1,.int .i64 (i64.wrap ((i64.wrap ((i64.wrap (a1+1))+1))+1))),(5,.int .i64 aL)] ?_;refine b1 _ (cJ _ (inl (wr [(0,.af 3 ((List.set (List.set (List.set bQ (Int.toNat aL) (cq.mk U ai.ct ai.Result)) (Int.toNat aL) (cq.mk a7.Left aB a7.Result)) (Int.toNat aL) (cq.mk aV.Left aV.ct aP)).map bL)),(1,.int .i64 (i64.wrap ((i64.wrap ((i64.wrap (a1+1))+1))+1))),(5,.int .i64 (i64.wrap (aL+1)))] ?_)));exact dJ _ (inr ⟨_,bx rfl,eH (List.set (List.set (List.set bQ (Int.toNat aL) (cq.mk U ai.ct ai.Result)) (Int.toNat aL) (cq.mk a7.Left aB a7.Result)) (Int.toNat aL) (cq.mk aV.Left aV.ct aP)) (i64.wrap ((i64.wrap ((i64.wrap (a1+1))+1))+1)) (i64.wrap (aL+1)) h⟩)
  .refine cT (aV 0 _ (aP 0 _ (bN _ (bD _ (inl (an ?_))))));exact jr (aj _ (inl (lj [.int .i64 a1] rfl (by cases gU h;rfl) (by decide) (lJ (mb (by cases gU h;rfl) rfl rfl rfl (h1 (lK)))))))
 exact dy h λn h=>eT n I R 0 h
theorem Vj (I R r) (h:Db I R=some r):ba ah 36 [.af 1 (I.map bj),.int .i64 R] (.int .i64 r.1) [.af 1 (r.2.map bj),.hole]:=by
 refine bF [0] [.tmp 4] Tryz.func36 agJ λbw aj bu=>an ?_;refine aA aj λ_ bD bb ai=>an ?_;refine bh bb λeC _ bX bN _=>?_;show a6 ah (.loop ?eA) _ _;have eT:∀n bQ a1 aL,zT n bQ a1 aL=some r->cL ah ?eA eC (aq [(0,.af 1 (bQ.map bj)),(1,.int .i64 a1),(5,.int .i64 aL)]):=by
  refine cY λ_ eH bQ a1 aL h=>cV bX λ_ dJ cm aP=>aA cm λ_ dp _ aV=>an ?_;refine aO h (λcw h=>?_) λcw h=>?_
  .refine aS (dp _ (inl (aA cm λ_ cJ cd _=>bh cd λ_ b1 _ _ _=>?_)));obtain⟨U,dL,h⟩:=ar h;obtain⟨ai,dw,h⟩:=ar h;refine du (b5 [(0,.af 1 ((List.set bQ (Int.toNat aL) U).map bj)),(1,.int .i64 a1),(5,.int .i64 aL)] (λP aX=>?_) ?_)
   ·(try simp only[aR.down,simprocAttr,dw,cu dw,ed,dN]);refine d_ (vD a1 _ dL) (hK:= ?_);simp only[aR.down,simprocAttr,dw,cu dw,ed,dN];exact bR (aa dw (aa (cu dw) @ed))
   refine wr [(0,.af 1 ((List.set bQ (Int.toNat aL) U).map bj)),(1,.int .i64 (i64.wrap (a1+1))),(5,.int .i64 aL)] ?_;refine b1 _ (cJ _ (inl (wr [(0,.af 1 ((List.set bQ (Int.toNat aL) U).map bj)),(1,.int .i64 (i64.wrap (a1+1))),(5,.int .i64 (i64.wrap (aL+1)))] ?_)));exact dJ _ (inr ⟨_,bx rfl,eH (List.set bQ (Int.toNat aL) U) (i64.wrap (a1+1)) (i64.wrap (aL+1)) h⟩)
  .refine cT (aV 0 _ (aP 0 _ (bN _ (bD _ (inl (an ?_))))));exact jr (aj _ (inl (lj [.int .i64 a1] rfl (by cases gU h;rfl) (by decide) (lJ (mb (by cases gU h;rfl) rfl rfl rfl (h1 (lK)))))))
 exact dy h λn h=>eT n I R 0 h
theorem alr (cW c1 cX db c9 R r) (h:Hb cW c1 cX db c9 R=some r):ba ah 10 [.agg [.af 3 (cW.map g4),.af 2 (c1.map hi),.af 3 (cX.map bL),.af 1 (db.map bj),.af 1 (c9.map bj)],.int .i64 R] (.int .i64 r.1) [.agg [.af 3 (r.2.1.map g4),.af 2 (r.2.2.1.map hi),.af 3 (r.2.2.2.1.map bL),.af 1 (r.2.2.2.2.1.map bj),.af 1 (r.2.2.2.2.2.map bj)],.hole]:=by
 refine bF [0] [.tmp 4] Tryz.func10 agL λbw aj bu=>du (b5 [(0,.agg [.af 3 (cW.map g4),.af 2 (c1.map hi),.af 3 (cX.map bL),.af 1 (db.map bj),.af 1 (c9.map bj)]),(1,.int .i64 R),(2,.ab 0 0)] (λP aX=>?_) ?_)
 .simp only[aR.down,simprocAttr,mI.down,J.eu];exact bR mI.down
 obtain⟨U,aY,h⟩:=ar h;refine du (b5 [(0,.agg [.af 3 (U.2.map g4),.af 2 (c1.map hi),.af 3 (cX.map bL),.af 1 (db.map bj),.af 1 (c9.map bj)]),(1,.int .i64 U.1),(2,.ab 0 0)] (λP aX=>?_) ?_)
 ·(try simp only[aR.down,simprocAttr,mI.down,J.eu]);refine BI [⟨.h 0 [0],true,_,_⟩,⟨.int .i64 R,false,_,.hole⟩] (alo cW R _ aY) rfl rfl rfl (by simp only[aR.down,simprocAttr,rz,rB,J.eu,rA,n8,mA,lI,g9,g_,ha,dm,or_true,true_or, @bn _ g4 br (λ_=>xB _)]) rfl rfl (inl rfl) (by simp only[aR.down,simprocAttr,Du.down,J.eu,Bool.and_self,Bool.not_false,Bool.and_true]) ?_;simp only[aR.down,simprocAttr,Dv.down,J.eu,eq_self,Bool.and_self];exact bR mI.down
 obtain⟨ai,cF,h⟩:=ar h;refine du (b5 [(0,.agg [.af 3 (U.2.map g4),.af 2 (ai.2.map hi),.af 3 (cX.map bL),.af 1 (db.map bj),.af 1 (c9.map bj)]),(1,.int .i64 ai.1),(2,.ab 0 0)] (λP aX=>?_) ?_)
 ·(try simp only[aR.down,simprocAttr,mI.down,J.eu]);refine BI [⟨.h 0 [1],true,_,_⟩,⟨.int .i64 U.1,false,_,.hole⟩] (alp c1 U.1 _ cF) rfl rfl rfl (by simp only[aR.down,simprocAttr,rz,rB,J.eu,rA,n8,mA,lI,g9,g_,ha,dm,or_true,true_or, @bn _ hi dF (λ_=>xC _)]) rfl rfl (inl rfl) (by simp only[aR.down,simprocAttr,Du.down,J.eu,Bool.and_self,Bool.not_false,Bool.and_true]) ?_;simp only[aR.down,simprocAttr,Dv.down,J.eu,eq_self,Bool.and_self];exact bR mI.down
 obtain⟨aB,b0,h⟩:=ar h;refine du (b5 [(0,.agg [.af 3 (U.2.map g4),.af 2 (ai.2.map hi),.af 3 (aB.2.map bL),.af 1 (db.map bj),.af 1 (c9.map bj)]),(1,.int .i64 aB.1),(2,.ab 0 0)] (λP aX=>?_) ?_)
 ·(try simp only[aR.down,simprocAttr,mI.down,J.eu]);refine BI [⟨.h 0 [2],true,_,_⟩,⟨.int .i64 ai.1,false,_,.hole⟩] (alq cX ai.1 _ b0) rfl rfl rfl (by simp only[aR.down,simprocAttr,rz,rB,J.eu,rA,n8,mA,lI,g9,g_,ha,dm,or_true,true_or, @bn _ bL bL (λ_=>lP _)]) rfl rfl (inl rfl) (by simp only[aR.down,simprocAttr,Du.down,J.eu,Bool.and_self,Bool.not_false,Bool.and_true]) ?_;simp only[aR.down,simprocAttr,Dv.down,J.eu,eq_self,Bool.and_self];exact bR mI.down
 obtain⟨a7,ie,h⟩:=ar h;refine du (b5 [(0,.agg [.af 3 (U.2.map g4),.af 2 (ai.2.map hi),.af 3 (aB.2.map bL),.af 1 (a7.2.map bj),.af 1 (c9.map bj)]),(1,.int .i64 a7.1),(2,.ab 0 0)] (λP aX=>?_) ?_)
 ·(try simp only[aR.down,simprocAttr,mI.down,J.eu]);refine BI [⟨.h 0 [3],true,_,_⟩,⟨.int .i64 aB.1,false,_,.hole⟩] (Vj db aB.1 _ ie) rfl rfl rfl (by simp only[aR.down,simprocAttr,Ur.down,J.eu]) rfl rfl (inl rfl) (by simp only[aR.down,simprocAttr,Du.down,J.eu,Bool.and_self,Bool.not_false,Bool.and_true]) ?_;simp only[aR.down,simprocAttr,Dv.down,J.eu,eq_self,Bool.and_self];exact bR mI.down
 obtain⟨aP,mX,h⟩:=ar h;refine du (b5 [(0,.agg [.af 3 (U.2.map g4),.af 2 (ai.2.map hi),.af 3 (aB.2.map bL),.af 1 (a7.2.map bj),.af 1 (aP.2.map bj)]),(1,.int .i64 aP.1)] (λP aX=>?_) ?_)
 ·(try simp only[aR.down,simprocAttr,mI.down,J.eu]);refine ma [⟨.h 0 [4],true,_,_⟩,⟨.int .i64 a7.1,false,_,.hole⟩] (Vj c9 a7.1 _ mX) rfl rfl rfl (by simp only[aR.down,simprocAttr,Ur.down,J.eu]) rfl rfl (inl rfl) ?_;simp only[aR.down,simprocAttr,rz,rB,J.eu,rA,kp];exact bR mI.down
 refine an ?_;exact jr (aj _ (inl (lj [.int .i64 aP.1] rfl (by cases gU h;rfl) (by decide) (lJ (mb (by cases gU h;rfl) rfl rfl rfl (h1 (lK)))))))
theorem als (I R r) (h:Hc I R=some r):ba ah 38 [.af 5 (I.map dO),.int .i64 R] (.int .i64 r.1) [.af 5 (r.2.map dO),.hole]:=by
 refine bF [0] [.tmp 4] Tryz.func38 Dq λbw aj bu=>an ?_;refine aA aj λ_ bD bb ai=>an ?_;refine bh bb λeC _ bX bN a7=>?_;show a6 ah (.loop ?eA) _ _;have eT:∀n bQ a1 aL,zU n bQ a1 aL=some r->cL ah ?eA eC (aq [(0,.af 5 (bQ.map dO)),(1,.int .i64 a1),(5,.int .i64 aL)]):=by
  refine cY λ_ eH bQ a1 aL h=>cV bX λ_ dJ cm aP=>aA cm λ_ dp _ aV=>an ?_;refine aO h (λcw h=>?_) λcw h=>?_
  .refine aS (dp _ (inl (aA cm λ_ cJ cd di=>bh cd λ_ b1 _ _ cE=>?_)));obtain⟨U,dL,h⟩:=ar h;obtain⟨ai,dw,h⟩:=ar h;refine du (b5 [(0,.af 5 ((List.set bQ (Int.toNat aL) (bH.mk ai.2 U.Guard U.Name U.a9 U.Next)).map dO)),(1,.int .i64 ai.1),(5,.int .i64 aL)] (λP aX=>?_) ?_)
   ·(try simp only[aR.down,simprocAttr,dL,cu dL]);refine ma [⟨.h 0 [Int.toNat aL,0],true,_,_⟩,⟨.int .i64 a1,false,_,.hole⟩] (OO U.cx a1 _ dw) rfl rfl rfl (by simp only[aR.down,simprocAttr,dL,cu dL,Uq.down]) rfl rfl (inl rfl) ?_;simp only[aR.down,simprocAttr,dL,cu dL,kp,(vb (cu dL)),vc];exact bR (aa dL (cu dL))
   obtain⟨aB,eg,h⟩:=ar h;obtain⟨a7,cN,h⟩:=ar h;refine du (b5 [(0,.af 5 ((List.set (List.set bQ (Int.toNat aL) (bH.mk ai.2 U.Guard U.Name U.a9 U.Next)) (Int.toNat aL) (bH.mk aB.cx a7.2 aB.Name aB.a9 aB.Next)).map dO)),(1,.int .i64 a7.1),(5,.int .i64 aL)] (λP aX=>?_) ?_)
   ·(try simp only[aR.down,simprocAttr,eg,cu eg]);refine ma [⟨.h 0 [Int.toNat aL,1],true,_,_⟩,⟨.int .i64 ai.1,false,_,.hole⟩] (Vi aB.Guard ai.1 _ cN) rfl rfl rfl (by simp only[aR.down,simprocAttr,eg,cu eg,Up.down]) rfl rfl (inl rfl) ?_;simp only[aR.down,simprocAttr,eg,cu eg,kp,(vb (cu eg)),vc];exact bR (aa eg (cu eg))
   obtain⟨aP,fy,h⟩:=ar h;obtain⟨aV,fG,h⟩:=ar h;refine du (b5 [(0,.af 5 ((List.set (List.set (List.set bQ (Int.toNat aL) (bH.mk ai.2 U.Guard U.Name U.a9 U.Next)) (Int.toNat aL) (bH.mk aB.cx a7.2 aB.Name aB.a9 aB.Next)) (Int.toNat aL) (bH.mk aV.cx aV.Guard aP aV.a9 aV.Next)).map dO)),(1,.int .i64 a7.1),(5,.int .i64 aL)] (λP aX=>?_) ?_)
   ·(try simp only[aR.down,simprocAttr,fG,cu fG,ed,dN]);refine d_ (vD a7.1 _ fy) (hK:= ?_);simp only[aR.down,simprocAttr,fG,cu fG,ed,dN];exact bR (aa fG (aa (cu fG) @ed))
   refine ws [(0,.af 5 ((List.set (List.set (List.set bQ (Int.toNat aL) (bH.mk ai.2 U.Guard U.Name U.a9 U.Next)) (Int.toNat aL) (bH.mk aB.cx a7.2 aB.Name aB.a9 aB.Next)) (Int.toNat aL) (bH.mk aV.cx aV.Guard aP aV.a9 aV.Next)).map dO)),(1,.int .i64 (i64.wrap (a7.1+1))),(5,.int .i64 aL)] ?_;obtain⟨bp,fq,h⟩:=ar h;obtain⟨cp,k1,h⟩:=ar h;refine du (b5 [(0,.af 5 ((List.set (List.set (List.set (List.set bQ (Int.toNat aL) (bH.mk ai.2 U.Guard U.Name U.a9 U.Next)) (Int.toNat aL) (bH.mk aB.cx a7.2 aB.Name aB.a9 aB.Next)) (Int.toNat aL) (bH.mk aV.cx aV.Guard aP aV.a9 aV.Next)) (Int.toNat aL) (bH.mk bp.cx bp.Guard bp.Name cp.2 bp.Next)).map dO)),(1,.int .i64 cp.1),(5,.int .i64 aL)] (λP aX=>?_) ?_)
   ·(try simp only[aR.down,simprocAttr,fq,cu fq]);refine ma [⟨.h 0 [Int.toNat aL,3],true,_,_⟩,⟨.int .i64 (i64.wrap (a7.1+1)),false,_,.hole⟩] (ON bp.a9 (i64.wrap (a7.1+1)) _ k1) rfl rfl rfl (by simp only[aR.down,simprocAttr,fq,cu fq,NG.down]) rfl rfl (inl rfl) ?_;simp only[aR.down,simprocAttr,fq,cu fq,kp,(vb (cu fq)),vc];exact bR (aa fq (cu fq))
   obtain⟨di,hJ,h⟩:=ar h;obtain⟨cE,lS,h⟩:=ar h;refine h5 (b5 [(0,.af 5 ((List.set (List.set (List.set (List.set (List.set bQ (Int.toNat aL) (bH.mk ai.2 U.Guard U.Name U.a9 U.Next)) (Int.toNat aL) (bH.mk aB.cx a7.2 aB.Name aB.a9 aB.Next)) (Int.toNat aL) (bH.mk aV.cx aV.Guard aP aV.a9 aV.Next)) (Int.toNat aL) (bH.mk bp.cx bp.Guard bp.Name cp.2 bp.Next)) (Int.toNat aL) (bH.mk di.cx di.Guard di.Name di.a9 cE.2)).map dO)),(1,.int .i64 cE.1),(5,.int .i64 aL)] (λP aX=>?_) ?_)
   ·(try simp only[aR.down,simprocAttr,hJ,cu hJ]);refine ma [⟨.h 0 [Int.toNat aL,4],true,_,_⟩,⟨.int .i64 cp.1,false,_,.hole⟩] (ON di.Next cp.1 _ lS) rfl rfl rfl (by simp only[aR.down,simprocAttr,hJ,cu hJ,NG.down]) rfl rfl (inl rfl) ?_;simp only[aR.down,simprocAttr,hJ,cu hJ,kp,(vb (cu hJ)),vc];exact bR (aa hJ (cu hJ))
   refine b1 _ (cJ _ (inl (wr [(0,.af 5 ((List.set (List.set (List.set (List.set (List.set bQ (Int.toNat aL) (bH.mk ai.2 U.Guard U.Name U.a9 U.Next)) (Int.toNat aL) (bH.mk aB.cx a7.2 aB.Name aB.a9 aB.Next)) (Int.toNat aL) (bH.mk aV.cx aV.Guard aP aV.a9 aV.Next)) (Int.toNat aL) (bH.mk bp.cx bp.Guard bp.Name cp.2 bp.Next)) (Int.toNat aL) (bH.mk di.cx di.Guard di.Name di.a9 cE.2)).map dO)),(1,.int .i64 cE.1),(5,.int .i64 (i64.wrap (aL+1)))] ?_)));exact dJ _ (inr ⟨_,bx rfl,eH (List.set (List.set (List.set (List.set (List.set bQ (Int.toNat aL) (bH.mk ai.2 U.Guard U.Name U.a9 U.Next)) (Int.toNat aL) (bH.mk aB.cx a7.2 aB.Name aB.a9 aB.Next)) (Int.toNat aL) (bH.mk aV.cx aV.Guard aP aV.a9 aV.Next)) (Int.toNat aL) (bH.mk bp.cx bp.Guard bp.Name cp.2 bp.Next)) (Int.toNat aL) (bH.mk di.cx di.Guard di.Name di.a9 cE.2)) cE.1 (i64.wrap (aL+1)) h⟩)
  .refine cT (aV 0 _ (aP 0 _ (bN _ (bD _ (inl (an ?_))))));exact jr (aj _ (inl (lj [.int .i64 a1] rfl (by cases gU h;rfl) (by decide) (lJ (mb (by cases gU h;rfl) rfl rfl rfl (h1 (lK)))))))
 exact dy h λn h=>eT n I R 0 h
theorem alu (cW c1 cX R r) (h:Hd cW c1 cX R=some r):ba ah 11 [.agg [.int .i64 cW,.af 1 (c1.map bd),.af 5 (cX.map dO)],.int .i64 R] (.int .i64 r.1) [.agg [.int .i64 r.2.1,.af 1 (r.2.2.1.map bd),.af 5 (r.2.2.2.map dO)],.hole]:=by
 refine bF [0] [.tmp 4] Tryz.func11 agM λbw aj bu=>du (b5 [(0,.agg [.int .i64 cW,.af 1 (c1.map bd),.af 5 (cX.map dO)]),(1,.int .i64 R),(2,.ab 0 0)] (λP aX=>?_) ?_)
 .simp only[aR.down,simprocAttr,mI.down,J.eu];exact bR mI.down
 obtain⟨U,aY,h⟩:=ar h;refine du (b5 [(0,.agg [.int .i64 cW,.af 1 (U.2.map bd),.af 5 (cX.map dO)]),(1,.int .i64 U.1),(2,.ab 0 0)] (λP aX=>?_) ?_)
 ·(try simp only[aR.down,simprocAttr,mI.down,J.eu]);refine BI [⟨.h 0 [1],true,_,_⟩,⟨.int .i64 R,false,_,.hole⟩] (OO c1 R _ aY) rfl rfl rfl (by simp only[aR.down,simprocAttr,rz,rB,J.eu,rA,n8,mA,lI,g9,g_,ha,dm,or_true,true_or, @bn _ bd bd (λ_=>jF _)]) rfl rfl (inl rfl) (by simp only[aR.down,simprocAttr,Du.down,J.eu,Bool.and_self,Bool.not_false,Bool.and_true]) ?_;simp only[aR.down,simprocAttr,Dv.down,J.eu,eq_self,Bool.and_self];exact bR mI.down
 obtain⟨ai,cF,h⟩:=ar h;refine du (b5 [(0,.agg [.int .i64 cW,.af 1 (U.2.map bd),.af 5 (ai.2.map dO)]),(1,.int .i64 ai.1)] (λP aX=>?_) ?_)
 ·(try simp only[aR.down,simprocAttr,mI.down,J.eu]);refine ma [⟨.h 0 [2],true,_,_⟩,⟨.int .i64 U.1,false,_,.hole⟩] (als cX U.1 _ cF) rfl rfl rfl (by simp only[aR.down,simprocAttr,rz,rB,J.eu,rA,n8,mA,lI,g9,g_,ha,dm,or_true,true_or, @bn _ dO fL (λ_=>oW _)]) rfl rfl (inl rfl) ?_;simp only[aR.down,simprocAttr,rz,rB,J.eu,rA,kp];exact bR mI.down
 refine an ?_;exact jr (aj _ (inl (lj [.int .i64 ai.1] rfl (by cases gU h;rfl) (by decide) (lJ (mb (by cases gU h;rfl) rfl rfl rfl (h1 (lK)))))))
theorem Vk (I R r) (h:Dc I R=some r):ba ah 39 [.slice (I.map bd),.int .i64 R] (.int .i64 r) []:=by
 refine bF [0] [.tmp 4] Tryz.func39 Nw λbw aj bu=>an ?_;refine aA aj λ_ bD bb _=>an ?_;refine bh bb λeC _ bX bN _=>?_;show a6 ah (.loop ?eA) _ _;have eT:∀n a1 aL,zV I n a1 aL=some r->cL ah ?eA eC (aq [(0,.slice (I.map bd)),(1,.int .i64 a1),(5,.int .i64 aL)]):=by
  refine cY λ_ eH a1 aL h=>cV bX λ_ dJ cm aP=>aA cm λ_ dp _ aV=>an ?_;refine aO h (λcw h=>?_) λcw h=>?_
  .refine aS (dp _ (inl (aA cm λ_ cJ cd _=>bh cd λ_ b1 cz _ _=>aA cz λ_ eX gM _=>?_)));obtain⟨U,dw,h⟩:=ar h;refine c5 dw _ ?_;refine aO h (λh8 h=>?_) λh8 h=>?_
   .exact aT gM [.int .i64 (-1)]
   .refine aS (eX _ (inl (dG ?_)));refine b1 _ (cJ _ (inl (dG ?_)));exact dJ _ (inr ⟨_,bx rfl,eH (i64.wrap (a1+1)) (i64.wrap (aL+1)) h⟩)
  .exact cT (aV 0 _ (aP 0 _ (bN _ (bD _ (inl (aT aj [.int .i64 a1]))))))
 exact dy h λn h=>eT n R 0 h
theorem Vl (I R r) (h:Dd I R=some r):ba ah 71 [.slice (I.map bf),.int .i64 R] (.int .i64 r) []:=by
 refine bF [0] [.tmp 4] Tryz.func71 agN λbw aj bu=>an ?_;refine aA aj λ_ bD bb _=>an ?_;refine bh bb λeC _ bX bN _=>?_;show a6 ah (.loop ?eA) _ _;have eT:∀n a1 aL,zW I n a1 aL=some r->cL ah ?eA eC (aq [(0,.slice (I.map bf)),(1,.int .i64 a1),(5,.int .i64 aL)]):=by
  refine cY λ_ eH a1 aL h=>cV bX λ_ dJ cm aP=>aA cm λ_ dp _ aV=>an ?_;refine aO h (λcw h=>?_) λcw h=>?_
  .refine aS (dp _ (inl (aA cm λ_ cJ cd _=>bh cd λ_ b1 cz _ _=>aA cz λ_ eX gM _=>?_)));obtain⟨U,dw,h⟩:=ar h;refine c5 dw _ ?_;refine aO h (λh8 h=>?_) λh8 h=>?_
   .exact aT gM [.int .i64 (-1)]
   .refine aS (eX _ (inl (an ?_)));refine aA cz λ_ ju jm _=>c5 dw _ ?_;refine aO h (λiq h=>?_) λiq h=>?_
    .exact aT jm [.int .i64 (-1)]
    .refine aS (ju _ (inl (dG ?_)));refine b1 _ (cJ _ (inl (dG ?_)));exact dJ _ (inr ⟨_,bx rfl,eH (i64.wrap ((i64.wrap (a1+1))+1)) (i64.wrap (aL+1)) h⟩)
  .exact cT (aV 0 _ (aP 0 _ (bN _ (bD _ (inl (aT aj [.int .i64 a1]))))))
 exact dy h λn h=>eT n R 0 h
theorem Vm (I R r) (h:De I R=some r):ba ah 72 [.slice (I.map cy),.int .i64 R] (.int .i64 r) []:=by
 refine bF [0] [.tmp 4] Tryz.func72 agO λbw aj bu=>an ?_;refine aA aj λ_ bD bb ai=>an ?_;refine bh bb λeC _ bX bN _=>?_;show a6 ah (.loop ?eA) _ _;have eT:∀n a1 aL,zX I n a1 aL=some r->cL ah ?eA eC (aq [(0,.slice (I.map cy)),(1,.int .i64 a1),(5,.int .i64 aL)]):=by
  refine cY λ_ eH a1 aL h=>cV bX λ_ dJ cm aP=>aA cm λ_ dp _ aV=>an ?_;refine aO h (λcw h=>?_) λcw h=>?_
  .refine aS (dp _ (inl (aA cm λ_ cJ cd _=>bh cd λ_ b1 cz _ _=>?_)));obtain⟨U,dL,h⟩:=ar h;obtain⟨ai,dw,h⟩:=ar h;refine fw dL (Vl U a1 _ dw) _ ?_;refine an ?_;refine aO h (λfp h=>?_) λfp h=>?_
   .exact aT cz [.int .i64 (-1)]
   .refine aS (b1 _ (cJ _ (inl (dG ?_))));exact dJ _ (inr ⟨_,bx rfl,eH ai (i64.wrap (aL+1)) h⟩)
  .exact cT (aV 0 _ (aP 0 _ (bN _ (bD _ (inl (aT aj [.int .i64 a1]))))))
 exact dy h λn h=>eT n R 0 h
theorem alv (I R r) (h:He I R=some r):ba ah 40 [.slice (I.map fL),.int .i64 R] (.int .i64 r) []:=by
 refine bF [0] [.tmp 4] Tryz.func40 agP λbw aj bu=>an ?_;refine aA aj λ_ bD bb ai=>an ?_;refine bh bb λeC _ bX bN a7=>?_;show a6 ah (.loop ?eA) _ _;have eT:∀n a1 aL,zY I n a1 aL=some r->cL ah ?eA eC (aq [(0,.slice (I.map fL)),(1,.int .i64 a1),(5,.int .i64 aL)]):=by
  refine cY λ_ eH a1 aL h=>cV bX λ_ dJ cm aP=>aA cm λ_ dp _ aV=>an ?_;refine aO h (λcw h=>?_) λcw h=>?_
  .refine aS (dp _ (inl (aA cm λ_ cJ cd _=>bh cd λ_ b1 cz _ _=>?_)));obtain⟨U,dL,h⟩:=ar h;obtain⟨ai,dw,h⟩:=ar h;refine fw dL (Vk U.cx a1 _ dw) _ ?_;refine aA cz λ_ eS el _=>an ?_;refine aO h (λjI h=>?_) λjI h=>?_
   .exact aT el [.int .i64 (-1)]
   .refine aS (eS _ (inl ?_));obtain⟨aB,fG,h⟩:=ar h;refine fw dL (Vl U.Guard ai _ fG) _ ?_;refine aA cz λ_ s4 Dx _=>an ?_;refine aO h (λom h=>?_) λom h=>?_
    .exact aT Dx [.int .i64 (-1)]
    .refine aS (s4 _ (inl (aA cz λ_ pX qO _=>?_)));obtain⟨a7,lS,h⟩:=ar h;refine mg dL (vD aB _ lS) _ ?_;refine aO h (λjv h=>?_) λjv h=>?_
     .exact aT qO [.int .i64 (-1)]
     .refine aS (pX _ (inl (an ?_)));obtain⟨aP,h9,h⟩:=ar h;refine fw dL (Vm U.a9 (i64.wrap (aB+1)) _ h9) _ ?_;refine aA cz λ_ Ou Ov _=>an ?_;refine aO h (λalw h=>?_) λalw h=>?_
      .exact aT Ov [.int .i64 (-1)]
      .refine aS (Ou _ (inl ?_));obtain⟨aV,NO,h⟩:=ar h;refine fw dL (Vm U.Next aP _ NO) _ ?_;refine an ?_;refine aO h (λalx h=>?_) λalx h=>?_
       .exact aT cz [.int .i64 (-1)]
       .refine aS (b1 _ (cJ _ (inl (dG ?_))));exact dJ _ (inr ⟨_,bx rfl,eH aV (i64.wrap (aL+1)) h⟩)
  .exact cT (aV 0 _ (aP 0 _ (bN _ (bD _ (inl (aT aj [.int .i64 a1]))))))
 exact dy h λn h=>eT n R 0 h
theorem Vn (I R r) (h:Df I R=some r):ba ah 12 [lQ I,.int .i64 R] (.int .i64 r) []:=by
 refine bF [0] [.tmp 4] Tryz.func12 Dr λbw aj bu=>an ?_;obtain⟨U,aY,h⟩:=ar h;refine dC (Vk I.Start R _ aY) _ ?_;refine aA aj λ_ gg bX _=>an ?_;refine aO h (λeL h=>?_) λeL h=>?_
 .exact aT bX [.int .i64 (-1)]
 .refine aS (gg _ (inl ?_));obtain⟨ai,ie,h⟩:=ar h;refine dC (alv I.g3 U _ ie) _ ?_;refine aA aj λ_ b1 cz _=>an ?_;refine aO h (λgp h=>?_) λgp h=>?_
  .exact aT cz [.int .i64 (-1)]
  .exact aS (b1 _ (inl (aT aj [.int .i64 ai])))
theorem aly (I R r) (h:MY I R=some r):ba ah 3 [nI I,.int .i64 R] (.bool r) []:=by
 refine bF [0,1] [.tmp 4] Tryz.func3 nu λbw aj bu=>an ?_;refine an ?_;obtain⟨U,bT,h⟩:=ar h;refine dC (ag5 I 1048576 _ bT) _ ?_;refine aA aj λ_ dJ cm aP=>an ?_;refine aO h (λpj h=>?_) λpj h=>?_
 .exact aT cm [.bool true]
 .refine aS (dJ _ (inl ?_));obtain⟨ai,jz,h⟩:=ar h;obtain⟨aB,mX,h⟩:=ar h;refine du (b5 [(1,.int .i64 R),(2,.aG (nI I)),(6,.aG (gb aB.1)),(7,.int .i64 aB.2)] (λP aX=>?_) ?_)
  ·(try simp only[aR.down,simprocAttr]);refine d_ (Hu I _ jz) (hK:= ?_);simp only[aR.down,simprocAttr];refine d_ (ajP ai R _ mX) rfl rfl (by simp only[aR.down,simprocAttr,NH.down]<;>rfl) rfl (inr (by simp only[J.da,J.hZ,Hm,Bool.and_self])) ?_;simp only[aR.down,simprocAttr];exact bR trivial
  obtain⟨a7,dw,h⟩:=ar h;refine dC (Hu I _ dw) _ ?_;obtain⟨aP,eg,h⟩:=ar h;refine du (b5 [(1,.int .i64 R),(2,.aG (nI I)),(6,.aG (gb aB.1)),(7,.int .i64 aB.2),(8,.aG (s3 a7)),(9,.aG (gb aP.1)),(10,.int .i64 aP.2)] (λP aX=>?_) ?_)
  ·(try simp only[aR.down,simprocAttr]);refine d_ (Vf a7 R _ eg) rfl rfl (by simp only[aR.down,simprocAttr,NH.down]<;>rfl) rfl (inr (by simp only[J.da,J.hZ,Hm,Bool.and_self])) ?_;simp only[aR.down,simprocAttr];exact bR trivial
  refine aA aj λ_ jG kZ kH=>?_;obtain⟨aV,fy,h⟩:=ar h;refine du (b5 [(1,.int .i64 R),(2,.aG (nI I)),(6,.aG (gb aB.1)),(7,.int .i64 aB.2),(8,.aG (s3 a7)),(9,.aG (gb aP.1)),(10,.int .i64 aP.2),(44,.bool ((!aV)||(aP.2 !=aB.2)))] (λP aX=>?_) ?_)
  .rcases Bool.eq_false_or_eq_true (aV)with ue|ue
   ·(try simp only[aR.down,simprocAttr,ue]);refine d_ (Ac aP.1 aB.1 _ fy) rfl rfl (by simp only[aR.down,simprocAttr,ue,z1.down]<;>rfl) rfl (inr (by rfl)) ?_;simp only[aR.down,simprocAttr,ue];exact bR ue
   ·(try simp only[aR.down,simprocAttr,ue]);refine d_ (Ac aP.1 aB.1 _ fy) rfl rfl (by simp only[aR.down,simprocAttr,ue,z1.down]<;>rfl) rfl (inr (by rfl)) ?_;simp only[aR.down,simprocAttr,ue];exact bR ue
  refine aO h (λgn h=>?_) λgn h=>?_
  .exact aT kZ [.bool false]
  .refine aS (jG _ (inl (aA aj λ_ mh mJ _=>?_)));obtain⟨bp,jH,h⟩:=ar h;obtain⟨cp,hJ,h⟩:=ar h;refine ko rfl (h0 [(1,.int .i64 R),(2,.aG (nI I)),(6,.aG (gb aB.1)),(7,.int .i64 aB.2),(8,.aG (s3 a7)),(9,.aG (gb aP.1)),(10,.int .i64 aP.2),(49,.bool (!cp))] (λP aX=>?_) ?_)
   ·(try simp only[cM.down,simprocAttr]);refine g1 (Hu I _ jH) (hK:= ?_);simp only[cM.down,simprocAttr];refine g1 (alm a7 bp _ hJ) rfl rfl (by simp only[cM.down,simprocAttr,g9,g_,ha,dm, @bn _ g4 br (λ_=>xB _), @bn _ hi dF (λ_=>xC _), @bn _ bL bL (λ_=>lP _), @bn _ bj bj (λ_=>hH _), @bn _ bj bj (λ_=>hH _), @bn _ g4 br (λ_=>xB _), @bn _ hi dF (λ_=>xC _), @bn _ bL bL (λ_=>lP _), @bn _ bj bj (λ_=>hH _), @bn _ bj bj (λ_=>hH _)]<;>rfl) rfl (inr (by rfl)) ?_;simp only[cM.down,simprocAttr];refine⟨hc (by kernel_rfl),?_⟩;exact bR trivial
   refine aO h (λhL h=>?_) λhL h=>?_
   .exact aT mJ [.bool false]
   .refine aS (mh _ (inl (an ?_)));obtain⟨di,vB,h⟩:=ar h;refine du (b5 [(1,.int .i64 R),(2,.aG (nI I)),(6,.aG (gb aB.1)),(7,.int .i64 aB.2),(9,.aG (gb aP.1)),(10,.int .i64 aP.2),(11,.int .i64 di.1)] (λP aX=>?_) ?_)
    ·(try simp only[aR.down,simprocAttr]);refine ma [⟨.h 8 [0],true,_,_⟩,⟨.int .i64 1,false,_,.hole⟩] (alr a7.aC a7.b7 a7.hA a7.hg a7.hh 1 _ vB) rfl rfl rfl (by simp only[aR.down,simprocAttr,n8,mA,lI,g9,g_,ha,dm,or_true,true_or, @bn _ g4 br (λ_=>xB _), @bn _ hi dF (λ_=>xC _), @bn _ bL bL (λ_=>lP _), @bn _ bj bj (λ_=>hH _), @bn _ bj bj (λ_=>hH _)]) rfl rfl (inl rfl) ?_;simp only[aR.down,simprocAttr,kp];exact bR trivial
    refine aA aj λ_ DF Hz _=>?_;rcases dH h with⟨h3,h⟩|⟨h3,h⟩
    .refine c5 h3 _ ?_;refine iE rfl ?_;exact aT Hz [.bool false]
    .obtain⟨cE,rU,h⟩:=ar h;refine du (b5 [(1,.int .i64 R),(2,.aG (nI I)),(6,.aG (gb aB.1)),(7,.int .i64 aB.2),(9,.aG (gb aP.1)),(65,.bool ((!cE)||(aP.2 !=aB.2)))] (λP aX=>?_) ?_)
     .rcases Bool.eq_false_or_eq_true (cE)with uf|uf
      ·(try simp only[aR.down,simprocAttr,h3,uf]);refine ij (Ac aP.1 aB.1 _ rU) rfl rfl (by simp only[aR.down,simprocAttr,h3,uf,z1.down]<;>rfl) rfl (inr (by rfl)) ?_;simp only[aR.down,simprocAttr,h3,uf];exact bR (aa h3 uf)
      ·(try simp only[aR.down,simprocAttr,h3,uf]);refine ij (Ac aP.1 aB.1 _ rU) rfl rfl (by simp only[aR.down,simprocAttr,h3,uf,z1.down]<;>rfl) rfl (inr (by rfl)) ?_;simp only[aR.down,simprocAttr,h3,uf];exact bR (aa h3 uf)
     refine aO h (λqQ h=>?_) λqQ h=>?_
     .exact aT Hz [.bool false]
     .refine aS (DF _ (inl (an ?_)));obtain⟨de,alz,h⟩:=ar h;refine du (b5 [(1,.int .i64 R),(2,.aG (nI I)),(6,.aG (gb aB.1)),(7,.int .i64 aB.2),(9,.aG (.agg [.int .i64 de.2.1,.af 1 (de.2.2.1.map bd),.af 5 (de.2.2.2.map dO)])),(12,.int .i64 de.1)] (λP aX=>?_) ?_)
      ·(try simp only[aR.down,simprocAttr]);refine ma [⟨.h 9 [0],true,_,_⟩,⟨.int .i64 1,false,_,.hole⟩] (alu aP.1.bW aP.1.Start aP.1.g3 1 _ alz) rfl rfl rfl (by simp only[aR.down,simprocAttr,n8,mA,lI,g9,g_,ha,dm,or_true,true_or, @bn _ bd bd (λ_=>jF _), @bn _ dO fL (λ_=>oW _)]) rfl rfl (inl rfl) ?_;simp only[aR.down,simprocAttr,kp];exact bR trivial
      refine an ?_;obtain⟨gx,DN,h⟩:=ar h;refine du (b5 [(1,.int .i64 R),(2,.aG (nI I)),(6,.aG (gb aB.1)),(7,.int .i64 aB.2),(9,.aG (.agg [.int .i64 de.2.1,.af 1 (de.2.2.1.map bd),.af 5 (de.2.2.2.map dO)])),(12,.int .i64 de.1),(13,.int .i64 gx)] (λP aX=>?_) ?_)
      ·(try simp only[aR.down,simprocAttr]);refine d_ (Vn (cr.mk de.2.1 de.2.2.1 de.2.2.2) 1 _ DN) rfl rfl (by simp only[aR.down,simprocAttr,Hq.down]<;>rfl) rfl (inr (by rfl)) ?_;simp only[aR.down,simprocAttr];exact bR trivial
      refine aA aj λ_ OB alA _=>an ?_;refine aO h (λDH h=>?_) λDH h=>?_
      .exact aT alA [.bool false]
      .refine aS (OB _ (inl (aA aj λ_ OC OD _=>an ?_)));refine aO h (λalB h=>?_) λalB h=>?_
       .exact aT OD [.bool false]
       .refine aS (OC _ (inl ?_));obtain⟨eK,z9,h⟩:=ar h;obtain⟨gA,HL,h⟩:=ar h;refine du (b5 [(6,.aG (gb aB.1)),(7,.int .i64 aB.2),(9,.aG (.agg [.int .i64 de.2.1,.af 1 (de.2.2.1.map bd),.af 5 (de.2.2.2.map dO)])),(12,.int .i64 de.1),(14,.aG (gb gA.1)),(15,.int .i64 gA.2)] (λP aX=>?_) ?_)
        ·(try simp only[aR.down,simprocAttr]);refine d_ (Hu I _ z9) (hK:= ?_);simp only[aR.down,simprocAttr];refine d_ (Vf eK R _ HL) rfl rfl (by simp only[aR.down,simprocAttr,NH.down]<;>rfl) rfl (inr (by simp only[J.da,J.hZ,Hm,Bool.and_self])) ?_;simp only[aR.down,simprocAttr];exact bR trivial
        refine aA aj λ_ Oi Oj _=>?_;obtain⟨ik,Vo,h⟩:=ar h;refine du (b5 [(9,.aG (.agg [.int .i64 de.2.1,.af 1 (de.2.2.1.map bd),.af 5 (de.2.2.2.map dO)])),(12,.int .i64 de.1),(92,.bool ((!ik)||(gA.2 !=aB.2)))] (λP aX=>?_) ?_)
        .rcases Bool.eq_false_or_eq_true (ik)with ug|ug
         ·(try simp only[aR.down,simprocAttr,ug]);refine d_ (Ac gA.1 aB.1 _ Vo) rfl rfl (by simp only[aR.down,simprocAttr,ug,z1.down]<;>rfl) rfl (inr (by rfl)) ?_;simp only[aR.down,simprocAttr,ug];exact bR ug
         ·(try simp only[aR.down,simprocAttr,ug]);refine d_ (Ac gA.1 aB.1 _ Vo) rfl rfl (by simp only[aR.down,simprocAttr,ug,z1.down]<;>rfl) rfl (inr (by rfl)) ?_;simp only[aR.down,simprocAttr,ug];exact bR ug
        refine aO h (λalC h=>?_) λalC h=>?_
        .exact aT Oj [.bool false]
        .refine aS (Oi _ (inl (an ?_)));obtain⟨kH,Ol,h⟩:=ar h;refine du (b5 [(12,.int .i64 de.1),(13,.int .i64 kH)] (λP aX=>?_) ?_)
         ·(try simp only[aR.down,simprocAttr]);refine d_ (Vn (cr.mk de.2.1 de.2.2.1 de.2.2.2) 1 _ Ol) rfl rfl (by simp only[aR.down,simprocAttr,Hq.down]<;>rfl) rfl (inr (by rfl)) ?_;simp only[aR.down,simprocAttr];exact bR trivial
         refine aA aj λ_ HH HI _=>an ?_;refine aO h (λlR h=>?_) λlR h=>?_
         .exact aT HI [.bool false]
         .refine aS (HH _ (inl (aA aj λ_ On alD _=>an ?_)));refine aO h (λOo h=>?_) λOo h=>?_
          .exact aT alD [.bool false]
          .exact aS (On _ (inl (aT aj [.bool true])))
end Go.Proofs.YtmaenemdkobeeaaGreat
