/- Part of a proof that a law returns true for every input. No condition. -/
import Derived.Test.YtklcmlnabkfneaaGreatW1x7
namespace Go.Proofs.YtklcmlnabkfneaaGreat
open Option Go.IntKind Nat Or
open Go Go.de Go.l3
set_option maxRecDepth 100000
set_option maxHeartbeats 2400000
set_option linter.unusedSimpArgs false
set_option linter.unusedVariables false
theorem afA (a0 r) (h:CR a0=some r):aY ak 157 [.int .i64 a0] (.ag 1 (r.map ke)) []:=by
 refine bA [0] [.tmp 2] Tryz.func157 abj λbz aj bw=>al ?_;refine ji (bX (K:=dK _) [(0,.int .i64 a0),(3,.ag 1 ([.bd]))] (λP ba=>?_) (vd [(0,.int .i64 a0),(3,.ag 1 ([[]].map ke))] (jW [] rfl (dB rfl (jY (t:=3) (d:=.ag 1 ([.bd])) (bg:=.ag 1 ([[]].map ke)) rfl rfl (.ag (.cons (.kN _) (.nil))) (by decide) (jX)))) ?_))
 .simp only[aP.down,simprocAttr,(show∀s,fa ak s 200 1 [(0,.bd)]=some (.ag 1 [.bd],s)from λs=>by kernel_rfl)];exact bJ (show∀s,fa ak s 200 1 [(0,.bd)]=some (.ag 1 [.bd],s)from λs=>by kernel_rfl)
 refine aD aj λ_ ff cZ aO=>al ?_;refine bc cZ λnI _ b9 cI _=>?_;show a_ ak (.loop ?hL) _ _;have hU:∀n bt gB,mY a0 n bt gB=some r->cy ak ?hL nI (ay [(0,.int .i64 a0),(3,.ag 1 (bt.map ke)),(9,.int .i64 a0),(10,.int .i64 gB)]):=by
  refine cO λm8 hV bt gB h=>cN b9 λ_ n6 c0 bM=>al ?_;refine aD c0 λ_ ja _ eD=>aL h (λfP h=>?_) λfP h=>?_
  .refine aQ (ja _ (inl (aD c0 λ_ n10 cz _=>bc cz λ_ n11 gJ _ _=>ji (bX (K:=dK _) [(0,.int .i64 a0),(3,.ag 1 (bt.map ke)),(4,.bd),(9,.int .i64 a0),(10,.int .i64 gB)] (λP ba=>?_) (vd [(0,.int .i64 a0),(3,.ag 1 (bt.map nH)),(4,.bd),(9,.int .i64 a0),(10,.int .i64 gB)] (jW [] rfl (dB rfl (jY (t:=3) (d:=.ag 1 (bt.map ke)) (bg:=.ag 1 (bt.map nH)) rfl rfl (.ag (NI (λ_=>ve rfl rfl (YV _)) _)) (by decide) (dB rfl (dB rfl (dB rfl (jX))))))) ?_)))))
   .simp only[aP.down,simprocAttr];exact bJ trivial
   refine aD gJ λ_ n13 eM _=>al ?_;refine bc eM λafB _ h4 eF _=>?_;show a_ ak (.loop ?IK) _ _;have afC:∀n re ql qm rf qn,qo (mY a0 m8) a0 n re ql qm rf qn=some r->cy ak ?IK afB (ay [(0,.int .i64 a0),(3,.ag 1 (re.map nH)),(4,.ag 1 (ql.map ke)),(9,.int .i64 a0),(10,.int .i64 qm),(12,.h 3 []),(13,.int .i64 rf),(14,.int .i64 qn)]):=by
    refine cO λm23 afD re ql qm rf qn h=>cN h4 λ_ n16 mC rj=>al ?_;refine aD mC λ_ n18 _ qi=>aL h (λfi h=>?_) λfi h=>?_
    .refine aQ (n18 _ (inl (aD mC λ_ n20 uc _=>bc uc λ_ n21 pn _ _=>?_)));obtain⟨U,lM,h⟩:=aA h;refine e0 (af lM (br lM)) _ ?_;refine al ?_;refine bc pn λJg _ l_ nJ _=>?_;show a_ ak (.loop ?IL) _ _;have afE:∀n nC mX nD nE nF jC,tX (mY a0 m8) (qo (mY a0 m8) a0 m23) a0 U n nC mX nD nE nF jC=some r->cy ak ?IL Jg (ay [(0,.int .i64 a0),(3,.ag 1 (nC.map nH)),(4,.ag 1 (mX.map ke)),(6,.slice (U.map bj)),(9,.int .i64 a0),(10,.int .i64 nD),(12,.h 3 []),(13,.int .i64 nE),(14,.int .i64 nF),(18,.int .i64 a0),(19,.int .i64 jC)]):=by
      refine cO λafF afG nC mX nD nE nF jC h=>cN l_ λafH n26 uf Jh=>al ?_;refine aD uf λ_ n28 _ afI=>aL h (λiD h=>?_) λiD h=>?_
      .refine aQ (n28 _ (inl ?_));show a_ ak (.seq _ ?afJ) _ _;have P8:∀vS vT vU vV vW vX,zz (mY a0 m8) (qo (mY a0 m8) a0 m23) (tX (mY a0 m8) (qo (mY a0 m8) a0 m23) a0 U afF) a0 U vS vT vU vV vW vX=some r->a_ ak ?afJ afH (ay [(0,.int .i64 a0),(3,.ag 1 (vS.map nH)),(4,.ag 1 (vT.map ke)),(6,.slice (U.map bj)),(9,.int .i64 a0),(10,.int .i64 vU),(12,.h 3 []),(13,.int .i64 vV),(14,.int .i64 vW),(18,.int .i64 a0),(19,.int .i64 vX)]):=by
        intro vS vT vU vV vW vX h;refine dt ?_;exact n26 _ (inr ⟨_,bQ rfl,afG vS vT vU vV vW (i64.wrap (vX+1)) h⟩)
       refine aD uf λ_ n30 Ji _=>bc Ji λ_ n32 _ _ _=>al ?_;obtain⟨ah,JP,h⟩:=aA h;refine c9 (afz U jC _ JP) _ ?_;refine aL h (λnc h=>?_) λnc h=>?_
       .obtain⟨aO,JO,h⟩:=aA h;obtain⟨afK,sL,h⟩:=aA h;(try simp only[ph.down,Nat.zero_add,Nat.add_zero,reduceAdd]at sL);obtain⟨afK,wR,h⟩:=aA h;(try simp only[Dr.down,Nat.zero_add,Nat.add_zero,reduceAdd]at wR);refine hM (bX [(0,.int .i64 a0),(3,.ag 1 (nC.map nH)),(4,.ag 1 ((mX++[(aO++[jC])]).map ke)),(6,.slice (U.map bj)),(9,.int .i64 a0),(10,.int .i64 nD),(12,.h 3 []),(13,.int .i64 nE),(14,.int .i64 nF),(18,.int .i64 a0),(19,.int .i64 jC)] (λP ba=>?_) ?_)
        ·(try simp only[aP.down,simprocAttr,(show∀s,fa ak s 22 1 [(0,.int .i64 jC)]=some (.ag 1 [.int .i64 jC],s)from λs=>by kernel_rfl),IY.down,sL,mT,eI,wR]);refine eB (P7 U _ JO) (hK:= ?_);simp only[aP.down,simprocAttr,(show∀s,fa ak s 22 1 [(0,.int .i64 jC)]=some (.ag 1 [.int .i64 jC],s)from λs=>by kernel_rfl),IY.down,sL,mT,eI,wR];(try simp only[i7.down,simprocAttr,(show∀s,fa ak s 22 1 [(0,.int .i64 jC)]=some (.ag 1 [.int .i64 jC],s)from λs=>by kernel_rfl),IY.down,sL,mT,eI,wR]at ba⊢);exact ba
        exact n32 _ (n30 _ (inr ⟨_,bQ rfl,P8 nC (mX++[(aO++[jC])]) nD nE nF jC h⟩))
       .exact aQ (n32 _ (n30 _ (inr ⟨_,bQ rfl,P8 nC mX nD nE nF jC h⟩)))
      .refine cK (afI 4 _ (Jh 4 _ (nJ _ (n21 _ (n20 _ (inl (dt ?_)))))));exact n16 _ (inr ⟨_,bQ rfl,afD nC mX nD nE (i64.wrap (nF+1)) h⟩)
     exact c4 h λn h=>afE n re ql qm rf qn 0 h
    .refine cK (qi 2 _ (rj 2 _ (eF _ (n13 _ (inl (dt ?_))))));refine n11 _ (n10 _ (inl (dt ?_)));exact n6 _ (inr ⟨_,bQ rfl,hV ql (i64.wrap (qm+1)) h⟩)
   obtain⟨n,h⟩:=pE h;exact q3 (inr ⟨_,jW [3] rfl (dB (t:=0) (d:=.int .i64 a0) rfl (dB (t:=3) (d:=.ag 1 (bt.map nH)) rfl (jY (t:=4) (d:=.bd) (bg:=.ag 1 []) rfl rfl (.kN _) (by decide) (dB (t:=9) (d:=.int .i64 a0) rfl (dB (t:=10) (d:=.int .i64 gB) rfl (dB (t:=12) (d:=.h 3 []) rfl (dB (t:=13) (d:=.int .i64 (bt.length:Int)) rfl (dB (t:=14) (d:=.int .i64 0) rfl (jX))))))))),afC n bt [] gB (bt.length:Int) 0 h⟩)
  .exact cK (eD 0 _ (bM 0 _ (cI _ (ff _ (inl (aK aj [.ag 1 (bt.map ke)]))))))
 exact c4 h λn h=>hU n [[]] 0 h
theorem afL (a0 r) (h:CS a0=some r):aY ak 222 [c6 a0] (b0 r) []:=by
 refine bA [0] [.cell 2 119] Tryz.func222 abk λbz aj bw=>al ?_;obtain⟨U,aW,h⟩:=aA h;refine c9 (P7 a0.bL _ aW) _ ?_;exact aK aj [b0 (aT.mk a0.b6 a0.Part U)]
theorem afM (a0 J r) (h:CT a0 J=some r):aY ak 158 [.slice (a0.map c6),.slice (J.map bj)] (.ag 3 (r.map b0)) []:=by
 refine bA [0,1] [.tmp 4] Tryz.func158 abl λbz aj bw=>al ?_;refine al ?_;refine aD aj λ_ ff cZ aO=>al ?_;refine bc cZ λnI _ b9 cI _=>?_;show a_ ak (.loop ?hL) _ _;have hU:∀n fW gB,HZ a0 J n fW gB=some r->cy ak ?hL nI (ay [(0,.slice (a0.map c6)),(5,.ag 3 (fW.map b0)),(8,.slice (J.map bj)),(9,.int .i64 (J.length:Int)),(10,.int .i64 gB)]):=by
  refine cO λ_ hV fW gB h=>cN b9 λ_ n6 c0 bM=>al ?_;refine aD c0 λ_ ja _ eD=>aL h (λfP h=>?_) λfP h=>?_
  .refine aQ (ja _ (inl (aD c0 λ_ n10 cz _=>bc cz λ_ n11 _ _ _=>?_)));obtain⟨U,dw,h⟩:=aA h;refine e0 dw _ ?_;obtain⟨ah,ey,h⟩:=aA h;obtain⟨aO,ck,h⟩:=aA h;obtain⟨qv,c3,h⟩:=aA h;(try simp only[Dr.down,Nat.zero_add,Nat.add_zero,reduceAdd]at c3);refine hM (bX [(0,.slice (a0.map c6)),(5,.ag 3 ((fW++[aO]).map b0)),(8,.slice (J.map bj)),(9,.int .i64 (J.length:Int)),(10,.int .i64 gB)] (λP ba=>?_) ?_)
   ·(try simp only[aP.down,simprocAttr,ey,IZ.down,mT,eI,c3]);refine eB (afL ah _ ck) (hK:= ?_);simp only[aP.down,simprocAttr,ey,IZ.down,mT,eI,c3];(try simp only[i7.down,simprocAttr,ey,IZ.down,mT,eI,c3]at ba⊢);exact ba
   refine n11 _ (n10 _ (inl (wr [(0,.slice (a0.map c6)),(5,.ag 3 ((fW++[aO]).map b0)),(8,.slice (J.map bj)),(9,.int .i64 (J.length:Int)),(10,.int .i64 (i64.wrap (gB+1)))] ?_)));exact n6 _ (inr ⟨_,bQ rfl,hV (fW++[aO]) (i64.wrap (gB+1)) h⟩)
  .exact cK (eD 0 _ (bM 0 _ (cI _ (ff _ (inl (aK aj [.ag 3 (fW.map b0)]))))))
 obtain⟨n,h⟩:=pE h;exact q3 (inr ⟨_,jW [] rfl (dB (t:=0) (d:=.slice (a0.map c6)) rfl (jY (t:=5) (d:=.bd) (bg:=.ag 3 []) rfl rfl (.kN _) (by decide) (dB (t:=8) (d:=.slice (J.map bj)) rfl (dB (t:=9) (d:=.int .i64 (J.length:Int)) rfl (dB (t:=10) (d:=.int .i64 0) rfl (jX)))))),hU n [] 0 h⟩)
theorem P9 (a0 r) (h:CU a0=some r):aY ak 298 [.int .i64 a0] (.bool r) []:=by
 refine bA [0] [.tmp 2] Tryz.func298 abm λbz aj bw=>al ?_;exact aK aj [.bool (a0 !=a0)]
theorem JR (a0 J r) (h:vY a0 J=some r):aY ak 287 [.int .i64 a0,.int .i64 J] (.int .i64 r) []:=by
 refine bA [0,1] [.tmp 4] Tryz.func287 abn λbz aj bw=>al ?_;obtain⟨U,aW,h⟩:=aA h;refine c9 (P9 a0 _ aW) _ ?_;obtain⟨ah,cC,h⟩:=aA h;refine c9 (P9 J _ cC) _ ?_;refine aD aj λ_ n6 c0 _=>al ?_;refine aL h (λbY h=>?_) λbY h=>?_
 .refine aD c0 λ_ cf bP _=>al ?_;refine aL h (λmB h=>?_) λmB h=>?_
  .exact aK bP [.int .i64 0]
  .exact aQ (cf _ (inl (aK c0 [.int .i64 (-1)])))
 .refine aQ (n6 _ (inl (aD aj λ_ n14 dO _=>al ?_)));refine aL h (λjt h=>?_) λjt h=>?_
  .exact aK dO [.int .i64 1]
  .refine aQ (n14 _ (inl (aD aj λ_ n18 wQ _=>al ?_)));refine aL h (λfz h=>?_) λfz h=>?_
   .exact aK wQ [.int .i64 (-1)]
   .refine aQ (n18 _ (inl (aD aj λ_ n22 l8 _=>al ?_)));refine aL h (λhD h=>?_) λhD h=>?_
    .exact aK l8 [.int .i64 1]
    .exact aQ (n22 _ (inl (aK aj [.int .i64 0])))
theorem afN (a0 J r) (h:CV a0 J=some r):aY ak 288 [.slice (a0.map bj),.slice (J.map bj)] (.int .i64 r) []:=by
 refine bA [0,1] [.tmp 4] Tryz.func288 abo λbz aj bw=>al ?_;refine aD aj λ_ bB aZ ah=>al ?_;refine bc aZ λdI _ bU bG _=>?_;show a_ ak (.loop ?dN) _ _;have dV:∀n i6,vZ a0 J n i6=some r->cy ak ?dN dI (ay [(0,.slice (a0.map bj)),(1,.slice (J.map bj)),(9,.slice (a0.map bj)),(10,.int .i64 (a0.length:Int)),(11,.int .i64 i6)]):=by
  refine cO λ_ dP i6 h=>cN bU λ_ dd b9 a7=>al ?_;refine aD b9 λ_ dc _ cG=>aL h (λbY h=>?_) λbY h=>?_
  .refine aQ (dc _ (inl (aD b9 λ_ cf bP _=>bc bP λ_ n10 cz _ _=>?_)));obtain⟨U,df,h⟩:=aA h;refine e0 df _ ?_;refine aD cz λ_ n13 eM _=>al ?_;refine aL h (λeF h=>?_) λeF h=>?_
   .exact aK eM [.int .i64 1]
   .refine aQ (n13 _ (inl ?_));obtain⟨ah,dZ,h⟩:=aA h;refine e0 dZ _ ?_;obtain⟨aO,iS,h⟩:=aA h;refine c9 (JR U ah _ iS) _ ?_;refine al ?_;refine aL h (λrm h=>?_) λrm h=>?_
    .exact aK cz [.int .i64 aO]
    .refine aQ (n10 _ (cf _ (inl (dt ?_))));exact dd _ (inr ⟨_,bQ rfl,dP (i64.wrap (i6+1)) h⟩)
  .refine cK (cG 0 _ (a7 0 _ (bG _ (bB _ (inl (aD aj λ_ n25 l_ _=>al ?_))))));refine aL h (λlN h=>?_) λlN h=>?_
   .exact aK l_ [.int .i64 (-1)]
   .exact aQ (n25 _ (inl (aK aj [.int .i64 0])))
 exact c4 h λn h=>dV n 0 h
theorem afO (a0 r) (h:H2 a0=some r):aY ak 286 [.slice (a0.map bj)] (.int .i64 r) []:=by
 refine bA [0] [.tmp 2] Tryz.func286 abp λbz aj bw=>al ?_;refine al ?_;refine aD aj λ_ ff cZ _=>al ?_;refine bc cZ λnI _ b9 cI _=>?_;show a_ ak (.loop ?hL) _ _;have hU:∀n qp,zA a0 n qp=some r->cy ak ?hL nI (ay [(3,.int .i64 0),(6,.slice (a0.map bj)),(7,.int .i64 (a0.length:Int)),(8,.int .i64 qp)]):=by
  refine cO λ_ hV qp h=>cN b9 λ_ n6 c0 bM=>al ?_;refine aD c0 λ_ ja _ eD=>aL h (λfP h=>?_) λfP h=>?_
  .refine aQ (ja _ (inl (aD c0 λ_ n10 cz _=>bc cz λ_ n11 gJ _ _=>?_)));obtain⟨U,dw,h⟩:=aA h;refine e0 dw _ ?_;refine al ?_;refine aL h (λeF h=>?_) λeF h=>?_
   .exact aK gJ [.int .i64 U]
   .refine aQ (n11 _ (n10 _ (inl (dt ?_))));exact n6 _ (inr ⟨_,bQ rfl,hV (i64.wrap (qp+1)) h⟩)
  .exact cK (eD 0 _ (bM 0 _ (cI _ (ff _ (inl (aK aj [.int .i64 0]))))))
 exact c4 h λn h=>hU n 0 h
theorem afP (a0 J r) (h:CW a0 J=some r):aY ak 225 [c6 a0,c6 J] (.int .i64 r) []:=by
 refine bA [0,1] [.tmp 4] Tryz.func225 abq λbz aj bw=>al ?_;obtain⟨U,aW,h⟩:=aA h;obtain⟨ah,cm,h⟩:=aA h;obtain⟨aO,cC,h⟩:=aA h;obtain⟨bx,b7,h⟩:=aA h;refine kS rfl (ku [(4,.int .i64 bx)] (λP ba=>?_) ?_)
 ·(try simp only[et.down,simprocAttr,(show∀s,fa ak s 327 3 [(0,.int .i64 U),(1,.int .i64 ah),(2,.int .i64 aO)]=some (.ag 1 [.int .i64 U,.int .i64 ah,.int .i64 aO],s)from λs=>by kernel_rfl)]);refine kv (JR a0.b6 J.b6 _ aW) (hK:= ?_);simp only[et.down,simprocAttr,(show∀s,fa ak s 327 3 [(0,.int .i64 U),(1,.int .i64 ah),(2,.int .i64 aO)]=some (.ag 1 [.int .i64 U,.int .i64 ah,.int .i64 aO],s)from λs=>by kernel_rfl)];refine kv (JR a0.Part J.Part _ cm) (hK:= ?_);simp only[et.down,simprocAttr,(show∀s,fa ak s 327 3 [(0,.int .i64 U),(1,.int .i64 ah),(2,.int .i64 aO)]=some (.ag 1 [.int .i64 U,.int .i64 ah,.int .i64 aO],s)from λs=>by kernel_rfl)];refine kv (afN a0.bL J.bL _ cC) (hK:= ?_);simp only[et.down,simprocAttr,(show∀s,fa ak s 327 3 [(0,.int .i64 U),(1,.int .i64 ah),(2,.int .i64 aO)]=some (.ag 1 [.int .i64 U,.int .i64 ah,.int .i64 aO],s)from λs=>by kernel_rfl)];refine kv (afO [U,ah,aO] _ b7) rfl rfl (by simp only[et.down,simprocAttr,(show∀s,fa ak s 327 3 [(0,.int .i64 U),(1,.int .i64 ah),(2,.int .i64 aO)]=some (.ag 1 [.int .i64 U,.int .i64 ah,.int .i64 aO],s)from λs=>by kernel_rfl),hN,hP,hQ,dr,I.shares, @cr _ bj bj (λ_=>mA _)]<;>rfl) rfl (inr (by rfl)) ?_;simp only[et.down,simprocAttr,(show∀s,fa ak s 327 3 [(0,.int .i64 U),(1,.int .i64 ah),(2,.int .i64 aO)]=some (.ag 1 [.int .i64 U,.int .i64 ah,.int .i64 aO],s)from λs=>by kernel_rfl)];refine⟨ky (by kernel_rfl),?_⟩;exact bJ (show∀s,fa ak s 327 3 [(0,.int .i64 U),(1,.int .i64 ah),(2,.int .i64 aO)]=some (.ag 1 [.int .i64 U,.int .i64 ah,.int .i64 aO],s)from λs=>by kernel_rfl)
 exact dY aj [.int .i64 bx]
theorem afQ (a0 J r) (h:CX a0 J=some r):aY ak 224 [.slice (a0.map c6),.slice (J.map c6),.fn 225 []] (.int .i64 r) []:=by
 refine bA [0,1,2] [.tmp 6] Tryz.func224 abr λbz aj bw=>al ?_;refine aD aj λ_ bB aZ ah=>al ?_;refine bc aZ λdI _ bU bG _=>?_;show a_ ak (.loop ?dN) _ _;have dV:∀n oo,v7 a0 J n oo=some r->cy ak ?dN dI (ay [(0,.slice (a0.map c6)),(1,.slice (J.map c6)),(2,.fn 225 []),(11,.slice (a0.map c6)),(12,.int .i64 (a0.length:Int)),(13,.int .i64 oo)]):=by
  refine cO λ_ dP oo h=>cN bU λ_ dd b9 a7=>al ?_;refine aD b9 λ_ dc _ cG=>aL h (λbY h=>?_) λbY h=>?_
  .refine aQ (dc _ (inl (aD b9 λ_ cf bP _=>bc bP λ_ n10 cz _ _=>?_)));obtain⟨U,df,h⟩:=aA h;refine e0 df _ ?_;refine aD cz λ_ n13 eM _=>al ?_;refine aL h (λeF h=>?_) λeF h=>?_
   .exact aK eM [.int .i64 1]
   .refine aQ (n13 _ (inl ?_));obtain⟨ah,dZ,h⟩:=aA h;refine e0 dZ _ ?_;obtain⟨aO,iS,h⟩:=aA h;refine c9 (afP U ah _ iS) _ ?_;refine al ?_;refine aL h (λrm h=>?_) λrm h=>?_
    .exact aK cz [.int .i64 aO]
    .refine aQ (n10 _ (cf _ (inl (dt ?_))));exact dd _ (inr ⟨_,bQ rfl,dP (i64.wrap (oo+1)) h⟩)
  .refine cK (cG 0 _ (a7 0 _ (bG _ (bB _ (inl (aD aj λ_ n25 l_ _=>al ?_))))));refine aL h (λlN h=>?_) λlN h=>?_
   .exact aK l_ [.int .i64 (-1)]
   .exact aQ (n25 _ (inl (aK aj [.int .i64 0])))
 exact c4 h λn h=>dV n 0 h
theorem P_ (a0 J r) (h:v8 a0 J=some r):aY ak 160 [.slice (a0.map c6),.slice (J.map c6)] (.int .i64 r) []:=by
 refine bA [0,1] [.tmp 4] Tryz.func160 abt λbz aj bw=>al ?_;obtain⟨U,aW,h⟩:=aA h;refine c9 (afQ a0 J _ aW) _ ?_;exact dY aj [.int .i64 U]
theorem afR (a0 r:alZ) (h:v_ a0=some r):aY ak 159 [.ag 1 (a0.map ew),.fn 160 []] (.tuple []) [.ag 1 (r.map ew),.hole]:=ab8 rfl P_ a0 r h
theorem afS (a0 J r) (h:zC a0 J=some r):aY ak 162 [.slice (a0.map c6),.slice (J.map c6)] (.bool r) []:=by
 refine bA [0,1] [.tmp 4] Tryz.func162 abu λbz aj bw=>al ?_;obtain⟨U,aW,h⟩:=aA h;refine c9 (P_ a0 J _ aW) _ ?_;exact dY aj [.bool (U==0)]
theorem afT (a0 r:alZ) (h:wa a0=some r):aY ak 161 [.ag 1 (a0.map ew),.fn 162 []] (.ag 1 (r.map ew)) [.hole,.hole]:=aco rfl afS a0 r h
theorem afU (a0 r) (h:zD a0=some r):aY ak 81 [.slice (a0.map c6)] (.ag 1 (r.map ew)) []:=by
 refine bA [0] [.tmp 2] Tryz.func81 abv λbz aj bw=>al ?_;refine al ?_;refine aD aj λ_ ff cZ aO=>?_;obtain⟨U,cC,h⟩:=aA h;refine c9 (afA (a0.length:Int) _ cC) _ ?_;refine bc cZ λki _ c0 eb _=>?_;have hU:∀n bt gB,wb a0 U n bt gB=some r->cy ak Pf ki (ay [(0,.slice (a0.map c6)),(3,.ag 1 (bt.map ew)),(8,.ag 1 (U.map ke)),(9,.int .i64 (U.length:Int)),(10,.int .i64 gB)]):=by
  refine cO λ_ hV bt gB h=>cN c0 λ_ dc ei cG=>al ?_;refine aD ei λ_ cf _ dT=>aL h (λfQ h=>?_) λfQ h=>?_
  .refine aQ (cf _ (inl (aD ei λ_ n11 gJ _=>bc gJ λ_ n12 _ _ _=>?_)));obtain⟨ah,dF,h⟩:=aA h;refine e0 (af dF (af (br dF) @VW)) _ ?_;obtain⟨aO,ck,h⟩:=aA h;obtain⟨qv,c3,h⟩:=aA h;(try simp only[Dr.down,Nat.zero_add,Nat.add_zero,reduceAdd]at c3);refine hM (bX [(0,.slice (a0.map c6)),(3,.ag 1 ((bt++[aO]).map ew)),(8,.ag 1 (U.map ke)),(9,.int .i64 (U.length:Int)),(10,.int .i64 gB)] (λP ba=>?_) ?_)
   ·(try simp only[aP.down,simprocAttr,br dF,I0.down,mT,eI,c3]);refine eB (afM a0 ah _ ck) rfl rfl (by simp only[aP.down,simprocAttr,br dF, @yg ak 67 62 1 1 [.bd] rfl rfl rfl (by kernel_rfl),mT,yh,eI,yi,cM,p8,List.nil_append,List.cons_append, @oY ak 67 67 62 rfl rfl,p6,p7,p5,all_nil,c3, @mn _ ew 1 (λ_=>rfl),hN,hP,hQ,dr, @cr _ bj bj (λ_=>mA _)]<;>rfl) rfl (inr (jV (λ_=>IG _) _)) ?_;simp only[aP.down,simprocAttr,br dF,I0.down,mT,eI,c3];(try simp only[i7.down,simprocAttr,br dF,I0.down,mT,eI,c3]at ba⊢);exact ba
   refine n12 _ (n11 _ (inl (wr [(0,.slice (a0.map c6)),(3,.ag 1 ((bt++[aO]).map ew)),(8,.ag 1 (U.map ke)),(9,.int .i64 (U.length:Int)),(10,.int .i64 (i64.wrap (gB+1)))] ?_)));exact dc _ (inr ⟨_,bQ rfl,hV (bt++[aO]) (i64.wrap (gB+1)) h⟩)
  .refine cK (dT 0 _ (cG 0 _ (eb _ (ff _ (inl ?_)))));obtain⟨bx,iS,h⟩:=aA h;refine da (bX [(3,.ag 1 (bx.map ew))] (λP ba=>?_) ?_)
   ·(try simp only[aP.down,simprocAttr]);refine l0 [⟨.h 3 [],true,_,_⟩,⟨.fn 160 [],false,_,.hole⟩] (afR bt _ iS) rfl rfl rfl (by simp only[aP.down,simprocAttr,I1.down]) rfl rfl (inl rfl) ?_;simp only[aP.down,simprocAttr,kU];exact bJ trivial
   obtain⟨a7,hk,h⟩:=aA h;refine da (bX [(2,.ag 1 (a7.map ew))] (λP ba=>?_) ?_)
   ·(try simp only[aP.down,simprocAttr]);refine l0 [⟨.h 3 [],true,_,.hole⟩,⟨.fn 162 [],false,_,.hole⟩] (afT bx _ hk) rfl rfl rfl (by simp only[aP.down,simprocAttr,I1.down]) rfl rfl (inl rfl) ?_;simp only[aP.down,simprocAttr,kU];exact bJ trivial
   exact dY aj [.ag 1 (a7.map ew)]
 obtain⟨n,h⟩:=pE h;exact q3 (inr ⟨_,jW [] rfl (dB (t:=0) (d:=.slice (a0.map c6)) rfl (jY (t:=3) (d:=.bd) (bg:=.ag 1 []) rfl rfl (.kN _) (by decide) (dB (t:=8) (d:=.ag 1 (U.map ke)) rfl (dB (t:=9) (d:=.int .i64 (U.length:Int)) rfl (dB (t:=10) (d:=.int .i64 0) rfl (jX)))))),hU n [] 0 h⟩)
theorem Qa (a0 J r) (h:zE a0 J=some r):aY ak 35 [h3 a0,.slice (J.map c6)] (.tuple [.ag 1 (r.1.map ew),.int .i64 r.2]) []:=by
 refine bA [0,1] [.tmp 4,.tmp 5] Tryz.func35 abw λbz aj bw=>al ?_;refine aD aj λ_ bB aZ ah=>?_;obtain⟨U,cm,h⟩:=aA h;refine c9 (afx a0 J _ cm) _ ?_;refine aL h (λcI h=>?_) λcI h=>?_
 .refine al ?_;exact jh (aZ _ (inr ⟨[(4,.ag 1 []),(5,.int .i64 1)],jW [] rfl (jY (t:=4) (d:=.bd) rfl rfl (.kN _) (by decide) (dB rfl (jX))),Gq [.ag 1 [],.int .i64 1]⟩))
 .refine aQ (bB _ (inl ?_));obtain⟨ah,hy,h⟩:=aA h;refine c9 (afU J _ hy) _ ?_;exact dY aj [.ag 1 (ah.map ew),.int .i64 0]
theorem Qb (a0 J r) (h:zF a0 J=some r):aY ak 13 [.slice (a0.map bj),.slice (J.map bj)] (.bool r) []:=by
 refine bA [0,1] [.tmp 4] Tryz.func13 abx λbz aj bw=>al ?_;refine aD aj λ_ bB aZ ah=>al ?_;refine aL h (λbG h=>?_) λbG h=>?_
 .exact aK aZ [.bool false]
 .refine aQ (bB _ (inl (aD aj λ_ n6 c0 _=>al ?_)));refine bc c0 λhs _ gZ bY _=>?_;show a_ ak (.loop ?gz) _ _;have gf:∀n bN,H6 a0 J n bN=some r->cy ak ?gz hs (ay [(0,.slice (a0.map bj)),(1,.slice (J.map bj)),(5,.int .i64 bN)]):=by
   refine cO λ_ fR bN h=>cN gZ λ_ cf bP dT=>aD bP λ_ n10 _ dh=>al ?_;refine aL h (λe8 h=>?_) λe8 h=>?_
   .refine aQ (n10 _ (inl (aD bP λ_ n13 eM _=>bc eM λ_ n14 dO _ _=>?_)));obtain⟨U,ck,h⟩:=aA h;obtain⟨ah,c3,h⟩:=aA h;refine ld (af ck c3) _ ?_;refine aL h (λiK h=>?_) λiK h=>?_
    .exact aK dO [.bool false]
    .refine aQ (n14 _ (n13 _ (inl (dt ?_))));exact cf _ (inr ⟨_,bQ rfl,fR (i64.wrap (bN+1)) h⟩)
   .exact cK (dh 0 _ (dT 0 _ (bY _ (n6 _ (inl (aK aj [.bool true]))))))
  exact c4 h λn h=>gf n 0 h
theorem afV (a0 J r) (h:zG a0 J=some r):aY ak 85 [c6 a0,c6 J] (.bool r) []:=by
 refine bA [0,1] [.tmp 4] Tryz.func85 aby λbz aj bw=>al ?_;refine aD aj λ_ bB aZ _=>al ?_;refine aL h (λbG h=>?_) λbG h=>?_
 .exact aK aZ [.bool false]
 .refine aQ (bB _ (inl (aD aj λ_ n6 c0 _=>al ?_)));refine aL h (λbY h=>?_) λbY h=>?_
  .exact aK c0 [.bool false]
  .refine aQ (n6 _ (inl (aD aj λ_ n10 cz _=>?_)));obtain⟨U,df,h⟩:=aA h;refine c9 (Qb a0.bL J.bL _ df) _ ?_;refine aL h (λgI h=>?_) λgI h=>?_
   .exact aK cz [.bool false]
   .exact aQ (n10 _ (inl (aK aj [.bool true])))
theorem Qc (a0 J r) (h:wc a0 J=some r):aY ak 33 [.slice (a0.map c6),.slice (J.map c6)] (.bool r) []:=by
 refine bA [0,1] [.tmp 4] Tryz.func33 abz λbz aj bw=>al ?_;refine aD aj λ_ bB aZ ah=>al ?_;refine aL h (λbG h=>?_) λbG h=>?_
 .exact aK aZ [.bool false]
 .refine aQ (bB _ (inl (aD aj λ_ n6 c0 _=>al ?_)));refine bc c0 λhs _ gZ bY _=>?_;show a_ ak (.loop ?gz) _ _;have gf:∀n bN,H7 a0 J n bN=some r->cy ak ?gz hs (ay [(0,.slice (a0.map c6)),(1,.slice (J.map c6)),(5,.int .i64 bN)]):=by
   refine cO λ_ fR bN h=>cN gZ λ_ cf bP dT=>aD bP λ_ n10 _ dh=>al ?_;refine aL h (λe8 h=>?_) λe8 h=>?_
   .refine aQ (n10 _ (inl (aD bP λ_ n13 eM _=>bc eM λ_ n14 dO _ _=>?_)));obtain⟨U,ck,h⟩:=aA h;obtain⟨ah,c3,h⟩:=aA h;obtain⟨aO,dZ,h⟩:=aA h;refine jD (af ck c3) (afV U ah _ dZ) _ ?_;refine aL h (λfi h=>?_) λfi h=>?_
    .exact aK dO [.bool false]
    .refine aQ (n14 _ (n13 _ (inl (dt ?_))));exact cf _ (inr ⟨_,bQ rfl,fR (i64.wrap (bN+1)) h⟩)
   .exact cK (dh 0 _ (dT 0 _ (bY _ (n6 _ (inl (aK aj [.bool true]))))))
  exact c4 h λn h=>gf n 0 h
theorem wS (a0 J r) (h:we a0 J=some r):aY ak 36 [.slice (a0.map c7),.slice (J.map c7)] (.bool r) []:=by
 refine bA [0,1] [.tmp 4] Tryz.func36 abA λbz aj bw=>al ?_;refine aD aj λ_ bB aZ ah=>al ?_;refine aL h (λbG h=>?_) λbG h=>?_
 .exact aK aZ [.bool false]
 .refine aQ (bB _ (inl (aD aj λ_ n6 c0 _=>al ?_)));refine bc c0 λhs _ gZ bY _=>?_;show a_ ak (.loop ?gz) _ _;have gf:∀n bN,H8 a0 J n bN=some r->cy ak ?gz hs (ay [(0,.slice (a0.map c7)),(1,.slice (J.map c7)),(5,.int .i64 bN)]):=by
   refine cO λ_ fR bN h=>cN gZ λ_ cf bP dT=>aD bP λ_ n10 _ dh=>al ?_;refine aL h (λe8 h=>?_) λe8 h=>?_
   .refine aQ (n10 _ (inl (aD bP λ_ n13 eM _=>bc eM λ_ n14 dO _ _=>?_)));obtain⟨U,ck,h⟩:=aA h;obtain⟨ah,c3,h⟩:=aA h;obtain⟨aO,dZ,h⟩:=aA h;refine jD (af ck c3) (Qc U ah _ dZ) _ ?_;refine aL h (λfi h=>?_) λfi h=>?_
    .exact aK dO [.bool false]
    .refine aQ (n14 _ (n13 _ (inl (dt ?_))));exact cf _ (inr ⟨_,bQ rfl,fR (i64.wrap (bN+1)) h⟩)
   .exact cK (dh 0 _ (dT 0 _ (bY _ (n6 _ (inl (aK aj [.bool true]))))))
  exact c4 h λn h=>gf n 0 h
theorem afW (a0 J r) (h:zH a0 J=some r):aY ak 241 [fh a0,fh J] (.bool r) []:=by
 refine bA [0,1] [.tmp 4] Tryz.func241 abB λbz aj bw=>al ?_;refine aD aj λ_ bB aZ _=>al ?_;refine aL h (λbG h=>?_) λbG h=>?_
 .exact aK aZ [.bool false]
 .refine aQ (bB _ (inl (aD aj λ_ n6 c0 _=>al ?_)));refine aL h (λbY h=>?_) λbY h=>?_
  .exact aK c0 [.bool false]
  .exact aQ (n6 _ (inl (aK aj [.bool true])))
theorem afX (a0 J r) (h:zI a0 J=some r):aY ak 187 [.slice (a0.map fh),.slice (J.map fh)] (.bool r) []:=by
 refine bA [0,1] [.tmp 4] Tryz.func187 abC λbz aj bw=>al ?_;refine aD aj λ_ bB aZ ah=>al ?_;refine aL h (λbG h=>?_) λbG h=>?_
 .exact aK aZ [.bool false]
 .refine aQ (bB _ (inl (aD aj λ_ n6 c0 _=>al ?_)));refine bc c0 λhs _ gZ bY _=>?_;show a_ ak (.loop ?gz) _ _;have gf:∀n bN,H9 a0 J n bN=some r->cy ak ?gz hs (ay [(0,.slice (a0.map fh)),(1,.slice (J.map fh)),(5,.int .i64 bN)]):=by
   refine cO λ_ fR bN h=>cN gZ λ_ cf bP dT=>aD bP λ_ n10 _ dh=>al ?_;refine aL h (λe8 h=>?_) λe8 h=>?_
   .refine aQ (n10 _ (inl (aD bP λ_ n13 eM _=>bc eM λ_ n14 dO _ _=>?_)));obtain⟨U,ck,h⟩:=aA h;obtain⟨ah,c3,h⟩:=aA h;obtain⟨aO,dZ,h⟩:=aA h;refine jD (af ck c3) (afW U ah _ dZ) _ ?_;refine aL h (λfi h=>?_) λfi h=>?_
    .exact aK dO [.bool false]
    .refine aQ (n14 _ (n13 _ (inl (dt ?_))));exact cf _ (inr ⟨_,bQ rfl,fR (i64.wrap (bN+1)) h⟩)
   .exact cK (dh 0 _ (dT 0 _ (bY _ (n6 _ (inl (aK aj [.bool true]))))))
  exact c4 h λn h=>gf n 0 h
theorem afY (a0 J r) (h:CY a0 J=some r):aY ak 188 [.slice (a0.map jr),.slice (J.map jr)] (.bool r) []:=by
 refine bA [0,1] [.tmp 4] Tryz.func188 abD λbz aj bw=>al ?_;refine aD aj λ_ bB aZ ah=>al ?_;refine aL h (λbG h=>?_) λbG h=>?_
 .exact aK aZ [.bool false]
 .refine aQ (bB _ (inl (aD aj λ_ n6 c0 _=>al ?_)));refine bc c0 λhs _ gZ bY _=>?_;show a_ ak (.loop ?gz) _ _;have gf:∀n bN,H_ a0 J n bN=some r->cy ak ?gz hs (ay [(0,.slice (a0.map jr)),(1,.slice (J.map jr)),(5,.int .i64 bN)]):=by
   refine cO λ_ fR bN h=>cN gZ λ_ cf bP dT=>aD bP λ_ n10 _ dh=>al ?_;refine aL h (λe8 h=>?_) λe8 h=>?_
   .refine aQ (n10 _ (inl (aD bP λ_ n13 eM _=>bc eM λ_ n14 dO _ _=>?_)));obtain⟨U,ck,h⟩:=aA h;obtain⟨ah,c3,h⟩:=aA h;obtain⟨aO,dZ,h⟩:=aA h;refine jD (af ck c3) (afX U ah _ dZ) _ ?_;refine aL h (λfi h=>?_) λfi h=>?_
    .exact aK dO [.bool false]
    .refine aQ (n14 _ (n13 _ (inl (dt ?_))));exact cf _ (inr ⟨_,bQ rfl,fR (i64.wrap (bN+1)) h⟩)
   .exact cK (dh 0 _ (dT 0 _ (bY _ (n6 _ (inl (aK aj [.bool true]))))))
  exact c4 h λn h=>gf n 0 h
theorem afZ (a0 J r) (h:zJ a0 J=some r):aY ak 289 [dA a0,dA J] (.bool r) []:=by
 refine bA [0,1] [.tmp 4] Tryz.func289 abE λbz aj bw=>al ?_;refine aD aj λ_ bB aZ _=>al ?_;refine aL h (λbG h=>?_) λbG h=>?_
 .exact aK aZ [.bool false]
 .refine aQ (bB _ (inl (aD aj λ_ n6 c0 _=>al ?_)));refine aL h (λbY h=>?_) λbY h=>?_
  .exact aK c0 [.bool false]
  .refine aQ (n6 _ (inl (aD aj λ_ n10 cz _=>al ?_)));refine aL h (λe8 h=>?_) λe8 h=>?_
   .exact aK cz [.bool false]
   .refine aQ (n10 _ (inl (aD aj λ_ n14 dO _=>?_)));obtain⟨U,ck,h⟩:=aA h;refine c9 (afY a0.cw J.cw _ ck) _ ?_;refine aL h (λkB h=>?_) λkB h=>?_
    .exact aK dO [.bool false]
    .exact aQ (n14 _ (inl (aK aj [.bool true])))
theorem af0 (a0 J r) (h:CZ a0 J=some r):aY ak 226 [.slice (a0.map dA),.slice (J.map dA)] (.bool r) []:=by
 refine bA [0,1] [.tmp 4] Tryz.func226 abF λbz aj bw=>al ?_;refine aD aj λ_ bB aZ ah=>al ?_;refine aL h (λbG h=>?_) λbG h=>?_
 .exact aK aZ [.bool false]
 .refine aQ (bB _ (inl (aD aj λ_ n6 c0 _=>al ?_)));refine bc c0 λhs _ gZ bY _=>?_;show a_ ak (.loop ?gz) _ _;have gf:∀n bN,Ia a0 J n bN=some r->cy ak ?gz hs (ay [(0,.slice (a0.map dA)),(1,.slice (J.map dA)),(5,.int .i64 bN)]):=by
   refine cO λ_ fR bN h=>cN gZ λ_ cf bP dT=>aD bP λ_ n10 _ dh=>al ?_;refine aL h (λe8 h=>?_) λe8 h=>?_
   .refine aQ (n10 _ (inl (aD bP λ_ n13 eM _=>bc eM λ_ n14 dO _ _=>?_)));obtain⟨U,ck,h⟩:=aA h;obtain⟨ah,c3,h⟩:=aA h;obtain⟨aO,dZ,h⟩:=aA h;refine jD (af ck c3) (afZ U ah _ dZ) _ ?_;refine aL h (λfi h=>?_) λfi h=>?_
    .exact aK dO [.bool false]
    .refine aQ (n14 _ (n13 _ (inl (dt ?_))));exact cf _ (inr ⟨_,bQ rfl,fR (i64.wrap (bN+1)) h⟩)
   .exact cK (dh 0 _ (dT 0 _ (bY _ (n6 _ (inl (aK aj [.bool true]))))))
  exact c4 h λn h=>gf n 0 h
theorem af1 (a0 J r) (h:zK a0 J=some r):aY ak 163 [b4 a0,b4 J] (.bool r) []:=by
 refine bA [0,1] [.tmp 4] Tryz.func163 abG λbz aj bw=>al ?_;refine aD aj λ_ bB aZ _=>al ?_;refine aL h (λbG h=>?_) λbG h=>?_
 .exact aK aZ [.bool false]
 .refine aQ (bB _ (inl (aD aj λ_ n6 c0 _=>al ?_)));refine aL h (λbY h=>?_) λbY h=>?_
  .exact aK c0 [.bool false]
  .refine aQ (n6 _ (inl (aD aj λ_ n10 cz _=>?_)));obtain⟨U,df,h⟩:=aA h;refine c9 (af0 a0.Body J.Body _ df) _ ?_;refine aL h (λgI h=>?_) λgI h=>?_
   .exact aK cz [.bool false]
   .exact aQ (n10 _ (inl (aK aj [.bool true])))
theorem af2 (a0 J r) (h:C0 a0 J=some r):aY ak 82 [.slice (a0.map b4),.slice (J.map b4)] (.bool r) []:=by
 refine bA [0,1] [.tmp 4] Tryz.func82 abH λbz aj bw=>al ?_;refine aD aj λ_ bB aZ ah=>al ?_;refine aL h (λbG h=>?_) λbG h=>?_
 .exact aK aZ [.bool false]
 .refine aQ (bB _ (inl (aD aj λ_ n6 c0 _=>al ?_)));refine bc c0 λhs _ gZ bY _=>?_;show a_ ak (.loop ?gz) _ _;have gf:∀n bN,Ib a0 J n bN=some r->cy ak ?gz hs (ay [(0,.slice (a0.map b4)),(1,.slice (J.map b4)),(5,.int .i64 bN)]):=by
   refine cO λ_ fR bN h=>cN gZ λ_ cf bP dT=>aD bP λ_ n10 _ dh=>al ?_;refine aL h (λe8 h=>?_) λe8 h=>?_
   .refine aQ (n10 _ (inl (aD bP λ_ n13 eM _=>bc eM λ_ n14 dO _ _=>?_)));obtain⟨U,ck,h⟩:=aA h;obtain⟨ah,c3,h⟩:=aA h;obtain⟨aO,dZ,h⟩:=aA h;refine jD (af ck c3) (af1 U ah _ dZ) _ ?_;refine aL h (λfi h=>?_) λfi h=>?_
    .exact aK dO [.bool false]
    .refine aQ (n14 _ (n13 _ (inl (dt ?_))));exact cf _ (inr ⟨_,bQ rfl,fR (i64.wrap (bN+1)) h⟩)
   .exact cK (dh 0 _ (dT 0 _ (bY _ (n6 _ (inl (aK aj [.bool true]))))))
  exact c4 h λn h=>gf n 0 h
theorem af3 (a0 J r) (h:zL a0 J=some r):aY ak 164 [hj a0,hj J] (.bool r) []:=by
 refine bA [0,1] [.tmp 4] Tryz.func164 abI λbz aj bw=>al ?_;refine aD aj λ_ bB aZ _=>al ?_;refine aL h (λbG h=>?_) λbG h=>?_
 .exact aK aZ [.bool false]
 .refine aQ (bB _ (inl (aD aj λ_ n6 c0 _=>?_)));obtain⟨U,hy,h⟩:=aA h;refine c9 (Qb a0.bL J.bL _ hy) _ ?_;refine aL h (λfP h=>?_) λfP h=>?_
  .exact aK c0 [.bool false]
  .exact aQ (n6 _ (inl (aK aj [.bool true])))
theorem af4 (a0 J r) (h:C1 a0 J=some r):aY ak 83 [.slice (a0.map hj),.slice (J.map hj)] (.bool r) []:=by
 refine bA [0,1] [.tmp 4] Tryz.func83 abJ λbz aj bw=>al ?_;refine aD aj λ_ bB aZ ah=>al ?_;refine aL h (λbG h=>?_) λbG h=>?_
 .exact aK aZ [.bool false]
 .refine aQ (bB _ (inl (aD aj λ_ n6 c0 _=>al ?_)));refine bc c0 λhs _ gZ bY _=>?_;show a_ ak (.loop ?gz) _ _;have gf:∀n bN,Ic a0 J n bN=some r->cy ak ?gz hs (ay [(0,.slice (a0.map hj)),(1,.slice (J.map hj)),(5,.int .i64 bN)]):=by
   refine cO λ_ fR bN h=>cN gZ λ_ cf bP dT=>aD bP λ_ n10 _ dh=>al ?_;refine aL h (λe8 h=>?_) λe8 h=>?_
   .refine aQ (n10 _ (inl (aD bP λ_ n13 eM _=>bc eM λ_ n14 dO _ _=>?_)));obtain⟨U,ck,h⟩:=aA h;obtain⟨ah,c3,h⟩:=aA h;obtain⟨aO,dZ,h⟩:=aA h;refine jD (af ck c3) (af3 U ah _ dZ) _ ?_;refine aL h (λfi h=>?_) λfi h=>?_
    .exact aK dO [.bool false]
    .refine aQ (n14 _ (n13 _ (inl (dt ?_))));exact cf _ (inr ⟨_,bQ rfl,fR (i64.wrap (bN+1)) h⟩)
   .exact cK (dh 0 _ (dT 0 _ (bY _ (n6 _ (inl (aK aj [.bool true]))))))
  exact c4 h λn h=>gf n 0 h
theorem af5 (a0 J r) (h:zM a0 J=some r):aY ak 65 [cq a0,cq J] (.bool r) []:=by
 refine bA [0,1] [.tmp 4] Tryz.func65 abK λbz aj bw=>al ?_;refine aD aj λ_ bB aZ _=>al ?_;refine aL h (λbG h=>?_) λbG h=>?_
 .exact aK aZ [.bool false]
 .refine aQ (bB _ (inl (aD aj λ_ n6 c0 _=>al ?_)));refine aL h (λbY h=>?_) λbY h=>?_
  .exact aK c0 [.bool false]
  .refine aQ (n6 _ (inl (aD aj λ_ n10 cz _=>al ?_)));refine aL h (λe8 h=>?_) λe8 h=>?_
   .exact aK cz [.bool false]
   .exact aQ (n10 _ (inl (aK aj [.bool true])))
theorem af6 (a0 J r) (h:C2 a0 J=some r):aY ak 22 [.slice (a0.map cq),.slice (J.map cq)] (.bool r) []:=by
 refine bA [0,1] [.tmp 4] Tryz.func22 II λbz aj bw=>al ?_;refine aD aj λ_ bB aZ ah=>al ?_;refine aL h (λbG h=>?_) λbG h=>?_
 .exact aK aZ [.bool false]
 .refine aQ (bB _ (inl (aD aj λ_ n6 c0 _=>al ?_)));refine bc c0 λhs _ gZ bY _=>?_;show a_ ak (.loop ?gz) _ _;have gf:∀n bN,Ie a0 J n bN=some r->cy ak ?gz hs (ay [(0,.slice (a0.map cq)),(1,.slice (J.map cq)),(5,.int .i64 bN)]):=by
   refine cO λ_ fR bN h=>cN gZ λ_ cf bP dT=>aD bP λ_ n10 _ dh=>al ?_;refine aL h (λe8 h=>?_) λe8 h=>?_
   .refine aQ (n10 _ (inl (aD bP λ_ n13 eM _=>bc eM λ_ n14 dO _ _=>?_)));obtain⟨U,ck,h⟩:=aA h;obtain⟨ah,c3,h⟩:=aA h;obtain⟨aO,dZ,h⟩:=aA h;refine jD (af ck c3) (af5 U ah _ dZ) _ ?_;refine aL h (λfi h=>?_) λfi h=>?_
    .exact aK dO [.bool false]
    .refine aQ (n14 _ (n13 _ (inl (dt ?_))));exact cf _ (inr ⟨_,bQ rfl,fR (i64.wrap (bN+1)) h⟩)
   .exact cK (dh 0 _ (dT 0 _ (bY _ (n6 _ (inl (aK aj [.bool true]))))))
  exact c4 h λn h=>gf n 0 h
theorem Qd (a0 J r) (h:zN a0 J=some r):aY ak 84 [.slice (a0.map cd),.slice (J.map cd)] (.bool r) []:=by
 refine bA [0,1] [.tmp 4] Tryz.func84 abL λbz aj bw=>al ?_;refine aD aj λ_ bB aZ ah=>al ?_;refine aL h (λbG h=>?_) λbG h=>?_
 .exact aK aZ [.bool false]
 .refine aQ (bB _ (inl (aD aj λ_ n6 c0 _=>al ?_)));refine bc c0 λhs _ gZ bY _=>?_;show a_ ak (.loop ?gz) _ _;have gf:∀n bN,Ig a0 J n bN=some r->cy ak ?gz hs (ay [(0,.slice (a0.map cd)),(1,.slice (J.map cd)),(5,.int .i64 bN)]):=by
   refine cO λ_ fR bN h=>cN gZ λ_ cf bP dT=>aD bP λ_ n10 _ dh=>al ?_;refine aL h (λe8 h=>?_) λe8 h=>?_
   .refine aQ (n10 _ (inl (aD bP λ_ n13 eM _=>bc eM λ_ n14 dO _ _=>?_)));obtain⟨U,ck,h⟩:=aA h;obtain⟨ah,c3,h⟩:=aA h;refine ld (af ck c3) _ ?_;refine aL h (λiK h=>?_) λiK h=>?_
    .exact aK dO [.bool false]
    .refine aQ (n14 _ (n13 _ (inl (dt ?_))));exact cf _ (inr ⟨_,bQ rfl,fR (i64.wrap (bN+1)) h⟩)
   .exact cK (dh 0 _ (dT 0 _ (bY _ (n6 _ (inl (aK aj [.bool true]))))))
  exact c4 h λn h=>gf n 0 h
theorem af7 (a0 J r) (h:zO a0 J=some r):aY ak 32 [h3 a0,h3 J] (.bool r) []:=by
 refine bA [0,1] [.tmp 4] Tryz.func32 abM λbz aj bw=>al ?_;refine aD aj λ_ bB aZ ah=>?_;obtain⟨U,cm,h⟩:=aA h;refine c9 (af2 a0.dU J.dU _ cm) _ ?_;refine aL h (λcI h=>?_) λcI h=>?_
 .exact aK aZ [.bool false]
 .refine aQ (bB _ (inl (aD aj λ_ dc ei _=>?_)));obtain⟨ah,jx,h⟩:=aA h;refine c9 (af4 a0.cU J.cU _ jx) _ ?_;refine aL h (λfQ h=>?_) λfQ h=>?_
  .exact aK ei [.bool false]
  .refine aQ (dc _ (inl (aD aj λ_ n12 lf _=>?_)));obtain⟨aO,dF,h⟩:=aA h;refine c9 (af6 a0.gV J.gV _ dF) _ ?_;refine aL h (λeF h=>?_) λeF h=>?_
   .exact aK lf [.bool false]
   .refine aQ (n12 _ (inl (aD aj λ_ n17 j1 _=>?_)));obtain⟨bx,hW,h⟩:=aA h;refine c9 (Qd a0.gP J.gP _ hW) _ ?_;refine aL h (λfz h=>?_) λfz h=>?_
    .exact aK j1 [.bool false]
    .refine aQ (n17 _ (inl (aD aj λ_ n22 l8 _=>?_)));obtain⟨a7,kj,h⟩:=aA h;refine c9 (Qd a0.gQ J.gQ _ kj) _ ?_;refine aL h (λnJ h=>?_) λnJ h=>?_
     .exact aK l8 [.bool false]
     .exact aQ (n22 _ (inl (aK aj [.bool true])))
theorem wT (a0 r) (h:rh a0=some r):aY ak 66 [.int .i64 a0] (.str r) []:=by
 refine bA [] [.tmp 2] Tryz.func66 abN λbz aj bw=>al ?_;refine aD aj λ_ bB aZ _=>al ?_;refine aL h (λbG h=>?_) λbG h=>?_
 .exact aK aZ [.str ([109,48]:alO)]
 .refine aQ (bB _ (inl (al ?_)));refine aD aj λ_ dc ei _=>bc ei λhs _ gZ bY _=>?_;have gf:∀n lJ dn,tY n lJ dn=some r->cy ak Pg hs (ay [(0,.int .i64 lJ),(3,.str dn)]):=by
   refine cO λ_ fR lJ dn h=>cN gZ λ_ cf bP dT=>aD bP λ_ n10 _ dh=>al ?_;refine aL h (λe8 h=>?_) λe8 h=>?_
   .refine aQ (n10 _ (inl (bc bP λ_ n13 _ _ _=>?_)));obtain⟨u16,ey,h⟩:=aA h;(try simp only[ph.down,Nat.zero_add,Nat.add_zero,reduceAdd]at ey);refine e0 (af (@VA .i64 10 (by decide)) (af (@Vv ak 3 5 .u8 rfl rfl) (af (show∀s,fa ak s 173 1 [(0,.int .u8 (u8.wrap (i64.wrap (48+(Int.tmod lJ 10)))))]=some (.ag 1 [.int .u8 (u8.wrap (i64.wrap (48+(Int.tmod lJ 10))))],s)from λs=>by kernel_rfl) (af ((@Vw ak 173 9 5 rfl rfl rfl).2.2) (af @Vy (af @Vx (af ey (af @Np @Nq)))))))) [(0,.int .i64 lJ),(3,.str ([(qJ (i64.wrap (48+(Int.tmod lJ 10))))]++dn))] ?_;refine Px (@Vz .i64 10 (by decide)) [(0,.int .i64 (i64.wrap (Int.tdiv lJ 10))),(3,.str ([(qJ (i64.wrap (48+(Int.tmod lJ 10))))]++dn))] ?_;exact n13 _ (cf _ (inr ⟨_,bQ rfl,fR (i64.wrap (Int.tdiv lJ 10)) ([(qJ (i64.wrap (48+(Int.tmod lJ 10))))]++dn) h⟩))
   .refine cK (dh 0 _ (dT 0 _ (bY _ (dc _ (inl ?_)))));obtain⟨qv,dZ,h⟩:=aA h;(try simp only[ph.down,Nat.zero_add,Nat.add_zero,reduceAdd]at dZ);refine e0 (af dZ (af @Np @Nq)) [(2,.str (([109]:alO)++dn))] ?_;exact dY aj [.str (([109]:alO)++dn)]
  exact c4 h λn h=>gf n a0 ([]:alO) h
theorem af8 (a0 J r) (h:C4 a0 J=some r):aY ak 122 [.ag 2 (a0.map fh),.int .i64 J] (.int .i64 r.1) [.ag 2 (r.2.map fh),.hole]:=by
 refine bA [0] [.tmp 4] Tryz.func122 abO λbz aj bw=>al ?_;refine aD aj λ_ bB aZ ah=>al ?_;refine bc aZ λdI _ bU bG _=>?_;show a_ ak (.loop ?dN) _ _;have dV:∀n bq aU aG,wg n bq aU aG=some r->cy ak ?dN dI (ay [(0,.ag 2 (bq.map fh)),(1,.int .i64 aU),(5,.int .i64 aG)]):=by
  refine cO λ_ dP bq aU aG h=>cN bU λ_ dd b9 a7=>aD b9 λ_ n6 _ bM=>al ?_;refine aL h (λbY h=>?_) λbY h=>?_
  .refine aQ (n6 _ (inl (aD b9 λ_ cf bP _=>bc bP λ_ n10 _ _ _=>?_)));obtain⟨U,df,h⟩:=aA h;refine da (bX [(0,.ag 2 ((List.set bq (Int.toNat aG) (ct.mk aU U.Value)).map fh)),(1,.int .i64 aU),(5,.int .i64 aG)] (λP ba=>?_) ?_)
   .simp only[aP.down,simprocAttr,df,br df,cM,cJ];exact bJ (af df (af (br df) @cM))
   refine ws [(0,.ag 2 ((List.set bq (Int.toNat aG) (ct.mk aU U.Value)).map fh)),(1,.int .i64 (i64.wrap (aU+1))),(5,.int .i64 aG)] ?_;obtain⟨ah,ey,h⟩:=aA h;refine da (bX [(0,.ag 2 ((List.set (List.set bq (Int.toNat aG) (ct.mk aU U.Value)) (Int.toNat aG) (ct.mk ah.Kind (i64.wrap (aU+1)))).map fh)),(1,.int .i64 (i64.wrap (aU+1))),(5,.int .i64 aG)] (λP ba=>?_) ?_)
   .simp only[aP.down,simprocAttr,ey,br ey,cM,cJ];exact bJ (af ey (af (br ey) @cM))
   refine wr [(0,.ag 2 ((List.set (List.set bq (Int.toNat aG) (ct.mk aU U.Value)) (Int.toNat aG) (ct.mk ah.Kind (i64.wrap (aU+1)))).map fh)),(1,.int .i64 (i64.wrap ((i64.wrap (aU+1))+1))),(5,.int .i64 aG)] ?_;refine n10 _ (cf _ (inl (wr [(0,.ag 2 ((List.set (List.set bq (Int.toNat aG) (ct.mk aU U.Value)) (Int.toNat aG) (ct.mk ah.Kind (i64.wrap (aU+1)))).map fh)),(1,.int .i64 (i64.wrap ((i64.wrap (aU+1))+1))),(5,.int .i64 (i64.wrap (aG+1)))] ?_)));exact dd _ (inr ⟨_,bQ rfl,dP (List.set (List.set bq (Int.toNat aG) (ct.mk aU U.Value)) (Int.toNat aG) (ct.mk ah.Kind (i64.wrap (aU+1)))) (i64.wrap ((i64.wrap (aU+1))+1)) (i64.wrap (aG+1)) h⟩)
  .refine cK (bM 0 _ (a7 0 _ (bG _ (bB _ (inl (al ?_))))));exact jh (aj _ (inl (jU [.int .i64 aU] rfl (by cases fC h;rfl) (by decide) (j_ (ka (by cases fC h;rfl) rfl rfl rfl (k_ (kb)))))))
 exact c4 h λn h=>dV n a0 J 0 h
theorem af9 (a0 J r) (h:C5 a0 J=some r):aY ak 123 [.ag 1 (a0.map js),.int .i64 J] (.int .i64 r.1) [.ag 1 (r.2.map js),.hole]:=by
 refine bA [0] [.tmp 4] Tryz.func123 abP λbz aj bw=>al ?_;refine aD aj λ_ bB aZ ah=>al ?_;refine bc aZ λdI _ bU bG _=>?_;show a_ ak (.loop ?dN) _ _;have dV:∀n bq aU aG,wh n bq aU aG=some r->cy ak ?dN dI (ay [(0,.ag 1 (bq.map js)),(1,.int .i64 aU),(5,.int .i64 aG)]):=by
  refine cO λ_ dP bq aU aG h=>cN bU λ_ dd b9 a7=>aD b9 λ_ n6 _ bM=>al ?_;refine aL h (λbY h=>?_) λbY h=>?_
  .refine aQ (n6 _ (inl (aD b9 λ_ cf bP _=>bc bP λ_ n10 _ _ _=>?_)));obtain⟨U,df,h⟩:=aA h;obtain⟨ah,dw,h⟩:=aA h;refine hM (bX [(0,.ag 1 ((List.set bq (Int.toNat aG) ah.2).map js)),(1,.int .i64 ah.1),(5,.int .i64 aG)] (λP ba=>?_) ?_)
   ·(try simp only[aP.down,simprocAttr,df,br df]);refine l0 [⟨.h 0 [Int.toNat aG],true,_,_⟩,⟨.int .i64 aU,false,_,.hole⟩] (af8 U aU _ dw) rfl rfl rfl (by simp only[aP.down,simprocAttr,df,br df,mo,lE,hN,hP,hQ,dr,or_true,true_or, @cr _ fh fh (λ_=>IC _)]) rfl rfl (inl rfl) ?_;simp only[aP.down,simprocAttr,df,br df,kU,(vf (br df)),vg];exact bJ (af df (br df))
   refine n10 _ (cf _ (inl (wr [(0,.ag 1 ((List.set bq (Int.toNat aG) ah.2).map js)),(1,.int .i64 ah.1),(5,.int .i64 (i64.wrap (aG+1)))] ?_)));exact dd _ (inr ⟨_,bQ rfl,dP (List.set bq (Int.toNat aG) ah.2) ah.1 (i64.wrap (aG+1)) h⟩)
  .refine cK (bM 0 _ (a7 0 _ (bG _ (bB _ (inl (al ?_))))));exact jh (aj _ (inl (jU [.int .i64 aU] rfl (by cases fC h;rfl) (by decide) (j_ (ka (by cases fC h;rfl) rfl rfl rfl (k_ (kb)))))))
 exact c4 h λn h=>dV n a0 J 0 h
theorem af_ (a0 J r) (h:C6 a0 J=some r):aY ak 165 [.ag 4 (a0.map hC),.int .i64 J] (.int .i64 r.1) [.ag 4 (r.2.map hC),.hole]:=by
 refine bA [0] [.tmp 4] Tryz.func165 abQ λbz aj bw=>al ?_;refine aD aj λ_ bB aZ ah=>al ?_;refine bc aZ λdI _ bU bG bx=>?_;show a_ ak (.loop ?dN) _ _;have dV:∀n bq aU aG,wi n bq aU aG=some r->cy ak ?dN dI (ay [(0,.ag 4 (bq.map hC)),(1,.int .i64 aU),(5,.int .i64 aG)]):=by
  refine cO λ_ dP bq aU aG h=>cN bU λ_ dd b9 a7=>aD b9 λ_ n6 _ bM=>al ?_;refine aL h (λbY h=>?_) λbY h=>?_
  .refine aQ (n6 _ (inl (aD b9 λ_ cf bP _=>bc bP λ_ n10 _ _ _=>?_)));obtain⟨U,df,h⟩:=aA h;refine da (bX [(0,.ag 4 ((List.set bq (Int.toNat aG) (bT.mk aU U.Number U.Name U.cw)).map hC)),(1,.int .i64 aU),(5,.int .i64 aG)] (λP ba=>?_) ?_)
   .simp only[aP.down,simprocAttr,df,br df,cM,cJ];exact bJ (af df (af (br df) @cM))
   refine ws [(0,.ag 4 ((List.set bq (Int.toNat aG) (bT.mk aU U.Number U.Name U.cw)).map hC)),(1,.int .i64 (i64.wrap (aU+1))),(5,.int .i64 aG)] ?_;obtain⟨ah,ey,h⟩:=aA h;refine da (bX [(0,.ag 4 ((List.set (List.set bq (Int.toNat aG) (bT.mk aU U.Number U.Name U.cw)) (Int.toNat aG) (bT.mk ah.Kind (i64.wrap (aU+1)) ah.Name ah.cw)).map hC)),(1,.int .i64 (i64.wrap (aU+1))),(5,.int .i64 aG)] (λP ba=>?_) ?_)
   .simp only[aP.down,simprocAttr,ey,br ey,cM,cJ];exact bJ (af ey (af (br ey) @cM))
   refine ws [(0,.ag 4 ((List.set (List.set bq (Int.toNat aG) (bT.mk aU U.Number U.Name U.cw)) (Int.toNat aG) (bT.mk ah.Kind (i64.wrap (aU+1)) ah.Name ah.cw)).map hC)),(1,.int .i64 (i64.wrap ((i64.wrap (aU+1))+1))),(5,.int .i64 aG)] ?_;obtain⟨aO,dZ,h⟩:=aA h;obtain⟨bx,hW,h⟩:=aA h;refine da (bX [(0,.ag 4 ((List.set (List.set (List.set bq (Int.toNat aG) (bT.mk aU U.Number U.Name U.cw)) (Int.toNat aG) (bT.mk ah.Kind (i64.wrap (aU+1)) ah.Name ah.cw)) (Int.toNat aG) (bT.mk bx.Kind bx.Number aO bx.cw)).map hC)),(1,.int .i64 (i64.wrap ((i64.wrap (aU+1))+1))),(5,.int .i64 aG)] (λP ba=>?_) ?_)
   ·(try simp only[aP.down,simprocAttr,hW,br hW,cM,cJ]);refine eB (wT (i64.wrap ((i64.wrap (aU+1))+1)) _ dZ) (hK:= ?_);simp only[aP.down,simprocAttr,hW,br hW,cM,cJ];exact bJ (af hW (af (br hW) @cM))
   refine ws [(0,.ag 4 ((List.set (List.set (List.set bq (Int.toNat aG) (bT.mk aU U.Number U.Name U.cw)) (Int.toNat aG) (bT.mk ah.Kind (i64.wrap (aU+1)) ah.Name ah.cw)) (Int.toNat aG) (bT.mk bx.Kind bx.Number aO bx.cw)).map hC)),(1,.int .i64 (i64.wrap ((i64.wrap ((i64.wrap (aU+1))+1))+1))),(5,.int .i64 aG)] ?_;obtain⟨a7,hk,h⟩:=aA h;obtain⟨bM,lM,h⟩:=aA h;refine hM (bX [(0,.ag 4 ((List.set (List.set (List.set (List.set bq (Int.toNat aG) (bT.mk aU U.Number U.Name U.cw)) (Int.toNat aG) (bT.mk ah.Kind (i64.wrap (aU+1)) ah.Name ah.cw)) (Int.toNat aG) (bT.mk bx.Kind bx.Number aO bx.cw)) (Int.toNat aG) (bT.mk a7.Kind a7.Number a7.Name bM.2)).map hC)),(1,.int .i64 bM.1),(5,.int .i64 aG)] (λP ba=>?_) ?_)
   ·(try simp only[aP.down,simprocAttr,hk,br hk]);refine l0 [⟨.h 0 [Int.toNat aG,3],true,_,_⟩,⟨.int .i64 (i64.wrap ((i64.wrap ((i64.wrap (aU+1))+1))+1)),false,_,.hole⟩] (af9 a7.cw (i64.wrap ((i64.wrap ((i64.wrap (aU+1))+1))+1)) _ lM) rfl rfl rfl (by simp only[aP.down,simprocAttr,hk,br hk,mo,lE,hN,hP,hQ,dr,or_true,true_or, @cr _ js jr (λ_=>IE _)]) rfl rfl (inl rfl) ?_;simp only[aP.down,simprocAttr,hk,br hk,kU,(vf (br hk)),vg];exact bJ (af hk (br hk))
   refine n10 _ (cf _ (inl (wr [(0,.ag 4 ((List.set (List.set (List.set (List.set bq (Int.toNat aG) (bT.mk aU U.Number U.Name U.cw)) (Int.toNat aG) (bT.mk ah.Kind (i64.wrap (aU+1)) ah.Name ah.cw)) (Int.toNat aG) (bT.mk bx.Kind bx.Number aO bx.cw)) (Int.toNat aG) (bT.mk a7.Kind a7.Number a7.Name bM.2)).map hC)),(1,.int .i64 bM.1),(5,.int .i64 (i64.wrap (aG+1)))] ?_)));exact dd _ (inr ⟨_,bQ rfl,dP (List.set (List.set (List.set (List.set bq (Int.toNat aG) (bT.mk aU U.Number U.Name U.cw)) (Int.toNat aG) (bT.mk ah.Kind (i64.wrap (aU+1)) ah.Name ah.cw)) (Int.toNat aG) (bT.mk bx.Kind bx.Number aO bx.cw)) (Int.toNat aG) (bT.mk a7.Kind a7.Number a7.Name bM.2)) bM.1 (i64.wrap (aG+1)) h⟩)
  .refine cK (bM 0 _ (a7 0 _ (bG _ (bB _ (inl (al ?_))))));exact jh (aj _ (inl (jU [.int .i64 aU] rfl (by cases fC h;rfl) (by decide) (j_ (ka (by cases fC h;rfl) rfl rfl rfl (k_ (kb)))))))
 exact c4 h λn h=>dV n a0 J 0 h
theorem aga (a0 J r) (h:C7 a0 J=some r):aY ak 86 [.ag 3 (a0.map fY),.int .i64 J] (.int .i64 r.1) [.ag 3 (r.2.map fY),.hole]:=by
 refine bA [0] [.tmp 4] Tryz.func86 abR λbz aj bw=>al ?_;refine aD aj λ_ bB aZ ah=>al ?_;refine bc aZ λdI _ bU bG bx=>?_;show a_ ak (.loop ?dN) _ _;have dV:∀n bq aU aG,wj n bq aU aG=some r->cy ak ?dN dI (ay [(0,.ag 3 (bq.map fY)),(1,.int .i64 aU),(5,.int .i64 aG)]):=by
  refine cO λ_ dP bq aU aG h=>cN bU λ_ dd b9 a7=>aD b9 λ_ n6 _ bM=>al ?_;refine aL h (λbY h=>?_) λbY h=>?_
  .refine aQ (n6 _ (inl (aD b9 λ_ cf bP _=>bc bP λ_ n10 _ _ _=>?_)));obtain⟨U,df,h⟩:=aA h;obtain⟨ah,dw,h⟩:=aA h;refine da (bX [(0,.ag 3 ((List.set bq (Int.toNat aG) (bs.mk U ah.db ah.Body)).map fY)),(1,.int .i64 aU),(5,.int .i64 aG)] (λP ba=>?_) ?_)
   ·(try simp only[aP.down,simprocAttr,dw,br dw,cM,cJ]);refine eB (wT aU _ df) (hK:= ?_);simp only[aP.down,simprocAttr,dw,br dw,cM,cJ];exact bJ (af dw (af (br dw) @cM))
   refine ws [(0,.ag 3 ((List.set bq (Int.toNat aG) (bs.mk U ah.db ah.Body)).map fY)),(1,.int .i64 (i64.wrap (aU+1))),(5,.int .i64 aG)] ?_;obtain⟨aO,ck,h⟩:=aA h;refine da (bX [(0,.ag 3 ((List.set (List.set bq (Int.toNat aG) (bs.mk U ah.db ah.Body)) (Int.toNat aG) (bs.mk aO.Name (i64.wrap (aU+1)) aO.Body)).map fY)),(1,.int .i64 (i64.wrap (aU+1))),(5,.int .i64 aG)] (λP ba=>?_) ?_)
   .simp only[aP.down,simprocAttr,ck,br ck,cM,cJ];exact bJ (af ck (af (br ck) @cM))
   refine ws [(0,.ag 3 ((List.set (List.set bq (Int.toNat aG) (bs.mk U ah.db ah.Body)) (Int.toNat aG) (bs.mk aO.Name (i64.wrap (aU+1)) aO.Body)).map fY)),(1,.int .i64 (i64.wrap ((i64.wrap (aU+1))+1))),(5,.int .i64 aG)] ?_;obtain⟨bx,hW,h⟩:=aA h;obtain⟨a7,iS,h⟩:=aA h;refine hM (bX [(0,.ag 3 ((List.set (List.set (List.set bq (Int.toNat aG) (bs.mk U ah.db ah.Body)) (Int.toNat aG) (bs.mk aO.Name (i64.wrap (aU+1)) aO.Body)) (Int.toNat aG) (bs.mk bx.Name bx.db a7.2)).map fY)),(1,.int .i64 a7.1),(5,.int .i64 aG)] (λP ba=>?_) ?_)
   ·(try simp only[aP.down,simprocAttr,hW,br hW]);refine l0 [⟨.h 0 [Int.toNat aG,2],true,_,_⟩,⟨.int .i64 (i64.wrap ((i64.wrap (aU+1))+1)),false,_,.hole⟩] (af_ bx.Body (i64.wrap ((i64.wrap (aU+1))+1)) _ iS) rfl rfl rfl (by simp only[aP.down,simprocAttr,hW,br hW,mo,lE,hN,hP,hQ,dr,or_true,true_or, @cr _ hC dA (λ_=>IF _)]) rfl rfl (inl rfl) ?_;simp only[aP.down,simprocAttr,hW,br hW,kU,(vf (br hW)),vg];exact bJ (af hW (br hW))
   refine n10 _ (cf _ (inl (wr [(0,.ag 3 ((List.set (List.set (List.set bq (Int.toNat aG) (bs.mk U ah.db ah.Body)) (Int.toNat aG) (bs.mk aO.Name (i64.wrap (aU+1)) aO.Body)) (Int.toNat aG) (bs.mk bx.Name bx.db a7.2)).map fY)),(1,.int .i64 a7.1),(5,.int .i64 (i64.wrap (aG+1)))] ?_)));exact dd _ (inr ⟨_,bQ rfl,dP (List.set (List.set (List.set bq (Int.toNat aG) (bs.mk U ah.db ah.Body)) (Int.toNat aG) (bs.mk aO.Name (i64.wrap (aU+1)) aO.Body)) (Int.toNat aG) (bs.mk bx.Name bx.db a7.2)) a7.1 (i64.wrap (aG+1)) h⟩)
  .refine cK (bM 0 _ (a7 0 _ (bG _ (bB _ (inl (al ?_))))));exact jh (aj _ (inl (jU [.int .i64 aU] rfl (by cases fC h;rfl) (by decide) (j_ (ka (by cases fC h;rfl) rfl rfl rfl (k_ (kb)))))))
 exact c4 h λn h=>dV n a0 J 0 h
theorem Qe (a0 J r) (h:zP a0 J=some r):aY ak 15 [.ag 1 (a0.map bj),.int .i64 J] (.int .i64 r.1) [.ag 1 (r.2.map bj),.hole]:=by
 refine bA [0] [.tmp 4] Tryz.func15 IJ λbz aj bw=>al ?_;refine aD aj λ_ bB aZ _=>al ?_;refine bc aZ λdI _ bU bG _=>?_;show a_ ak (.loop ?dN) _ _;have dV:∀n bq aU aG,wk n bq aU aG=some r->cy ak ?dN dI (ay [(0,.ag 1 (bq.map bj)),(1,.int .i64 aU),(5,.int .i64 aG)]):=by
  refine cO λ_ dP bq aU aG h=>cN bU λ_ dd b9 a7=>aD b9 λ_ n6 _ bM=>al ?_;refine aL h (λbY h=>?_) λbY h=>?_
  .refine aQ (n6 _ (inl (aD b9 λ_ cf bP _=>bc bP λ_ n10 _ _ _=>?_)));obtain⟨U,df,h⟩:=aA h;refine da (bX [(0,.ag 1 ((List.set bq (Int.toNat aG) aU).map bj)),(1,.int .i64 aU),(5,.int .i64 aG)] (λP ba=>?_) ?_)
   .simp only[aP.down,simprocAttr,df,br df,cM,cJ];exact bJ (af df (af (br df) @cM))
   refine wr [(0,.ag 1 ((List.set bq (Int.toNat aG) aU).map bj)),(1,.int .i64 (i64.wrap (aU+1))),(5,.int .i64 aG)] ?_;refine n10 _ (cf _ (inl (wr [(0,.ag 1 ((List.set bq (Int.toNat aG) aU).map bj)),(1,.int .i64 (i64.wrap (aU+1))),(5,.int .i64 (i64.wrap (aG+1)))] ?_)));exact dd _ (inr ⟨_,bQ rfl,dP (List.set bq (Int.toNat aG) aU) (i64.wrap (aU+1)) (i64.wrap (aG+1)) h⟩)
  .refine cK (bM 0 _ (a7 0 _ (bG _ (bB _ (inl (al ?_))))));exact jh (aj _ (inl (jU [.int .i64 aU] rfl (by cases fC h;rfl) (by decide) (j_ (ka (by cases fC h;rfl) rfl rfl rfl (k_ (kb)))))))
 exact c4 h λn h=>dV n a0 J 0 h
theorem agb (a0 J r) (h:C8 a0 J=some r):aY ak 87 [.ag 2 (a0.map gi),.int .i64 J] (.int .i64 r.1) [.ag 2 (r.2.map gi),.hole]:=by
 refine bA [0] [.tmp 4] Tryz.func87 abS λbz aj bw=>al ?_;refine aD aj λ_ bB aZ ah=>al ?_;refine bc aZ λdI _ bU bG _=>?_;show a_ ak (.loop ?dN) _ _;have dV:∀n bq aU aG,wm n bq aU aG=some r->cy ak ?dN dI (ay [(0,.ag 2 (bq.map gi)),(1,.int .i64 aU),(5,.int .i64 aG)]):=by
  refine cO λ_ dP bq aU aG h=>cN bU λ_ dd b9 a7=>aD b9 λ_ n6 _ bM=>al ?_;refine aL h (λbY h=>?_) λbY h=>?_
  .refine aQ (n6 _ (inl (aD b9 λ_ cf bP _=>bc bP λ_ n10 _ _ _=>?_)));obtain⟨U,df,h⟩:=aA h;refine da (bX [(0,.ag 2 ((List.set bq (Int.toNat aG) (dR.mk aU U.bL)).map gi)),(1,.int .i64 aU),(5,.int .i64 aG)] (λP ba=>?_) ?_)
   .simp only[aP.down,simprocAttr,df,br df,cM,cJ];exact bJ (af df (af (br df) @cM))
   refine ws [(0,.ag 2 ((List.set bq (Int.toNat aG) (dR.mk aU U.bL)).map gi)),(1,.int .i64 (i64.wrap (aU+1))),(5,.int .i64 aG)] ?_;obtain⟨ah,ey,h⟩:=aA h;obtain⟨aO,ck,h⟩:=aA h;refine hM (bX [(0,.ag 2 ((List.set (List.set bq (Int.toNat aG) (dR.mk aU U.bL)) (Int.toNat aG) (dR.mk ah.b6 aO.2)).map gi)),(1,.int .i64 aO.1),(5,.int .i64 aG)] (λP ba=>?_) ?_)
   ·(try simp only[aP.down,simprocAttr,ey,br ey]);refine l0 [⟨.h 0 [Int.toNat aG,1],true,_,_⟩,⟨.int .i64 (i64.wrap (aU+1)),false,_,.hole⟩] (Qe ah.bL (i64.wrap (aU+1)) _ ck) rfl rfl rfl (by simp only[aP.down,simprocAttr,ey,br ey,PC.down]) rfl rfl (inl rfl) ?_;simp only[aP.down,simprocAttr,ey,br ey,kU,(vf (br ey)),vg];exact bJ (af ey (br ey))
   refine n10 _ (cf _ (inl (wr [(0,.ag 2 ((List.set (List.set bq (Int.toNat aG) (dR.mk aU U.bL)) (Int.toNat aG) (dR.mk ah.b6 aO.2)).map gi)),(1,.int .i64 aO.1),(5,.int .i64 (i64.wrap (aG+1)))] ?_)));exact dd _ (inr ⟨_,bQ rfl,dP (List.set (List.set bq (Int.toNat aG) (dR.mk aU U.bL)) (Int.toNat aG) (dR.mk ah.b6 aO.2)) aO.1 (i64.wrap (aG+1)) h⟩)
  .refine cK (bM 0 _ (a7 0 _ (bG _ (bB _ (inl (al ?_))))));exact jh (aj _ (inl (jU [.int .i64 aU] rfl (by cases fC h;rfl) (by decide) (j_ (ka (by cases fC h;rfl) rfl rfl rfl (k_ (kb)))))))
 exact c4 h λn h=>dV n a0 J 0 h
theorem agc (a0 J r) (h:C9 a0 J=some r):aY ak 23 [.ag 3 (a0.map cq),.int .i64 J] (.int .i64 r.1) [.ag 3 (r.2.map cq),.hole]:=by
 refine bA [0] [.tmp 4] Tryz.func23 IK λbz aj bw=>al ?_;refine aD aj λ_ bB aZ ah=>al ?_;refine bc aZ λdI _ bU bG bx=>?_;show a_ ak (.loop ?dN) _ _;have dV:∀n bq aU aG,wo n bq aU aG=some r->cy ak ?dN dI (ay [(0,.ag 3 (bq.map cq)),(1,.int .i64 aU),(5,.int .i64 aG)]):=by
  refine cO λ_ dP bq aU aG h=>cN bU λ_ dd b9 a7=>aD b9 λ_ n6 _ bM=>al ?_;refine aL h (λbY h=>?_) λbY h=>?_
  .refine aQ (n6 _ (inl (aD b9 λ_ cf bP _=>bc bP λ_ n10 _ _ _=>?_)));obtain⟨U,df,h⟩:=aA h;obtain⟨ah,dw,h⟩:=aA h;refine da (bX [(0,.ag 3 ((List.set bq (Int.toNat aG) (cA.mk U ah.b_ ah.Result)).map cq)),(1,.int .i64 aU),(5,.int .i64 aG)] (λP ba=>?_) ?_)
   ·(try simp only[aP.down,simprocAttr,dw,br dw,cM,cJ]);refine eB (wT aU _ df) (hK:= ?_);simp only[aP.down,simprocAttr,dw,br dw,cM,cJ];exact bJ (af dw (af (br dw) @cM))
   refine ws [(0,.ag 3 ((List.set bq (Int.toNat aG) (cA.mk U ah.b_ ah.Result)).map cq)),(1,.int .i64 (i64.wrap (aU+1))),(5,.int .i64 aG)] ?_;obtain⟨aO,ck,h⟩:=aA h;obtain⟨bx,c3,h⟩:=aA h;refine da (bX [(0,.ag 3 ((List.set (List.set bq (Int.toNat aG) (cA.mk U ah.b_ ah.Result)) (Int.toNat aG) (cA.mk bx.Left aO bx.Result)).map cq)),(1,.int .i64 (i64.wrap (aU+1))),(5,.int .i64 aG)] (λP ba=>?_) ?_)
   ·(try simp only[aP.down,simprocAttr,c3,br c3,cM,cJ]);refine eB (wT (i64.wrap (aU+1)) _ ck) (hK:= ?_);simp only[aP.down,simprocAttr,c3,br c3,cM,cJ];exact bJ (af c3 (af (br c3) @cM))
   refine ws [(0,.ag 3 ((List.set (List.set bq (Int.toNat aG) (cA.mk U ah.b_ ah.Result)) (Int.toNat aG) (cA.mk bx.Left aO bx.Result)).map cq)),(1,.int .i64 (i64.wrap ((i64.wrap (aU+1))+1))),(5,.int .i64 aG)] ?_;obtain⟨a7,iS,h⟩:=aA h;obtain⟨bM,l7,h⟩:=aA h;refine da (bX [(0,.ag 3 ((List.set (List.set (List.set bq (Int.toNat aG) (cA.mk U ah.b_ ah.Result)) (Int.toNat aG) (cA.mk bx.Left aO bx.Result)) (Int.toNat aG) (cA.mk bM.Left bM.b_ a7)).map cq)),(1,.int .i64 (i64.wrap ((i64.wrap (aU+1))+1))),(5,.int .i64 aG)] (λP ba=>?_) ?_)
   ·(try simp only[aP.down,simprocAttr,l7,br l7,cM,cJ]);refine eB (wT (i64.wrap ((i64.wrap (aU+1))+1)) _ iS) (hK:= ?_);simp only[aP.down,simprocAttr,l7,br l7,cM,cJ];exact bJ (af l7 (af (br l7) @cM))
   refine wr [(0,.ag 3 ((List.set (List.set (List.set bq (Int.toNat aG) (cA.mk U ah.b_ ah.Result)) (Int.toNat aG) (cA.mk bx.Left aO bx.Result)) (Int.toNat aG) (cA.mk bM.Left bM.b_ a7)).map cq)),(1,.int .i64 (i64.wrap ((i64.wrap ((i64.wrap (aU+1))+1))+1))),(5,.int .i64 aG)] ?_;refine n10 _ (cf _ (inl (wr [(0,.ag 3 ((List.set (List.set (List.set bq (Int.toNat aG) (cA.mk U ah.b_ ah.Result)) (Int.toNat aG) (cA.mk bx.Left aO bx.Result)) (Int.toNat aG) (cA.mk bM.Left bM.b_ a7)).map cq)),(1,.int .i64 (i64.wrap ((i64.wrap ((i64.wrap (aU+1))+1))+1))),(5,.int .i64 (i64.wrap (aG+1)))] ?_)));exact dd _ (inr ⟨_,bQ rfl,dP (List.set (List.set (List.set bq (Int.toNat aG) (cA.mk U ah.b_ ah.Result)) (Int.toNat aG) (cA.mk bx.Left aO bx.Result)) (Int.toNat aG) (cA.mk bM.Left bM.b_ a7)) (i64.wrap ((i64.wrap ((i64.wrap (aU+1))+1))+1)) (i64.wrap (aG+1)) h⟩)
  .refine cK (bM 0 _ (a7 0 _ (bG _ (bB _ (inl (al ?_))))));exact jh (aj _ (inl (jU [.int .i64 aU] rfl (by cases fC h;rfl) (by decide) (j_ (ka (by cases fC h;rfl) rfl rfl rfl (k_ (kb)))))))
 exact c4 h λn h=>dV n a0 J 0 h
theorem Qf (a0 J r) (h:zQ a0 J=some r):aY ak 88 [.ag 1 (a0.map cd),.int .i64 J] (.int .i64 r.1) [.ag 1 (r.2.map cd),.hole]:=by
 refine bA [0] [.tmp 4] Tryz.func88 abT λbz aj bw=>al ?_;refine aD aj λ_ bB aZ ah=>al ?_;refine bc aZ λdI _ bU bG _=>?_;show a_ ak (.loop ?dN) _ _;have dV:∀n bq aU aG,wq n bq aU aG=some r->cy ak ?dN dI (ay [(0,.ag 1 (bq.map cd)),(1,.int .i64 aU),(5,.int .i64 aG)]):=by
  refine cO λ_ dP bq aU aG h=>cN bU λ_ dd b9 a7=>aD b9 λ_ n6 _ bM=>al ?_;refine aL h (λbY h=>?_) λbY h=>?_
  .refine aQ (n6 _ (inl (aD b9 λ_ cf bP _=>bc bP λ_ n10 _ _ _=>?_)));obtain⟨U,df,h⟩:=aA h;obtain⟨ah,dw,h⟩:=aA h;refine da (bX [(0,.ag 1 ((List.set bq (Int.toNat aG) U).map cd)),(1,.int .i64 aU),(5,.int .i64 aG)] (λP ba=>?_) ?_)
   ·(try simp only[aP.down,simprocAttr,dw,br dw,cM,cJ]);refine eB (wT aU _ df) (hK:= ?_);simp only[aP.down,simprocAttr,dw,br dw,cM,cJ];exact bJ (af dw (af (br dw) @cM))
   refine wr [(0,.ag 1 ((List.set bq (Int.toNat aG) U).map cd)),(1,.int .i64 (i64.wrap (aU+1))),(5,.int .i64 aG)] ?_;refine n10 _ (cf _ (inl (wr [(0,.ag 1 ((List.set bq (Int.toNat aG) U).map cd)),(1,.int .i64 (i64.wrap (aU+1))),(5,.int .i64 (i64.wrap (aG+1)))] ?_)));exact dd _ (inr ⟨_,bQ rfl,dP (List.set bq (Int.toNat aG) U) (i64.wrap (aU+1)) (i64.wrap (aG+1)) h⟩)
  .refine cK (bM 0 _ (a7 0 _ (bG _ (bB _ (inl (al ?_))))));exact jh (aj _ (inl (jU [.int .i64 aU] rfl (by cases fC h;rfl) (by decide) (j_ (ka (by cases fC h;rfl) rfl rfl rfl (k_ (kb)))))))
 exact c4 h λn h=>dV n a0 J 0 h
theorem agd (wt tZ sy ri qs J r) (h:C_ wt tZ sy ri qs J=some r):aY ak 37 [.agg [.ag 3 (wt.map fY),.ag 2 (tZ.map gi),.ag 3 (sy.map cq),.ag 1 (ri.map cd),.ag 1 (qs.map cd)],.int .i64 J] (.int .i64 r.1) [.agg [.ag 3 (r.2.1.map fY),.ag 2 (r.2.2.1.map gi),.ag 3 (r.2.2.2.1.map cq),.ag 1 (r.2.2.2.2.1.map cd),.ag 1 (r.2.2.2.2.2.map cd)],.hole]:=by
 refine bA [0] [.tmp 4] Tryz.func37 IL λbz aj bw=>da (bX [(0,.agg [.ag 3 (wt.map fY),.ag 2 (tZ.map gi),.ag 3 (sy.map cq),.ag 1 (ri.map cd),.ag 1 (qs.map cd)]),(1,.int .i64 J),(2,.R 0 0)] (λP ba=>?_) ?_)
 .simp only[aP.down,simprocAttr,ot.down,I.eg];exact bJ ot.down
 obtain⟨U,aW,h⟩:=aA h;refine da (bX [(0,.agg [.ag 3 (U.2.map fY),.ag 2 (tZ.map gi),.ag 3 (sy.map cq),.ag 1 (ri.map cd),.ag 1 (qs.map cd)]),(1,.int .i64 U.1),(2,.R 0 0)] (λP ba=>?_) ?_)
 ·(try simp only[aP.down,simprocAttr,ot.down,I.eg]);refine BI [⟨.h 0 [0],true,_,_⟩,⟨.int .i64 J,false,_,.hole⟩] (aga wt J _ aW) rfl rfl rfl (by simp only[aP.down,simprocAttr,sd,sf,I.eg,se,oZ,mo,lE,hN,hP,hQ,dr,or_true,true_or, @cr _ fY b4 (λ_=>t_ _)]) rfl rfl (inl rfl) (by simp only[aP.down,simprocAttr,Dv.down,I.eg,Bool.and_self,Bool.not_false,Bool.and_true]) ?_;simp only[aP.down,simprocAttr,Dw.down,I.eg,eq_self,Bool.and_self];exact bJ ot.down
 obtain⟨ah,cC,h⟩:=aA h;refine da (bX [(0,.agg [.ag 3 (U.2.map fY),.ag 2 (ah.2.map gi),.ag 3 (sy.map cq),.ag 1 (ri.map cd),.ag 1 (qs.map cd)]),(1,.int .i64 ah.1),(2,.R 0 0)] (λP ba=>?_) ?_)
 ·(try simp only[aP.down,simprocAttr,ot.down,I.eg]);refine BI [⟨.h 0 [1],true,_,_⟩,⟨.int .i64 U.1,false,_,.hole⟩] (agb tZ U.1 _ cC) rfl rfl rfl (by simp only[aP.down,simprocAttr,sd,sf,I.eg,se,oZ,mo,lE,hN,hP,hQ,dr,or_true,true_or, @cr _ gi hj (λ_=>ua _)]) rfl rfl (inl rfl) (by simp only[aP.down,simprocAttr,Dv.down,I.eg,Bool.and_self,Bool.not_false,Bool.and_true]) ?_;simp only[aP.down,simprocAttr,Dw.down,I.eg,eq_self,Bool.and_self];exact bJ ot.down
 obtain⟨aO,bW,h⟩:=aA h;refine da (bX [(0,.agg [.ag 3 (U.2.map fY),.ag 2 (ah.2.map gi),.ag 3 (aO.2.map cq),.ag 1 (ri.map cd),.ag 1 (qs.map cd)]),(1,.int .i64 aO.1),(2,.R 0 0)] (λP ba=>?_) ?_)
 ·(try simp only[aP.down,simprocAttr,ot.down,I.eg]);refine BI [⟨.h 0 [2],true,_,_⟩,⟨.int .i64 ah.1,false,_,.hole⟩] (agc sy ah.1 _ bW) rfl rfl rfl (by simp only[aP.down,simprocAttr,sd,sf,I.eg,se,oZ,mo,lE,hN,hP,hQ,dr,or_true,true_or, @cr _ cq cq (λ_=>pd _)]) rfl rfl (inl rfl) (by simp only[aP.down,simprocAttr,Dv.down,I.eg,Bool.and_self,Bool.not_false,Bool.and_true]) ?_;simp only[aP.down,simprocAttr,Dw.down,I.eg,eq_self,Bool.and_self];exact bJ ot.down
 obtain⟨bx,jx,h⟩:=aA h;refine da (bX [(0,.agg [.ag 3 (U.2.map fY),.ag 2 (ah.2.map gi),.ag 3 (aO.2.map cq),.ag 1 (bx.2.map cd),.ag 1 (qs.map cd)]),(1,.int .i64 bx.1),(2,.R 0 0)] (λP ba=>?_) ?_)
 ·(try simp only[aP.down,simprocAttr,ot.down,I.eg]);refine BI [⟨.h 0 [3],true,_,_⟩,⟨.int .i64 aO.1,false,_,.hole⟩] (Qf ri aO.1 _ jx) rfl rfl rfl (by simp only[aP.down,simprocAttr,PD.down,I.eg]) rfl rfl (inl rfl) (by simp only[aP.down,simprocAttr,Dv.down,I.eg,Bool.and_self,Bool.not_false,Bool.and_true]) ?_;simp only[aP.down,simprocAttr,Dw.down,I.eg,eq_self,Bool.and_self];exact bJ ot.down
 obtain⟨a7,lW,h⟩:=aA h;refine da (bX [(0,.agg [.ag 3 (U.2.map fY),.ag 2 (ah.2.map gi),.ag 3 (aO.2.map cq),.ag 1 (bx.2.map cd),.ag 1 (a7.2.map cd)]),(1,.int .i64 a7.1)] (λP ba=>?_) ?_)
 ·(try simp only[aP.down,simprocAttr,ot.down,I.eg]);refine l0 [⟨.h 0 [4],true,_,_⟩,⟨.int .i64 bx.1,false,_,.hole⟩] (Qf qs bx.1 _ lW) rfl rfl rfl (by simp only[aP.down,simprocAttr,PD.down,I.eg]) rfl rfl (inl rfl) ?_;simp only[aP.down,simprocAttr,sd,sf,I.eg,se,kU];exact bJ ot.down
 refine al ?_;exact jh (aj _ (inl (jU [.int .i64 a7.1] rfl (by cases fC h;rfl) (by decide) (j_ (ka (by cases fC h;rfl) rfl rfl rfl (k_ (kb)))))))
theorem Qg (a0 J r) (h:zR a0 J=some r):aY ak 38 [.ag 3 (a0.map b0),.int .i64 J] (.int .i64 r.1) [.ag 3 (r.2.map b0),.hole]:=by
 refine bA [0] [.tmp 4] Tryz.func38 abV λbz aj bw=>al ?_;refine aD aj λ_ bB aZ ah=>al ?_;refine bc aZ λdI _ bU bG bx=>?_;show a_ ak (.loop ?dN) _ _;have dV:∀n bq aU aG,wu n bq aU aG=some r->cy ak ?dN dI (ay [(0,.ag 3 (bq.map b0)),(1,.int .i64 aU),(5,.int .i64 aG)]):=by
  refine cO λ_ dP bq aU aG h=>cN bU λ_ dd b9 a7=>aD b9 λ_ n6 _ bM=>al ?_;refine aL h (λbY h=>?_) λbY h=>?_
  .refine aQ (n6 _ (inl (aD b9 λ_ cf bP _=>bc bP λ_ n10 _ _ _=>?_)));obtain⟨U,df,h⟩:=aA h;refine da (bX [(0,.ag 3 ((List.set bq (Int.toNat aG) (aT.mk aU U.Part U.bL)).map b0)),(1,.int .i64 aU),(5,.int .i64 aG)] (λP ba=>?_) ?_)
   .simp only[aP.down,simprocAttr,df,br df,cM,cJ];exact bJ (af df (af (br df) @cM))
   refine ws [(0,.ag 3 ((List.set bq (Int.toNat aG) (aT.mk aU U.Part U.bL)).map b0)),(1,.int .i64 (i64.wrap (aU+1))),(5,.int .i64 aG)] ?_;obtain⟨ah,ey,h⟩:=aA h;refine da (bX [(0,.ag 3 ((List.set (List.set bq (Int.toNat aG) (aT.mk aU U.Part U.bL)) (Int.toNat aG) (aT.mk ah.b6 (i64.wrap (aU+1)) ah.bL)).map b0)),(1,.int .i64 (i64.wrap (aU+1))),(5,.int .i64 aG)] (λP ba=>?_) ?_)
   .simp only[aP.down,simprocAttr,ey,br ey,cM,cJ];exact bJ (af ey (af (br ey) @cM))
   refine ws [(0,.ag 3 ((List.set (List.set bq (Int.toNat aG) (aT.mk aU U.Part U.bL)) (Int.toNat aG) (aT.mk ah.b6 (i64.wrap (aU+1)) ah.bL)).map b0)),(1,.int .i64 (i64.wrap ((i64.wrap (aU+1))+1))),(5,.int .i64 aG)] ?_;obtain⟨aO,dZ,h⟩:=aA h;obtain⟨bx,hW,h⟩:=aA h;refine hM (bX [(0,.ag 3 ((List.set (List.set (List.set bq (Int.toNat aG) (aT.mk aU U.Part U.bL)) (Int.toNat aG) (aT.mk ah.b6 (i64.wrap (aU+1)) ah.bL)) (Int.toNat aG) (aT.mk aO.b6 aO.Part bx.2)).map b0)),(1,.int .i64 bx.1),(5,.int .i64 aG)] (λP ba=>?_) ?_)
   ·(try simp only[aP.down,simprocAttr,dZ,br dZ]);refine l0 [⟨.h 0 [Int.toNat aG,2],true,_,_⟩,⟨.int .i64 (i64.wrap ((i64.wrap (aU+1))+1)),false,_,.hole⟩] (Qe aO.bL (i64.wrap ((i64.wrap (aU+1))+1)) _ hW) rfl rfl rfl (by simp only[aP.down,simprocAttr,dZ,br dZ,PC.down]) rfl rfl (inl rfl) ?_;simp only[aP.down,simprocAttr,dZ,br dZ,kU,(vf (br dZ)),vg];exact bJ (af dZ (br dZ))
   refine n10 _ (cf _ (inl (wr [(0,.ag 3 ((List.set (List.set (List.set bq (Int.toNat aG) (aT.mk aU U.Part U.bL)) (Int.toNat aG) (aT.mk ah.b6 (i64.wrap (aU+1)) ah.bL)) (Int.toNat aG) (aT.mk aO.b6 aO.Part bx.2)).map b0)),(1,.int .i64 bx.1),(5,.int .i64 (i64.wrap (aG+1)))] ?_)));exact dd _ (inr ⟨_,bQ rfl,dP (List.set (List.set (List.set bq (Int.toNat aG) (aT.mk aU U.Part U.bL)) (Int.toNat aG) (aT.mk ah.b6 (i64.wrap (aU+1)) ah.bL)) (Int.toNat aG) (aT.mk aO.b6 aO.Part bx.2)) bx.1 (i64.wrap (aG+1)) h⟩)
  .refine cK (bM 0 _ (a7 0 _ (bG _ (bB _ (inl (al ?_))))));exact jh (aj _ (inl (jU [.int .i64 aU] rfl (by cases fC h;rfl) (by decide) (j_ (ka (by cases fC h;rfl) rfl rfl rfl (k_ (kb)))))))
 exact c4 h λn h=>dV n a0 J 0 h
theorem age (a0 J r) (h:Da a0 J=some r):aY ak 39 [.ag 1 (a0.map ew),.int .i64 J] (.int .i64 r.1) [.ag 1 (r.2.map ew),.hole]:=by
 refine bA [0] [.tmp 4] Tryz.func39 abW λbz aj bw=>al ?_;refine aD aj λ_ bB aZ ah=>al ?_;refine bc aZ λdI _ bU bG _=>?_;show a_ ak (.loop ?dN) _ _;have dV:∀n bq aU aG,wv n bq aU aG=some r->cy ak ?dN dI (ay [(0,.ag 1 (bq.map ew)),(1,.int .i64 aU),(5,.int .i64 aG)]):=by
  refine cO λ_ dP bq aU aG h=>cN bU λ_ dd b9 a7=>aD b9 λ_ n6 _ bM=>al ?_;refine aL h (λbY h=>?_) λbY h=>?_
  .refine aQ (n6 _ (inl (aD b9 λ_ cf bP _=>bc bP λ_ n10 _ _ _=>?_)));obtain⟨U,df,h⟩:=aA h;obtain⟨ah,dw,h⟩:=aA h;refine hM (bX [(0,.ag 1 ((List.set bq (Int.toNat aG) ah.2).map ew)),(1,.int .i64 ah.1),(5,.int .i64 aG)] (λP ba=>?_) ?_)
   ·(try simp only[aP.down,simprocAttr,df,br df]);refine l0 [⟨.h 0 [Int.toNat aG],true,_,_⟩,⟨.int .i64 aU,false,_,.hole⟩] (Qg U aU _ dw) rfl rfl rfl (by simp only[aP.down,simprocAttr,df,br df,mo,lE,hN,hP,hQ,dr,or_true,true_or, @cr _ b0 c6 (λ_=>qt _)]) rfl rfl (inl rfl) ?_;simp only[aP.down,simprocAttr,df,br df,kU,(vf (br df)),vg];exact bJ (af df (br df))
   refine n10 _ (cf _ (inl (wr [(0,.ag 1 ((List.set bq (Int.toNat aG) ah.2).map ew)),(1,.int .i64 ah.1),(5,.int .i64 (i64.wrap (aG+1)))] ?_)));exact dd _ (inr ⟨_,bQ rfl,dP (List.set bq (Int.toNat aG) ah.2) ah.1 (i64.wrap (aG+1)) h⟩)
  .refine cK (bM 0 _ (a7 0 _ (bG _ (bB _ (inl (al ?_))))));exact jh (aj _ (inl (jU [.int .i64 aU] rfl (by cases fC h;rfl) (by decide) (j_ (ka (by cases fC h;rfl) rfl rfl rfl (k_ (kb)))))))
 exact c4 h λn h=>dV n a0 J 0 h
theorem agf (a0 J r) (h:Db a0 J=some r):aY ak 17 [.slice (a0.map bj),.int .i64 J] (.int .i64 r) []:=by
 refine bA [0] [.tmp 4] Tryz.func17 abX λbz aj bw=>al ?_;refine aD aj λ_ bB aZ _=>al ?_;refine bc aZ λdI _ bU bG _=>?_;show a_ ak (.loop ?dN) _ _;have dV:∀n aU aG,wx a0 n aU aG=some r->cy ak ?dN dI (ay [(0,.slice (a0.map bj)),(1,.int .i64 aU),(5,.int .i64 aG)]):=by
  refine cO λ_ dP aU aG h=>cN bU λ_ dd b9 a7=>aD b9 λ_ n6 _ bM=>al ?_;refine aL h (λbY h=>?_) λbY h=>?_
  .refine aQ (n6 _ (inl (aD b9 λ_ cf bP _=>bc bP λ_ n10 cz _ _=>aD cz λ_ n11 gJ _=>?_)));obtain⟨U,dw,h⟩:=aA h;refine e0 dw _ ?_;refine aL h (λiq h=>?_) λiq h=>?_
   .exact aK gJ [.int .i64 (-1)]
   .refine aQ (n11 _ (inl (dt ?_)));refine n10 _ (cf _ (inl (dt ?_)));exact dd _ (inr ⟨_,bQ rfl,dP (i64.wrap (aU+1)) (i64.wrap (aG+1)) h⟩)
  .exact cK (bM 0 _ (a7 0 _ (bG _ (bB _ (inl (aK aj [.int .i64 aU]))))))
 exact c4 h λn h=>dV n J 0 h
theorem agh (a0 J r) (h:Dc a0 J=some r):aY ak 89 [.slice (a0.map c6),.int .i64 J] (.int .i64 r) []:=by
 refine bA [0] [.tmp 4] Tryz.func89 abY λbz aj bw=>al ?_;refine aD aj λ_ bB aZ ah=>al ?_;refine bc aZ λdI _ bU bG _=>?_;show a_ ak (.loop ?dN) _ _;have dV:∀n aU aG,wy a0 n aU aG=some r->cy ak ?dN dI (ay [(0,.slice (a0.map c6)),(1,.int .i64 aU),(5,.int .i64 aG)]):=by
  refine cO λ_ dP aU aG h=>cN bU λ_ dd b9 a7=>aD b9 λ_ n6 _ bM=>al ?_;refine aL h (λbY h=>?_) λbY h=>?_
  .refine aQ (n6 _ (inl (aD b9 λ_ cf bP _=>bc bP λ_ n10 cz _ _=>aD cz λ_ n11 gJ _=>?_)));obtain⟨U,dw,h⟩:=aA h;refine e0 dw _ ?_;refine aL h (λiq h=>?_) λiq h=>?_
   .exact aK gJ [.int .i64 (-1)]
   .refine aQ (n11 _ (inl (al ?_)));refine aD cz λ_ n17 j1 _=>e0 dw _ ?_;refine aL h (λfi h=>?_) λfi h=>?_
    .exact aK j1 [.int .i64 (-1)]
    .refine aQ (n17 _ (inl (al ?_)));obtain⟨ah,lM,h⟩:=aA h;refine gH dw (agf U.bL (i64.wrap ((i64.wrap (aU+1))+1)) _ lM) _ ?_;refine al ?_;refine aL h (λnJ h=>?_) λnJ h=>?_
     .exact aK cz [.int .i64 (-1)]
     .refine aQ (n10 _ (cf _ (inl (dt ?_))));exact dd _ (inr ⟨_,bQ rfl,dP ah (i64.wrap (aG+1)) h⟩)
  .exact cK (bM 0 _ (a7 0 _ (bG _ (bB _ (inl (aK aj [.int .i64 aU]))))))
 exact c4 h λn h=>dV n J 0 h
theorem Qh (a0 J r) (h:zS a0 J=some r):aY ak 40 [.slice (a0.map c7),.int .i64 J] (.int .i64 r) []:=by
 refine bA [0] [.tmp 4] Tryz.func40 abZ λbz aj bw=>al ?_;refine aD aj λ_ bB aZ ah=>al ?_;refine bc aZ λdI _ bU bG _=>?_;show a_ ak (.loop ?dN) _ _;have dV:∀n aU aG,wz a0 n aU aG=some r->cy ak ?dN dI (ay [(0,.slice (a0.map c7)),(1,.int .i64 aU),(5,.int .i64 aG)]):=by
  refine cO λ_ dP aU aG h=>cN bU λ_ dd b9 a7=>aD b9 λ_ n6 _ bM=>al ?_;refine aL h (λbY h=>?_) λbY h=>?_
  .refine aQ (n6 _ (inl (aD b9 λ_ cf bP _=>bc bP λ_ n10 cz _ _=>?_)));obtain⟨U,df,h⟩:=aA h;obtain⟨ah,dw,h⟩:=aA h;refine gH df (agh U aU _ dw) _ ?_;refine al ?_;refine aL h (λeF h=>?_) λeF h=>?_
   .exact aK cz [.int .i64 (-1)]
   .refine aQ (n10 _ (cf _ (inl (dt ?_))));exact dd _ (inr ⟨_,bQ rfl,dP ah (i64.wrap (aG+1)) h⟩)
  .exact cK (bM 0 _ (a7 0 _ (bG _ (bB _ (inl (aK aj [.int .i64 aU]))))))
 exact c4 h λn h=>dV n J 0 h
theorem agi (a0 J r) (h:Iv a0 J=some r):aY ak 7 [lb a0,.slice (J.map h2)] (.bool r) []:=by
 refine bA [0,1] [.tmp 4] Tryz.func7 xO λbz aj bw=>al ?_;refine al ?_;obtain⟨U,cm,h⟩:=aA h;refine c9 (acC a0 1048576 _ cm) _ ?_;refine aD aj λ_ dd b9 a7=>al ?_;refine aL h (λqW h=>?_) λqW h=>?_
 .exact aK b9 [.bool true]
 .refine aQ (dd _ (inl ?_));obtain⟨ah,lu,h⟩:=aA h;refine c9 (acE J U _ lu) _ ?_;refine aD aj λ_ n11 gJ gG=>al ?_;refine aL h (λgI h=>?_) λgI h=>?_
  .exact aK gJ [.bool true]
  .refine aQ (n11 _ (inl ?_));obtain⟨aO,ck,h⟩:=aA h;obtain⟨bx,c3,h⟩:=aA h;obtain⟨a7,dZ,h⟩:=aA h;refine da (bX [(1,.slice (J.map h2)),(2,.bf (lb a0)),(6,.ag 1 (a7.1.map c7)),(7,.int .i64 a7.2)] (λP ba=>?_) ?_)
   ·(try simp only[aP.down,simprocAttr]);refine eB (((Dx a0 _ ck)).wide (ve rfl rfl (by simp only[dr,I.share,I.shares,YW]<;>rfl)) rfl rfl) (hK:= ?_);simp only[aP.down,simprocAttr];refine eB (Dy J _ c3) (hK:= ?_);simp only[aP.down,simprocAttr];refine l0 [⟨h3 aO,false,_,.hole⟩,⟨.h 31 [],true,_,_⟩] (aeM aO bx _ dZ) rfl rfl rfl (by simp only[aP.down,simprocAttr,IX.down]) rfl rfl (inl rfl) ?_;simp only[aP.down,simprocAttr,kU];exact bJ trivial
   obtain⟨bM,iS,h⟩:=aA h;refine c9 (Dx a0 _ iS) _ ?_;obtain⟨cG,hk,h⟩:=aA h;refine c9 (Dy J _ hk) _ ?_;obtain⟨eD,kj,h⟩:=aA h;refine da (bX [(1,.slice (J.map h2)),(2,.bf (lb a0)),(6,.ag 1 (a7.1.map c7)),(7,.int .i64 a7.2),(8,.bf (pe bM)),(9,.ag 3 (cG.map b0)),(10,.ag 1 (eD.1.map ew)),(11,.int .i64 eD.2)] (λP ba=>?_) ?_)
   ·(try simp only[aP.down,simprocAttr]);refine eB (Qa bM cG _ kj) rfl rfl (by simp only[aP.down,simprocAttr,PE.down]<;>rfl) rfl (inr (by simp only[I.cS,I.hg, @jV _ ew (λ_=>O3 _),Bool.and_self])) ?_;simp only[aP.down,simprocAttr];exact bJ trivial
   refine aD aj λ_ n25 l_ _=>?_;obtain⟨dT,wE,h⟩:=aA h;refine da (bX [(1,.slice (J.map h2)),(2,.bf (lb a0)),(6,.ag 1 (a7.1.map c7)),(7,.int .i64 a7.2),(8,.bf (pe bM)),(9,.ag 3 (cG.map b0)),(10,.ag 1 (eD.1.map ew)),(11,.int .i64 eD.2),(53,.bool ((!dT)||(eD.2 !=a7.2)))] (λP ba=>?_) ?_)
   .rcases Bool.eq_false_or_eq_true (dT)with rv|rv
    ·(try simp only[aP.down,simprocAttr,rv]);refine eB (wS eD.1 a7.1 _ wE) rfl rfl (by simp only[aP.down,simprocAttr,rv,wD.down]<;>rfl) rfl (inr (by rfl)) ?_;simp only[aP.down,simprocAttr,rv];exact bJ rv
    ·(try simp only[aP.down,simprocAttr,rv]);refine eB (wS eD.1 a7.1 _ wE) rfl rfl (by simp only[aP.down,simprocAttr,rv,wD.down]<;>rfl) rfl (inr (by rfl)) ?_;simp only[aP.down,simprocAttr,rv];exact bJ rv
   refine aL h (λiD h=>?_) λiD h=>?_
   .exact aK l_ [.bool false]
   .refine aQ (n25 _ (inl (aD aj λ_ n31 Ag _=>?_)));obtain⟨dh,Ah,h⟩:=aA h;obtain⟨gG,ov,h⟩:=aA h;refine kS rfl (ku [(1,.slice (J.map h2)),(2,.bf (lb a0)),(6,.ag 1 (a7.1.map c7)),(7,.int .i64 a7.2),(8,.bf (pe bM)),(9,.ag 3 (cG.map b0)),(10,.ag 1 (eD.1.map ew)),(11,.int .i64 eD.2),(58,.bool (!gG))] (λP ba=>?_) ?_)
    ·(try simp only[et.down,simprocAttr]);refine kv (Dx a0 _ Ah) (hK:= ?_);simp only[et.down,simprocAttr];refine kv (af7 bM dh _ ov) rfl rfl (by simp only[et.down,simprocAttr,hN,hP,hQ,dr, @cr _ fY b4 (λ_=>t_ _), @cr _ gi hj (λ_=>ua _), @cr _ cq cq (λ_=>pd _), @cr _ cd cd (λ_=>kA _), @cr _ cd cd (λ_=>kA _), @cr _ fY b4 (λ_=>t_ _), @cr _ gi hj (λ_=>ua _), @cr _ cq cq (λ_=>pd _), @cr _ cd cd (λ_=>kA _), @cr _ cd cd (λ_=>kA _)]<;>rfl) rfl (inr (by rfl)) ?_;simp only[et.down,simprocAttr];refine⟨ky (by kernel_rfl),?_⟩;exact bJ trivial
    refine aL h (λAi h=>?_) λAi h=>?_
    .exact aK Ag [.bool false]
    .refine aQ (n31 _ (inl (aD aj λ_ n37 DF _=>?_)));obtain⟨l5,sL,h⟩:=aA h;obtain⟨iC,wR,h⟩:=aA h;refine da (bX [(1,.slice (J.map h2)),(2,.bf (lb a0)),(6,.ag 1 (a7.1.map c7)),(7,.int .i64 a7.2),(8,.bf (pe bM)),(9,.ag 3 (cG.map b0)),(10,.ag 1 (eD.1.map ew)),(11,.int .i64 eD.2),(63,.bool (!iC))] (λP ba=>?_) ?_)
     ·(try simp only[aP.down,simprocAttr]);refine eB (Dy J _ sL) (hK:= ?_);simp only[aP.down,simprocAttr];refine eB (Qc cG l5 _ wR) rfl rfl (by simp only[aP.down,simprocAttr,hN,hP,hQ,dr, @cr _ b0 c6 (λ_=>qt _), @cr _ b0 c6 (λ_=>qt _)]<;>rfl) rfl (inr (by rfl)) ?_;simp only[aP.down,simprocAttr];exact bJ trivial
     refine aL h (λJj h=>?_) λJj h=>?_
     .exact aK DF [.bool false]
     .refine aQ (n37 _ (inl (al ?_)));obtain⟨mx,nb,h⟩:=aA h;refine da (bX [(1,.slice (J.map h2)),(2,.bf (lb a0)),(6,.ag 1 (a7.1.map c7)),(7,.int .i64 a7.2),(9,.ag 3 (cG.map b0)),(10,.ag 1 (eD.1.map ew)),(11,.int .i64 eD.2),(12,.int .i64 mx.1)] (λP ba=>?_) ?_)
      ·(try simp only[aP.down,simprocAttr]);refine l0 [⟨.h 8 [0],true,_,_⟩,⟨.int .i64 1,false,_,.hole⟩] (agd bM.dU bM.cU bM.gV bM.gP bM.gQ 1 _ nb) rfl rfl rfl (by simp only[aP.down,simprocAttr,oZ,mo,lE,hN,hP,hQ,dr,or_true,true_or, @cr _ fY b4 (λ_=>t_ _), @cr _ gi hj (λ_=>ua _), @cr _ cq cq (λ_=>pd _), @cr _ cd cd (λ_=>kA _), @cr _ cd cd (λ_=>kA _)]) rfl rfl (inl rfl) ?_;simp only[aP.down,simprocAttr,kU];exact bJ trivial
      obtain⟨oq,wL,h⟩:=aA h;refine da (bX [(1,.slice (J.map h2)),(2,.bf (lb a0)),(6,.ag 1 (a7.1.map c7)),(7,.int .i64 a7.2),(10,.ag 1 (eD.1.map ew)),(11,.int .i64 eD.2),(12,.int .i64 oq.1)] (λP ba=>?_) ?_)
      ·(try simp only[aP.down,simprocAttr]);refine l0 [⟨.h 9 [],true,_,_⟩,⟨.int .i64 mx.1,false,_,.hole⟩] (Qg cG mx.1 _ wL) rfl rfl rfl (by simp only[aP.down,simprocAttr,IX.down]) rfl rfl (inl rfl) ?_;simp only[aP.down,simprocAttr,kU];exact bJ trivial
      refine aD aj λ_ n48 Qi _=>?_;rcases ez h with⟨qx,h⟩|⟨qx,h⟩
      .refine e0 qx _ ?_;refine iz rfl ?_;exact aK Qi [.bool false]
      .obtain⟨rj,Qj,h⟩:=aA h;refine da (bX [(1,.slice (J.map h2)),(2,.bf (lb a0)),(6,.ag 1 (a7.1.map c7)),(7,.int .i64 a7.2),(10,.ag 1 (eD.1.map ew)),(82,.bool ((!rj)||(eD.2 !=a7.2)))] (λP ba=>?_) ?_)
       .rcases Bool.eq_false_or_eq_true (rj)with ry|ry
        ·(try simp only[aP.down,simprocAttr,qx,ry]);refine gU (wS eD.1 a7.1 _ Qj) rfl rfl (by simp only[aP.down,simprocAttr,qx,ry,wD.down]<;>rfl) rfl (inr (by rfl)) ?_;simp only[aP.down,simprocAttr,qx,ry];exact bJ (af qx ry)
        ·(try simp only[aP.down,simprocAttr,qx,ry]);refine gU (wS eD.1 a7.1 _ Qj) rfl rfl (by simp only[aP.down,simprocAttr,qx,ry,wD.down]<;>rfl) rfl (inr (by rfl)) ?_;simp only[aP.down,simprocAttr,qx,ry];exact bJ (af qx ry)
       refine aL h (λagj h=>?_) λagj h=>?_
       .exact aK Qi [.bool false]
       .refine aQ (n48 _ (inl (al ?_)));obtain⟨jo,agk,h⟩:=aA h;refine da (bX [(1,.slice (J.map h2)),(2,.bf (lb a0)),(6,.ag 1 (a7.1.map c7)),(7,.int .i64 a7.2),(10,.ag 1 (jo.2.map ew)),(13,.int .i64 jo.1)] (λP ba=>?_) ?_)
        ·(try simp only[aP.down,simprocAttr]);refine l0 [⟨.h 10 [],true,_,_⟩,⟨.int .i64 1,false,_,.hole⟩] (age eD.1 1 _ agk) rfl rfl rfl (by simp only[aP.down,simprocAttr,I1.down]) rfl rfl (inl rfl) ?_;simp only[aP.down,simprocAttr,kU];exact bJ trivial
        refine al ?_;obtain⟨qi,nK,h⟩:=aA h;refine da (bX [(1,.slice (J.map h2)),(2,.bf (lb a0)),(6,.ag 1 (a7.1.map c7)),(7,.int .i64 a7.2),(10,.ag 1 (jo.2.map ew)),(13,.int .i64 jo.1),(14,.int .i64 qi)] (λP ba=>?_) ?_)
        ·(try simp only[aP.down,simprocAttr]);refine eB (Qh jo.2 1 _ nK) rfl rfl (by simp only[aP.down,simprocAttr,PF.down]<;>rfl) rfl (inr (by rfl)) ?_;simp only[aP.down,simprocAttr];exact bJ trivial
        refine aD aj λ_ agl agm _=>al ?_;refine aL h (λJd h=>?_) λJd h=>?_
        .exact aK agm [.bool false]
        .refine aQ (agl _ (inl (aD aj λ_ agn ago _=>al ?_)));refine aL h (λJK h=>?_) λJK h=>?_
         .exact aK ago [.bool false]
         .refine aQ (agn _ (inl ?_));obtain⟨o_,Jf,h⟩:=aA h;obtain⟨vK,agp,h⟩:=aA h;obtain⟨oi,uh,h⟩:=aA h;refine da (bX [(6,.ag 1 (a7.1.map c7)),(7,.int .i64 a7.2),(10,.ag 1 (jo.2.map ew)),(13,.int .i64 jo.1),(15,.ag 1 (oi.1.map ew)),(16,.int .i64 oi.2)] (λP ba=>?_) ?_)
          ·(try simp only[aP.down,simprocAttr]);refine eB (Dx a0 _ Jf) (hK:= ?_);simp only[aP.down,simprocAttr];refine eB (Dy J _ agp) (hK:= ?_);simp only[aP.down,simprocAttr];refine eB (Qa o_ vK _ uh) rfl rfl (by simp only[aP.down,simprocAttr,PE.down]<;>rfl) rfl (inr (by simp only[I.cS,I.hg, @jV _ ew (λ_=>O3 _),Bool.and_self])) ?_;simp only[aP.down,simprocAttr];exact bJ trivial
          refine aD aj λ_ Ao wM _=>?_;obtain⟨wA,DC,h⟩:=aA h;refine da (bX [(10,.ag 1 (jo.2.map ew)),(13,.int .i64 jo.1),(110,.bool ((!wA)||(oi.2 !=a7.2)))] (λP ba=>?_) ?_)
          .rcases Bool.eq_false_or_eq_true (wA)with rz|rz
           ·(try simp only[aP.down,simprocAttr,rz]);refine eB (wS oi.1 a7.1 _ DC) rfl rfl (by simp only[aP.down,simprocAttr,rz,wD.down]<;>rfl) rfl (inr (by rfl)) ?_;simp only[aP.down,simprocAttr,rz];exact bJ rz
           ·(try simp only[aP.down,simprocAttr,rz]);refine eB (wS oi.1 a7.1 _ DC) rfl rfl (by simp only[aP.down,simprocAttr,rz,wD.down]<;>rfl) rfl (inr (by rfl)) ?_;simp only[aP.down,simprocAttr,rz];exact bJ rz
          refine aL h (λagq h=>?_) λagq h=>?_
          .exact aK wM [.bool false]
          .refine aQ (Ao _ (inl (al ?_)));obtain⟨Dd,wO,h⟩:=aA h;refine da (bX [(13,.int .i64 jo.1),(14,.int .i64 Dd)] (λP ba=>?_) ?_)
           ·(try simp only[aP.down,simprocAttr]);refine eB (Qh jo.2 1 _ wO) rfl rfl (by simp only[aP.down,simprocAttr,PF.down]<;>rfl) rfl (inr (by rfl)) ?_;simp only[aP.down,simprocAttr];exact bJ trivial
           refine aD aj λ_ agr ags _=>al ?_;refine aL h (λagt h=>?_) λagt h=>?_
           .exact aK ags [.bool false]
           .refine aQ (agr _ (inl (aD aj λ_ agu agv _=>al ?_)));refine aL h (λagw h=>?_) λagw h=>?_
            .exact aK agv [.bool false]
            .exact aQ (agu _ (inl (aK aj [.bool true])))
end Go.Proofs.YtklcmlnabkfneaaGreat
