/- Part of a proof that a law returns true for every input. No condition. -/
import Derived.Test.YtmaepbgkcmjcjafGreatDoorW2x3
namespace Go.Proofs.YtmaepbgkcmjcjafGreatDoor
open List Option Go.IntKind Nat
open Go Go.eg Go.kX
set_option maxRecDepth 100000
set_option maxHeartbeats 2400000
set_option linter.unusedSimpArgs false
set_option linter.unusedVariables false
theorem ary (a0 J r) (h:QN a0 J=some r):aW ah 3 [nN a0,.slice (J.map jB)] (.bool r) []:=by
 refine bw [0,1] [.tmp 4] Tryz.func3 c3 (λbq ai bo=>?_);refine ws _ ?_;refine ws _ ?_;obtain⟨R,b4,h⟩:=al h;refine cH (amN a0 1048576 _ b4) _ ?_;refine ay ai (λ_ dw cn aT=>?_);refine ws _ ?_;refine aE h (λqj h=>?_) (λqj h=>?_)
 .refine ws _ ?_;exact aw (cn _ (.inl (az [.bool true])))
 .refine aL (dw _ (.inl ?_));obtain⟨ae,iD,h⟩:=al h;refine cH (amQ J R _ iD) _ ?_;refine ay ai (λ_ eE hM e6=>?_);refine ws _ ?_;refine aE h (λfh h=>?_) (λfh h=>?_)
  .refine ws _ ?_;exact aw (hM _ (.inl (az [.bool true])))
  .refine aL (eE _ (.inl ?_));obtain⟨aD,ck,h⟩:=al h;obtain⟨aX,dL,h⟩:=al h;obtain⟨aT,eu,h⟩:=al h;refine dC (b6 [(1,.slice (J.map jB)),(2,.aS (nN a0)),(6,.ag 4 (aT.1.map eW)),(7,.int .i64 aT.2)] (λP bl=>?_) ?_)
   ·(try simp only[aK.down,simprocAttr]);refine dD (((KW a0 _ ck)).wide (vv rfl rfl (by simp only[cG,I.share,I.shares,ai8]<;>rfl)) rfl rfl) rfl rfl rfl rfl (.inl (by rfl)) ?_;simp only[aK.down,simprocAttr];refine dD (KX J _ dL) rfl rfl rfl rfl (.inl (by rfl)) ?_;simp only[aK.down,simprocAttr];refine kL [⟨dQ aD,false,_,.hole⟩,⟨.h 31 [],true,_,.hole⟩] (apk aD aX _ eu) rfl rfl rfl (by simp only[aK.down,simprocAttr,YX.down]) rfl rfl (.inl rfl) ?_;simp only[aK.down,simprocAttr,j5];exact bR trivial
   obtain⟨bp,gj,h⟩:=al h;refine cH (KW a0 _ gj) _ ?_;obtain⟨bs,e8,h⟩:=al h;refine cH (KX J _ e8) _ ?_;obtain⟨cv,lC,h⟩:=al h;refine dC (b6 [(1,.slice (J.map jB)),(2,.aS (nN a0)),(6,.ag 4 (aT.1.map eW)),(7,.int .i64 aT.2),(8,.aS (sZ bp)),(9,.ag 3 (bs.map ea)),(10,.ag 4 (cv.1.map en)),(11,.int .i64 cv.2)] (λP bl=>?_) ?_)
   ·(try simp only[aK.down,simprocAttr]);refine dD (ZR bp bs _ lC) rfl rfl (by simp only[aK.down,simprocAttr,YY.down]<;>rfl) rfl (.inr (by simp only[I.cX,I.hd, @kq _ en (λ_=>XX _),Bool.and_self])) ?_;simp only[aK.down,simprocAttr];exact bR trivial
   refine ay ai (λ_ wg oU _=>?_);obtain⟨dE,rL,h⟩:=al h;refine dC (b6 [(1,.slice (J.map jB)),(2,.aS (nN a0)),(6,.ag 4 (aT.1.map eW)),(7,.int .i64 aT.2),(8,.aS (sZ bp)),(9,.ag 3 (bs.map ea)),(10,.ag 4 (cv.1.map en)),(11,.int .i64 cv.2),(53,.bool ((!dE)||(cv.2 !=aT.2)))] (λP bl=>?_) ?_)
   .rcases Bool.eq_false_or_eq_true (dE)with wk|wk
    ·(try simp only[aK.down,simprocAttr,wk]);refine dD (Di cv.1 aT.1 _ rL) rfl rfl (by simp only[aK.down,simprocAttr,wk,C6.down]<;>rfl) rfl (.inr (by rfl)) ?_;simp only[aK.down,simprocAttr,wk];exact bR wk
    ·(try simp only[aK.down,simprocAttr,wk]);refine dD (Di cv.1 aT.1 _ rL) rfl rfl (by simp only[aK.down,simprocAttr,wk,C6.down]<;>rfl) rfl (.inr (by rfl)) ?_;simp only[aK.down,simprocAttr,wk];exact bR wk
   refine aE h (λh1 h=>?_) (λh1 h=>?_)
   .refine ws _ ?_;exact aw (oU _ (.inl (az [.bool false])))
   .refine aL (wg _ (.inl ?_));refine ay ai (λ_ G7 G8 _=>?_);obtain⟨dI,oV,h⟩:=al h;obtain⟨e6,js,h⟩:=al h;refine jz rfl (iU [(1,.slice (J.map jB)),(2,.aS (nN a0)),(6,.ag 4 (aT.1.map eW)),(7,.int .i64 aT.2),(8,.aS (sZ bp)),(9,.ag 3 (bs.map ea)),(10,.ag 4 (cv.1.map en)),(11,.int .i64 cv.2),(58,.bool (!e6))] (λP bl=>?_) ?_)
    ·(try simp only[c_.down,simprocAttr]);refine h_ (KW a0 _ oV) rfl rfl rfl rfl (.inl (by rfl)) ?_;simp only[c_.down,simprocAttr];refine h_ (arl bp dI _ js) rfl rfl (by simp only[c_.down,simprocAttr,gN,gP,gQ,cG, @bV _ hn bx (λ_=>zI _), @bV _ hC eV (λ_=>zJ _), @bV _ b3 b3 (λ_=>qH _), @bV _ bm bm (λ_=>k5 _), @bV _ bm bm (λ_=>k5 _), @bV _ hn bx (λ_=>zI _), @bV _ hC eV (λ_=>zJ _), @bV _ b3 b3 (λ_=>qH _), @bV _ bm bm (λ_=>k5 _), @bV _ bm bm (λ_=>k5 _)]<;>rfl) rfl (.inr (by rfl)) ?_;simp only[c_.down,simprocAttr];refine⟨hY (by kernel_rfl),?_⟩;exact bR trivial
    refine aE h (λv7 h=>?_) (λv7 h=>?_)
    .refine ws _ ?_;exact aw (G8 _ (.inl (az [.bool false])))
    .refine aL (G7 _ (.inl ?_));refine ay ai (λ_ arz arA _=>?_);obtain⟨kv,wc,h⟩:=al h;obtain⟨my,arB,h⟩:=al h;refine dC (b6 [(1,.slice (J.map jB)),(2,.aS (nN a0)),(6,.ag 4 (aT.1.map eW)),(7,.int .i64 aT.2),(8,.aS (sZ bp)),(9,.ag 3 (bs.map ea)),(10,.ag 4 (cv.1.map en)),(11,.int .i64 cv.2),(63,.bool (!my))] (λP bl=>?_) ?_)
     ·(try simp only[aK.down,simprocAttr]);refine dD (KX J _ wc) rfl rfl rfl rfl (.inl (by rfl)) ?_;simp only[aK.down,simprocAttr];refine dD (ZT bs kv _ arB) rfl rfl (by simp only[aK.down,simprocAttr,gN,gP,gQ,cG, @bV _ ea bB (λ_=>nO _), @bV _ ea bB (λ_=>nO _)]<;>rfl) rfl (.inr (by rfl)) ?_;simp only[aK.down,simprocAttr];exact bR trivial
     refine aE h (λs8 h=>?_) (λs8 h=>?_)
     .refine ws _ ?_;exact aw (arA _ (.inl (az [.bool false])))
     .refine aL (arz _ (.inl ?_));refine ws _ ?_;obtain⟨iW,x2,h⟩:=al h;refine dC (b6 [(1,.slice (J.map jB)),(2,.aS (nN a0)),(6,.ag 4 (aT.1.map eW)),(7,.int .i64 aT.2),(9,.ag 3 (bs.map ea)),(10,.ag 4 (cv.1.map en)),(11,.int .i64 cv.2),(12,.int .i64 iW.1)] (λP bl=>?_) ?_)
      ·(try simp only[aK.down,simprocAttr]);refine kL [⟨.h 8 [0],true,_,_⟩,⟨.int .i64 1,false,_,.hole⟩] (aru bp.c8 bp.cL bp.cz bp.dj bp.dk 1 _ x2) rfl rfl rfl (by simp only[aK.down,simprocAttr,mw,kW,ku,gN,gP,gQ,cG,or_true,true_or, @bV _ hn bx (λ_=>zI _), @bV _ hC eV (λ_=>zJ _), @bV _ b3 b3 (λ_=>qH _), @bV _ bm bm (λ_=>k5 _), @bV _ bm bm (λ_=>k5 _)]) rfl rfl (.inl rfl) ?_;simp only[aK.down,simprocAttr,j5];exact bR trivial
      obtain⟨hk,z_,h⟩:=al h;refine dC (b6 [(1,.slice (J.map jB)),(2,.aS (nN a0)),(6,.ag 4 (aT.1.map eW)),(7,.int .i64 aT.2),(10,.ag 4 (cv.1.map en)),(11,.int .i64 cv.2),(12,.int .i64 hk.1)] (λP bl=>?_) ?_)
      ·(try simp only[aK.down,simprocAttr]);refine kL [⟨.h 9 [],true,_,_⟩,⟨.int .i64 iW.1,false,_,.hole⟩] (ZX bs iW.1 _ z_) rfl rfl rfl (by simp only[aK.down,simprocAttr,YX.down]) rfl rfl (.inl rfl) ?_;simp only[aK.down,simprocAttr,j5];exact bR trivial
      refine ay ai (λ_ RN ZZ _=>?_);rcases dH h with⟨p6,h⟩|⟨p6,h⟩
      .refine cU p6 _ ?_;refine iT rfl ?_;refine ws _ ?_;exact aw (ZZ _ (.inl (az [.bool false])))
      .obtain⟨jd,rT,h⟩:=al h;refine dC (b6 [(1,.slice (J.map jB)),(2,.aS (nN a0)),(6,.ag 4 (aT.1.map eW)),(7,.int .i64 aT.2),(10,.ag 4 (cv.1.map en)),(82,.bool ((!jd)||(cv.2 !=aT.2)))] (λP bl=>?_) ?_)
       .rcases Bool.eq_false_or_eq_true (jd)with wm|wm
        ·(try simp only[aK.down,simprocAttr,p6,wm]);refine iF (Di cv.1 aT.1 _ rT) rfl rfl (by simp only[aK.down,simprocAttr,p6,wm,C6.down]<;>rfl) rfl (.inr (by rfl)) ?_;simp only[aK.down,simprocAttr,p6,wm];exact bR (U p6 wm)
        ·(try simp only[aK.down,simprocAttr,p6,wm]);refine iF (Di cv.1 aT.1 _ rT) rfl rfl (by simp only[aK.down,simprocAttr,p6,wm,C6.down]<;>rfl) rfl (.inr (by rfl)) ?_;simp only[aK.down,simprocAttr,p6,wm];exact bR (U p6 wm)
       refine aE h (λSj h=>?_) (λSj h=>?_)
       .refine ws _ ?_;exact aw (ZZ _ (.inl (az [.bool false])))
       .refine aL (RN _ (.inl ?_));refine ws _ ?_;obtain⟨iv,nT,h⟩:=al h;refine dC (b6 [(1,.slice (J.map jB)),(2,.aS (nN a0)),(6,.ag 4 (aT.1.map eW)),(7,.int .i64 aT.2),(10,.ag 4 (iv.2.map en)),(13,.int .i64 iv.1)] (λP bl=>?_) ?_)
        ·(try simp only[aK.down,simprocAttr]);refine kL [⟨.h 10 [],true,_,_⟩,⟨.int .i64 1,false,_,.hole⟩] (arv cv.1 1 _ nT) rfl rfl rfl (by simp only[aK.down,simprocAttr,mw,kW,ku,gN,gP,gQ,cG,or_true,true_or, @bV _ en eW (λ_=>GQ _)]) rfl rfl (.inl rfl) ?_;simp only[aK.down,simprocAttr,j5];exact bR trivial
        refine ws _ ?_;obtain⟨pU,Dd,h⟩:=al h;refine dC (b6 [(1,.slice (J.map jB)),(2,.aS (nN a0)),(6,.ag 4 (aT.1.map eW)),(7,.int .i64 aT.2),(10,.ag 4 (iv.2.map en)),(13,.int .i64 iv.1),(14,.int .i64 pU)] (λP bl=>?_) ?_)
        ·(try simp only[aK.down,simprocAttr]);refine dD (ZY iv.2 1 _ Dd) rfl rfl (by simp only[aK.down,simprocAttr,YZ.down]<;>rfl) rfl (.inr (by rfl)) ?_;simp only[aK.down,simprocAttr];exact bR trivial
        refine ay ai (λ_ arC arD _=>?_);refine ws _ ?_;refine aE h (λRu h=>?_) (λRu h=>?_)
        .refine ws _ ?_;exact aw (arD _ (.inl (az [.bool false])))
        .refine aL (arC _ (.inl ?_));refine ay ai (λ_ arE arF _=>?_);refine ws _ ?_;refine aE h (λarG h=>?_) (λarG h=>?_)
         .refine ws _ ?_;exact aw (arF _ (.inl (az [.bool false])))
         .refine aL (arE _ (.inl ?_));obtain⟨lr,uT,h⟩:=al h;obtain⟨lu,arH,h⟩:=al h;obtain⟨k1,G4,h⟩:=al h;refine dC (b6 [(6,.ag 4 (aT.1.map eW)),(7,.int .i64 aT.2),(10,.ag 4 (iv.2.map en)),(13,.int .i64 iv.1),(15,.ag 4 (k1.1.map en)),(16,.int .i64 k1.2)] (λP bl=>?_) ?_)
          ·(try simp only[aK.down,simprocAttr]);refine dD (KW a0 _ uT) rfl rfl rfl rfl (.inl (by rfl)) ?_;simp only[aK.down,simprocAttr];refine dD (KX J _ arH) rfl rfl rfl rfl (.inl (by rfl)) ?_;simp only[aK.down,simprocAttr];refine dD (ZR lr lu _ G4) rfl rfl (by simp only[aK.down,simprocAttr,YY.down]<;>rfl) rfl (.inr (by simp only[I.cX,I.hd, @kq _ en (λ_=>XX _),Bool.and_self])) ?_;simp only[aK.down,simprocAttr];exact bR trivial
          refine ay ai (λ_ R1 R2 _=>?_);obtain⟨mS,K0,h⟩:=al h;refine dC (b6 [(10,.ag 4 (iv.2.map en)),(13,.int .i64 iv.1),(110,.bool ((!mS)||(k1.2 !=aT.2)))] (λP bl=>?_) ?_)
          .rcases Bool.eq_false_or_eq_true (mS)with wo|wo
           ·(try simp only[aK.down,simprocAttr,wo]);refine dD (Di k1.1 aT.1 _ K0) rfl rfl (by simp only[aK.down,simprocAttr,wo,C6.down]<;>rfl) rfl (.inr (by rfl)) ?_;simp only[aK.down,simprocAttr,wo];exact bR wo
           ·(try simp only[aK.down,simprocAttr,wo]);refine dD (Di k1.1 aT.1 _ K0) rfl rfl (by simp only[aK.down,simprocAttr,wo,C6.down]<;>rfl) rfl (.inr (by rfl)) ?_;simp only[aK.down,simprocAttr,wo];exact bR wo
          refine aE h (λarI h=>?_) (λarI h=>?_)
          .refine ws _ ?_;exact aw (R2 _ (.inl (az [.bool false])))
          .refine aL (R1 _ (.inl ?_));refine ws _ ?_;obtain⟨lv,arJ,h⟩:=al h;refine dC (b6 [(13,.int .i64 iv.1),(14,.int .i64 lv)] (λP bl=>?_) ?_)
           ·(try simp only[aK.down,simprocAttr]);refine dD (ZY iv.2 1 _ arJ) rfl rfl (by simp only[aK.down,simprocAttr,YZ.down]<;>rfl) rfl (.inr (by rfl)) ?_;simp only[aK.down,simprocAttr];exact bR trivial
           refine ay ai (λ_ R3 R4 _=>?_);refine ws _ ?_;refine aE h (λR5 h=>?_) (λR5 h=>?_)
           .refine ws _ ?_;exact aw (R4 _ (.inl (az [.bool false])))
           .refine aL (R3 _ (.inl ?_));refine ay ai (λ_ R7 arK _=>?_);refine ws _ ?_;refine aE h (λarL h=>?_) (λarL h=>?_)
            .refine ws _ ?_;exact aw (arK _ (.inl (az [.bool false])))
            .refine aL (R7 _ (.inl ?_));refine ws _ ?_;exact aw (ai _ (.inl (az [.bool true])))
end Go.Proofs.YtmaepbgkcmjcjafGreatDoor
