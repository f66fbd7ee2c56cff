/- Part of a proof that a law returns true for every input. No condition. -/
import Derived.Test.YtmaepbgkcmjcjahGreatDoorW2x3
namespace Go.Proofs.YtmaepbgkcmjcjahGreatDoor
open List Option Go.IntKind Nat Or
open Go Go.ei Go.k6
set_option maxRecDepth 100000
set_option maxHeartbeats 3200000
set_option linter.unusedSimpArgs false
set_option linter.unusedVariables false
theorem ar8 (a0 J a2 r) (h:Rp a0 J a2=some r):aX ah 3 [lF a0,.slice (J.map ir),.slice (a2.map aT)] (.bool r) []:=by
 refine bC [0,1,2] [.tmp 6] Tryz.func3 c3 λbt aj br=>ak ?_;refine ay aj λ_ bD bf af=>ak ?_;refine aC h (λbT h=>?_) λbT h=>?_
 .exact aO bf [.bool true]
 .refine aL (bD _ (inl (ak ?_)));obtain⟨U,fC,h⟩:=an h;refine cS (anp a0 1048576 _ fC) _ ?_;refine ay aj λ_ cF b8 dm=>ak ?_;refine aC h (λoL h=>?_) λoL h=>?_
  .exact aO b8 [.bool true]
  .refine aL (cF _ (inl ?_));obtain⟨af,dO,h⟩:=an h;refine cS (ans J U _ dO) _ ?_;refine ay aj λ_ fJ gK gB=>ak ?_;refine aC h (λjM h=>?_) λjM h=>?_
   .exact aO gK [.bool true]
   .refine aL (fJ _ (inl ?_));obtain⟨aI,fY,h⟩:=an h;obtain⟨a1,gF,h⟩:=an h;obtain⟨ba,fE,h⟩:=an h;obtain⟨aZ,iu,h⟩:=an h;refine dp (b6 [(1,.slice (J.map ir)),(2,.slice (a2.map aT)),(3,.aM (lF a0)),(8,.slice (aZ.1.map bs)),(9,.ae 1 (aZ.2.1.map aN)),(10,.int .i64 aZ.2.2)] (λP bg=>?_) ?_)
    ·(try simp only[aB.down,simprocAttr]);refine dq (((Lz a0 _ fY)).wide (x5 rfl rfl (by simp only[cR,I.share,I.shares,ajD]<;>rfl)) rfl rfl) (hK:= ?_);simp only[aB.down,simprocAttr];refine dq (LA J _ gF) (hK:= ?_);simp only[aB.down,simprocAttr];refine dq (((DQ a2 _ fE)).wide (x5 rfl rfl (by simp only[ZM.down,I.share,I.shares]<;>rfl)) rfl rfl) (hK:= ?_);simp only[aB.down,simprocAttr];refine km [⟨e1 aI,false,_,.hole⟩,⟨.h 40 [],true,_,_⟩,⟨.slice (ba.map aT),false,_,.hole⟩] (apY aI a1 ba _ iu) rfl rfl rfl (by simp only[aB.down,simprocAttr,RW.down]) rfl rfl (inl rfl) ?_;simp only[aB.down,simprocAttr,jI];exact bP trivial
    obtain⟨bq,iv,h⟩:=an h;refine cS (Lz a0 _ iv) _ ?_;obtain⟨cY,tD,h⟩:=an h;refine cS (LA J _ tD) _ ?_;obtain⟨dm,oN,h⟩:=an h;refine cS (DQ a2 _ oN) _ ?_;obtain⟨cp,HT,h⟩:=an h;refine dp (b6 [(1,.slice (J.map ir)),(2,.slice (a2.map aT)),(3,.aM (lF a0)),(8,.slice (aZ.1.map bs)),(9,.ae 1 (aZ.2.1.map aN)),(10,.int .i64 aZ.2.2),(11,.aM (q8 bq)),(12,.ae 3 (cY.map cQ)),(13,.ae 1 (dm.map aT)),(14,.ae 3 (cp.1.map cQ)),(15,.ae 1 (cp.2.1.map aN)),(16,.int .i64 cp.2.2)] (λP bg=>?_) ?_)
    ·(try simp only[aB.down,simprocAttr,uG,uH]);refine dq (aaE bq cY dm _ HT) rfl rfl (by simp only[aB.down,simprocAttr,ZP.down]<;>rfl) rfl (inr (by simp only[I.dc,I.g_,ZQ.down,Bool.and_self])) ?_;simp only[aB.down,simprocAttr,uG,uH];exact bP (R @uG @uH)
    refine ay aj λ_ AW aaI Rq=>?_;obtain⟨fc,hU,h⟩:=an h;rcases dH h with⟨lf,h⟩|⟨lf,h⟩
    .refine dp (b6 [(1,.slice (J.map ir)),(2,.slice (a2.map aT)),(3,.aM (lF a0)),(8,.slice (aZ.1.map bs)),(9,.ae 1 (aZ.2.1.map aN)),(10,.int .i64 aZ.2.2),(11,.aM (q8 bq)),(12,.ae 3 (cY.map cQ)),(13,.ae 1 (dm.map aT)),(14,.ae 3 (cp.1.map cQ)),(15,.ae 1 (cp.2.1.map aN)),(16,.int .i64 cp.2.2),(75,.bool true)] (λP bg=>?_) ?_)
     ·(try simp only[aB.down,simprocAttr,(fM lf)]);refine dq (vy cp.1 aZ.1 _ hU) rfl rfl (by simp only[aB.down,simprocAttr,(fM lf),q_.down]<;>rfl) rfl (inr (by rfl)) ?_;simp only[aB.down,simprocAttr,(fM lf)];exact bP (fM lf)
     refine il rfl ?_;exact aO aaI [.bool false]
    .obtain⟨ko,qs,h⟩:=an h;refine dp (b6 [(1,.slice (J.map ir)),(2,.slice (a2.map aT)),(3,.aM (lF a0)),(8,.slice (aZ.1.map bs)),(9,.ae 1 (aZ.2.1.map aN)),(10,.int .i64 aZ.2.2),(11,.aM (q8 bq)),(12,.ae 3 (cY.map cQ)),(13,.ae 1 (dm.map aT)),(14,.ae 3 (cp.1.map cQ)),(15,.ae 1 (cp.2.1.map aN)),(16,.int .i64 cp.2.2),(75,.bool ((!ko)||(cp.2.2 !=aZ.2.2)))] (λP bg=>?_) ?_)
     .rcases Bool.eq_false_or_eq_true (ko)with rj|rj
      ·(try simp only[aB.down,simprocAttr,(bN lf),rj]);refine dq (vy cp.1 aZ.1 _ hU) rfl rfl (by simp only[aB.down,simprocAttr,(bN lf),rj,q_.down]<;>rfl) rfl (inr (by rfl)) ?_;simp only[aB.down,simprocAttr,(bN lf),rj];refine hz (yP cp.2.1 aZ.2.1 _ qs) rfl rfl (by simp only[aB.down,simprocAttr,(bN lf),rj,Ax.down]<;>rfl) rfl (inr (by rfl)) ?_;simp only[aB.down,simprocAttr,(bN lf),rj];exact bP (R (bN lf) rj)
      ·(try simp only[aB.down,simprocAttr,(bN lf),rj]);refine dq (vy cp.1 aZ.1 _ hU) rfl rfl (by simp only[aB.down,simprocAttr,(bN lf),rj,q_.down]<;>rfl) rfl (inr (by rfl)) ?_;simp only[aB.down,simprocAttr,(bN lf),rj];refine hz (yP cp.2.1 aZ.2.1 _ qs) rfl rfl (by simp only[aB.down,simprocAttr,(bN lf),rj,Ax.down]<;>rfl) rfl (inr (by rfl)) ?_;simp only[aB.down,simprocAttr,(bN lf),rj];exact bP (R (bN lf) rj)
     refine aC h (λwY h=>?_) λwY h=>?_
     .exact aO aaI [.bool false]
     .refine aL (AW _ (inl (ay aj λ_ wX sl _=>?_)));obtain⟨lY,yK,h⟩:=an h;obtain⟨i7,SV,h⟩:=an h;refine ju rfl (iP [(1,.slice (J.map ir)),(2,.slice (a2.map aT)),(3,.aM (lF a0)),(8,.slice (aZ.1.map bs)),(9,.ae 1 (aZ.2.1.map aN)),(10,.int .i64 aZ.2.2),(11,.aM (q8 bq)),(12,.ae 3 (cY.map cQ)),(13,.ae 1 (dm.map aT)),(14,.ae 3 (cp.1.map cQ)),(15,.ae 1 (cp.2.1.map aN)),(16,.int .i64 cp.2.2),(80,.bool (!i7))] (λP bg=>?_) ?_)
      ·(try simp only[dh.down,simprocAttr]);refine h4 (Lz a0 _ yK) (hK:= ?_);simp only[dh.down,simprocAttr];refine h4 (arZ bq lY _ SV) rfl rfl (by simp only[dh.down,simprocAttr,gQ,gR,gS,cR, @b0 _ hq bl (λ_=>At _), @b0 _ hM dj (λ_=>Au _), @b0 _ bI bI (λ_=>pS _), @b0 _ aN aN (λ_=>jK _), @b0 _ aN aN (λ_=>jK _), @b0 _ hq bl (λ_=>At _), @b0 _ hM dj (λ_=>Au _), @b0 _ bI bI (λ_=>pS _), @b0 _ aN aN (λ_=>jK _), @b0 _ aN aN (λ_=>jK _)]<;>rfl) rfl (inr (by rfl)) ?_;simp only[dh.down,simprocAttr];refine⟨hY (by kernel_rfl),?_⟩;exact bP trivial
      refine aC h (λwS h=>?_) λwS h=>?_
      .exact aO sl [.bool false]
      .refine aL (wX _ (inl (ay aj λ_ o_ qt _=>?_)));obtain⟨gB,rh,h⟩:=an h;obtain⟨jz,AM,h⟩:=an h;refine dp (b6 [(1,.slice (J.map ir)),(2,.slice (a2.map aT)),(3,.aM (lF a0)),(8,.slice (aZ.1.map bs)),(9,.ae 1 (aZ.2.1.map aN)),(10,.int .i64 aZ.2.2),(11,.aM (q8 bq)),(12,.ae 3 (cY.map cQ)),(13,.ae 1 (dm.map aT)),(14,.ae 3 (cp.1.map cQ)),(15,.ae 1 (cp.2.1.map aN)),(16,.int .i64 cp.2.2),(85,.bool (!jz))] (λP bg=>?_) ?_)
       ·(try simp only[aB.down,simprocAttr]);refine dq (LA J _ rh) (hK:= ?_);simp only[aB.down,simprocAttr];refine dq (vy cY gB _ AM) rfl rfl (by simp only[aB.down,simprocAttr,gQ,gR,gS,cR, @b0 _ cQ bs (λ_=>nK _), @b0 _ cQ bs (λ_=>nK _)]<;>rfl) rfl (inr (by rfl)) ?_;simp only[aB.down,simprocAttr];exact bP trivial
       refine aC h (λSF h=>?_) λSF h=>?_
       .exact aO qt [.bool false]
       .refine aL (o_ _ (inl (ay aj λ_ So LD _=>?_)));obtain⟨mn,nN,h⟩:=an h;obtain⟨qV,AQ,h⟩:=an h;refine dp (b6 [(1,.slice (J.map ir)),(2,.slice (a2.map aT)),(3,.aM (lF a0)),(8,.slice (aZ.1.map bs)),(9,.ae 1 (aZ.2.1.map aN)),(10,.int .i64 aZ.2.2),(11,.aM (q8 bq)),(12,.ae 3 (cY.map cQ)),(13,.ae 1 (dm.map aT)),(14,.ae 3 (cp.1.map cQ)),(15,.ae 1 (cp.2.1.map aN)),(16,.int .i64 cp.2.2),(90,.bool (!qV))] (λP bg=>?_) ?_)
        ·(try simp only[aB.down,simprocAttr]);refine dq (DQ a2 _ nN) (hK:= ?_);simp only[aB.down,simprocAttr];refine dq (S4 dm mn _ AQ) rfl rfl (by simp only[aB.down,simprocAttr,RN.down]<;>rfl) rfl (inr (by rfl)) ?_;simp only[aB.down,simprocAttr];exact bP trivial
        refine aC h (λar9 h=>?_) λar9 h=>?_
        .exact aO LD [.bool false]
        .refine aL (So _ (inl (ak ?_)));obtain⟨kV,DY,h⟩:=an h;refine dp (b6 [(1,.slice (J.map ir)),(2,.slice (a2.map aT)),(3,.aM (lF a0)),(8,.slice (aZ.1.map bs)),(9,.ae 1 (aZ.2.1.map aN)),(10,.int .i64 aZ.2.2),(12,.ae 3 (cY.map cQ)),(13,.ae 1 (dm.map aT)),(14,.ae 3 (cp.1.map cQ)),(15,.ae 1 (cp.2.1.map aN)),(16,.int .i64 cp.2.2),(17,.int .i64 kV.1)] (λP bg=>?_) ?_)
         ·(try simp only[aB.down,simprocAttr]);refine km [⟨.h 11 [0],true,_,_⟩,⟨.int .i64 1,false,_,.hole⟩] (ar6 bq.cw bq.ch bq.b_ bq.cD bq.cB 1 _ DY) rfl rfl rfl (by simp only[aB.down,simprocAttr,lX,kT,kn,gQ,gR,gS,cR,or_true,true_or, @b0 _ hq bl (λ_=>At _), @b0 _ hM dj (λ_=>Au _), @b0 _ bI bI (λ_=>pS _), @b0 _ aN aN (λ_=>jK _), @b0 _ aN aN (λ_=>jK _)]) rfl rfl (inl rfl) ?_;simp only[aB.down,simprocAttr,jI];exact bP trivial
         obtain⟨kW,HL,h⟩:=an h;refine dp (b6 [(1,.slice (J.map ir)),(2,.slice (a2.map aT)),(3,.aM (lF a0)),(8,.slice (aZ.1.map bs)),(9,.ae 1 (aZ.2.1.map aN)),(10,.int .i64 aZ.2.2),(13,.ae 1 (dm.map aT)),(14,.ae 3 (cp.1.map cQ)),(15,.ae 1 (cp.2.1.map aN)),(16,.int .i64 cp.2.2),(17,.int .i64 kW.1)] (λP bg=>?_) ?_)
         ·(try simp only[aB.down,simprocAttr]);refine km [⟨.h 12 [],true,_,_⟩,⟨.int .i64 kV.1,false,_,.hole⟩] (aaF cY kV.1 _ HL) rfl rfl rfl (by simp only[aB.down,simprocAttr,RW.down]) rfl rfl (inl rfl) ?_;simp only[aB.down,simprocAttr,jI];exact bP trivial
         obtain⟨nd,AY,h⟩:=an h;refine dp (b6 [(1,.slice (J.map ir)),(2,.slice (a2.map aT)),(3,.aM (lF a0)),(8,.slice (aZ.1.map bs)),(9,.ae 1 (aZ.2.1.map aN)),(10,.int .i64 aZ.2.2),(14,.ae 3 (cp.1.map cQ)),(15,.ae 1 (cp.2.1.map aN)),(16,.int .i64 cp.2.2),(17,.int .i64 nd.1)] (λP bg=>?_) ?_)
         ·(try simp only[aB.down,simprocAttr]);refine km [⟨.h 13 [],true,_,_⟩,⟨.int .i64 kW.1,false,_,.hole⟩] (S5 dm kW.1 _ AY) rfl rfl rfl (by simp only[aB.down,simprocAttr,lX,kT,kn,gQ,gR,gS,cR,or_true,true_or, @b0 _ aT aT (λ_=>jA _)]) rfl rfl (inl rfl) ?_;simp only[aB.down,simprocAttr,jI];exact bP trivial
         refine ay aj λ_ ar_ S7 _=>?_;rcases dH h with⟨n_,h⟩|⟨n_,h⟩
         .refine c8 n_ _ ?_;refine il rfl ?_;exact aO S7 [.bool false]
         .obtain⟨nJ,H3,h⟩:=an h;rcases dH h with⟨oO,h⟩|⟨oO,h⟩
          .refine dp (b6 [(1,.slice (J.map ir)),(2,.slice (a2.map aT)),(3,.aM (lF a0)),(8,.slice (aZ.1.map bs)),(9,.ae 1 (aZ.2.1.map aN)),(10,.int .i64 aZ.2.2),(14,.ae 3 (cp.1.map cQ)),(15,.ae 1 (cp.2.1.map aN)),(118,.bool true)] (λP bg=>?_) ?_)
           ·(try simp only[aB.down,simprocAttr,n_,(fM oO)]);refine hz (vy cp.1 aZ.1 _ H3) rfl rfl (by simp only[aB.down,simprocAttr,n_,(fM oO),q_.down]<;>rfl) rfl (inr (by rfl)) ?_;simp only[aB.down,simprocAttr,n_,(fM oO)];exact bP (R n_ (fM oO))
           refine il rfl ?_;exact aO S7 [.bool false]
          .obtain⟨lC,DU,h⟩:=an h;refine dp (b6 [(1,.slice (J.map ir)),(2,.slice (a2.map aT)),(3,.aM (lF a0)),(8,.slice (aZ.1.map bs)),(9,.ae 1 (aZ.2.1.map aN)),(10,.int .i64 aZ.2.2),(14,.ae 3 (cp.1.map cQ)),(15,.ae 1 (cp.2.1.map aN)),(118,.bool ((!lC)||(cp.2.2 !=aZ.2.2)))] (λP bg=>?_) ?_)
           .rcases Bool.eq_false_or_eq_true (lC)with rk|rk
            ·(try simp only[aB.down,simprocAttr,n_,(bN oO),rk]);refine hz (vy cp.1 aZ.1 _ H3) rfl rfl (by simp only[aB.down,simprocAttr,n_,(bN oO),rk,q_.down]<;>rfl) rfl (inr (by rfl)) ?_;simp only[aB.down,simprocAttr,n_,(bN oO),rk];refine hz (yP cp.2.1 aZ.2.1 _ DU) rfl rfl (by simp only[aB.down,simprocAttr,n_,(bN oO),rk,Ax.down]<;>rfl) rfl (inr (by rfl)) ?_;simp only[aB.down,simprocAttr,n_,(bN oO),rk];exact bP (R n_ (R (bN oO) rk))
            ·(try simp only[aB.down,simprocAttr,n_,(bN oO),rk]);refine hz (vy cp.1 aZ.1 _ H3) rfl rfl (by simp only[aB.down,simprocAttr,n_,(bN oO),rk,q_.down]<;>rfl) rfl (inr (by rfl)) ?_;simp only[aB.down,simprocAttr,n_,(bN oO),rk];refine hz (yP cp.2.1 aZ.2.1 _ DU) rfl rfl (by simp only[aB.down,simprocAttr,n_,(bN oO),rk,Ax.down]<;>rfl) rfl (inr (by rfl)) ?_;simp only[aB.down,simprocAttr,n_,(bN oO),rk];exact bP (R n_ (R (bN oO) rk))
           refine aC h (λyG h=>?_) λyG h=>?_
           .exact aO S7 [.bool false]
           .refine aL (ar_ _ (inl (ak ?_)));obtain⟨nf,asa,h⟩:=an h;refine dp (b6 [(1,.slice (J.map ir)),(2,.slice (a2.map aT)),(3,.aM (lF a0)),(8,.slice (aZ.1.map bs)),(9,.ae 1 (aZ.2.1.map aN)),(10,.int .i64 aZ.2.2),(14,.ae 3 (nf.2.map cQ)),(15,.ae 1 (cp.2.1.map aN)),(18,.int .i64 nf.1)] (λP bg=>?_) ?_)
            ·(try simp only[aB.down,simprocAttr]);refine km [⟨.h 14 [],true,_,_⟩,⟨.int .i64 1,false,_,.hole⟩] (aaF cp.1 1 _ asa) rfl rfl rfl (by simp only[aB.down,simprocAttr,RW.down]) rfl rfl (inl rfl) ?_;simp only[aB.down,simprocAttr,jI];exact bP trivial
            obtain⟨jl,asb,h⟩:=an h;refine dp (b6 [(1,.slice (J.map ir)),(2,.slice (a2.map aT)),(3,.aM (lF a0)),(8,.slice (aZ.1.map bs)),(9,.ae 1 (aZ.2.1.map aN)),(10,.int .i64 aZ.2.2),(14,.ae 3 (nf.2.map cQ)),(15,.ae 1 (jl.2.map aN)),(18,.int .i64 jl.1)] (λP bg=>?_) ?_)
            ·(try simp only[aB.down,simprocAttr]);refine km [⟨.h 15 [],true,_,_⟩,⟨.int .i64 nf.1,false,_,.hole⟩] (S6 cp.2.1 nf.1 _ asb) rfl rfl rfl (by simp only[aB.down,simprocAttr,lX,kT,kn,gQ,gR,gS,cR,or_true,true_or, @b0 _ aN aN (λ_=>jK _)]) rfl rfl (inl rfl) ?_;simp only[aB.down,simprocAttr,jI];exact bP trivial
            refine ak ?_;obtain⟨n3,asc,h⟩:=an h;refine dp (b6 [(1,.slice (J.map ir)),(2,.slice (a2.map aT)),(3,.aM (lF a0)),(8,.slice (aZ.1.map bs)),(9,.ae 1 (aZ.2.1.map aN)),(10,.int .i64 aZ.2.2),(14,.ae 3 (nf.2.map cQ)),(15,.ae 1 (jl.2.map aN)),(18,.int .i64 jl.1),(19,.int .i64 n3)] (λP bg=>?_) ?_)
            ·(try simp only[aB.down,simprocAttr]);refine dq (aaG nf.2 1 _ asc) rfl rfl (by simp only[aB.down,simprocAttr,q_.down]<;>rfl) rfl (inr (by rfl)) ?_;simp only[aB.down,simprocAttr];exact bP trivial
            refine ay aj λ_ asd SK _=>ak ?_;refine aC h (λase h=>?_) λase h=>?_
            .exact aO SK [.bool false]
            .refine aL (asd _ (inl ?_));obtain⟨pM,asf,h⟩:=an h;refine dp (b6 [(1,.slice (J.map ir)),(2,.slice (a2.map aT)),(3,.aM (lF a0)),(8,.slice (aZ.1.map bs)),(9,.ae 1 (aZ.2.1.map aN)),(10,.int .i64 aZ.2.2),(14,.ae 3 (nf.2.map cQ)),(15,.ae 1 (jl.2.map aN)),(18,.int .i64 jl.1),(19,.int .i64 pM)] (λP bg=>?_) ?_)
             ·(try simp only[aB.down,simprocAttr]);refine dq (aaH jl.2 n3 _ asf) rfl rfl (by simp only[aB.down,simprocAttr,HE.down]<;>rfl) rfl (inr (by rfl)) ?_;simp only[aB.down,simprocAttr];exact bP trivial
             refine ay aj λ_ SM SN _=>ak ?_;refine aC h (λasg h=>?_) λasg h=>?_
             .exact aO SN [.bool false]
             .refine aL (SM _ (inl (ay aj λ_ SO LK _=>ak ?_)));refine aC h (λash h=>?_) λash h=>?_
              .exact aO LK [.bool false]
              .refine aL (SO _ (inl ?_));obtain⟨ym,asi,h⟩:=an h;obtain⟨wM,asj,h⟩:=an h;obtain⟨Ar,asl,h⟩:=an h;obtain⟨q7,asm,h⟩:=an h;refine dp (b6 [(8,.slice (aZ.1.map bs)),(9,.ae 1 (aZ.2.1.map aN)),(10,.int .i64 aZ.2.2),(14,.ae 3 (nf.2.map cQ)),(15,.ae 1 (jl.2.map aN)),(18,.int .i64 jl.1),(20,.ae 3 (q7.1.map cQ)),(21,.ae 1 (q7.2.1.map aN)),(22,.int .i64 q7.2.2)] (λP bg=>?_) ?_)
               ·(try simp only[aB.down,simprocAttr,uG,uH]);refine dq (Lz a0 _ asi) (hK:= ?_);simp only[aB.down,simprocAttr,uG,uH];refine dq (LA J _ asj) (hK:= ?_);simp only[aB.down,simprocAttr,uG,uH];refine dq (DQ a2 _ asl) (hK:= ?_);simp only[aB.down,simprocAttr,uG,uH];refine dq (aaE ym wM Ar _ asm) rfl rfl (by simp only[aB.down,simprocAttr,ZP.down]<;>rfl) rfl (inr (by simp only[I.dc,I.g_,ZQ.down,Bool.and_self])) ?_;simp only[aB.down,simprocAttr,uG,uH];exact bP (R @uG @uH)
               refine ay aj λ_ n104 aaJ _=>?_;obtain⟨Rq,vx,h⟩:=an h;rcases dH h with⟨oP,h⟩|⟨oP,h⟩
               .refine dp (b6 [(14,.ae 3 (nf.2.map cQ)),(15,.ae 1 (jl.2.map aN)),(18,.int .i64 jl.1),(163,.bool true)] (λP bg=>?_) ?_)
                ·(try simp only[aB.down,simprocAttr,(fM oP)]);refine dq (vy q7.1 aZ.1 _ vx) rfl rfl (by simp only[aB.down,simprocAttr,(fM oP),q_.down]<;>rfl) rfl (inr (by rfl)) ?_;simp only[aB.down,simprocAttr,(fM oP)];exact bP (fM oP)
                refine il rfl ?_;exact aO aaJ [.bool false]
               .obtain⟨Ld,aaK,h⟩:=an h;refine dp (b6 [(14,.ae 3 (nf.2.map cQ)),(15,.ae 1 (jl.2.map aN)),(18,.int .i64 jl.1),(163,.bool ((!Ld)||(q7.2.2 !=aZ.2.2)))] (λP bg=>?_) ?_)
                .rcases Bool.eq_false_or_eq_true (Ld)with rl|rl
                 ·(try simp only[aB.down,simprocAttr,(bN oP),rl]);refine dq (vy q7.1 aZ.1 _ vx) rfl rfl (by simp only[aB.down,simprocAttr,(bN oP),rl,q_.down]<;>rfl) rfl (inr (by rfl)) ?_;simp only[aB.down,simprocAttr,(bN oP),rl];refine hz (yP q7.2.1 aZ.2.1 _ aaK) rfl rfl (by simp only[aB.down,simprocAttr,(bN oP),rl,Ax.down]<;>rfl) rfl (inr (by rfl)) ?_;simp only[aB.down,simprocAttr,(bN oP),rl];exact bP (R (bN oP) rl)
                 ·(try simp only[aB.down,simprocAttr,(bN oP),rl]);refine dq (vy q7.1 aZ.1 _ vx) rfl rfl (by simp only[aB.down,simprocAttr,(bN oP),rl,q_.down]<;>rfl) rfl (inr (by rfl)) ?_;simp only[aB.down,simprocAttr,(bN oP),rl];refine hz (yP q7.2.1 aZ.2.1 _ aaK) rfl rfl (by simp only[aB.down,simprocAttr,(bN oP),rl,Ax.down]<;>rfl) rfl (inr (by rfl)) ?_;simp only[aB.down,simprocAttr,(bN oP),rl];exact bP (R (bN oP) rl)
                refine aC h (λasn h=>?_) λasn h=>?_
                .exact aO aaJ [.bool false]
                .refine aL (n104 _ (inl (ak ?_)));obtain⟨As,aso,h⟩:=an h;refine dp (b6 [(15,.ae 1 (jl.2.map aN)),(18,.int .i64 jl.1),(19,.int .i64 As)] (λP bg=>?_) ?_)
                 ·(try simp only[aB.down,simprocAttr]);refine dq (aaG nf.2 1 _ aso) rfl rfl (by simp only[aB.down,simprocAttr,q_.down]<;>rfl) rfl (inr (by rfl)) ?_;simp only[aB.down,simprocAttr];exact bP trivial
                 refine ay aj λ_ n116 asp _=>ak ?_;refine aC h (λasq h=>?_) λasq h=>?_
                 .exact aO asp [.bool false]
                 .refine aL (n116 _ (inl ?_));obtain⟨DN,asr,h⟩:=an h;refine dp (b6 [(18,.int .i64 jl.1),(19,.int .i64 DN)] (λP bg=>?_) ?_)
                  ·(try simp only[aB.down,simprocAttr]);refine dq (aaH jl.2 As _ asr) rfl rfl (by simp only[aB.down,simprocAttr,HE.down]<;>rfl) rfl (inr (by rfl)) ?_;simp only[aB.down,simprocAttr];exact bP trivial
                  refine ay aj λ_ n122 ass _=>ak ?_;refine aC h (λast h=>?_) λast h=>?_
                  .exact aO ass [.bool false]
                  .refine aL (n122 _ (inl (ay aj λ_ n126 asu _=>ak ?_)));refine aC h (λasv h=>?_) λasv h=>?_
                   .exact aO asu [.bool false]
                   .exact aL (n126 _ (inl (aO aj [.bool true])))
end Go.Proofs.YtmaepbgkcmjcjahGreatDoor
