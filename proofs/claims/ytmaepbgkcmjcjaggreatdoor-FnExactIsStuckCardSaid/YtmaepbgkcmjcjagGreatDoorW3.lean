/- Part of a proof that a law returns true for every input. No condition. -/
import Derived.Test.YtmaepbgkcmjcjagGreatDoorW1x3
namespace Go.Proofs.YtmaepbgkcmjcjagGreatDoor
open Option Go.IntKind Nat
open Go Go.ef Go.lZ
set_option maxRecDepth 100000
set_option maxHeartbeats 3600000
set_option linter.unusedSimpArgs false
set_option linter.unusedVariables false
theorem anY (a0 J a2 r) (h:I8 a0 J a2=some r):aV ah 219 [.slice (a0.map ed),.int .i64 J,.int .i64 a2] (.bool r) []:=by
 refine bA [0,1,2] [.tmp 6] Tryz.func219 ajt (λbt ai bq=>?_);refine ws _ ?_;refine az ai (λdJ bL bf af=>?_);obtain⟨U,bW,h⟩:=ao h;rcases dr h with⟨cP,h⟩|⟨cP,h⟩
 .refine eH (hb cP) (l4 J 0 29 _ bW) _ ?_;refine iM rfl ?_;refine ws _ ?_;exact aw (bf _ (.inl (ay [.bool false])))
 .obtain⟨af,b3,h⟩:=ao h;rcases dr h with⟨cy,h⟩|⟨cy,h⟩
  .refine eQ (cI [(0,.slice (a0.map ed)),(1,.int .i64 J),(24,.bool true)] (λP bu=>?_) ?_)
   ·(try simp only[aT.down,simprocAttr,(b1 cP),(hb cy)]);refine dR (l4 J 0 29 _ bW) rfl rfl rfl rfl (.inl (by rfl)) ?_;simp only[aT.down,simprocAttr,(b1 cP),(hb cy)];refine iN (l4 a2 1 60 _ b3) rfl rfl rfl rfl (.inl (by rfl)) ?_;simp only[aT.down,simprocAttr,(b1 cP),(hb cy)];exact cc (R (b1 cP) (hb cy))
   refine iM rfl ?_;refine ws _ ?_;exact aw (bf _ (.inl (ay [.bool false])))
  .obtain⟨aK,ic,h⟩:=ao h;refine eQ (cI [(0,.slice (a0.map ed)),(1,.int .i64 J),(24,.bool (!aK))] (λP bu=>?_) ?_)
   ·(try simp only[aT.down,simprocAttr,(b1 cP),(b1 cy)]);refine dR (l4 J 0 29 _ bW) rfl rfl rfl rfl (.inl (by rfl)) ?_;simp only[aT.down,simprocAttr,(b1 cP),(b1 cy)];refine iN (l4 a2 1 60 _ b3) rfl rfl rfl rfl (.inl (by rfl)) ?_;simp only[aT.down,simprocAttr,(b1 cP),(b1 cy)];refine iN (l4 (a0.length:Int) 1 a2 _ ic) rfl rfl rfl rfl (.inl (by rfl)) ?_;simp only[aT.down,simprocAttr,(b1 cP),(b1 cy)];exact cc (R (b1 cP) (b1 cy))
   refine aF h (λlJ h=>?_) (λlJ h=>?_)
   .refine ws _ ?_;exact aw (bf _ (.inl (ay [.bool false])))
   .refine aJ (bL _ (.inl ?_));refine ws _ ?_;refine az ai (λhv ez ee eZ=>?_);refine ws _ ?_;refine bn ee (λsN kX mU nn hV=>?_);show bk ah (.loop ?ki) _ _;have kV:∀n jA ug,BU a0 J n jA ug=some r->cX ah ?ki sN (aq [(1,.int .i64 J),(7,.int .i64 jA),(25,.slice (a0.map ed)),(26,.int .i64 (a0.length:Int)),(27,.int .i64 ug)]):=by
     refine dd (λm16 kW jA ug h=>dc mU (λpe kk kl jD=>?_));refine ws _ ?_;refine az kl (λJ5 rp zw lD=>?_);refine aF h (λfX h=>?_) (λfX h=>?_)
     .refine aJ (rp _ (.inl ?_));refine az kl (λKw xQ zM mL=>?_);refine bn zM (λxB oc nI xD lb=>?_);obtain⟨a_,lj,h⟩:=ao h;refine c1 lj _ ?_;refine az nI (λxJ sQ oF qj=>?_);rcases dr h with⟨nm,h⟩|⟨nm,h⟩
      .refine c1 nm _ ?_;refine iM rfl ?_;refine ws _ ?_;exact aw (oF _ (.inl (ay [.bool false])))
      .obtain⟨bo,sY,h⟩:=ao h;refine eH nm (anX a_ J _ sY) _ ?_;refine aF h (λod h=>?_) (λod h=>?_)
       .refine ws _ ?_;exact aw (oF _ (.inl (ay [.bool false])))
       .refine aJ (sQ _ (.inl ?_));obtain⟨bD,pT,h⟩:=ao h;refine Xr (Yu a_ _ pT) _ ?_;refine oc _ (xQ _ (.inl ?_));refine wr _ ?_;exact kk _ (.inr ⟨_,aY rfl,kW (i64.wrap (jA+(i64.wrap (bD-1)))) (i64.wrap (ug+1)) h⟩)
     .refine c7 (lD 0 _ (jD 0 _ (nn _ (ez _ (.inl ?_)))));refine ws _ ?_;exact aw (ai _ (.inl (ay [.bool (jA==0)])))
    obtain⟨n,h⟩:=cS h;exact db (.inr ⟨_,aY rfl,kV n 1 0 h⟩)
theorem anZ (a0 J r) (h:OJ a0 J=some r):aV ah 218 [.slice (a0.map ed),.ref (ff J)] (.bool r) []:=by
 refine bA [0,1] [.tmp 3] Tryz.func218 c218 (λbt ai bq=>?_);refine ws _ ?_;obtain⟨U,aR,h⟩:=ao h;refine cB (anY a0 J.scope 15 _ aR) _ ?_;exact aw (ai _ (.inl (ay [.bool (!U)])))
theorem an0 (a0 J r) (h:OL a0 J=some r):aV ah 239 [.slice (a0.map iO),.fn 218 [.ref (ff J)]] (.int .i64 r) []:=by
 refine bA [0,1] [.tmp 4] Tryz.func239 aju (λbt ai bq=>?_);refine ws _ ?_;refine az ai (λdJ bL bf af=>?_);refine ws _ ?_;refine bn bf (λei dS bR bU a_=>?_);show bk ah (.loop ?fP) _ _;have gK:∀n cr,Fo a0 J n cr=some r->cX ah ?fP ei (aq [(0,.slice (a0.map iO)),(1,.fn 218 [.ref (ff J)]),(7,.int .i64 (a0.length:Int)),(8,.int .i64 cr)]):=by
  refine dd (λm6 fM cr h=>dc bR (λgR dZ df bo=>?_));refine ws _ ?_;refine az df (λgu dx dE bj=>?_);refine aF h (λcy h=>?_) (λcy h=>?_)
  .refine aJ (dx _ (.inl ?_));refine az df (λek cE cd ch=>?_);refine bn cd (λe0 cf cn dX cv=>?_);refine ws _ ?_;obtain⟨U,fi,h⟩:=ao h;obtain⟨af,dB,h⟩:=ao h;refine eH fi (anZ U J _ dB) _ ?_;refine aF h (λdY h=>?_) (λdY h=>?_)
   .refine ws _ ?_;exact aw (cn _ (.inl (ay [.int .i64 cr])))
   .refine aJ (cf _ (cE _ (.inl ?_)));refine wr _ ?_;exact dZ _ (.inr ⟨_,aY rfl,fM (i64.wrap (cr+1)) h⟩)
  .refine c7 (bj 0 _ (bo 0 _ (bU _ (bL _ (.inl ?_)))));refine ws _ ?_;exact aw (ai _ (.inl (ay [.int .i64 (-1)])))
 obtain⟨n,h⟩:=cS h;exact db (.inr ⟨_,aY rfl,gK n 0 h⟩)
theorem an1 (a0 J r) (h:I9 a0 J=some r):aV ah 217 [.slice (a0.map iO),.fn 218 [.ref (ff J)]] (.bool r) []:=by
 refine bA [0,1] [.tmp 4] Tryz.func217 ajv (λbt ai bq=>?_);refine ws _ ?_;obtain⟨U,aR,h⟩:=ao h;refine cB (an0 a0 J _ aR) _ ?_;exact aw (ai _ (.inl (ay [.bool (decide (0<=U))])))
theorem an2 (a0 J a2 r) (h:Ft a0 J a2=some r):aV ah 191 [eh a0,.slice (J.map ba),ff a2] (.int .i64 r) []:=by
 refine bA [0,1,2] [.tmp 6] Tryz.func191 ajz (λbt ai bq=>?_);refine ws _ ?_;refine az ai (λdJ bL bf af=>?_);refine bn bf (λjl e7 de fU aK=>?_);obtain⟨U,cM,h⟩:=ao h;refine cB (anV a0 _ cM) _ ?_;refine aF h (λdn h=>?_) (λdn h=>?_)
 .refine ws _ ?_;exact aw (de _ (.inl (ay [.int .i64 2])))
 .skip;have rq:∀Fs,Fq a0 J a2 Fs=some r->bk ah Xa jl (aq [(1,.slice (J.map ba)),(3,.aM (eh a0)),(5,.aM (ff a2)),(11,.bool Fs)]):=by
   intro Fs h;refine aF h (λcy h=>?_) (λcy h=>?_)
   .refine ws _ ?_;exact aw (de _ (.inl (ay [.int .i64 3])))
   .skip;have GD:∀Fp,zf a0 J a2 Fp=some r->bk ah W_ jl (aq [(1,.slice (J.map ba)),(3,.aM (eh a0)),(5,.aM (ff a2)),(26,.bool Fp)]):=by
     intro Fp h;refine aF h (λdX h=>?_) (λdX h=>?_)
     .refine ws _ ?_;exact aw (de _ (.inl (ay [.int .i64 4])))
     .obtain⟨af,fi,h⟩:=ao h;refine cB (anW a0 J _ fi) _ ?_;refine aF h (λfw h=>?_) (λfw h=>?_)
      .refine ws _ ?_;exact aw (de _ (.inl (ay [.int .i64 5])))
      .refine mT (a0.Kind==5) [(3,.aM (eh a0)),(5,.aM (ff a2)),(54,.bool ((a0.Kind==5)&&(!a2.behind)))] ?_;refine aF h (λkj h=>?_) (λkj h=>?_)
       .refine ws _ ?_;exact aw (de _ (.inl (ay [.int .i64 6])))
       .refine mT (a0.Kind==4) [(3,.aM (eh a0)),(5,.aM (ff a2)),(63,.bool ((a0.Kind==4)&&(decide (6<=a2.scope))))] ?_;refine aF h (λfX h=>?_) (λfX h=>?_)
        .refine ws _ ?_;exact aw (de _ (.inl (ay [.int .i64 7])))
        .obtain⟨aK,jm,h⟩:=ao h;refine eQ (cI [(72,.bool aK)] (λP bu=>?_) ?_)
         ·(try simp only[aT.down,simprocAttr]);refine dR (an1 a0.cO a2 _ jm) rfl rfl (by simp only[aT.down,simprocAttr,xA.down]<;>rfl) rfl (.inr (by rfl)) ?_;simp only[aT.down,simprocAttr];exact cc trivial
         refine aF h (λh0 h=>?_) (λh0 h=>?_)
         .refine ws _ ?_;exact aw (de _ (.inl (ay [.int .i64 8])))
         .refine aJ (e7 _ (bL _ (.inl ?_)));refine ws _ ?_;exact aw (ai _ (.inl (ay [.int .i64 0])))
    rcases dr h with⟨jY,h⟩|⟨jY,h⟩
    .obtain⟨a_,sY,h⟩:=ao h;rcases dr h with⟨od,h⟩|⟨od,h⟩
     .refine lY (cI (K:=eJ _) [(1,.slice (J.map ba)),(3,.aM (eh a0)),(5,.aM (ff a2)),(26,.bool true)] (λP bu=>?_) ?_)
      ·(try simp only[aT.down,simprocAttr,jY,(hb od)]);refine iN (l4 a0.Number 1 7 _ sY) rfl rfl rfl rfl (.inl (by rfl)) ?_;simp only[aT.down,simprocAttr,jY,(hb od)];exact cc (R jY (hb od))
      exact .inr ⟨_,aY rfl,GD true h⟩
     .rcases dr h with⟨gX,h⟩|⟨gX,h⟩
      .obtain⟨bo,sV,h⟩:=ao h;refine lY (cI (K:=eJ _) [(1,.slice (J.map ba)),(3,.aM (eh a0)),(5,.aM (ff a2)),(26,.bool (!bo))] (λP bu=>?_) ?_)
       ·(try simp only[aT.down,simprocAttr,jY,(b1 od),gX]);refine iN (l4 a0.Number 1 7 _ sY) rfl rfl rfl rfl (.inl (by rfl)) ?_;simp only[aT.down,simprocAttr,jY,(b1 od),gX];refine iN (xP a0.Number (J.length:Int) _ sV) rfl rfl rfl rfl (.inl (by rfl)) ?_;simp only[aT.down,simprocAttr,jY,(b1 od),gX];exact cc (R jY (R (b1 od) gX))
       exact .inr ⟨_,aY rfl,GD (!bo) h⟩
      .refine lY (cI (K:=eJ _) [(1,.slice (J.map ba)),(3,.aM (eh a0)),(5,.aM (ff a2)),(26,.bool false)] (λP bu=>?_) ?_)
       ·(try simp only[aT.down,simprocAttr,jY,(b1 od),gX]);refine iN (l4 a0.Number 1 7 _ sY) rfl rfl rfl rfl (.inl (by rfl)) ?_;simp only[aT.down,simprocAttr,jY,(b1 od),gX];exact cc (R jY (R (b1 od) gX))
       exact .inr ⟨_,aY rfl,GD false h⟩
    .rcases dr h with⟨iF,h⟩|⟨iF,h⟩
     .obtain⟨bD,jI,h⟩:=ao h;refine lY (cI (K:=eJ _) [(1,.slice (J.map ba)),(3,.aM (eh a0)),(5,.aM (ff a2)),(26,.bool (!bD))] (λP bu=>?_) ?_)
      ·(try simp only[aT.down,simprocAttr,jY,iF]);refine iN (xP a0.Number (J.length:Int) _ jI) rfl rfl rfl rfl (.inl (by rfl)) ?_;simp only[aT.down,simprocAttr,jY,iF];exact cc (R jY iF)
      exact .inr ⟨_,aY rfl,GD (!bD) h⟩
     .refine lY (cI (K:=eJ _) [(1,.slice (J.map ba)),(3,.aM (eh a0)),(5,.aM (ff a2)),(26,.bool false)] (λP bu=>?_) ?_)
      .simp only[aT.down,simprocAttr,jY,iF];exact cc (R jY iF)
      exact .inr ⟨_,aY rfl,GD false h⟩
  rcases dr h with⟨oG,h⟩|⟨oG,h⟩
  .rcases dr h with⟨pU,h⟩|⟨pU,h⟩
   .obtain⟨bj,qB,h⟩:=ao h;refine lY (cI (K:=eJ _) [(1,.slice (J.map ba)),(3,.aM (eh a0)),(5,.aM (ff a2)),(11,.bool (!bj))] (λP bu=>?_) ?_)
    ·(try simp only[aT.down,simprocAttr,oG,pU]);refine iN (l5 a0.Name _ qB) rfl rfl rfl rfl (.inl (by rfl)) ?_;simp only[aT.down,simprocAttr,oG,pU];exact cc (R oG pU)
    exact .inr ⟨_,aY rfl,rq (!bj) h⟩
   .refine lY (cI (K:=eJ _) [(1,.slice (J.map ba)),(3,.aM (eh a0)),(5,.aM (ff a2)),(11,.bool false)] (λP bu=>?_) ?_)
    .simp only[aT.down,simprocAttr,oG,pU];exact cc (R oG pU)
    exact .inr ⟨_,aY rfl,rq false h⟩
  .refine lY (cI (K:=eJ _) [(1,.slice (J.map ba)),(3,.aM (eh a0)),(5,.aM (ff a2)),(11,.bool false)] (λP bu=>?_) ?_)
   .simp only[aT.down,simprocAttr,oG];exact cc oG
   exact .inr ⟨_,aY rfl,rq false h⟩
theorem an3 (a0 J r) (h:Fu a0 J=some r):aV ah 161 [.slice (a0.map ba),ba J] (.tuple [.int .i64 r.1,.int .i64 r.2]) []:=by
 refine bA [0,1] [.tmp 4,.tmp 5] Tryz.func161 ajA (λbt ai bq=>?_);refine ws _ ?_;refine az ai (λdJ bL bf af=>?_);obtain⟨U,bW,h⟩:=ao h;rcases dr h with⟨cP,h⟩|⟨cP,h⟩
 .refine mr (hb cP) (l4 (J.Body.length:Int) 1 20 _ bW) _ ?_;refine iM rfl ?_;refine ws _ ?_;exact aw (bf _ (.inl (ay [.int .i64 0,.int .i64 1])))
 .obtain⟨af,b3,h⟩:=ao h;refine i1 rfl (ig [(0,.slice (a0.map ba)),(3,.aM (ba J)),(22,.bool (af !=(J.Body.length:Int)))] (λP bu=>?_) ?_)
  ·(try simp only[cV.down,simprocAttr,(b1 cP)]);refine hL (l4 (J.Body.length:Int) 1 20 _ bW) rfl rfl rfl rfl (.inl (by rfl)) ?_;simp only[cV.down,simprocAttr,(b1 cP)];refine lz (Yr J 0 _ b3) rfl rfl rfl rfl (.inl (by rfl)) ?_;simp only[cV.down,simprocAttr,(b1 cP)];refine⟨hF (by kernel_rfl),?_⟩;exact cc (b1 cP)
  refine aF h (λcy h=>?_) (λcy h=>?_)
  .refine ws _ ?_;exact aw (bf _ (.inl (ay [.int .i64 0,.int .i64 1])))
  .refine aJ (bL _ (.inl ?_));obtain⟨aK,kK,h⟩:=ao h;refine cB (Q2 J _ kK) _ ?_;refine az ai (λlh gV iE gz=>?_);refine ws _ ?_;refine bn iE (λhv ez ee fw eZ=>?_);show bk ah (.loop ?ki) _ _;have kV:∀n qk,zg a0 J aK n qk=some r->cX ah ?ki hv (aq [(0,.slice (a0.map ba)),(6,.aj 2 (aK.map ff)),(26,.slice (J.Body.map eh)),(27,.int .i64 (J.Body.length:Int)),(28,.int .i64 qk)]):=by
    refine dd (λm16 kW qk h=>dc ee (λkF gd gj ft=>?_));refine ws _ ?_;refine az gj (λpe kk kl jD=>?_);refine aF h (λhD h=>?_) (λhD h=>?_)
    .refine aJ (kk _ (.inl ?_));refine az gj (λJ5 rp zw lD=>?_);refine bn zw (λalr J6 Qh fX l3=>?_);obtain⟨a_,gJ,h⟩:=ao h;refine c1 gJ _ ?_;obtain⟨bo,lj,h⟩:=ao h;obtain⟨bD,ir,h⟩:=ao h;refine mr (R lj (dy lj)) (an2 a_ a0 bo _ ir) _ ?_;refine ws _ ?_;refine aF h (λnm h=>?_) (λnm h=>?_)
     .refine ws _ ?_;exact aw (Qh _ (.inl (ay [.int .i64 qk,.int .i64 bD])))
     .refine aJ (J6 _ (rp _ (.inl ?_)));refine wr _ ?_;exact gd _ (.inr ⟨_,aY rfl,kW (i64.wrap (qk+1)) h⟩)
    .refine c7 (jD 0 _ (ft 0 _ (fw _ (gV _ (.inl ?_)))));refine ws _ ?_;exact aw (ai _ (.inl (ay [.int .i64 0,.int .i64 0])))
   obtain⟨n,h⟩:=cS h;exact db (.inr ⟨_,aY rfl,kV n 0 h⟩)
theorem an4 (a0 r) (h:Ja a0=some r):aV ah 121 [.slice (a0.map ba)] (.bool r) []:=by
 refine bA [0] [.tmp 2] Tryz.func121 ajB (λbt ai bq=>?_);refine ws _ ?_;refine az ai (λdJ bL bf af=>?_);obtain⟨U,bW,h⟩:=ao h;rcases dr h with⟨cP,h⟩|⟨cP,h⟩
 .refine eH (hb cP) (l4 (a0.length:Int) 1 4 _ bW) _ ?_;refine iM rfl ?_;refine ws _ ?_;exact aw (bf _ (.inl (ay [.bool false])))
 .obtain⟨af,b3,h⟩:=ao h;refine eQ (cI [(0,.slice (a0.map ba)),(15,.bool (!af))] (λP bu=>?_) ?_)
  ·(try simp only[aT.down,simprocAttr,(b1 cP)]);refine dR (l4 (a0.length:Int) 1 4 _ bW) rfl rfl rfl rfl (.inl (by rfl)) ?_;simp only[aT.down,simprocAttr,(b1 cP)];refine iN (anK a0 _ b3) rfl rfl rfl rfl (.inl (by rfl)) ?_;simp only[aT.down,simprocAttr,(b1 cP)];exact cc (b1 cP)
  refine aF h (λcy h=>?_) (λcy h=>?_)
  .refine ws _ ?_;exact aw (bf _ (.inl (ay [.bool false])))
  .refine aJ (bL _ (.inl ?_));refine az ai (λe0 cf cn cv=>?_);refine ws _ ?_;refine bn cn (λlh gV iE eE gz=>?_);show bk ah (.loop ?gU) _ _;have ho:∀n q7,BV a0 n q7=some r->cX ah ?gU lh (aq [(0,.slice (a0.map ba)),(16,.slice (a0.map ba)),(17,.int .i64 (a0.length:Int)),(18,.int .i64 q7)]):=by
    refine dd (λm14 gW q7 h=>dc iE (λkG fE fp hG=>?_));refine ws _ ?_;refine az fp (λkF gd gj ft=>?_);refine aF h (λnn h=>?_) (λnn h=>?_)
    .refine aJ (gd _ (.inl ?_));refine az fp (λpe kk kl jD=>?_);refine bn kl (λGu ry sZ hD pG=>?_);obtain⟨aK,gL,h⟩:=ao h;refine c1 gL _ ?_;refine az sZ (λKw xQ zM mL=>?_);obtain⟨a_,jm,h⟩:=ao h;rcases dr h with⟨h0,h⟩|⟨h0,h⟩
     .refine mr (hb h0) (Kq aK.Name _ jm) _ ?_;refine iM rfl ?_;refine ws _ ?_;exact aw (zM _ (.inl (ay [.bool false])))
     .obtain⟨bo,sT,h⟩:=ao h;obtain⟨bD,vG,h⟩:=ao h;refine i1 rfl (ig [(0,.slice (a0.map ba)),(4,.aM (ba aK)),(16,.slice (a0.map ba)),(17,.int .i64 (a0.length:Int)),(18,.int .i64 q7),(35,.bool (decide (0<=bD)))] (λP bu=>?_) ?_)
      ·(try simp only[cV.down,simprocAttr,(b1 h0),sT, @jy _ ba 3 (λ_=>rfl)]);refine hL (Kq aK.Name _ jm) rfl rfl rfl rfl (.inl (by rfl)) ?_;simp only[cV.down,simprocAttr,(b1 h0),sT, @jy _ ba 3 (λ_=>rfl)];refine lz (anO bo aK.Name _ vG) rfl rfl rfl rfl (.inl (by rfl)) ?_;simp only[cV.down,simprocAttr,(b1 h0),sT, @jy _ ba 3 (λ_=>rfl)];refine⟨hF (by kernel_rfl),?_⟩;exact cc (R (b1 h0) (R sT (@jy _ ba 3 (λ_=>rfl))))
      refine aF h (λjY h=>?_) (λjY h=>?_)
      .refine ws _ ?_;exact aw (zM _ (.inl (ay [.bool false])))
      .refine aJ (xQ _ (.inl ?_));obtain⟨bj,Gv,h⟩:=ao h;refine cB (an3 a0 aK _ Gv) _ ?_;refine ws _ ?_;refine aF h (λiF h=>?_) (λiF h=>?_)
       .refine ws _ ?_;exact aw (sZ _ (.inl (ay [.bool false])))
       .refine aJ (ry _ (kk _ (.inl ?_)));refine wr _ ?_;exact fE _ (.inr ⟨_,aY rfl,gW (i64.wrap (q7+1)) h⟩)
    .refine c7 (ft 0 _ (hG 0 _ (eE _ (cf _ (.inl ?_)))));refine ws _ ?_;exact aw (ai _ (.inl (ay [.bool true])))
   obtain⟨n,h⟩:=cS h;exact db (.inr ⟨_,aY rfl,ho n 0 h⟩)
theorem an5 (a0 r) (h:ON a0=some r):aV ah 131 [.int .i64 a0] (.bool r) []:=by
 refine bA [0] [.tmp 2] Tryz.func131 c131 (λbt ai bq=>?_);refine ws _ ?_;obtain⟨U,aR,h⟩:=ao h;refine cB (Yt a0 _ aR) _ ?_;exact aw (ai _ (.inl (ay [.bool (!U)])))
theorem an6 (a0 r) (h:OP a0=some r):aV ah 166 [.slice (a0.map a1),.fn 131 []] (.int .i64 r) []:=by
 refine bA [0,1] [.tmp 4] Tryz.func166 ajC (λbt ai bq=>?_);refine ws _ ?_;refine az ai (λdJ bL bf af=>?_);refine ws _ ?_;refine bn bf (λei dS bR bU a_=>?_);show bk ah (.loop ?fP) _ _;have gK:∀n cr,Fv a0 n cr=some r->cX ah ?fP ei (aq [(0,.slice (a0.map a1)),(1,.fn 131 []),(7,.int .i64 (a0.length:Int)),(8,.int .i64 cr)]):=by
  refine dd (λm6 fM cr h=>dc bR (λgR dZ df bo=>?_));refine ws _ ?_;refine az df (λgu dx dE bj=>?_);refine aF h (λcy h=>?_) (λcy h=>?_)
  .refine aJ (dx _ (.inl ?_));refine az df (λek cE cd ch=>?_);refine bn cd (λe0 cf cn dX cv=>?_);refine ws _ ?_;obtain⟨U,fi,h⟩:=ao h;obtain⟨af,dB,h⟩:=ao h;refine eH fi (an5 U _ dB) _ ?_;refine aF h (λdY h=>?_) (λdY h=>?_)
   .refine ws _ ?_;exact aw (cn _ (.inl (ay [.int .i64 cr])))
   .refine aJ (cf _ (cE _ (.inl ?_)));refine wr _ ?_;exact dZ _ (.inr ⟨_,aY rfl,fM (i64.wrap (cr+1)) h⟩)
  .refine c7 (bj 0 _ (bo 0 _ (bU _ (bL _ (.inl ?_)))));refine ws _ ?_;exact aw (ai _ (.inl (ay [.int .i64 (-1)])))
 obtain⟨n,h⟩:=cS h;exact db (.inr ⟨_,aY rfl,gK n 0 h⟩)
theorem an7 (a0 r) (h:OQ a0=some r):aV ah 130 [.slice (a0.map a1),.fn 131 []] (.bool r) []:=by
 refine bA [0,1] [.tmp 4] Tryz.func130 c130 (λbt ai bq=>?_);refine ws _ ?_;obtain⟨U,aR,h⟩:=ao h;refine cB (an6 a0 _ aR) _ ?_;exact aw (ai _ (.inl (ay [.bool (decide (0<=U))])))
theorem Q4 (a0 r) (h:BW a0=some r):aV ah 97 [.slice (a0.map a1)] (.bool r) []:=by
 refine bA [0] [.tmp 2] Tryz.func97 ajD (λbt ai bq=>?_);refine ws _ ?_;obtain⟨U,aR,h⟩:=ao h;refine cB (an7 a0 _ aR) _ ?_;exact aw (ai _ (.inl (ay [.bool (!U)])))
theorem an8 (a0 J r) (h:Jb a0 J=some r):aV ah 125 [.slice (a0.map ba),dh J] (.bool r) []:=by
 refine bA [0,1] [.tmp 4] Tryz.func125 ajE (λbt ai bq=>?_);refine ws _ ?_;obtain⟨U,aR,h⟩:=ao h;rcases dr h with⟨bU,h⟩|⟨bU,h⟩
 .obtain⟨af,cM,h⟩:=ao h;rcases dr h with⟨dn,h⟩|⟨dn,h⟩
  .obtain⟨aK,b3,h⟩:=ao h;refine i1 rfl (ig [(4,.bool aK)] (λP bu=>?_) ?_)
   ·(try simp only[cV.down,simprocAttr,bU,cM,dn]);refine hL (xP J.cD (a0.length:Int) _ aR) rfl rfl rfl rfl (.inl (by rfl)) ?_;simp only[cV.down,simprocAttr,bU,cM,dn];refine lz (Q4 J.bV _ b3) rfl rfl rfl rfl (.inl (by rfl)) ?_;simp only[cV.down,simprocAttr,bU,cM,dn];refine⟨hF (by kernel_rfl),?_⟩;exact cc (R bU (R cM dn))
   exact aw (ai _ (.inl (ay [.bool aK])))
  .refine mr (R bU (R cM dn)) (xP J.cD (a0.length:Int) _ aR) _ ?_;exact aw (ai _ (.inl (ay [.bool false])))
 .refine mr bU (xP J.cD (a0.length:Int) _ aR) _ ?_;exact aw (ai _ (.inl (ay [.bool false])))
theorem an9 (a0 J r) (h:OR a0 J=some r):aV ah 124 [dh a0,.ref (fe J)] (.bool r) []:=by
 refine bA [0,1] [.tmp 3] Tryz.func124 c124 (λbt ai bq=>?_);refine ws _ ?_;obtain⟨U,aR,h⟩:=ao h;refine cB (an8 J.cq a0 _ aR) _ ?_;exact aw (ai _ (.inl (ay [.bool (!U)])))
theorem an_ (a0 J r) (h:OT a0 J=some r):aV ah 162 [.slice (a0.map dh),.fn 124 [.ref (fe J)]] (.int .i64 r) []:=by
 refine bA [0,1] [.tmp 4] Tryz.func162 c162 (λbt ai bq=>?_);refine ws _ ?_;refine az ai (λdJ bL bf af=>?_);refine ws _ ?_;refine bn bf (λei dS bR bU a_=>?_);show bk ah (.loop ?fP) _ _;have gK:∀n cr,Fw a0 J n cr=some r->cX ah ?fP ei (aq [(0,.slice (a0.map dh)),(1,.fn 124 [.ref (fe J)]),(7,.int .i64 (a0.length:Int)),(8,.int .i64 cr)]):=by
  refine dd (λm6 fM cr h=>dc bR (λgR dZ df bo=>?_));refine ws _ ?_;refine az df (λgu dx dE bj=>?_);refine aF h (λcy h=>?_) (λcy h=>?_)
  .refine aJ (dx _ (.inl ?_));refine az df (λek cE cd ch=>?_);refine bn cd (λe0 cf cn dX cv=>?_);refine ws _ ?_;obtain⟨U,fi,h⟩:=ao h;obtain⟨af,dB,h⟩:=ao h;refine eH fi (an9 U J _ dB) _ ?_;refine aF h (λdY h=>?_) (λdY h=>?_)
   .refine ws _ ?_;exact aw (cn _ (.inl (ay [.int .i64 cr])))
   .refine aJ (cf _ (cE _ (.inl ?_)));refine wr _ ?_;exact dZ _ (.inr ⟨_,aY rfl,fM (i64.wrap (cr+1)) h⟩)
  .refine c7 (bj 0 _ (bo 0 _ (bU _ (bL _ (.inl ?_)))));refine ws _ ?_;exact aw (ai _ (.inl (ay [.int .i64 (-1)])))
 obtain⟨n,h⟩:=cS h;exact db (.inr ⟨_,aY rfl,gK n 0 h⟩)
theorem aoa (a0 J r) (h:Jc a0 J=some r):aV ah 123 [.slice (a0.map dh),.fn 124 [.ref (fe J)]] (.bool r) []:=by
 refine bA [0,1] [.tmp 4] Tryz.func123 ajF (λbt ai bq=>?_);refine ws _ ?_;obtain⟨U,aR,h⟩:=ao h;refine cB (an_ a0 J _ aR) _ ?_;exact aw (ai _ (.inl (ay [.bool (decide (0<=U))])))
theorem Yv (a0 r) (h:Jd a0=some r):aV ah 241 [.str a0] (.bool r) []:=by
 refine bA [0] [.tmp 2] Tryz.func241 ajG (λbt ai bq=>?_);refine ws _ ?_;refine ws _ ?_;exact aw (ai _ (.inl (ay [.bool false])))
theorem aob (a0 J r) (h:Je a0 J=some r):aV ah 220 [.str a0,.str J] (.int .i64 r) []:=by
 refine bA [0,1] [.tmp 4] Tryz.func220 ajH (λbt ai bq=>?_);refine ws _ ?_;obtain⟨U,aR,h⟩:=ao h;refine cB (Yv a0 _ aR) _ ?_;obtain⟨af,cM,h⟩:=ao h;refine cB (Yv J _ cM) _ ?_;refine az ai (λeA cR cH bD=>?_);refine ws _ ?_;refine aF h (λcy h=>?_) (λcy h=>?_)
 .refine az cH (λek cE cd ch=>?_);refine ws _ ?_;refine aF h (λlJ h=>?_) (λlJ h=>?_)
  .refine ws _ ?_;exact aw (cd _ (.inl (ay [.int .i64 0])))
  .refine aJ (cE _ (.inl ?_));refine ws _ ?_;exact aw (cH _ (.inl (ay [.int .i64 (-1)])))
 .refine aJ (cR _ (.inl ?_));refine az ai (λhv ez ee eZ=>?_);refine ws _ ?_;refine aF h (λnn h=>?_) (λnn h=>?_)
  .refine ws _ ?_;exact aw (ee _ (.inl (ay [.int .i64 1])))
  .refine aJ (ez _ (.inl ?_));refine az ai (λGu ry sZ pG=>?_);refine ws _ ?_;refine aF h (λfX h=>?_) (λfX h=>?_)
   .refine ws _ ?_;exact aw (sZ _ (.inl (ay [.int .i64 (-1)])))
   .refine aJ (ry _ (.inl ?_));refine az ai (λxB oc nI lb=>?_);refine ws _ ?_;refine aF h (λh0 h=>?_) (λh0 h=>?_)
    .refine ws _ ?_;exact aw (nI _ (.inl (ay [.int .i64 1])))
    .refine aJ (oc _ (.inl ?_));refine ws _ ?_;exact aw (ai _ (.inl (ay [.int .i64 0])))
theorem aoc (a0 J r) (h:Jg a0 J=some r):aV ah 192 [.slice (a0.map aW),.slice (J.map aW)] (.int .i64 r) []:=by
 refine bA [0,1] [.tmp 4] Tryz.func192 ajI (λbt ai bq=>?_);refine ws _ ?_;refine az ai (λdJ bL bf af=>?_);refine ws _ ?_;refine bn bf (λei dS bR bU a_=>?_);show bk ah (.loop ?fP) _ _;have gK:∀n q8,Jf a0 J n q8=some r->cX ah ?fP ei (aq [(0,.slice (a0.map aW)),(1,.slice (J.map aW)),(9,.slice (a0.map aW)),(10,.int .i64 (a0.length:Int)),(11,.int .i64 q8)]):=by
  refine dd (λm6 fM q8 h=>dc bR (λgR dZ df bo=>?_));refine ws _ ?_;refine az df (λgu dx dE bj=>?_);refine aF h (λcy h=>?_) (λcy h=>?_)
  .refine aJ (dx _ (.inl ?_));refine az df (λek cE cd ch=>?_);refine bn cd (λe0 cf cn dX cv=>?_);obtain⟨U,e1,h⟩:=ao h;refine c1 e1 _ ?_;refine az cn (λkG fE fp hG=>?_);refine ws _ ?_;refine aF h (λdY h=>?_) (λdY h=>?_)
   .refine ws _ ?_;exact aw (fp _ (.inl (ay [.int .i64 1])))
   .refine aJ (fE _ (.inl ?_));obtain⟨af,e4,h⟩:=ao h;refine c1 e4 _ ?_;obtain⟨aK,gL,h⟩:=ao h;refine cB (aob U af _ gL) _ ?_;refine ws _ ?_;refine aF h (λxD h=>?_) (λxD h=>?_)
    .refine ws _ ?_;exact aw (cn _ (.inl (ay [.int .i64 aK])))
    .refine aJ (cf _ (cE _ (.inl ?_)));refine wr _ ?_;exact dZ _ (.inr ⟨_,aY rfl,fM (i64.wrap (q8+1)) h⟩)
  .refine c7 (bj 0 _ (bo 0 _ (bU _ (bL _ (.inl ?_)))));refine az ai (λxJ sQ oF qj=>?_);refine ws _ ?_;refine aF h (λnm h=>?_) (λnm h=>?_)
   .refine ws _ ?_;exact aw (oF _ (.inl (ay [.int .i64 (-1)])))
   .refine aJ (sQ _ (.inl ?_));refine ws _ ?_;exact aw (ai _ (.inl (ay [.int .i64 0])))
 obtain⟨n,h⟩:=cS h;exact db (.inr ⟨_,aY rfl,gK n 0 h⟩)
theorem aod (a0 J r) (h:Jh a0 J=some r):aV ah 163 [bQ a0,bQ J] (.int .i64 r) []:=by
 refine bA [0,1] [.tmp 4] Tryz.func163 ajJ (λbt ai bq=>?_);refine ws _ ?_;obtain⟨U,aR,h⟩:=ao h;refine eQ (cI [(4,.int .i64 U)] (λP bu=>?_) ?_)
 ·(try simp only[aT.down,simprocAttr,(show∀s,dO ah s 25 2 [(0,.str a0.Left),(1,.str a0.cQ)]=some (.aj 1 [.str a0.Left,.str a0.cQ],s)from λs=>by kernel_rfl),(show∀s,dO ah s 25 2 [(0,.str J.Left),(1,.str J.cQ)]=some (.aj 1 [.str J.Left,.str J.cQ],s)from λs=>by kernel_rfl)]);refine dR (aoc [a0.Left,a0.cQ] [J.Left,J.cQ] _ aR) rfl rfl (by simp only[aT.down,simprocAttr,(show∀s,dO ah s 25 2 [(0,.str a0.Left),(1,.str a0.cQ)]=some (.aj 1 [.str a0.Left,.str a0.cQ],s)from λs=>by kernel_rfl),(show∀s,dO ah s 25 2 [(0,.str J.Left),(1,.str J.cQ)]=some (.aj 1 [.str J.Left,.str J.cQ],s)from λs=>by kernel_rfl),i6,i7,i_,cY,I.shares, @b0 _ aW aW (λ_=>lg _), @b0 _ aW aW (λ_=>lg _)]<;>rfl) rfl (.inr (by rfl)) ?_;simp only[aT.down,simprocAttr,(show∀s,dO ah s 25 2 [(0,.str a0.Left),(1,.str a0.cQ)]=some (.aj 1 [.str a0.Left,.str a0.cQ],s)from λs=>by kernel_rfl),(show∀s,dO ah s 25 2 [(0,.str J.Left),(1,.str J.cQ)]=some (.aj 1 [.str J.Left,.str J.cQ],s)from λs=>by kernel_rfl)];exact cc (R (show∀s,dO ah s 25 2 [(0,.str a0.Left),(1,.str a0.cQ)]=some (.aj 1 [.str a0.Left,.str a0.cQ],s)from λs=>by kernel_rfl) (show∀s,dO ah s 25 2 [(0,.str J.Left),(1,.str J.cQ)]=some (.aj 1 [.str J.Left,.str J.cQ],s)from λs=>by kernel_rfl))
 exact aw (ai _ (.inl (ay [.int .i64 U])))
theorem aoe (a0 J r) (h:OU a0 J=some r):aV ah 165 [bQ a0,.ref (bQ J)] (.bool r) []:=by
 refine bA [0,1] [.tmp 3] Tryz.func165 ajK (λbt ai bq=>?_);refine ws _ ?_;refine mT (a0.Left==J.Result) [(3,.bool ((a0.Left==J.Result)||(a0.cQ==J.Result)))] ?_;exact aw (ai _ (.inl (ay [.bool ((a0.Left==J.Result)||(a0.cQ==J.Result))])))
theorem aof (a0 J r) (h:OW a0 J=some r):aV ah 148 [.slice (a0.map bQ),.fn 165 [.ref (bQ J)]] (.int .i64 r) []:=by
 refine bA [0,1] [.tmp 4] Tryz.func148 c148 (λbt ai bq=>?_);refine ws _ ?_;refine az ai (λdJ bL bf af=>?_);refine ws _ ?_;refine bn bf (λei dS bR bU a_=>?_);show bk ah (.loop ?fP) _ _;have gK:∀n cr,Fx a0 J n cr=some r->cX ah ?fP ei (aq [(0,.slice (a0.map bQ)),(1,.fn 165 [.ref (bQ J)]),(7,.int .i64 (a0.length:Int)),(8,.int .i64 cr)]):=by
  refine dd (λm6 fM cr h=>dc bR (λgR dZ df bo=>?_));refine ws _ ?_;refine az df (λgu dx dE bj=>?_);refine aF h (λcy h=>?_) (λcy h=>?_)
  .refine aJ (dx _ (.inl ?_));refine az df (λek cE cd ch=>?_);refine bn cd (λe0 cf cn dX cv=>?_);refine ws _ ?_;obtain⟨U,fi,h⟩:=ao h;obtain⟨af,dB,h⟩:=ao h;refine eH fi (aoe U J _ dB) _ ?_;refine aF h (λdY h=>?_) (λdY h=>?_)
   .refine ws _ ?_;exact aw (cn _ (.inl (ay [.int .i64 cr])))
   .refine aJ (cf _ (cE _ (.inl ?_)));refine wr _ ?_;exact dZ _ (.inr ⟨_,aY rfl,fM (i64.wrap (cr+1)) h⟩)
  .refine c7 (bj 0 _ (bo 0 _ (bU _ (bL _ (.inl ?_)))));refine ws _ ?_;exact aw (ai _ (.inl (ay [.int .i64 (-1)])))
 obtain⟨n,h⟩:=cS h;exact db (.inr ⟨_,aY rfl,gK n 0 h⟩)
theorem Yw (a0 J r) (h:Fy a0 J=some r):aV ah 164 [.slice (a0.map bQ),.fn 165 [.ref (bQ J)]] (.bool r) []:=by
 refine bA [0,1] [.tmp 4] Tryz.func164 c164 (λbt ai bq=>?_);refine ws _ ?_;obtain⟨U,aR,h⟩:=ao h;refine cB (aof a0 J _ aR) _ ?_;exact aw (ai _ (.inl (ay [.bool (decide (0<=U))])))
theorem aog (a0 r) (h:Ji a0=some r):aV ah 126 [.slice (a0.map bQ)] (.bool r) []:=by
 refine bA [0] [.tmp 2] Tryz.func126 ajL (λbt ai bq=>?_);refine ws _ ?_;refine az ai (λdJ bL bf af=>?_);refine ws _ ?_;refine bn bf (λei dS bR bU a_=>?_);show bk ah (.loop ?fP) _ _;have gK:∀n fK,BX a0 n fK=some r->cX ah ?fP ei (aq [(0,.slice (a0.map bQ)),(5,.slice (a0.map bQ)),(6,.int .i64 (a0.length:Int)),(7,.int .i64 fK)]):=by
  refine dd (λm6 fM fK h=>dc bR (λgR dZ df bo=>?_));refine ws _ ?_;refine az df (λgu dx dE bj=>?_);refine aF h (λcy h=>?_) (λcy h=>?_)
  .refine aJ (dx _ (.inl ?_));refine az df (λek cE cd ch=>?_);refine bn cd (λe0 cf cn dX cv=>?_);obtain⟨U,e1,h⟩:=ao h;refine c1 e1 _ ?_;refine az cn (λkG fE fp hG=>?_);obtain⟨bo,gJ,h⟩:=ao h;rcases dr h with⟨fZ,h⟩|⟨fZ,h⟩
   .refine mr (hb fZ) (l5 U.Left _ gJ) _ ?_;refine iM rfl ?_;refine ws _ ?_;exact aw (fp _ (.inl (ay [.bool false])))
   .obtain⟨bD,ir,h⟩:=ao h;rcases dr h with⟨jH,h⟩|⟨jH,h⟩
    .refine i1 rfl (ig [(0,.slice (a0.map bQ)),(4,.aM (bQ U)),(5,.slice (a0.map bQ)),(6,.int .i64 (a0.length:Int)),(7,.int .i64 fK),(48,.bool true)] (λP bu=>?_) ?_)
     ·(try simp only[cV.down,simprocAttr,(b1 fZ),(hb jH)]);refine hL (l5 U.Left _ gJ) rfl rfl rfl rfl (.inl (by rfl)) ?_;simp only[cV.down,simprocAttr,(b1 fZ),(hb jH)];refine lz (l5 U.cQ _ ir) rfl rfl rfl rfl (.inl (by rfl)) ?_;simp only[cV.down,simprocAttr,(b1 fZ),(hb jH)];refine⟨hF (by kernel_rfl),?_⟩;exact cc (R (b1 fZ) (hb jH))
     refine iM rfl ?_;refine ws _ ?_;exact aw (fp _ (.inl (ay [.bool false])))
    .obtain⟨bj,xR,h⟩:=ao h;rcases dr h with⟨h_,h⟩|⟨h_,h⟩
     .refine i1 rfl (ig [(0,.slice (a0.map bQ)),(4,.aM (bQ U)),(5,.slice (a0.map bQ)),(6,.int .i64 (a0.length:Int)),(7,.int .i64 fK),(48,.bool true)] (λP bu=>?_) ?_)
      ·(try simp only[cV.down,simprocAttr,(b1 fZ),(b1 jH),(hb h_)]);refine hL (l5 U.Left _ gJ) rfl rfl rfl rfl (.inl (by rfl)) ?_;simp only[cV.down,simprocAttr,(b1 fZ),(b1 jH),(hb h_)];refine lz (l5 U.cQ _ ir) rfl rfl rfl rfl (.inl (by rfl)) ?_;simp only[cV.down,simprocAttr,(b1 fZ),(b1 jH),(hb h_)];refine lz (l5 U.Result _ xR) rfl rfl rfl rfl (.inl (by rfl)) ?_;simp only[cV.down,simprocAttr,(b1 fZ),(b1 jH),(hb h_)];refine⟨hF (by kernel_rfl),?_⟩;exact cc (R (b1 fZ) (R (b1 jH) (hb h_)))
      refine iM rfl ?_;refine ws _ ?_;exact aw (fp _ (.inl (ay [.bool false])))
     .rcases dr h with⟨gX,h⟩|⟨gX,h⟩
      .refine i1 rfl (ig [(0,.slice (a0.map bQ)),(4,.aM (bQ U)),(5,.slice (a0.map bQ)),(6,.int .i64 (a0.length:Int)),(7,.int .i64 fK),(48,.bool true)] (λP bu=>?_) ?_)
       ·(try simp only[cV.down,simprocAttr,(b1 fZ),(b1 jH),(b1 h_),gX]);refine hL (l5 U.Left _ gJ) rfl rfl rfl rfl (.inl (by rfl)) ?_;simp only[cV.down,simprocAttr,(b1 fZ),(b1 jH),(b1 h_),gX];refine lz (l5 U.cQ _ ir) rfl rfl rfl rfl (.inl (by rfl)) ?_;simp only[cV.down,simprocAttr,(b1 fZ),(b1 jH),(b1 h_),gX];refine lz (l5 U.Result _ xR) rfl rfl rfl rfl (.inl (by rfl)) ?_;simp only[cV.down,simprocAttr,(b1 fZ),(b1 jH),(b1 h_),gX];refine⟨hF (by kernel_rfl),?_⟩;exact cc (R (b1 fZ) (R (b1 jH) (R (b1 h_) gX)))
       refine iM rfl ?_;refine ws _ ?_;exact aw (fp _ (.inl (ay [.bool false])))
      .rcases dr h with⟨iF,h⟩|⟨iF,h⟩
       .obtain⟨cu,jI,h⟩:=ao h;obtain⟨ch,zI,h⟩:=ao h;refine i1 rfl (ig [(0,.slice (a0.map bQ)),(4,.aM (bQ U)),(5,.slice (a0.map bQ)),(6,.int .i64 (a0.length:Int)),(7,.int .i64 fK),(48,.bool (decide (0<=ch)))] (λP bu=>?_) ?_)
        ·(try simp only[cV.down,simprocAttr,(b1 fZ),(b1 jH),(b1 h_),gX,iF,jI]);refine hL (l5 U.Left _ gJ) rfl rfl rfl rfl (.inl (by rfl)) ?_;simp only[cV.down,simprocAttr,(b1 fZ),(b1 jH),(b1 h_),gX,iF,jI];refine lz (l5 U.cQ _ ir) rfl rfl rfl rfl (.inl (by rfl)) ?_;simp only[cV.down,simprocAttr,(b1 fZ),(b1 jH),(b1 h_),gX,iF,jI];refine lz (l5 U.Result _ xR) rfl rfl rfl rfl (.inl (by rfl)) ?_;simp only[cV.down,simprocAttr,(b1 fZ),(b1 jH),(b1 h_),gX,iF,jI];refine lz (aod cu U _ zI) rfl rfl rfl rfl (.inl (by rfl)) ?_;simp only[cV.down,simprocAttr,(b1 fZ),(b1 jH),(b1 h_),gX,iF,jI];refine⟨hF (by kernel_rfl),?_⟩;exact cc (R (b1 fZ) (R (b1 jH) (R (b1 h_) (R gX (R iF jI)))))
        refine aF h (λoG h=>?_) (λoG h=>?_)
        .refine ws _ ?_;exact aw (fp _ (.inl (ay [.bool false])))
        .refine aJ (fE _ (.inl ?_));obtain⟨cv,zJ,h⟩:=ao h;refine eQ (cI [(0,.slice (a0.map bQ)),(5,.slice (a0.map bQ)),(6,.int .i64 (a0.length:Int)),(7,.int .i64 fK),(51,.bool cv)] (λP bu=>?_) ?_)
         ·(try simp only[aT.down,simprocAttr]);refine dR (Yw a0 U _ zJ) rfl rfl (by simp only[aT.down,simprocAttr,xA.down]<;>rfl) rfl (.inr (by rfl)) ?_;simp only[aT.down,simprocAttr];exact cc trivial
         refine aF h (λGw h=>?_) (λGw h=>?_)
         .refine ws _ ?_;exact aw (cn _ (.inl (ay [.bool false])))
         .refine aJ (cf _ (cE _ (.inl ?_)));refine wr _ ?_;exact dZ _ (.inr ⟨_,aY rfl,fM (i64.wrap (fK+1)) h⟩)
       .refine i1 rfl (ig [(0,.slice (a0.map bQ)),(4,.aM (bQ U)),(5,.slice (a0.map bQ)),(6,.int .i64 (a0.length:Int)),(7,.int .i64 fK),(48,.bool false)] (λP bu=>?_) ?_)
        ·(try simp only[cV.down,simprocAttr,(b1 fZ),(b1 jH),(b1 h_),gX,iF]);refine hL (l5 U.Left _ gJ) rfl rfl rfl rfl (.inl (by rfl)) ?_;simp only[cV.down,simprocAttr,(b1 fZ),(b1 jH),(b1 h_),gX,iF];refine lz (l5 U.cQ _ ir) rfl rfl rfl rfl (.inl (by rfl)) ?_;simp only[cV.down,simprocAttr,(b1 fZ),(b1 jH),(b1 h_),gX,iF];refine lz (l5 U.Result _ xR) rfl rfl rfl rfl (.inl (by rfl)) ?_;simp only[cV.down,simprocAttr,(b1 fZ),(b1 jH),(b1 h_),gX,iF];refine⟨hF (by kernel_rfl),?_⟩;exact cc (R (b1 fZ) (R (b1 jH) (R (b1 h_) (R gX iF))))
        refine nW rfl ?_;refine aJ (fE _ (.inl ?_));obtain⟨dP,aoh,h⟩:=ao h;refine eQ (cI [(0,.slice (a0.map bQ)),(5,.slice (a0.map bQ)),(6,.int .i64 (a0.length:Int)),(7,.int .i64 fK),(51,.bool dP)] (λP bu=>?_) ?_)
        ·(try simp only[aT.down,simprocAttr]);refine dR (Yw a0 U _ aoh) rfl rfl (by simp only[aT.down,simprocAttr,xA.down]<;>rfl) rfl (.inr (by rfl)) ?_;simp only[aT.down,simprocAttr];exact cc trivial
        refine aF h (λzH h=>?_) (λzH h=>?_)
        .refine ws _ ?_;exact aw (cn _ (.inl (ay [.bool false])))
        .refine aJ (cf _ (cE _ (.inl ?_)));refine wr _ ?_;exact dZ _ (.inr ⟨_,aY rfl,fM (i64.wrap (fK+1)) h⟩)
  .refine c7 (bj 0 _ (bo 0 _ (bU _ (bL _ (.inl ?_)))));refine ws _ ?_;exact aw (ai _ (.inl (ay [.bool (decide ((a0.length:Int)<=6))])))
 obtain⟨n,h⟩:=cS h;exact db (.inr ⟨_,aY rfl,gK n 0 h⟩)
theorem Yx (a0 r) (h:Fz a0=some r):aV ah 127 [.slice (a0.map aW)] (.bool r) []:=by
 refine bA [0] [.tmp 2] Tryz.func127 c127 (λbt ai bq=>?_);refine ws _ ?_;refine az ai (λdJ bL bf af=>?_);refine ws _ ?_;refine bn bf (λei dS bR bU a_=>?_);show bk ah (.loop ?fP) _ _;have gK:∀n fK,BZ a0 n fK=some r->cX ah ?fP ei (aq [(0,.slice (a0.map aW)),(5,.slice (a0.map aW)),(6,.int .i64 (a0.length:Int)),(7,.int .i64 fK)]):=by
  refine dd (λm6 fM fK h=>dc bR (λgR dZ df bo=>?_));refine ws _ ?_;refine az df (λgu dx dE bj=>?_);refine aF h (λcy h=>?_) (λcy h=>?_)
  .refine aJ (dx _ (.inl ?_));refine az df (λek cE cd ch=>?_);refine bn cd (λe0 cf cn dX cv=>?_);obtain⟨U,e1,h⟩:=ao h;refine c1 e1 _ ?_;obtain⟨af,dB,h⟩:=ao h;rcases dr h with⟨dY,h⟩|⟨dY,h⟩
   .refine eH (hb dY) (l5 U _ dB) _ ?_;refine iM rfl ?_;refine ws _ ?_;exact aw (cn _ (.inl (ay [.bool false])))
   .rcases dr h with⟨kj,h⟩|⟨kj,h⟩
    .obtain⟨aK,e4,h⟩:=ao h;refine eH (R (b1 dY) (R kj e4)) (l5 U _ dB) _ ?_;refine aF h (λgg h=>?_) (λgg h=>?_)
     .refine ws _ ?_;exact aw (cn _ (.inl (ay [.bool false])))
     .refine aJ (cf _ (cE _ (.inl ?_)));refine wr _ ?_;exact dZ _ (.inr ⟨_,aY rfl,fM (i64.wrap (fK+1)) h⟩)
    .refine eH (R (b1 dY) kj) (l5 U _ dB) _ ?_;refine nW rfl ?_;refine aJ (cf _ (cE _ (.inl ?_)));refine wr _ ?_;exact dZ _ (.inr ⟨_,aY rfl,fM (i64.wrap (fK+1)) h⟩)
  .refine c7 (bj 0 _ (bo 0 _ (bU _ (bL _ (.inl ?_)))));refine ws _ ?_;exact aw (ai _ (.inl (ay [.bool (decide ((a0.length:Int)<=12))])))
 obtain⟨n,h⟩:=cS h;exact db (.inr ⟨_,aY rfl,gK n 0 h⟩)
theorem aoi (a0 r) (h:Jj a0=some r):aV ah 93 [fe a0] (.int .i64 r) []:=by
 refine bA [0] [.tmp 2] Tryz.func93 c93 (λbt ai bq=>?_);refine ws _ ?_;refine az ai (λdJ bL bf af=>?_);refine bn bf (λjl e7 de fU aK=>?_);obtain⟨U,cM,h⟩:=ao h;refine cB (an4 a0.cq _ cM) _ ?_;refine aF h (λdn h=>?_) (λdn h=>?_)
 .refine ws _ ?_;exact aw (de _ (.inl (ay [.int .i64 1])))
 .obtain⟨af,j7,h⟩:=ao h;rcases dr h with⟨dX,h⟩|⟨dX,h⟩
  .refine eH (hb dX) (l4 (a0.b_.length:Int) 1 3 _ j7) _ ?_;refine iM rfl ?_;refine ws _ ?_;exact aw (de _ (.inl (ay [.int .i64 2])))
  .obtain⟨aK,e1,h⟩:=ao h;refine eQ (cI [(1,.aM (fe a0)),(8,.bool aK)] (λP bu=>?_) ?_)
   ·(try simp only[aT.down,simprocAttr,(b1 dX)]);refine dR (l4 (a0.b_.length:Int) 1 3 _ j7) rfl rfl rfl rfl (.inl (by rfl)) ?_;simp only[aT.down,simprocAttr,(b1 dX)];refine iN (aoa a0.b_ a0 _ e1) rfl rfl (by simp only[aT.down,simprocAttr,(b1 dX),JZ.down]<;>rfl) rfl (.inr (by rfl)) ?_;simp only[aT.down,simprocAttr,(b1 dX)];exact cc (b1 dX)
   refine aF h (λeX h=>?_) (λeX h=>?_)
   .refine ws _ ?_;exact aw (de _ (.inl (ay [.int .i64 2])))
   .obtain⟨a_,cC,h⟩:=ao h;refine cB (aog a0.b2 _ cC) _ ?_;refine aF h (λkj h=>?_) (λkj h=>?_)
    .refine ws _ ?_;exact aw (de _ (.inl (ay [.int .i64 3])))
    .obtain⟨bo,gL,h⟩:=ao h;refine cB (Yx a0.cw _ gL) _ ?_;refine aF h (λsX h=>?_) (λsX h=>?_)
     .refine ws _ ?_;exact aw (de _ (.inl (ay [.int .i64 4])))
     .obtain⟨bD,lj,h⟩:=ao h;refine cB (Yx a0.ct _ lj) _ ?_;refine aF h (λqA h=>?_) (λqA h=>?_)
      .refine ws _ ?_;exact aw (de _ (.inl (ay [.int .i64 5])))
      .refine aJ (e7 _ (bL _ (.inl ?_)));refine ws _ ?_;exact aw (ai _ (.inl (ay [.int .i64 0])))
theorem Q5 (a0 r) (h:Jk a0=some r):aV ah 65 [fe a0] (.bool r) []:=by
 refine bA [0] [.tmp 2] Tryz.func65 ajM (λbt ai bq=>?_);refine ws _ ?_;obtain⟨U,aR,h⟩:=ao h;refine cB (aoi a0 _ aR) _ ?_;exact aw (ai _ (.inl (ay [.bool (U==0)])))
theorem aoj (a0 J r) (h:FA a0 J=some r):aV ah 68 [.slice (a0.map ba),bz J] (.bool r) []:=by
 refine bA [0,1] [.tmp 4] Tryz.func68 ajN (λbt ai bq=>?_);refine ws _ ?_;refine az ai (λdJ bL bf af=>?_);obtain⟨U,bW,h⟩:=ao h;rcases dr h with⟨cP,h⟩|⟨cP,h⟩
 .refine mr (hb cP) (xP J.cD (a0.length:Int) _ bW) _ ?_;refine iM rfl ?_;refine ws _ ?_;exact aw (bf _ (.inl (ay [.bool false])))
 .obtain⟨af,b3,h⟩:=ao h;obtain⟨aK,fu,h⟩:=ao h;refine i1 rfl (ig [(0,.slice (a0.map ba)),(3,.aM (bz J)),(24,.bool (!aK))] (λP bu=>?_) ?_)
  ·(try simp only[cV.down,simprocAttr,(b1 cP),b3]);refine hL (xP J.cD (a0.length:Int) _ bW) rfl rfl rfl rfl (.inl (by rfl)) ?_;simp only[cV.down,simprocAttr,(b1 cP),b3];refine lz (xP J.Part (af.Body.length:Int) _ fu) rfl rfl rfl rfl (.inl (by rfl)) ?_;simp only[cV.down,simprocAttr,(b1 cP),b3];refine⟨hF (by kernel_rfl),?_⟩;exact cc (R (b1 cP) b3)
  refine aF h (λeR h=>?_) (λeR h=>?_)
  .refine ws _ ?_;exact aw (bf _ (.inl (ay [.bool false])))
  .refine aJ (bL _ (.inl ?_));refine c1 b3 _ ?_;obtain⟨a_,fi,h⟩:=ao h;rcases dr h with⟨fw,h⟩|⟨fw,h⟩
   .obtain⟨bo,fq,h⟩:=ao h;obtain⟨bD,cC,h⟩:=ao h;rcases dr h with⟨kj,h⟩|⟨kj,h⟩
    .obtain⟨bj,e4,h⟩:=ao h;refine i1 rfl (ig [(4,.bool bj)] (λP bu=>?_) ?_)
     ·(try simp only[cV.down,simprocAttr,fi,fw,cC,dy cC,kj]);refine lz (Q2 af _ fq) rfl rfl rfl rfl (.inl (by rfl)) ?_;simp only[cV.down,simprocAttr,fi,fw,cC,dy cC,kj];refine lz (Q4 J.bV _ e4) rfl rfl rfl rfl (.inl (by rfl)) ?_;simp only[cV.down,simprocAttr,fi,fw,cC,dy cC,kj];refine⟨hF (by kernel_rfl),?_⟩;exact cc (R fi (R fw (R cC (R (dy cC) kj))))
     exact aw (ai _ (.inl (ay [.bool bj])))
    .refine mr (R fi (R fw (R cC (R (dy cC) kj)))) (Q2 af _ fq) _ ?_;exact aw (ai _ (.inl (ay [.bool false])))
   .refine oE (R fi fw) _ ?_;exact aw (ai _ (.inl (ay [.bool false])))
theorem aok (a0 J r) (h:OZ a0 J=some r):aV ah 67 [bz a0,.ref (fe J)] (.bool r) []:=by
 refine bA [0,1] [.tmp 3] Tryz.func67 ajO (λbt ai bq=>?_);refine ws _ ?_;obtain⟨U,aR,h⟩:=ao h;refine cB (aoj J.cq a0 _ aR) _ ?_;exact aw (ai _ (.inl (ay [.bool (!U)])))
theorem aol (a0 J r) (h:O1 a0 J=some r):aV ah 94 [.slice (a0.map bz),.fn 67 [.ref (fe J)]] (.int .i64 r) []:=by
 refine bA [0,1] [.tmp 4] Tryz.func94 ajP (λbt ai bq=>?_);refine ws _ ?_;refine az ai (λdJ bL bf af=>?_);refine ws _ ?_;refine bn bf (λei dS bR bU a_=>?_);show bk ah (.loop ?fP) _ _;have gK:∀n cr,FB a0 J n cr=some r->cX ah ?fP ei (aq [(0,.slice (a0.map bz)),(1,.fn 67 [.ref (fe J)]),(7,.int .i64 (a0.length:Int)),(8,.int .i64 cr)]):=by
  refine dd (λm6 fM cr h=>dc bR (λgR dZ df bo=>?_));refine ws _ ?_;refine az df (λgu dx dE bj=>?_);refine aF h (λcy h=>?_) (λcy h=>?_)
  .refine aJ (dx _ (.inl ?_));refine az df (λek cE cd ch=>?_);refine bn cd (λe0 cf cn dX cv=>?_);refine ws _ ?_;obtain⟨U,fi,h⟩:=ao h;obtain⟨af,dB,h⟩:=ao h;refine eH fi (aok U J _ dB) _ ?_;refine aF h (λdY h=>?_) (λdY h=>?_)
   .refine ws _ ?_;exact aw (cn _ (.inl (ay [.int .i64 cr])))
   .refine aJ (cf _ (cE _ (.inl ?_)));refine wr _ ?_;exact dZ _ (.inr ⟨_,aY rfl,fM (i64.wrap (cr+1)) h⟩)
  .refine c7 (bj 0 _ (bo 0 _ (bU _ (bL _ (.inl ?_)))));refine ws _ ?_;exact aw (ai _ (.inl (ay [.int .i64 (-1)])))
 obtain⟨n,h⟩:=cS h;exact db (.inr ⟨_,aY rfl,gK n 0 h⟩)
theorem aom (a0 J r) (h:Jl a0 J=some r):aV ah 66 [.slice (a0.map bz),.fn 67 [.ref (fe J)]] (.bool r) []:=by
 refine bA [0,1] [.tmp 4] Tryz.func66 ajQ (λbt ai bq=>?_);refine ws _ ?_;obtain⟨U,aR,h⟩:=ao h;refine cB (aol a0 J _ aR) _ ?_;exact aw (ai _ (.inl (ay [.bool (decide (0<=U))])))
theorem aon (a0 J r) (h:Jm a0 J=some r):aV ah 47 [fe a0,.slice (J.map bz)] (.bool r) []:=by
 refine bA [0,1] [.tmp 4] Tryz.func47 ajR (λbt ai bq=>?_);refine ws _ ?_;obtain⟨af,bW,h⟩:=ao h;rcases dr h with⟨cP,h⟩|⟨cP,h⟩
 .rcases dr h with⟨dn,h⟩|⟨dn,h⟩
  .obtain⟨aK,b3,h⟩:=ao h;refine eQ (cI [(4,.bool (!aK))] (λP bu=>?_) ?_)
   ·(try simp only[aT.down,simprocAttr,cP,dn]);refine dR (Q5 a0 _ bW) rfl rfl rfl rfl (.inl (by rfl)) ?_;simp only[aT.down,simprocAttr,cP,dn];refine iN (aom J a0 _ b3) rfl rfl (by simp only[aT.down,simprocAttr,cP,dn,JZ.down]<;>rfl) rfl (.inr (by rfl)) ?_;simp only[aT.down,simprocAttr,cP,dn];exact cc (R cP dn)
   exact aw (ai _ (.inl (ay [.bool (!aK)])))
  .refine eH (R cP dn) (Q5 a0 _ bW) _ ?_;exact aw (ai _ (.inl (ay [.bool false])))
 .refine eH cP (Q5 a0 _ bW) _ ?_;exact aw (ai _ (.inl (ay [.bool false])))
theorem aoo (uh:axs->Option (bZ×(List dj)×axs)) (aop:∀a0 r,uh a0=some r->aV ah 193 [.slice (a0.map ed)] (.tuple [.aM (.agg [ed r.1,.aj 1 (r.2.1.map lI)]),.slice (r.2.2.map ed)]) []) (a0 r) (h:O3 uh a0=some r):aV ah 193 [.slice (a0.map ed)] (.tuple [.aM (.agg [ed r.1,.aj 1 (r.2.1.map lI)]),.slice (r.2.2.map ed)]) []:=by
 refine bA [0] [.tmp 2,.tmp 3] Tryz.func193 c193 (λbt ai bq=>?_);refine ws _ ?_;obtain⟨U,aR,h⟩:=ao h;refine c1 (R aR (show∀s,gx ah s 261 [(0,.agg [.int .i64 U.Kind,.int .i64 U.Value])]=some (.agg [.agg [.int .i64 U.Kind,.int .i64 U.Value],.a8],s)from λs=>by kernel_rfl)) _ ?_;obtain⟨af,cM,h⟩:=ao h;refine c1 (R cM (@jy _ ed 2 (λ_=>rfl))) _ ?_;refine az ai (λeA cR cH bD=>?_);obtain⟨aK,fu,h⟩:=ao h;refine eH aR (Yu U _ fu) _ ?_;refine bn cH (λek cE cd eR ch=>?_);show bk ah (.loop ?zu) _ _;have zK:∀n hW jU sB,zh uh U aK n hW jU sB=some r->cX ah ?zu ek (aq [(4,.aM (.agg [ed U,.aj 1 (hW.map lI)])),(5,.slice (jU.map ed)),(17,.int .i64 aK),(18,.int .i64 sB)]):=by
  refine dd (λm10 zL hW jU sB h=>dc cd (λe0 cf cn cv=>?_));refine ws _ ?_;refine az cn (λlh gV iE gz=>?_);refine aF h (λeX h=>?_) (λeX h=>?_)
  .refine aJ (gV _ (.inl ?_));refine az cn (λhv ez ee eZ=>?_);refine bn ee (λkF gd gj dY ft=>?_);refine ws _ ?_;obtain⟨a_,e4,h⟩:=ao h;refine cB (aop jU _ e4) _ ?_;obtain⟨al_,gL,h⟩:=ao h;(try simp only[fQ.down,Nat.zero_add,Nat.add_zero,reduceAdd]at gL);refine jh (cI [(4,.aM (.agg [ed U,.aj 1 ((hW++[(dj.mk a_.1 a_.2.1)]).map lI)])),(5,.slice (a_.2.2.map ed)),(17,.int .i64 aK),(18,.int .i64 sB)] (λP bu=>?_) ?_)
   .simp only[aT.down,simprocAttr,Xy.down,nX,dF,gL];(try simp only[jX.down,simprocAttr,Xy.down,nX,dF,gL]at bu⊢);exact bu
   refine gd _ (ez _ (.inl ?_));refine wr [(4,.aM (.agg [ed U,.aj 1 ((hW++[(dj.mk a_.1 a_.2.1)]).map lI)])),(5,.slice (a_.2.2.map ed)),(17,.int .i64 aK),(18,.int .i64 (i64.wrap (sB+1)))] ?_;exact cf _ (.inr ⟨_,aY rfl,zL (hW++[(dj.mk a_.1 a_.2.1)]) a_.2.2 (i64.wrap (sB+1)) h⟩)
  .refine c7 (gz 0 _ (cv 0 _ (eR _ (cR _ (.inl ?_)))));refine ws _ ?_;exact aw (ai _ (.inl (ay [.aM (.agg [ed U,.aj 1 (hW.map lI)]),.slice (jU.map ed)])))
 obtain⟨n,h⟩:=cS h;exact db (.inr ⟨_,ij [] rfl (h6 (t:=4) (d:=.aM (.agg [ed U,.a8])) (bI:=.aM (.agg [ed U,.aj 1 []])) rfl rfl (.aM (.agg (.cons (.refl _) (.cons (.iz _) (.nil))))) (by decide) (cF (t:=5) (d:=.slice (af.map ed)) rfl (cF (t:=17) (d:=.int .i64 aK) rfl (cF (t:=18) (d:=.int .i64 0) rfl (ik))))),zK n [] af 0 h⟩)
theorem aoq:∀n a0 r,B0 n a0=some r->aV ah 193 [.slice (a0.map ed)] (.tuple [.aM (.agg [ed r.1,.aj 1 (r.2.1.map lI)]),.slice (r.2.2.map ed)]) []:=by
 intro n;induction n with
 |zero=>intro a0 r h;cases(show none=some r from h)
 |succ n ih=>intro a0 r h;exact aoo (B0 n) ih a0 r h
theorem aor (a0 r) (h:O4 a0=some r):aV ah 193 [.slice (a0.map ed)] (.tuple [.aM (.agg [ed r.1,.aj 1 (r.2.1.map lI)]),.slice (r.2.2.map ed)]) []:=by
 obtain⟨n,h⟩:=cS h;exact aoq n a0 r h
theorem aos (a0 r) (h:Jn a0=some r):aV ah 167 [.slice (a0.map ed)] (.aM (.agg [ed r.1,.aj 1 (r.2.map lI)])) []:=by
 refine bA [0] [.tmp 2] Tryz.func167 c167 (λbt ai bq=>?_);refine ws _ ?_;obtain⟨U,aR,h⟩:=ao h;refine cB (aor a0 _ aR) _ ?_;refine ws _ ?_;exact aw (ai _ (.inl (ay [.aM (.agg [ed U.1,.aj 1 (U.2.1.map lI)])])))
theorem vT (a0 r) (h:q9 a0=some r):aV ah 194 [.bool a0] (.int .i64 r) []:=by
 refine bA [0] [.tmp 2] Tryz.func194 c194 (λbt ai bq=>?_);refine ws _ ?_;refine az ai (λdJ bL bf af=>?_);refine ws _ ?_;refine aF h (λbU h=>?_) (λbU h=>?_)
 .refine ws _ ?_;exact aw (bf _ (.inl (ay [.int .i64 1])))
 .refine aJ (bL _ (.inl ?_));refine ws _ ?_;exact aw (ai _ (.inl (ay [.int .i64 0])))
theorem aot (a0 J a2 r) (h:Jo a0 J a2=some r):aV ah 195 [.int .i64 a0,.int .i64 J,.int .i64 a2] (.int .i64 r) []:=by
 refine bA [0,1,2] [.tmp 6] Tryz.func195 ajS (λbt ai bq=>?_);refine ws _ ?_;refine az ai (λdJ bL bf af=>?_);refine ws _ ?_;refine bn bf (λei dS bR bU a_=>?_);refine ws _ ?_;refine aF h (λdn h=>?_) (λdn h=>?_)
 .refine c1 (@yM .i64 64 (by decide)) _ ?_;exact aw (bR _ (.inl (ay [.int .i64 (Int.tmod (i64.wrap (J+a2)) 64)])))
 .refine ws _ ?_;refine aF h (λeR h=>?_) (λeR h=>?_)
  .refine c1 (@yM .i64 64 (by decide)) _ ?_;exact aw (bR _ (.inl (ay [.int .i64 (Int.tmod (i64.wrap ((i64.wrap (J-a2))+64)) 64)])))
  .refine ws _ ?_;refine aF h (λeE h=>?_) (λeE h=>?_)
   .refine c1 (@yM .i64 64 (by decide)) _ ?_;exact aw (bR _ (.inl (ay [.int .i64 (Int.tmod (i64.wrap (J*a2)) 64)])))
   .refine ws _ ?_;refine aF h (λdY h=>?_) (λdY h=>?_)
    .obtain⟨U,dL,h⟩:=ao h;refine cB (vT (J==a2) _ dL) _ ?_;exact aw (bR _ (.inl (ay [.int .i64 U])))
    .refine ws _ ?_;refine aF h (λgg h=>?_) (λgg h=>?_)
     .obtain⟨af,hZ,h⟩:=ao h;refine cB (vT (J !=a2) _ hZ) _ ?_;exact aw (bR _ (.inl (ay [.int .i64 af])))
     .refine ws _ ?_;refine aF h (λfZ h=>?_) (λfZ h=>?_)
      .obtain⟨aK,ir,h⟩:=ao h;refine cB (vT (decide (J<a2)) _ ir) _ ?_;exact aw (bR _ (.inl (ay [.int .i64 aK])))
      .refine ws _ ?_;refine aF h (λnm h=>?_) (λnm h=>?_)
       .obtain⟨a_,sY,h⟩:=ao h;refine cB (vT (decide (J<=a2)) _ sY) _ ?_;exact aw (bR _ (.inl (ay [.int .i64 a_])))
       .refine ws _ ?_;refine aF h (λgX h=>?_) (λgX h=>?_)
        .rcases dr h with⟨iF,h⟩|⟨iF,h⟩
         .obtain⟨bo,jI,h⟩:=ao h;refine eH iF (vT (a2 !=0) _ jI) _ ?_;exact aw (bR _ (.inl (ay [.int .i64 bo])))
         .obtain⟨bD,zI,h⟩:=ao h;refine eH iF (vT false _ zI) _ ?_;exact aw (bR _ (.inl (ay [.int .i64 bD])))
        .refine aJ (dS _ (bL _ (.inl ?_)));rcases dr h with⟨pU,h⟩|⟨pU,h⟩
         .obtain⟨bj,qB,h⟩:=ao h;refine eH pU (vT true _ qB) _ ?_;exact aw (ai _ (.inl (ay [.int .i64 bj])))
         .obtain⟨cu,zJ,h⟩:=ao h;refine eH pU (vT (a2 !=0) _ zJ) _ ?_;exact aw (ai _ (.inl (ay [.int .i64 cu])))
theorem aou (B1:dj->axc->axf) (Q6:∀a0 J r,B1 a0 J=some r->aV ah 168 [.ref (qw a0),.slice (J.map a1)] (.int .i64 r) []) (a0 J r) (h:O5 B1 a0 J=some r):aV ah 168 [.ref (qw a0),.slice (J.map a1)] (.int .i64 r) []:=by
 refine bA [0,1] [.tmp 4] Tryz.func168 c168 (λbt ai bq=>?_);refine ws _ ?_;refine az ai (λdJ bL bf af=>?_);refine ws _ ?_;refine bn bf (λei dS bR bU a_=>?_);refine ws _ ?_;refine aF h (λdn h=>?_) (λdn h=>?_)
 .refine ws _ ?_;exact aw (bR _ (.inl (ay [.int .i64 a0.term.Value])))
 .refine ws _ ?_;refine aF h (λeR h=>?_) (λeR h=>?_)
  .obtain⟨U,kK,h⟩:=ao h;refine c1 kK _ ?_;exact aw (bR _ (.inl (ay [.int .i64 U])))
  .refine ws _ ?_;refine aF h (λeX h=>?_) (λeX h=>?_)
   .obtain⟨af,fq,h⟩:=ao h;obtain⟨aK,cC,h⟩:=ao h;obtain⟨a_,dL,h⟩:=ao h;refine eQ (cI [(4,.int .i64 a_)] (λP bu=>?_) ?_)
    ·(try simp only[aT.down,simprocAttr,fq]);refine dR (Q6 af J _ cC) rfl rfl (by simp only[aT.down,simprocAttr,fq,xA.down]<;>rfl) rfl (.inl (by rfl)) ?_;simp only[aT.down,simprocAttr,fq];refine dR (vT (aK==0) _ dL) rfl rfl rfl rfl (.inl (by rfl)) ?_;simp only[aT.down,simprocAttr,fq];exact cc fq
    exact aw (bR _ (.inl (ay [.int .i64 a_])))
   .refine aJ (dS _ (bL _ (.inl ?_)));obtain⟨bo,gB,h⟩:=ao h;obtain⟨bD,gL,h⟩:=ao h;obtain⟨bj,hZ,h⟩:=ao h;obtain⟨cu,gJ,h⟩:=ao h;obtain⟨ch,jm,h⟩:=ao h;refine i1 rfl (ig [(4,.int .i64 ch)] (λP bu=>?_) ?_)
    ·(try simp only[cV.down,simprocAttr,gB,hZ]);refine hL (Q6 bo J _ gL) rfl rfl (by simp only[cV.down,simprocAttr,gB,hZ,xA.down]<;>rfl) rfl (.inl (by rfl)) ?_;simp only[cV.down,simprocAttr,gB,hZ];refine hL (Q6 bj J _ gJ) rfl rfl (by simp only[cV.down,simprocAttr,gB,hZ,xA.down]<;>rfl) rfl (.inl (by rfl)) ?_;simp only[cV.down,simprocAttr,gB,hZ];refine hL (aot a0.term.Value bD cu _ jm) rfl rfl rfl rfl (.inl (by rfl)) ?_;simp only[cV.down,simprocAttr,gB,hZ];refine⟨hF (by kernel_rfl),?_⟩;exact cc (R gB hZ)
    exact aw (ai _ (.inl (ay [.int .i64 ch])))
theorem aov:∀n a0 J r,zi n a0 J=some r->aV ah 168 [.ref (qw a0),.slice (J.map a1)] (.int .i64 r) []:=by
 intro n;induction n with
 |zero=>intro a0 J r h;cases(show none=some r from h)
 |succ n ih=>intro a0 J r h;exact aou (zi n) ih a0 J r h
theorem aow (a0 J r) (h:O6 a0 J=some r):aV ah 168 [.ref (qw a0),.slice (J.map a1)] (.int .i64 r) []:=by
 obtain⟨n,h⟩:=cS h;exact aov n a0 J r h
theorem Yy (a0 J r) (h:B2 a0 J=some r):aV ah 137 [.slice (a0.map ed),.slice (J.map a1)] (.int .i64 r) []:=by
 refine bA [0,1] [.tmp 4] Tryz.func137 ajT (λbt ai bq=>?_);refine ws _ ?_;obtain⟨U,aR,h⟩:=ao h;obtain⟨af,bW,h⟩:=ao h;refine eQ (cI [(4,.int .i64 af)] (λP bu=>?_) ?_)
 ·(try simp only[aT.down,simprocAttr]);refine dR (aos a0 _ aR) rfl rfl rfl rfl (.inl (by rfl)) ?_;simp only[aT.down,simprocAttr];refine dR (aow (dj.mk U.1 U.2) J _ bW) rfl rfl (by simp only[aT.down,simprocAttr,i6,i7,i_,cY, @b0 _ lI pP (λ_=>WD _)]<;>rfl) rfl (.inr (by rfl)) ?_;simp only[aT.down,simprocAttr];exact cc trivial
 exact aw (ai _ (.inl (ay [.int .i64 af])))
theorem Yz (a0 J r) (h:FC a0 J=some r):aV ah 133 [.slice (a0.map iO),.slice (J.map a1)] (.aj 1 (r.map a1)) []:=by
 refine bA [0,1] [.tmp 4] Tryz.func133 ajU (λbt ai bq=>?_);refine ws _ ?_;refine ws _ ?_;refine az ai (λjl e7 de aK=>?_);refine ws _ ?_;refine bn de (λgR dZ df cP bo=>?_);show bk ah (.loop ?h4) _ _;have iC:∀n fs q_,B3 a0 J n fs q_=some r->cX ah ?h4 gR (aq [(1,.slice (J.map a1)),(5,.aj 1 (fs.map a1)),(8,.slice (a0.map iO)),(9,.int .i64 (a0.length:Int)),(10,.int .i64 q_)]):=by
  refine dd (λm8 iD fs q_ h=>dc df (λeA cR cH bD=>?_));refine ws _ ?_;refine az cH (λgk gf fY cu=>?_);refine aF h (λeR h=>?_) (λeR h=>?_)
  .refine aJ (gf _ (.inl ?_));refine az cH (λe0 cf cn cv=>?_);refine bn cn (λhY eK fL lJ dP=>?_);obtain⟨U,fi,h⟩:=ao h;refine c1 fi _ ?_;obtain⟨af,fq,h⟩:=ao h;obtain⟨J4,cC,h⟩:=ao h;(try simp only[fQ.down,Nat.zero_add,Nat.add_zero,reduceAdd]at cC);refine zv (R (show∀s,dO ah s 48 1 [(0,.int .i64 af)]=some (.aj 1 [.int .i64 af],s)from λs=>by kernel_rfl) (R (@kc ah 48 48 2 rfl rfl) (R @kd (R @ke (R @gH (R @all_cons (R @all_nil (R cC (@jy _ a1 1 (λ_=>rfl)))))))))) (Yy U J _ fq) [(1,.slice (J.map a1)),(5,.aj 1 ((fs++[af]).map a1)),(8,.slice (a0.map iO)),(9,.int .i64 (a0.length:Int)),(10,.int .i64 q_)] ?_;refine eK _ (cf _ (.inl ?_));refine wr [(1,.slice (J.map a1)),(5,.aj 1 ((fs++[af]).map a1)),(8,.slice (a0.map iO)),(9,.int .i64 (a0.length:Int)),(10,.int .i64 (i64.wrap (q_+1)))] ?_;exact cR _ (.inr ⟨_,aY rfl,iD (fs++[af]) (i64.wrap (q_+1)) h⟩)
  .refine c7 (cu 0 _ (bD 0 _ (cP _ (e7 _ (.inl ?_)))));refine ws _ ?_;exact aw (ai _ (.inl (ay [.aj 1 (fs.map a1)])))
 obtain⟨n,h⟩:=cS h;exact db (.inr ⟨_,ij [] rfl (cF (t:=1) (d:=.slice (J.map a1)) rfl (h6 (t:=5) (d:=.a8) (bI:=.aj 1 []) rfl rfl (.iz _) (by decide) (cF (t:=8) (d:=.slice (a0.map iO)) rfl (cF (t:=9) (d:=.int .i64 (a0.length:Int)) rfl (cF (t:=10) (d:=.int .i64 0) rfl (ik)))))),iC n [] 0 h⟩)
theorem aox (a0 J:Int) (r:axa) (h:B4 a0 J=some r):aV ah 145 [.int .i64 a0,.int .i64 J] (.str r) []:=akO a0 J r h
theorem zN (a0 r) (h:ra a0=some r):aV ah 107 [.int .i64 a0] (.str r) []:=by
 refine bA [0] [.tmp 2] Tryz.func107 c107 (λbt ai bq=>?_);refine ws _ ?_;obtain⟨U,aR,h⟩:=ao h;refine cB (aox a0 10 _ aR) _ ?_;exact aw (ai _ (.inl (ay [.str U])))
theorem YA (a0:awZ) (J:axa) (r:axa) (h:strings_Join a0 J=some r):aV ah 147 [.slice (a0.map aW),.str J] (.str r) []:=akP a0 J r h
theorem YB (a0 J r) (h:zj a0 J=some r):aV ah 143 [.slice (a0.map a1),.str J] (.str r) []:=by
 refine bA [0,1] [.tmp 4] Tryz.func143 c143 (λbt ai bq=>?_);refine ws _ ?_;obtain⟨QL,aR,h⟩:=ao h;refine rm (R (qF aR) @List.map_replicate.{0,0}) [(0,.slice (a0.map a1)),(1,.str J),(5,.aj 1 ((List.replicate (Int.toNat (a0.length:Int)) ([]:axa)).map aW))] ?_;refine az ai (λei dS bR a_=>?_);refine ws [(1,.str J),(5,.aj 1 ((List.replicate (Int.toNat (a0.length:Int)) ([]:axa)).map aW)),(11,.slice (a0.map a1)),(12,.int .i64 (a0.length:Int)),(13,.int .i64 0)] ?_;refine bn bR (λeA cR cH dn bD=>?_);show bk ah (.loop ?h4) _ _;have iC:∀n fs n6,B5 a0 J n fs n6=some r->cX ah ?h4 eA (aq [(1,.str J),(5,.aj 1 (fs.map aW)),(11,.slice (a0.map a1)),(12,.int .i64 (a0.length:Int)),(13,.int .i64 n6)]):=by
  refine dd (λm8 iD fs n6 h=>dc cH (λgu dx dE bj=>?_));refine ws _ ?_;refine az dE (λek cE cd ch=>?_);refine aF h (λdX h=>?_) (λdX h=>?_)
  .refine aJ (cE _ (.inl ?_));refine az dE (λhY eK fL dP=>?_);refine bn fL (λlh gV iE eE gz=>?_);obtain⟨U,dB,h⟩:=ao h;refine c1 dB _ ?_;obtain⟨af,cC,h⟩:=ao h;obtain⟨aK,dL,h⟩:=ao h;refine jh (cI [(1,.str J),(5,.aj 1 ((List.set fs (Int.toNat n6) af).map aW)),(11,.slice (a0.map a1)),(12,.int .i64 (a0.length:Int)),(13,.int .i64 n6)] (λP bu=>?_) ?_)
   ·(try simp only[aT.down,simprocAttr,dL,dy dL,eo,dV]);refine dR (zN U _ cC) rfl rfl rfl rfl (.inl (by rfl)) ?_;simp only[aT.down,simprocAttr,dL,dy dL,eo,dV];exact cc (R dL (R (dy dL) @eo))
   refine gV _ (eK _ (.inl ?_));refine wr [(1,.str J),(5,.aj 1 ((List.set fs (Int.toNat n6) af).map aW)),(11,.slice (a0.map a1)),(12,.int .i64 (a0.length:Int)),(13,.int .i64 (i64.wrap (n6+1)))] ?_;exact dx _ (.inr ⟨_,aY rfl,iD (List.set fs (Int.toNat n6) af) (i64.wrap (n6+1)) h⟩)
  .refine c7 (ch 0 _ (bj 0 _ (dn _ (dS _ (.inl ?_)))));obtain⟨a_,gL,h⟩:=ao h;refine eQ (cI [(4,.str a_)] (λP bu=>?_) ?_)
   ·(try simp only[aT.down,simprocAttr]);refine dR (YA fs J _ gL) rfl rfl (by simp only[aT.down,simprocAttr,P_.down]<;>rfl) rfl (.inr (by rfl)) ?_;simp only[aT.down,simprocAttr];exact cc trivial
   exact aw (ai _ (.inl (ay [.str a_])))
 obtain⟨n,h⟩:=cS h;exact db (.inr ⟨_,aY rfl,iC n (List.replicate (Int.toNat (a0.length:Int)) ([]:axa)) 0 h⟩)
theorem Kx (a0 J r) (h:zk a0 J=some r):aV ah 103 [.str a0,.slice (J.map a1)] (.tuple [.str r.1,.bool r.2]) []:=by
 refine bA [0,1] [.tmp 4,.tmp 5] Tryz.func103 ajW (λbt ai bq=>?_);refine ws _ ?_;refine az ai (λdJ bL bf af=>?_);refine bn bf (λjl e7 de fU aK=>?_);refine ws _ ?_;refine aF h (λcP h=>?_) (λcP h=>?_)
 .refine ws _ ?_;exact aw (de _ (.inl (ay [.str ([116,97,117]:axa),.bool ((J.length:Int)==0)])))
 .obtain⟨af,j7,h⟩:=ao h;rcases dr h with⟨dX,h⟩|⟨dX,h⟩
  .refine eH (hb dX) (l5 a0 _ j7) _ ?_;refine iM rfl ?_;refine ws _ ?_;exact aw (de _ (.inl (ay [.str ([]:axa),.bool false])))
  .rcases dr h with⟨eE,h⟩|⟨eE,h⟩
   .refine eH (R (b1 dX) eE) (l5 a0 _ j7) _ ?_;refine iM rfl ?_;refine ws _ ?_;exact aw (de _ (.inl (ay [.str ([]:axa),.bool false])))
   .obtain⟨aK,dB,h⟩:=ao h;refine eQ (cI [(0,.str a0),(1,.slice (J.map a1)),(12,.bool (!aK))] (λP bu=>?_) ?_)
    ·(try simp only[aT.down,simprocAttr,(b1 dX),eE]);refine dR (l5 a0 _ j7) rfl rfl rfl rfl (.inl (by rfl)) ?_;simp only[aT.down,simprocAttr,(b1 dX),eE];refine iN (Q4 J _ dB) rfl rfl rfl rfl (.inl (by rfl)) ?_;simp only[aT.down,simprocAttr,(b1 dX),eE];exact cc (R (b1 dX) eE)
    refine aF h (λdY h=>?_) (λdY h=>?_)
    .refine ws _ ?_;exact aw (de _ (.inl (ay [.str ([]:axa),.bool false])))
    .refine ws _ ?_;refine aF h (λhD h=>?_) (λhD h=>?_)
     .refine ws _ ?_;exact aw (de _ (.inl (ay [.str a0,.bool true])))
     .refine aJ (e7 _ (bL _ (.inl ?_)));obtain⟨YC,hZ,h⟩:=ao h;(try simp only[fQ.down,Nat.zero_add,Nat.add_zero,reduceAdd]at hZ);obtain⟨a_,gJ,h⟩:=ao h;obtain⟨YC,jm,h⟩:=ao h;(try simp only[fQ.down,Nat.zero_add,Nat.add_zero,reduceAdd]at jm);obtain⟨YC,lj,h⟩:=ao h;(try simp only[fQ.down,Nat.zero_add,Nat.add_zero,reduceAdd]at lj);refine eH (R hZ (R @yN (R @yO (R jm lj)))) (YB J ([44]:axa) _ gJ) [(4,.str (((a0++([40]:axa))++a_)++([41]:axa))),(5,.bool true)] ?_;exact aw (ai _ (.inl (ay [.str (((a0++([40]:axa))++a_)++([41]:axa)),.bool true])))
theorem Q7 (a0 r) (h:B6 a0=some r):aV ah 134 [.slice (a0.map a1)] (.aj 1 (r.map a1)) []:=by
 refine bA [0] [.tmp 2] Tryz.func134 ajX (λbt ai bq=>?_);refine ws _ ?_;refine az ai (λdJ bL bf af=>?_);rcases dr h with⟨bU,h⟩|⟨bU,h⟩
 .refine eQ (cI [(0,.slice (a0.map a1)),(4,.gw)] (λP bu=>?_) ?_)
  .simp only[aT.down,simprocAttr,HX,(Vj bU),HY];exact cc (R @HX (R (Vj bU) @HY))
  obtain⟨bY,h⟩:=aa2 h;refine aet rfl ?_ ?_
  .replace h:=bY;refine ws _ ?_;exact aw (bf _ (.inr ⟨[(2,.aj 1 [])],ij [] rfl (h6 (t:=2) (d:=.a8) rfl rfl (.iz _) (by decide) (ik)),ay [.aj 1 []]⟩))
  .refine aJ (bL _ (.inl ?_));obtain⟨u8,fu,h⟩:=ao h;(try simp only[fQ.down,Nat.zero_add,Nat.add_zero,reduceAdd]at fu);refine c1 (R (show∀s,dO ah s 48 0 []=some (.aj 1 [],s)from λs=>by kernel_rfl) (R (@kc ah 48 48 2 rfl rfl) (R @kd (R @ke (R @gH (R @all_cons (R @all_nil (R fu (@jy _ a1 1 (λ_=>rfl)))))))))) _ ?_;exact aw (ai _ (.inl (ay [.aj 1 (a0.map a1)])))
 .refine eQ (cI [(0,.slice (a0.map a1)),(4,.bool false)] (λP bu=>?_) ?_)
  .simp only[aT.down,simprocAttr,HX,(Vk bU),HY];exact cc (R @HX (R (Vk bU) @HY))
  refine nW rfl ?_;refine aJ (bL _ (.inl ?_));obtain⟨CJ,ic,h⟩:=ao h;(try simp only[fQ.down,Nat.zero_add,Nat.add_zero,reduceAdd]at ic);refine c1 (R (show∀s,dO ah s 48 0 []=some (.aj 1 [],s)from λs=>by kernel_rfl) (R (@kc ah 48 48 2 rfl rfl) (R @kd (R @ke (R @gH (R @all_cons (R @all_nil (R ic (@jy _ a1 1 (λ_=>rfl)))))))))) _ ?_;exact aw (ai _ (.inl (ay [.aj 1 (a0.map a1)])))
theorem aoy (a0 r) (h:O9 a0=some r):aV ah 249 [.int .i64 a0] (.bool r) []:=by
 refine bA [0] [.tmp 2] Tryz.func249 ajY (λbt ai bq=>?_);refine ws _ ?_;obtain⟨U,aR,h⟩:=ao h;refine cB (l4 a0 (-1000000000000) 1000000000000 _ aR) _ ?_;exact aw (ai _ (.inl (ay [.bool (!U)])))
theorem aoz (a0 r) (h:Pa a0=some r):aV ah 166 [.slice (a0.map a1),.fn 249 []] (.int .i64 r) []:=by
 refine bA [0,1] [.tmp 4] Tryz.func166 ajZ (λbt ai bq=>?_);refine ws _ ?_;refine az ai (λdJ bL bf af=>?_);refine ws _ ?_;refine bn bf (λei dS bR bU a_=>?_);show bk ah (.loop ?fP) _ _;have gK:∀n cr,B7 a0 n cr=some r->cX ah ?fP ei (aq [(0,.slice (a0.map a1)),(1,.fn 249 []),(7,.int .i64 (a0.length:Int)),(8,.int .i64 cr)]):=by
  refine dd (λm6 fM cr h=>dc bR (λgR dZ df bo=>?_));refine ws _ ?_;refine az df (λgu dx dE bj=>?_);refine aF h (λcy h=>?_) (λcy h=>?_)
  .refine aJ (dx _ (.inl ?_));refine az df (λek cE cd ch=>?_);refine bn cd (λe0 cf cn dX cv=>?_);refine ws _ ?_;obtain⟨U,fi,h⟩:=ao h;obtain⟨af,dB,h⟩:=ao h;refine eH fi (aoy U _ dB) _ ?_;refine aF h (λdY h=>?_) (λdY h=>?_)
   .refine ws _ ?_;exact aw (cn _ (.inl (ay [.int .i64 cr])))
   .refine aJ (cf _ (cE _ (.inl ?_)));refine wr _ ?_;exact dZ _ (.inr ⟨_,aY rfl,fM (i64.wrap (cr+1)) h⟩)
  .refine c7 (bj 0 _ (bo 0 _ (bU _ (bL _ (.inl ?_)))));refine ws _ ?_;exact aw (ai _ (.inl (ay [.int .i64 (-1)])))
 obtain⟨n,h⟩:=cS h;exact db (.inr ⟨_,aY rfl,gK n 0 h⟩)
theorem aoA (a0 r) (h:Pb a0=some r):aV ah 130 [.slice (a0.map a1),.fn 249 []] (.bool r) []:=by
 refine bA [0,1] [.tmp 4] Tryz.func130 aj0 (λbt ai bq=>?_);refine ws _ ?_;obtain⟨U,aR,h⟩:=ao h;refine cB (aoz a0 _ aR) _ ?_;exact aw (ai _ (.inl (ay [.bool (decide (0<=U))])))
theorem aoB (a0 r) (h:Jp a0=some r):aV ah 236 [.slice (a0.map a1)] (.bool r) []:=by
 refine bA [0] [.tmp 2] Tryz.func236 c236 (λbt ai bq=>?_);refine ws _ ?_;rcases dr h with⟨fU,h⟩|⟨fU,h⟩
 .obtain⟨U,bW,h⟩:=ao h;refine eH fU (aoA a0 _ bW) _ ?_;exact aw (ai _ (.inl (ay [.bool (!U)])))
 .refine c1 fU _ ?_;exact aw (ai _ (.inl (ay [.bool false])))
theorem aoC (a0 r) (h:FE a0=some r):aV ah 210 [.slice (a0.map a1)] (.str r) []:=by
 refine bA [0] [.tmp 2] Tryz.func210 c210 (λbt ai bq=>?_);refine ws _ ?_;refine az ai (λdJ bL bf af=>?_);refine bn bf (λjl e7 de fU aK=>?_);obtain⟨U,cM,h⟩:=ao h;refine cB (aoB a0 _ cM) _ ?_;refine aF h (λdn h=>?_) (λdn h=>?_)
 .refine ws _ ?_;exact aw (de _ (.inl (ay [.str ([]:axa)])))
 .refine ws _ ?_;refine aF h (λeR h=>?_) (λeR h=>?_)
  .refine ws _ ?_;exact aw (de _ (.inl (ay [.str ([45]:axa)])))
  .refine aJ (e7 _ (bL _ (.inl ?_)));obtain⟨af,e1,h⟩:=ao h;refine cB (YB a0 ([44]:axa) _ e1) _ ?_;exact aw (ai _ (.inl (ay [.str af])))
theorem aoD (a0 r) (h:Jq a0=some r):aV ah 177 [bz a0] (.str r) []:=by
 refine bA [0] [.tmp 2] Tryz.func177 aj1 (λbt ai bq=>?_);refine ws _ ?_;obtain⟨U,aR,h⟩:=ao h;obtain⟨Kr,bW,h⟩:=ao h;(try simp only[fQ.down,Nat.zero_add,Nat.add_zero,reduceAdd]at bW);obtain⟨af,cM,h⟩:=ao h;obtain⟨Kr,cg,h⟩:=ao h;(try simp only[fQ.down,Nat.zero_add,Nat.add_zero,reduceAdd]at cg);refine i1 rfl (ig [(2,.str ((U++([58]:axa))++af))] (λP bu=>?_) ?_)
 ·(try simp only[cV.down,simprocAttr,bW,mu.down,cg]);refine hL (zN a0.Part _ aR) rfl rfl rfl rfl (.inl (by rfl)) ?_;simp only[cV.down,simprocAttr,bW,mu.down,cg];refine hL (aoC a0.bV _ cM) rfl rfl rfl rfl (.inl (by rfl)) ?_;simp only[cV.down,simprocAttr,bW,mu.down,cg];refine⟨hF (by kernel_rfl),?_⟩;exact cc (R bW (R mu.down cg))
 exact aw (ai _ (.inl (ay [.str ((U++([58]:axa))++af)])))
theorem YD (a0 r) (h:zl a0=some r):aV ah 146 [bz a0] (.str r) []:=by
 refine bA [0] [.tmp 2] Tryz.func146 c146 (λbt ai bq=>?_);refine ws _ ?_;obtain⟨U,aR,h⟩:=ao h;obtain⟨Kr,bW,h⟩:=ao h;(try simp only[fQ.down,Nat.zero_add,Nat.add_zero,reduceAdd]at bW);obtain⟨af,cM,h⟩:=ao h;obtain⟨Kr,cg,h⟩:=ao h;(try simp only[fQ.down,Nat.zero_add,Nat.add_zero,reduceAdd]at cg);refine i1 rfl (ig [(2,.str ((U++([58]:axa))++af))] (λP bu=>?_) ?_)
 ·(try simp only[cV.down,simprocAttr,bW,mu.down,cg]);refine hL (zN a0.cD _ aR) rfl rfl rfl rfl (.inl (by rfl)) ?_;simp only[cV.down,simprocAttr,bW,mu.down,cg];refine hL (aoD a0 _ cM) rfl rfl rfl rfl (.inl (by rfl)) ?_;simp only[cV.down,simprocAttr,bW,mu.down,cg];refine⟨hF (by kernel_rfl),?_⟩;exact cc (R bW (R mu.down cg))
 exact aw (ai _ (.inl (ay [.str ((U++([58]:axa))++af)])))
theorem aoE (bp bs br iq kg pK ui r) (h:Jr bp bs br iq kg pK ui=some r):aV ah 135 [.aM (.agg [.slice (bp.map ba),.aj 4 (bs.map hC),.b4 (.mp br)]),.agg [.str iq,.agg [.int .i64 kg,.int .i64 pK,.aj 1 (ui.map a1)]]] (.tuple []) [.aM (.agg [.slice (r.1.map ba),.aj 4 (r.2.1.map hC),.b4 (.mp r.2.2)]),.hole]:=by
 refine bA [0,1] [] Tryz.func135 aj3 (λbt ai bq=>?_);refine ws _ ?_;obtain⟨CJ,aR,h⟩:=ao h;(try simp only[fQ.down,Nat.zero_add,Nat.add_zero,reduceAdd]at aR);obtain⟨U,bW,h⟩:=ao h;obtain⟨CJ,cM,h⟩:=ao h;(try simp only[fQ.down,Nat.zero_add,Nat.add_zero,reduceAdd]at cM);refine i1 rfl (ig [(0,.aM (.agg [.slice (bp.map ba),.aj 4 (bs.map hC),.b4 (.mp br)])),(1,.agg [.str iq,.agg [.int .i64 kg,.int .i64 pK,.hole]]),(3,.aM (.agg [.str iq,.agg [.int .i64 kg,.int .i64 pK,.aj 1 (ui.map a1)]])),(4,.str ((iq++([32]:axa))++U))] (λP bu=>?_) ?_)
 ·(try simp only[cV.down,simprocAttr,aR,mu.down,cM]);refine hL (YD (bd.mk kg pK ui) _ bW) rfl rfl (by simp only[cV.down,simprocAttr,aR,yN,yO,cM,i6,i7,i_,cY, @b0 _ a1 a1 (λ_=>jW _)]<;>rfl) rfl (.inr (by rfl)) ?_;simp only[cV.down,simprocAttr,aR,mu.down,cM];refine⟨hF (by kernel_rfl),?_⟩;exact cc (R aR (R mu.down cM))
 refine c1 (R @M1 (R @A2 (show qO ah 126=true from by kernel_rfl))) [(0,.aM (.agg [.slice (bp.map ba),.aj 4 (bs.map hC),.b4 (.mp br)])),(1,.agg [.str iq,.agg [.int .i64 kg,.int .i64 pK,.hole]]),(3,.aM (.agg [.str iq,.agg [.int .i64 kg,.int .i64 pK,.aj 1 (ui.map a1)]])),(4,.str ((iq++([32]:axa))++U)),(18,.bool (!(jL ((iq++([32]:axa))++U) br)))] ?_;refine aF h (λp8 h=>?_) (λp8 h=>?_)
 .refine c1 (R @M3 (R @A2 (show qO ah 126=true from by kernel_rfl))) [(0,.aM (.agg [.slice (bp.map ba),.aj 4 (bs.map hC),.b4 (.mp (j1 ((iq++([32]:axa))++U) true br))])),(1,.agg [.str iq,.agg [.int .i64 kg,.int .i64 pK,.hole]]),(3,.aM (.agg [.str iq,.agg [.int .i64 kg,.int .i64 pK,.aj 1 (ui.map a1)]]))] ?_;obtain⟨CJ,ic,h⟩:=ao h;(try simp only[fQ.down,Nat.zero_add,Nat.add_zero,reduceAdd]at ic);refine aga 0 7 [1,2,3,4,5,6,7,0,8,9,10] rfl rfl [(0,.aM (.agg [.slice (bp.map ba),.aj 4 ((bs++[(a7.mk iq (bd.mk kg pK ui))]).map hC),.b4 (.mp (j1 ((iq++([32]:axa))++U) true br))])),(1,.agg [.str iq,.agg [.int .i64 kg,.int .i64 pK,.hole]])] (λP bu=>?_) (λP bu=>?_) ?_
  .simp only[cV.down,simprocAttr,J0.down,nX,dF,ic];refine⟨hF (by kernel_rfl),?_⟩;(try simp only[jX.down,simprocAttr,J0.down,nX,dF,ic]at bu⊢);exact bu
  .simp only[vf,List.map_cons,List.map_nil,List.getD_cons_zero,List.getD_cons_succ,simprocAttr];simp only[cV.down,simprocAttr,J0.down,nX,dF,ic];refine⟨hF (by kernel_rfl),?_⟩;(try simp only[jX.down,simprocAttr,J0.down,nX,dF,ic]at bu⊢);exact bu
  exact bq _ (.inl (kb [] rfl (by cases gl h;rfl) (by decide) (kB (nZ (by cases gl h;rfl) rfl rfl rfl (dK (kC))))))
 .exact aJ (bq _ (.inl (kb [] rfl (by cases gl h;rfl) (by decide) (kB (nZ (by cases gl h;rfl) rfl rfl rfl (dK (kC)))))))
theorem aoF (n7:axu->axz->awY->Int->Int->axc->Option (axu×axz×awY)) (Ky:∀bp bs br J a2 a3 r,n7 bp bs br J a2 a3=some r->aV ah 98 [.aM (.agg [.slice (bp.map ba),.aj 4 (bs.map hC),.b4 (.mp br)]),.int .i64 J,.int .i64 a2,.slice (a3.map a1)] (.tuple []) [.aM (.agg [.slice (r.1.map ba),.aj 4 (r.2.1.map hC),.b4 (.mp r.2.2)]),.hole,.hole,.hole]) (bp bs br J a2 a3 r) (h:xr n7 bp bs br J a2 a3=some r):aV ah 98 [.aM (.agg [.slice (bp.map ba),.aj 4 (bs.map hC),.b4 (.mp br)]),.int .i64 J,.int .i64 a2,.slice (a3.map a1)] (.tuple []) [.aM (.agg [.slice (r.1.map ba),.aj 4 (r.2.1.map hC),.b4 (.mp r.2.2)]),.hole,.hole,.hole]:=by
 refine bA [0,1,2,3] [] Tryz.func98 aj7 (λbt ai bq=>?_);obtain⟨U,aU,h⟩:=ao h;refine c1 aU _ ?_;obtain⟨af,bW,h⟩:=ao h;refine c1 bW _ ?_;refine ws _ ?_;refine bn ai (λeA cR cH dn bD=>?_);refine ws _ ?_;refine aF h (λcy h=>?_) (λcy h=>?_)
 .obtain⟨aK,ic,h⟩:=ao h;obtain⟨a_,kK,h⟩:=ao h;refine i1 rfl (ig [(0,.aM (.agg [.slice (bp.map ba),.aj 4 (bs.map hC),.b4 (.mp br)])),(1,.int .i64 J),(2,.int .i64 a2),(3,.slice (a3.map a1)),(8,.aM (ba U)),(10,.str a_.1)] (λP bu=>?_) ?_)
  ·(try simp only[cV.down,simprocAttr]);refine hL (Yz af.cO a3 _ ic) rfl rfl rfl rfl (.inl (by rfl)) ?_;simp only[cV.down,simprocAttr];refine hL (Kx af.Name aK _ kK) rfl rfl (by simp only[cV.down,simprocAttr,JY.down]<;>rfl) rfl (.inr (by rfl)) ?_;simp only[cV.down,simprocAttr];refine⟨hF (by kernel_rfl),?_⟩;exact cc trivial
  obtain⟨bo,fi,h⟩:=ao h;refine eH (R (@mI ah 60 [(2,0),(2,1),(48,2)] [(.int .i64 0),(.int .i64 0),.a8] rfl rfl (by kernel_rfl)) (R @lA (R @lB (R @eo (R @gH (R @List.nil_append.{0} @List.cons_append.{0})))))) (Q7 a3 _ fi) _ ?_;have vH:∀B8 B9 B_,Js n7 bp bs br a_ B8 B9 B_=some r->bk ah Xb eA (aq [(0,.aM (.agg [.slice (bp.map ba),.aj 4 (bs.map hC),.b4 (.mp br)])),(10,.str a_.1),(12,.aM (.agg [.int .i64 B8,.int .i64 B9,.aj 1 (B_.map a1)]))]):=by
   intro B8 B9 B_ h;obtain⟨bD,cC,h⟩:=ao h;refine jh (cI [(0,.aM (.agg [.slice (bD.1.map ba),.aj 4 (bD.2.1.map hC),.b4 (.mp bD.2.2)]))] (λP bu=>?_) ?_)
   ·(try simp only[aT.down,simprocAttr,Xz.down,eb,dF]);refine ow [⟨.h 0 [],true,_,_⟩,⟨.h 66 [],true,_,.hole⟩] (aoE bp bs br a_.1 B8 B9 B_ _ cC) rfl rfl rfl (by simp only[aT.down,simprocAttr, @mI ah 88 [(9,0),(60,1)] [(.str []),(.agg [(.int .i64 0),(.int .i64 0),.a8])] rfl rfl (by kernel_rfl),eb,lA,dF,lB,eo,gH,List.nil_append,List.cons_append,o5,pA,pB,i6,i7,i_,cY,or_true,true_or, @b0 _ ba ba (λ_=>sJ _), @b0 _ hC cU (λ_=>F8 _), @b0 _ a1 a1 (λ_=>jW _)]) rfl rfl (.inl rfl) ?_;simp only[aT.down,simprocAttr, @mI ah 88 [(9,0),(60,1)] [(.str []),(.agg [(.int .i64 0),(.int .i64 0),.a8])] rfl rfl (by kernel_rfl),eb,lA,dF,lB,eo,gH,List.nil_append,List.cons_append,nY];exact cc Xz.down
   exact cR _ (bq _ (.inl (kb [] rfl (by cases gl h;rfl) (by decide) (kB (nZ (by cases gl h;rfl) rfl rfl rfl (dK (dK (dK (kC)))))))))
  refine az cH (λhv ez ee eZ=>?_);obtain⟨bj,e4,h⟩:=ao h;refine c1 e4 _ ?_;refine ws _ ?_;refine aF h (λfX h=>?_) (λfX h=>?_)
  .obtain⟨cu,gJ,h⟩:=ao h;refine Xs (R (@mI ah 60 [(2,0),(2,1),(48,2)] [(.int .i64 0),(.int .i64 0),.a8] rfl rfl (by kernel_rfl)) (R @lA (R @lB (R @eo (R @gH (R @List.nil_append.{0} @List.cons_append.{0})))))) (Yz bj.cO a3 _ gJ) _ ?_;exact ez _ (.inr ⟨_,aY rfl,vH bj.Number 0 cu h⟩)
  .exact aJ (ez _ (.inr ⟨_,aY rfl,vH J (i64.wrap (a2+1)) bo h⟩))
 .refine ws _ ?_;refine aF h (λh0 h=>?_) (λh0 h=>?_)
  .obtain⟨ch,sT,h⟩:=ao h;refine eQ (cI [(0,.aM (.agg [.slice (ch.1.map ba),.aj 4 (ch.2.1.map hC),.b4 (.mp ch.2.2)])),(1,.int .i64 J),(2,.int .i64 a2),(3,.slice (a3.map a1)),(8,.aM (ba U))] (λP bu=>?_) ?_)
   ·(try simp only[aT.down,simprocAttr]);refine ow [⟨.h 0 [],true,_,_⟩,⟨.int .i64 J,false,_,.hole⟩,⟨.int .i64 (i64.wrap (a2+1)),false,_,.hole⟩,⟨.slice (a3.map a1),false,_,.hole⟩] (Ky bp bs br J (i64.wrap (a2+1)) a3 _ sT) rfl rfl rfl (by simp only[aT.down,simprocAttr,Qa.down]) rfl rfl (.inl rfl) ?_;simp only[aT.down,simprocAttr,nY];exact cc trivial
   obtain⟨cv,xR,h⟩:=ao h;obtain⟨dP,sY,h⟩:=ao h;refine jh (cI [(0,.aM (.agg [.slice (dP.1.map ba),.aj 4 (dP.2.1.map hC),.b4 (.mp dP.2.2)]))] (λP bu=>?_) ?_)
   ·(try simp only[aT.down,simprocAttr]);refine dR (Yr U (i64.wrap (a2+1)) _ xR) rfl rfl rfl rfl (.inl (by rfl)) ?_;simp only[aT.down,simprocAttr];refine ow [⟨.h 0 [],true,_,_⟩,⟨.int .i64 J,false,_,.hole⟩,⟨.int .i64 cv,false,_,.hole⟩,⟨.slice (a3.map a1),false,_,.hole⟩] (Ky ch.1 ch.2.1 ch.2.2 J cv a3 _ sY) rfl rfl rfl (by simp only[aT.down,simprocAttr,Qa.down]) rfl rfl (.inl rfl) ?_;simp only[aT.down,simprocAttr,nY];exact cc trivial
   exact cR _ (bq _ (.inl (kb [] rfl (by cases gl h;rfl) (by decide) (kB (nZ (by cases gl h;rfl) rfl rfl rfl (dK (dK (dK (kC)))))))))
  .refine ws _ ?_;refine aF h (λgX h=>?_) (λgX h=>?_)
   .obtain⟨gz,pT,h⟩:=ao h;obtain⟨hG,jI,h⟩:=ao h;refine eH pT (Yy gz a3 _ jI) _ ?_;refine aF h (λzE h=>?_) (λzE h=>?_)
    .obtain⟨eZ,qx,h⟩:=ao h;refine jh (cI [(0,.aM (.agg [.slice (eZ.1.map ba),.aj 4 (eZ.2.1.map hC),.b4 (.mp eZ.2.2)]))] (λP bu=>?_) ?_)
     ·(try simp only[aT.down,simprocAttr]);refine ow [⟨.h 0 [],true,_,_⟩,⟨.int .i64 J,false,_,.hole⟩,⟨.int .i64 (i64.wrap (a2+1)),false,_,.hole⟩,⟨.slice (a3.map a1),false,_,.hole⟩] (Ky bp bs br J (i64.wrap (a2+1)) a3 _ qx) rfl rfl rfl (by simp only[aT.down,simprocAttr,Qa.down]) rfl rfl (.inl rfl) ?_;simp only[aT.down,simprocAttr,nY];exact cc trivial
     exact cR _ (bq _ (.inl (kb [] rfl (by cases gl h;rfl) (by decide) (kB (nZ (by cases gl h;rfl) rfl rfl rfl (dK (dK (dK (kC)))))))))
    .exact aJ (cR _ (bq _ (.inl (kb [] rfl (by cases gl h;rfl) (by decide) (kB (nZ (by cases gl h;rfl) rfl rfl rfl (dK (dK (dK (kC))))))))))
   .refine ws _ ?_;refine aF h (λvQ h=>?_) (λvQ h=>?_)
    .refine ws _ ?_;refine bn cH (λxL uG sR vK CE=>?_);have aoG:∀n vy vz vA kT,Ca n7 J a2 a3 af n vy vz vA kT=some r->cX ah Xc xL (aq [(0,.aM (.agg [.slice (vy.map ba),.aj 4 (vz.map hC),.b4 (.mp vA)])),(1,.int .i64 J),(2,.int .i64 a2),(3,.slice (a3.map a1)),(103,.int .i64 (i64.wrap (af.Number+1))),(104,.int .i64 kT)]):=by
      refine dd (λawx aoH vy vz vA kT h=>dc sR (λQy zF vL zG=>?_));refine ws _ ?_;refine az vL (λQF xN Kf CF=>?_);refine aF h (λzH h=>?_) (λzH h=>?_)
      .refine aJ (xN _ (.inl ?_));refine az vL (λGr xM vM Kd=>?_);refine bn vM (λGl pS qy Gm CC=>?_);refine ws _ ?_;obtain⟨ft,Gs,h⟩:=ao h;obtain⟨awy,vR,h⟩:=ao h;(try simp only[fQ.down,Nat.zero_add,Nat.add_zero,reduceAdd]at vR);obtain⟨hV,vU,h⟩:=ao h;refine jh (cI [(0,.aM (.agg [.slice (hV.1.map ba),.aj 4 (hV.2.1.map hC),.b4 (.mp hV.2.2)])),(1,.int .i64 J),(2,.int .i64 a2),(3,.slice (a3.map a1)),(103,.int .i64 (i64.wrap (af.Number+1))),(104,.int .i64 kT)] (λP bu=>?_) ?_)
       ·(try simp only[aT.down,simprocAttr,(show∀s,dO ah s 48 1 [(0,.int .i64 kT)]=some (.aj 1 [.int .i64 kT],s)from λs=>by kernel_rfl),Cx.down,vR,I.shares]);refine dR (Q7 a3 _ Gs) rfl rfl rfl rfl (.inl (by rfl)) ?_;simp only[aT.down,simprocAttr,(show∀s,dO ah s 48 1 [(0,.int .i64 kT)]=some (.aj 1 [.int .i64 kT],s)from λs=>by kernel_rfl),Cx.down,vR,I.shares];refine ow [⟨.h 0 [],true,_,_⟩,⟨.int .i64 J,false,_,.hole⟩,⟨.int .i64 (i64.wrap (a2+1)),false,_,.hole⟩,⟨.slice ((ft++[kT]).map a1),false,_,.hole⟩] (Ky vy vz vA J (i64.wrap (a2+1)) (ft++[kT]) _ vU) rfl rfl (by simp only[aT.down,simprocAttr,(show∀s,dO ah s 48 1 [(0,.int .i64 kT)]=some (.aj 1 [.int .i64 kT],s)from λs=>by kernel_rfl),Xw.down,vR,I.shares]) (by simp only[aT.down,simprocAttr,(show∀s,dO ah s 48 1 [(0,.int .i64 kT)]=some (.aj 1 [.int .i64 kT],s)from λs=>by kernel_rfl), @kc ah 48 48 2 rfl rfl,kd,ke,gH,all_cons,all_nil,vR, @jy _ a1 1 (λ_=>rfl),n2,n1,I.shares,cY,n0, @b0 _ a1 a1 (λ_=>jW _),o5,pA,pB,i6,i7,i_,cY,or_true,true_or, @b0 _ ba ba (λ_=>sJ _), @b0 _ hC cU (λ_=>F8 _)]) rfl rfl (.inl rfl) ?_;simp only[aT.down,simprocAttr,(show∀s,dO ah s 48 1 [(0,.int .i64 kT)]=some (.aj 1 [.int .i64 kT],s)from λs=>by kernel_rfl),Xx.down,vR,I.shares];exact cc (R (show∀s,dO ah s 48 1 [(0,.int .i64 kT)]=some (.aj 1 [.int .i64 kT],s)from λs=>by kernel_rfl) (R Cx.down vR))
       refine pS _ (xM _ (.inl ?_));refine wr _ ?_;exact zF _ (.inr ⟨_,aY rfl,aoH hV.1 hV.2.1 hV.2.2 (i64.wrap (kT+1)) h⟩)
      .exact c7 (CF 1 _ (zG 1 _ (vK _ (cR _ (bq _ (.inl (kb [] rfl (by cases gl h;rfl) (by decide) (kB (nZ (by cases gl h;rfl) rfl rfl rfl (dK (dK (dK (kC)))))))))))))
     obtain⟨n,h⟩:=cS h;exact db (.inr ⟨_,aY rfl,aoG n bp bs br 0 h⟩)
    .exact aJ (cR _ (bq _ (.inl (kb [] rfl (by cases gl h;rfl) (by decide) (kB (nZ (by cases gl h;rfl) rfl rfl rfl (dK (dK (dK (kC))))))))))
theorem aoI:∀n bp bs br J a2 a3 r,rb n bp bs br J a2 a3=some r->aV ah 98 [.aM (.agg [.slice (bp.map ba),.aj 4 (bs.map hC),.b4 (.mp br)]),.int .i64 J,.int .i64 a2,.slice (a3.map a1)] (.tuple []) [.aM (.agg [.slice (r.1.map ba),.aj 4 (r.2.1.map hC),.b4 (.mp r.2.2)]),.hole,.hole,.hole]:=by
 intro n;induction n with
 |zero=>intro bp bs br J a2 a3 r h;cases(show none=some r from h)
 |succ n ih=>intro bp bs br J a2 a3 r h;exact aoF (rb n) ih bp bs br J a2 a3 r h
theorem aoJ (bp bs br J a2 a3 r) (h:Jt bp bs br J a2 a3=some r):aV ah 98 [.aM (.agg [.slice (bp.map ba),.aj 4 (bs.map hC),.b4 (.mp br)]),.int .i64 J,.int .i64 a2,.slice (a3.map a1)] (.tuple []) [.aM (.agg [.slice (r.1.map ba),.aj 4 (r.2.1.map hC),.b4 (.mp r.2.2)]),.hole,.hole,.hole]:=by
 obtain⟨n,h⟩:=cS h;exact aoI n bp bs br J a2 a3 r h
theorem aoK (a0 J r) (h:uj a0 J=some r):aV ah 69 [.slice (a0.map ba),bz J] (.tuple [.aj 4 (r.1.map hC),.bool r.2]) []:=by
 refine bA [0,1] [.tmp 4,.tmp 5] Tryz.func69 aj9 (λbt ai bq=>?_);refine ws _ ?_;refine c1 (R @Vn (R (@mI ah 170 [(32,0),(83,1),(126,2)] [.a8,.a8,(.b4 .j2)] rfl rfl (by kernel_rfl)) (R @lA (R @lB (R @eo (R @gH (R @List.nil_append.{0} @List.cons_append.{0}))))))) _ ?_;obtain⟨U,bW,h⟩:=ao h;refine eQ (cI [(6,.aM (.agg [.slice (U.1.map ba),.aj 4 (U.2.1.map hC),.b4 (.mp U.2.2)]))] (λP bu=>?_) ?_)
 ·(try simp only[aT.down,simprocAttr]);refine ow [⟨.h 6 [],true,_,_⟩,⟨.int .i64 J.cD,false,_,.hole⟩,⟨.int .i64 J.Part,false,_,.hole⟩,⟨.slice (J.bV.map a1),false,_,.hole⟩] (aV.aeX (aoJ a0 [] [] J.cD J.Part J.bV _ bW) (.wd (.aM (.agg (.cons (.refl _) (.cons (.iz _) (.cons (.refl _) (.nil)))))) rfl rfl (.eq rfl (.eq rfl (.eq rfl (.nil)))))) rfl rfl rfl (by simp only[aT.down,simprocAttr,o5,pA,pB,i6,i7,i_,cY,or_true,true_or, @b0 _ ba ba (λ_=>sJ _)]) rfl rfl (.inl rfl) ?_;simp only[aT.down,simprocAttr,nY];exact cc trivial
 refine oE @Vm _ ?_;exact aw (ai _ (.inl (U0 4 [.aj 4 (U.2.1.map hC),.bool (decide ((U.2.1.length:Int)<=200))])))
theorem YE:∀a c,sC a c=Lib.indexByte a c
 |[],_=>rfl
 |a::x,c=>by simp only[sC,Lib.indexByte,YE x c]
theorem aoL (a0:axa) (J:UInt8) (r:Int) (h:Pd a0 J=some r):aV ah 222 [.str a0,.int .u8 J.toNat] (.int .i64 r) []:=by
 rw[show r=Lib.indexByte a0 J from(gl h).trans (YE _ _)];exact Vh Tryz.func222 (by kernel_rfl) (by kernel_rfl) (by kernel_rfl) (E:=Extern.BytealgIndexByte.indexByte) (by kernel_rfl) a0 J _ λw=>by
  rw[Lib.run_indexByteString,show((J.toNat:Int).toNat).toUInt8=J from by simp]
theorem aoM (a0 J r) (h:Pe a0 J=some r):aV ah 196 [.str a0,.int .u8 (J.toNat:Int)] (.int .i64 r) []:=by
 refine bA [0,1] [.tmp 4] Tryz.func196 c196 (λbt ai bq=>?_);refine ws _ ?_;obtain⟨U,aR,h⟩:=ao h;refine cB (aoL a0 J _ aR) _ ?_;exact aw (ai _ (.inl (ay [.int .i64 U])))
theorem YF (a0 J r) (h:vB a0 J=some r):aV ah 169 [.str a0,.str J] (.int .i64 r) []:=by
 refine bA [0,1] [.tmp 4] Tryz.func169 aj_ (λbt ai bq=>?_);refine ws _ ?_;refine ws _ ?_;refine az ai (λjl e7 de aK=>?_);refine bn de (λei dS bR bU a_=>?_);refine mT ((J.length:Int)==0) [(0,.str a0),(1,.str J),(5,.int .i64 (J.length:Int)),(16,.bool (((J.length:Int)==0)||(J==a0)))] ?_;refine aF h (λdn h=>?_) (λdn h=>?_)
 .refine ws _ ?_;exact aw (bR _ (.inl (ay [.int .i64 0])))
 .refine ws _ ?_;refine aF h (λeR h=>?_) (λeR h=>?_)
  .obtain⟨U,kK,h⟩:=ao h;obtain⟨af,e1,h⟩:=ao h;refine eH kK (aoM a0 U _ e1) _ ?_;exact aw (bR _ (.inl (ay [.int .i64 af])))
  .refine ws _ ?_;refine aF h (λfw h=>?_) (λfw h=>?_)
   .refine ws _ ?_;exact aw (bR _ (.inl (ay [.int .i64 (-1)])))
   .cases h
theorem aoN (a0 J r) (h:Ju a0 J=some r):aV ah 138 [.str a0,.str J] (.tuple [.str r.1,.str r.2.1,.bool r.2.2]) []:=by
 refine bA [0,1] [.tmp 4,.tmp 5,.tmp 6] Tryz.func138 c138 (λbt ai bq=>?_);refine ws _ ?_;refine az ai (λdJ bL bf af=>?_);obtain⟨U,bW,h⟩:=ao h;refine cB (YF a0 J _ bW) _ ?_;refine ws _ ?_;refine aF h (λdn h=>?_) (λdn h=>?_)
 .obtain⟨af,fu,h⟩:=ao h;obtain⟨aK,j7,h⟩:=ao h;refine oE (R fu j7) _ ?_;exact aw (bf _ (.inl (ay [.str af,.str aK,.bool true])))
 .refine aJ (bL _ (.inl ?_));refine ws _ ?_;exact aw (ai _ (.inl (ay [.str a0,.str ([]:axa),.bool false])))
theorem aoO (a0 J r) (h:Cb a0 J=some r):aV ah 99 [.str a0,.str J] (.tuple [.str r.1,.str r.2.1,.bool r.2.2]) []:=by
 refine bA [0,1] [.tmp 4,.tmp 5,.tmp 6] Tryz.func99 aka (λbt ai bq=>?_);refine ws _ ?_;obtain⟨U,aR,h⟩:=ao h;refine cB (aoN a0 J _ aR) _ ?_;exact aw (ai _ (.inl (ay [.str U.1,.str U.2.1,.bool U.2.2])))
theorem aoP (a0 J r) (h:Pf a0 J=some r):aV ah 175 [.str a0,.str J] (.bool r) []:=by
 refine bA [0,1] [.tmp 4] Tryz.func175 c175 (λbt ai bq=>?_);refine ws _ ?_;rcases dr h with⟨fU,h⟩|⟨fU,h⟩
 .obtain⟨U,bW,h⟩:=ao h;refine c1 (R fU bW) _ ?_;exact aw (ai _ (.inl (ay [.bool (U==J)])))
 .refine c1 fU _ ?_;exact aw (ai _ (.inl (ay [.bool false])))
theorem aoQ (a0 J r) (h:Pg a0 J=some r):aV ah 141 [.str a0,.str J] (.str r) []:=by
 refine bA [0,1] [.tmp 4] Tryz.func141 c141 (λbt ai bq=>?_);refine ws _ ?_;refine az ai (λdJ bL bf af=>?_);obtain⟨U,bW,h⟩:=ao h;refine cB (aoP a0 J _ bW) _ ?_;refine aF h (λcP h=>?_) (λcP h=>?_)
 .obtain⟨af,b3,h⟩:=ao h;refine c1 b3 _ ?_;exact aw (bf _ (.inl (ay [.str af])))
 .refine aJ (bL _ (.inl ?_));refine ws _ ?_;exact aw (ai _ (.inl (ay [.str a0])))
theorem aoR (a0 J r) (h:strings_TrimSuffix a0 J=some r):aV ah 102 [.str a0,.str J] (.str r) []:=by
 refine bA [0,1] [.tmp 4] Tryz.func102 akb (λbt ai bq=>?_);refine ws _ ?_;obtain⟨U,aR,h⟩:=ao h;refine cB (aoQ a0 J _ aR) _ ?_;exact aw (ai _ (.inl (ay [.str U])))
theorem aoS (a0:axa) (J:UInt8) (r:Int) (h:Ph a0 J=some r):aV ah 205 [.str a0,.int .u8 J.toNat] (.int .i64 r) []:=by
 rw[show r=((Lib.countByte a0 J:Nat):Int)from gl h];exact Vh Tryz.func205 (by kernel_rfl) (by kernel_rfl) (by kernel_rfl) (E:=Extern.BytealgCount.count) (by kernel_rfl) a0 J _ λw=>by
  rw[Lib.run_countString,show((J.toNat:Int).toNat).toUInt8=J from by simp]
theorem YG (a0 J r) (h:FF a0 J=some r):aV ah 174 [.str a0,.str J] (.int .i64 r) []:=by
 refine bA [0,1] [.tmp 4] Tryz.func174 akc (λbt ai bq=>?_);refine ws _ ?_;obtain⟨U,aR,h⟩:=ao h;refine cB (YF a0 J _ aR) _ ?_;exact aw (ai _ (.inl (ay [.int .i64 U])))
theorem aoT (a0 J r) (h:Pk a0 J=some r):aV ah 173 [.str a0,.str J] (.int .i64 r) []:=by
 refine bA [1] [.tmp 4] Tryz.func173 c173 (λbt ai bq=>?_);refine ws _ ?_;refine az ai (λdJ bL bf af=>?_);refine ws _ ?_;refine aF h (λbU h=>?_) (λbU h=>?_)
 .cases h
 .refine aJ (bL _ (.inl ?_));refine az ai (λeA cR cH bD=>?_);refine ws _ ?_;refine aF h (λcy h=>?_) (λcy h=>?_)
  .obtain⟨U,ic,h⟩:=ao h;obtain⟨af,kK,h⟩:=ao h;refine eH ic (aoS a0 U _ kK) _ ?_;exact aw (cH _ (.inl (ay [.int .i64 af])))
  .refine aJ (cR _ (.inl ?_));refine ws _ ?_;refine bn ai (λkG fE fp eX hG=>?_);show bk ah (.loop ?c21) _ _;have aoU:∀n uk um,Pj J n uk um=some r->cX ah ?c21 kG (aq [(0,.str uk),(1,.str J),(5,.int .i64 um)]):=by
    refine dd (λm21 aoV uk um h=>dc fp (λhv ez ee eZ=>?_));refine bn ee (λkF gd gj dY ft=>?_);obtain⟨aK,dL,h⟩:=ao h;refine cB (YG uk J _ dL) _ ?_;refine az gj (λGu ry sZ pG=>?_);refine ws _ ?_;refine aF h (λfX h=>?_) (λfX h=>?_)
    .refine ws _ ?_;exact aw (sZ _ (.inl (ay [.int .i64 um])))
    .refine aJ (ry _ (.inl ?_));refine ws _ ?_;obtain⟨a_,lj,h⟩:=ao h;refine sM lj _ ?_;exact gd _ (ez _ (.inr ⟨_,aY rfl,aoV a_ (i64.wrap (um+1)) h⟩))
   obtain⟨n,h⟩:=cS h;exact db (.inr ⟨_,aY rfl,aoU n a0 0 h⟩)
theorem aoW (a0 J a2 a3 r) (h:Pm a0 J a2 a3=some r):aV ah 140 [.str a0,.str J,.int .i64 a2,.int .i64 a3] (.aj 1 (r.map aW)) []:=by
 refine bA [1,2] [.tmp 8] Tryz.func140 akd (λbt ai bq=>?_);refine ws _ ?_;refine az ai (λdJ bL bf af=>?_);refine ws _ ?_;refine aF h (λbU h=>?_) (λbU h=>?_)
 .refine ws _ ?_;exact aw (bf _ (.inr ⟨[(8,.aj 1 [])],ij [] rfl (h6 (t:=8) (d:=.a8) rfl rfl (.iz _) (by decide) (ik)),ay [.aj 1 []]⟩))
 .refine aJ (bL _ (.inl ?_));refine az ai (λeA cR cH bD=>?_);refine ws _ ?_;refine aF h (λcy h=>?_) (λcy h=>?_)
  .cases h
  .refine aJ (cR _ (.inl ?_));show bk ah (.seq _ ?c24) _ _;have xS:∀jE,Jv a0 J a2 jE=some r->bk ah ?c24 bt (aq [(0,.str a0),(1,.str J),(2,.int .i64 a2),(3,.int .i64 jE)]):=by
    intro jE h;refine c1 (R @Vr @aeV) _ ?_;obtain⟨awz,fi,h⟩:=ao h;refine rm (R (qF fi) @List.map_replicate.{0,0}) [(0,.str a0),(1,.str J),(2,.int .i64 a2),(3,.int .i64 (kH false jE (i64.wrap ((a0.length:Int)+1)))),(9,.aj 1 ((List.replicate (Int.toNat (kH false jE (i64.wrap ((a0.length:Int)+1)))) ([]:axa)).map aW))] ?_;refine ws [(0,.str a0),(1,.str J),(2,.int .i64 a2),(3,.int .i64 (i64.wrap ((kH false jE (i64.wrap ((a0.length:Int)+1)))-1))),(9,.aj 1 ((List.replicate (Int.toNat (kH false jE (i64.wrap ((a0.length:Int)+1)))) ([]:axa)).map aW))] ?_;refine ws [(0,.str a0),(1,.str J),(2,.int .i64 a2),(3,.int .i64 (i64.wrap ((kH false jE (i64.wrap ((a0.length:Int)+1)))-1))),(9,.aj 1 ((List.replicate (Int.toNat (kH false jE (i64.wrap ((a0.length:Int)+1)))) ([]:axa)).map aW)),(10,.int .i64 0)] ?_;show bk ah (.seq _ ?PU) _ _;have YH:∀Cc zm vC,FG a0 J a2 jE Cc zm vC=some r->bk ah ?PU bt (aq [(0,.str Cc),(1,.str J),(2,.int .i64 a2),(3,.int .i64 (i64.wrap ((kH false jE (i64.wrap ((a0.length:Int)+1)))-1))),(9,.aj 1 (zm.map aW)),(10,.int .i64 vC)]):=by
     intro Cc zm vC h;obtain⟨U,e4,h⟩:=ao h;refine eQ (cI [(9,.aj 1 ((List.set zm (Int.toNat vC) Cc).map aW)),(10,.int .i64 vC)] (λP bu=>?_) ?_)
     .simp only[aT.down,simprocAttr,e4,dy e4,eo,dV];exact cc (R e4 (R (dy e4) @eo))
     obtain⟨af,gL,h⟩:=ao h;refine eQ (cI [(8,.aj 1 (af.map aW))] (λP bu=>?_) ?_)
     .simp only[aT.down,simprocAttr,gL,XA.down,xa];(try simp only[jX.down,simprocAttr,gL,XA.down,xa]at bu⊢);exact bu
     exact aw (ai _ (.inl (ay [.aj 1 (af.map aW)])))
    refine az ai (λsN kX mU hV=>?_);refine bn mU (λKw xQ zM sX mL=>?_);show bk ah (.loop ?Gc) _ _;have Qs:∀n oB nE ld,zn a0 J a2 jE n oB nE ld=some r->cX ah ?Gc Kw (aq [(0,.str oB),(1,.str J),(2,.int .i64 a2),(3,.int .i64 (i64.wrap ((kH false jE (i64.wrap ((a0.length:Int)+1)))-1))),(9,.aj 1 (nE.map aW)),(10,.int .i64 ld)]):=by
     refine dd (λalE Qt oB nE ld h=>dc zM (λxB oc nI lb=>?_));refine az nI (λYf Gy Kl mM=>?_);refine ws _ ?_;refine aF h (λqA h=>?_) (λqA h=>?_)
     .refine aJ (Gy _ (.inl ?_));refine bn nI (λGg sO ru jH pH=>?_);obtain⟨aK,xR,h⟩:=ao h;refine cB (YG oB J _ xR) _ ?_;refine az ru (λCA pQ pR vI=>?_);refine ws _ ?_;refine aF h (λgX h=>?_) (λgX h=>?_)
      .exact c7 (vI 0 _ (pH 0 _ (by decide) (lb 0 _ (sX _ (kX _ (.inr ⟨_,aY rfl,YH oB nE ld h⟩))))))
      .refine aJ (pQ _ (.inl ?_));obtain⟨a_,pT,h⟩:=ao h;obtain⟨bo,jI,h⟩:=ao h;refine eQ (cI [(0,.str oB),(1,.str J),(2,.int .i64 a2),(3,.int .i64 (i64.wrap ((kH false jE (i64.wrap ((a0.length:Int)+1)))-1))),(9,.aj 1 ((List.set nE (Int.toNat ld) a_).map aW)),(10,.int .i64 ld),(11,.int .i64 aK)] (λP bu=>?_) ?_)
       .simp only[aT.down,simprocAttr,pT,jI,dy jI,eo,dV,(show(List.map aW nE).set (Int.toNat ld) (.str a_)=List.map aW (List.set nE (Int.toNat ld) a_)from(List.map_set ..).symm)];exact cc (R pT (R jI (R (dy jI) @eo)))
       obtain⟨bD,pf,h⟩:=ao h;refine c1 pf [(0,.str bD),(1,.str J),(2,.int .i64 a2),(3,.int .i64 (i64.wrap ((kH false jE (i64.wrap ((a0.length:Int)+1)))-1))),(9,.aj 1 ((List.set nE (Int.toNat ld) a_).map aW)),(10,.int .i64 ld)] ?_;refine wr [(0,.str bD),(1,.str J),(2,.int .i64 a2),(3,.int .i64 (i64.wrap ((kH false jE (i64.wrap ((a0.length:Int)+1)))-1))),(9,.aj 1 ((List.set nE (Int.toNat ld) a_).map aW)),(10,.int .i64 (i64.wrap (ld+1)))] ?_;exact sO _ (oc _ (.inr ⟨_,aY rfl,Qt bD (List.set nE (Int.toNat ld) a_) (i64.wrap (ld+1)) h⟩))
     .exact c7 (mM 0 _ (lb 0 _ (sX _ (kX _ (.inr ⟨_,aY rfl,YH oB nE ld h⟩)))))
    obtain⟨n,h⟩:=cS h;exact db (.inr ⟨_,aY rfl,Qs n a0 (List.replicate (Int.toNat (kH false jE (i64.wrap ((a0.length:Int)+1)))) ([]:axa)) 0 h⟩)
   refine az ai (λe0 cf cn cv=>?_);refine ws _ ?_;refine aF h (λvQ h=>?_) (λvQ h=>?_)
   .obtain⟨bj,aoX,h⟩:=ao h;refine Xr (aoT a0 J _ aoX) _ ?_;exact cf _ (.inr ⟨_,aY rfl,xS (i64.wrap (bj+1)) h⟩)
   .exact aJ (cf _ (.inr ⟨_,aY rfl,xS a3 h⟩))
theorem aoY (a0 J r) (h:Jw a0 J=some r):aV ah 101 [.str a0,.str J] (.aj 1 (r.map aW)) []:=by
 refine bA [0,1] [.tmp 4] Tryz.func101 ake (λbt ai bq=>?_);refine ws _ ?_;obtain⟨U,aR,h⟩:=ao h;refine cB (aoW a0 J 0 (-1) _ aR) _ ?_;exact aw (ai _ (.inl (ay [.aj 1 (U.map aW)])))
theorem aoZ (a0:axa) (r:Int×Bool) (h:Jx a0=some r):aV ah 139 [.str a0] (.tuple [.int .i64 r.1,.bool r.2]) []:=ak0 a0 r h
theorem ao0 (a0 r) (h:Jy a0=some r):aV ah 100 [.slice (a0.map aW)] (.tuple [.aj 1 (r.1.map a1),.bool r.2]) []:=by
 refine bA [0] [.tmp 2,.tmp 3] Tryz.func100 akf (λbt ai bq=>?_);refine ws _ ?_;refine ws _ ?_;refine az ai (λjl e7 de aK=>?_);refine ws _ ?_;refine bn de (λgR dZ df cP bo=>?_);show bk ah (.loop ?h4) _ _;have iC:∀n bJ re,Cd a0 n bJ re=some r->cX ah ?h4 gR (aq [(4,.aj 1 (bJ.map a1)),(9,.slice (a0.map aW)),(10,.int .i64 (a0.length:Int)),(11,.int .i64 re)]):=by
  refine dd (λm8 iD bJ re h=>dc df (λeA cR cH bD=>?_));refine ws _ ?_;refine az cH (λgk gf fY cu=>?_);refine aF h (λeR h=>?_) (λeR h=>?_)
  .refine aJ (gf _ (.inl ?_));refine az cH (λe0 cf cn cv=>?_);refine bn cn (λhY eK fL lJ dP=>?_);obtain⟨U,fi,h⟩:=ao h;refine c1 fi _ ?_;obtain⟨af,fq,h⟩:=ao h;refine cB (aoZ U _ fq) _ ?_;refine az fL (λsN kX mU hV=>?_);refine ws _ ?_;refine aF h (λhD h=>?_) (λhD h=>?_)
   .refine ws _ ?_;exact aw (mU _ (.inr ⟨[(2,.aj 1 []),(3,.bool false)],ij [] rfl (h6 (t:=2) (d:=.a8) rfl rfl (.iz _) (by decide) (cF rfl (ik))),ay [.aj 1 [],.bool false]⟩))
   .refine aJ (kX _ (.inl ?_));obtain⟨amz,hZ,h⟩:=ao h;(try simp only[fQ.down,Nat.zero_add,Nat.add_zero,reduceAdd]at hZ);refine sM (R (show∀s,dO ah s 48 1 [(0,.int .i64 af.1)]=some (.aj 1 [.int .i64 af.1],s)from λs=>by kernel_rfl) (R (@kc ah 48 48 2 rfl rfl) (R @kd (R @ke (R @gH (R @all_cons (R @all_nil (R hZ (@jy _ a1 1 (λ_=>rfl)))))))))) [(4,.aj 1 ((bJ++[af.1]).map a1)),(9,.slice (a0.map aW)),(10,.int .i64 (a0.length:Int)),(11,.int .i64 re)] ?_;refine eK _ (cf _ (.inl ?_));refine wr [(4,.aj 1 ((bJ++[af.1]).map a1)),(9,.slice (a0.map aW)),(10,.int .i64 (a0.length:Int)),(11,.int .i64 (i64.wrap (re+1)))] ?_;exact cR _ (.inr ⟨_,aY rfl,iD (bJ++[af.1]) (i64.wrap (re+1)) h⟩)
  .refine c7 (cu 0 _ (bD 0 _ (cP _ (e7 _ (.inl ?_)))));refine ws _ ?_;exact aw (ai _ (.inl (ay [.aj 1 (bJ.map a1),.bool true])))
 obtain⟨n,h⟩:=cS h;exact db (.inr ⟨_,ij [] rfl (h6 (t:=4) (d:=.a8) (bI:=.aj 1 []) rfl rfl (.iz _) (by decide) (cF (t:=9) (d:=.slice (a0.map aW)) rfl (cF (t:=10) (d:=.int .i64 (a0.length:Int)) rfl (cF (t:=11) (d:=.int .i64 0) rfl (ik))))),iC n [] 0 h⟩)
theorem Q8 (a0 r) (h:zo a0=some r):aV ah 70 [.str a0] (.tuple [.str r.1,.aj 1 (r.2.1.map a1),.bool r.2.2]) []:=by
 refine bA [0] [.tmp 2,.tmp 3,.tmp 4] Tryz.func70 c70 (λbt ai bq=>?_);refine ws _ ?_;obtain⟨U,aR,h⟩:=ao h;refine cB (aoO a0 ([40]:axa) _ aR) _ ?_;refine ws _ ?_;have vH:∀uo,FH a0 U uo=some r->bk ah Xd bt (aq [(0,.str a0),(5,.str U.1),(8,.aj 1 (uo.map a1))]):=by
  intro uo h;refine az ai (λeA cR cH bD=>?_);obtain⟨af,fu,h⟩:=ao h;refine eQ (cI [(0,.str a0),(5,.str U.1),(8,.aj 1 (uo.map a1)),(10,.str af.1),(11,.bool af.2)] (λP bu=>?_) ?_)
  ·(try simp only[aT.down,simprocAttr]);refine dR (Kx U.1 uo _ fu) rfl rfl (by simp only[aT.down,simprocAttr,JY.down]<;>rfl) rfl (.inr (by rfl)) ?_;simp only[aT.down,simprocAttr];exact cc trivial
  refine mT (af.2) [(5,.str U.1),(8,.aj 1 (uo.map a1)),(40,.bool ((!af.2)||(!(af.1==a0))))] ?_;refine aF h (λdX h=>?_) (λdX h=>?_)
  .refine ws _ ?_;exact aw (cH _ (.inr ⟨[(2,.str ([]:axa)),(3,.aj 1 []),(4,.bool false)],ij [] rfl (cF rfl (h6 (t:=3) (d:=.a8) rfl rfl (.iz _) (by decide) (cF rfl (ik)))),ay [.str ([]:axa),.aj 1 [],.bool false]⟩))
  .refine aJ (cR _ (.inl ?_));refine ws _ ?_;exact aw (ai _ (.inl (ay [.str U.1,.aj 1 (uo.map a1),.bool true])))
 refine az ai (λgR dZ df bo=>?_);refine ws _ ?_;refine aF h (λfw h=>?_) (λfw h=>?_)
 .refine ws _ ?_;obtain⟨aK,dL,h⟩:=ao h;obtain⟨a_,e4,h⟩:=ao h;obtain⟨bo,gB,h⟩:=ao h;refine eQ (cI [(0,.str a0),(5,.str U.1),(8,.aj 1 (bo.1.map a1)),(9,.bool bo.2)] (λP bu=>?_) ?_)
  ·(try simp only[aT.down,simprocAttr]);refine dR (aoR U.2.1 ([41]:axa) _ dL) rfl rfl rfl rfl (.inl (by rfl)) ?_;simp only[aT.down,simprocAttr];refine dR (aoY aK ([44]:axa) _ e4) rfl rfl rfl rfl (.inl (by rfl)) ?_;simp only[aT.down,simprocAttr];refine dR (ao0 a_ _ gB) rfl rfl (by simp only[aT.down,simprocAttr,P_.down]<;>rfl) rfl (.inr (by simp only[I.cZ,I.ht, @kO _ a1 (λ_=>JJ _),Bool.and_self])) ?_;simp only[aT.down,simprocAttr];exact cc trivial
  refine ws _ ?_;refine aF h (λsX h=>?_) (λsX h=>?_)
  .refine ws _ ?_;exact aw (df _ (.inr ⟨[(2,.str ([]:axa)),(3,.aj 1 []),(4,.bool false)],ij [] rfl (cF rfl (h6 (t:=3) (d:=.a8) rfl rfl (.iz _) (by decide) (cF rfl (ik)))),ay [.str ([]:axa),.aj 1 [],.bool false]⟩))
  .exact aJ (dZ _ (.inr ⟨_,aY rfl,vH bo.1 h⟩))
 .exact aJ (dZ _ (.inr ⟨_,ij [] rfl (cF (t:=0) (d:=.str a0) rfl (cF (t:=5) (d:=.str U.1) rfl (h6 (t:=8) (d:=.a8) (bI:=.aj 1 []) rfl rfl (.iz _) (by decide) (ik)))),vH [] h⟩))
theorem ao1 (a0 J r) (h:Pp a0 J=some r):aV ah 144 [.slice (a0.map aW),.str J] (.int .i64 r) []:=by
 refine bA [0,1] [.tmp 4] Tryz.func144 akh (λbt ai bq=>?_);refine ws _ ?_;refine az ai (λdJ bL bf af=>?_);refine ws _ ?_;refine bn bf (λei dS bR bU a_=>?_);show bk ah (.loop ?fP) _ _;have gK:∀n cr,zp a0 J n cr=some r->cX ah ?fP ei (aq [(0,.slice (a0.map aW)),(1,.str J),(7,.int .i64 (a0.length:Int)),(8,.int .i64 cr)]):=by
  refine dd (λm6 fM cr h=>dc bR (λgR dZ df bo=>?_));refine ws _ ?_;refine az df (λgu dx dE bj=>?_);refine aF h (λcy h=>?_) (λcy h=>?_)
  .refine aJ (dx _ (.inl ?_));refine az df (λek cE cd ch=>?_);refine bn cd (λe0 cf cn dX cv=>?_);refine ws _ ?_;obtain⟨U,fi,h⟩:=ao h;refine c1 fi _ ?_;refine aF h (λfw h=>?_) (λfw h=>?_)
   .refine ws _ ?_;exact aw (cn _ (.inl (ay [.int .i64 cr])))
   .refine aJ (cf _ (cE _ (.inl ?_)));refine wr _ ?_;exact dZ _ (.inr ⟨_,aY rfl,fM (i64.wrap (cr+1)) h⟩)
  .refine c7 (bj 0 _ (bo 0 _ (bU _ (bL _ (.inl ?_)))));refine ws _ ?_;exact aw (ai _ (.inl (ay [.int .i64 (-1)])))
 obtain⟨n,h⟩:=cS h;exact db (.inr ⟨_,aY rfl,gK n 0 h⟩)
theorem Q9 (a0 J r) (h:Ce a0 J=some r):aV ah 104 [.slice (a0.map aW),.str J] (.bool r) []:=by
 refine bA [0,1] [.tmp 4] Tryz.func104 aki (λbt ai bq=>?_);refine ws _ ?_;obtain⟨U,aR,h⟩:=ao h;refine cB (ao1 a0 J _ aR) _ ?_;exact aw (ai _ (.inl (ay [.bool (decide (0<=U))])))
theorem GF (a0 r) (h:zq a0=some r):aV ah 106 [bz a0] (eV r) []:=by
 refine bA [0] [.cell 2 60] Tryz.func106 akj (λbt ai bq=>?_);refine ws _ ?_;obtain⟨U,aR,h⟩:=ao h;refine cB (Q7 a0.bV _ aR) _ ?_;refine ws _ ?_;exact aw (ai _ (.inl (ay [eV (bd.mk a0.cD a0.Part U)])))
theorem YI (a0 r) (h:Jz a0=some r):aV ah 105 [.slice (a0.map bz)] (.aj 3 (r.map eV)) []:=by
 refine bA [0] [.tmp 2] Tryz.func105 c105 (λbt ai bq=>?_);refine ws _ ?_;refine ws _ ?_;refine az ai (λjl e7 de aK=>?_);refine ws _ ?_;refine bn de (λgR dZ df cP bo=>?_);show bk ah (.loop ?h4) _ _;have iC:∀n bT kU,Cf a0 n bT kU=some r->cX ah ?h4 gR (aq [(3,.aj 3 (bT.map eV)),(6,.slice (a0.map bz)),(7,.int .i64 (a0.length:Int)),(8,.int .i64 kU)]):=by
  refine dd (λm8 iD bT kU h=>dc df (λeA cR cH bD=>?_));refine ws _ ?_;refine az cH (λgk gf fY cu=>?_);refine aF h (λeR h=>?_) (λeR h=>?_)
  .refine aJ (gf _ (.inl ?_));refine az cH (λe0 cf cn cv=>?_);refine bn cn (λhY eK fL lJ dP=>?_);obtain⟨U,fi,h⟩:=ao h;refine c1 fi _ ?_;obtain⟨af,fq,h⟩:=ao h;obtain⟨J4,cC,h⟩:=ao h;(try simp only[fQ.down,Nat.zero_add,Nat.add_zero,reduceAdd]at cC);refine jh (cI [(3,.aj 3 ((bT++[af]).map eV)),(6,.slice (a0.map bz)),(7,.int .i64 (a0.length:Int)),(8,.int .i64 kU)] (λP bu=>?_) ?_)
   ·(try simp only[aT.down,simprocAttr,Qb.down,nX,dF,cC]);refine dR (GF U _ fq) rfl rfl rfl rfl (.inl (by rfl)) ?_;simp only[aT.down,simprocAttr,Qb.down,nX,dF,cC];(try simp only[jX.down,simprocAttr,Qb.down,nX,dF,cC]at bu⊢);exact bu
   refine eK _ (cf _ (.inl ?_));refine wr [(3,.aj 3 ((bT++[af]).map eV)),(6,.slice (a0.map bz)),(7,.int .i64 (a0.length:Int)),(8,.int .i64 (i64.wrap (kU+1)))] ?_;exact cR _ (.inr ⟨_,aY rfl,iD (bT++[af]) (i64.wrap (kU+1)) h⟩)
  .refine c7 (cu 0 _ (bD 0 _ (cP _ (e7 _ (.inl ?_)))));refine ws _ ?_;exact aw (ai _ (.inl (ay [.aj 3 (bT.map eV)])))
 obtain⟨n,h⟩:=cS h;exact db (.inr ⟨_,ij [] rfl (h6 (t:=3) (d:=.a8) (bI:=.aj 3 []) rfl rfl (.iz _) (by decide) (cF (t:=6) (d:=.slice (a0.map bz)) rfl (cF (t:=7) (d:=.int .i64 (a0.length:Int)) rfl (cF (t:=8) (d:=.int .i64 0) rfl (ik))))),iC n [] 0 h⟩)
theorem YJ (a0 r) (h:JA a0=some r):aV ah 108 [.slice (a0.map bz)] (.str r) []:=by
 refine bA [0] [.tmp 2] Tryz.func108 akk (λbt ai bq=>?_);refine ws _ ?_;refine ws _ ?_;refine az ai (λjl e7 de aK=>?_);refine ws _ ?_;refine bn de (λgR dZ df cP bo=>?_);have iC:∀n bT kU,Cg a0 n bT kU=some r->cX ah Xe gR (aq [(3,.aj 1 (bT.map aW)),(6,.slice (a0.map bz)),(7,.int .i64 (a0.length:Int)),(8,.int .i64 kU)]):=by
  refine dd (λm8 iD bT kU h=>dc df (λeA cR cH bD=>?_));refine ws _ ?_;refine az cH (λgk gf fY cu=>?_);refine aF h (λeR h=>?_) (λeR h=>?_)
  .refine aJ (gf _ (.inl ?_));refine az cH (λe0 cf cn cv=>?_);refine bn cn (λhY eK fL lJ dP=>?_);obtain⟨U,fi,h⟩:=ao h;refine c1 fi _ ?_;obtain⟨af,fq,h⟩:=ao h;obtain⟨J4,cC,h⟩:=ao h;(try simp only[fQ.down,Nat.zero_add,Nat.add_zero,reduceAdd]at cC);refine zv (R (show∀s,dO ah s 25 1 [(0,.str af)]=some (.aj 1 [.str af],s)from λs=>by kernel_rfl) (R (@kc ah 25 25 9 rfl rfl) (R @kd (R @ke (R @gH (R @all_cons (R @all_nil (R cC (@jy _ aW 1 (λ_=>rfl)))))))))) (YD U _ fq) [(3,.aj 1 ((bT++[af]).map aW)),(6,.slice (a0.map bz)),(7,.int .i64 (a0.length:Int)),(8,.int .i64 kU)] ?_;refine eK _ (cf _ (.inl ?_));refine wr [(3,.aj 1 ((bT++[af]).map aW)),(6,.slice (a0.map bz)),(7,.int .i64 (a0.length:Int)),(8,.int .i64 (i64.wrap (kU+1)))] ?_;exact cR _ (.inr ⟨_,aY rfl,iD (bT++[af]) (i64.wrap (kU+1)) h⟩)
  .refine c7 (cu 0 _ (bD 0 _ (cP _ (e7 _ (.inl ?_)))));obtain⟨aK,gB,h⟩:=ao h;refine eQ (cI [(2,.str aK)] (λP bu=>?_) ?_)
   ·(try simp only[aT.down,simprocAttr]);refine dR (YA bT ([32]:axa) _ gB) rfl rfl (by simp only[aT.down,simprocAttr,P_.down]<;>rfl) rfl (.inr (by rfl)) ?_;simp only[aT.down,simprocAttr];exact cc trivial
   exact aw (ai _ (.inl (ay [.str aK])))
 obtain⟨n,h⟩:=cS h;exact db (.inr ⟨_,ij [] rfl (h6 (t:=3) (d:=.a8) (bI:=.aj 1 []) rfl rfl (.iz _) (by decide) (cF (t:=6) (d:=.slice (a0.map bz)) rfl (cF (t:=7) (d:=.int .i64 (a0.length:Int)) rfl (cF (t:=8) (d:=.int .i64 0) rfl (ik))))),iC n [] 0 h⟩)
theorem YK (bp bs br bO bP gq gI gr J a2 a3 a4 a5 r) (h:Ci bp bs br bO bP gq gI gr J a2 a3 a4 a5=some r):aV ah 71 [.aM (.agg [.agg [.slice (bp.map ba),.slice (bs.map dh),.slice (br.map bQ),.slice (bO.map aW),.slice (bP.map aW)],.slice (gq.map bz),.aj 4 (gI.map fD),.b4 (.mp gr)]),.str J,.slice (a2.map a1),.int .i64 a3,.int .i64 a4,.slice (a5.map bz)] (.tuple []) [.aM (.agg [.agg [.slice (r.1.map ba),.slice (r.2.1.map dh),.slice (r.2.2.1.map bQ),.slice (r.2.2.2.1.map aW),.slice (r.2.2.2.2.1.map aW)],.slice (r.2.2.2.2.2.1.map bz),.aj 4 (r.2.2.2.2.2.2.1.map fD),.b4 (.mp r.2.2.2.2.2.2.2)]),.hole,.hole,.hole,.hole,.hole]:=by
 refine bA [0,3,4,5] [] Tryz.func71 akn (λbt ai bq=>?_);refine az ai (λawA mm ea U=>?_);rcases dr h with⟨fU,h⟩|⟨fU,h⟩
 .obtain⟨U,bW,h⟩:=ao h;refine eH fU (Q9 bO J _ bW) _ ?_;refine aF h (λcP h=>?_) (λcP h=>?_)
  .exact aw (ea _ (.inl (kb [] rfl (by cases gl h;rfl) (by decide) (kB (nZ (by cases gl h;rfl) rfl rfl rfl (dK (dK (dK (dK (dK (kC)))))))))))
  .refine aJ (mm _ (.inl ?_));have rq:∀sD sE,ql a3 a4 a5 bp bs br bO bP gq gI gr sD sE=some r->bk ah PY bt (aq [(0,.aM (.agg [.agg [.slice (bp.map ba),.slice (bs.map dh),.slice (br.map bQ),.slice (bO.map aW),.slice (bP.map aW)],.slice (gq.map bz),.aj 4 (gI.map fD),.b4 (.mp gr)])),(1,.str sD),(2,.slice (sE.map a1)),(3,.int .i64 a3),(4,.int .i64 a4),(5,.slice (a5.map bz))]):=by
    intro sD sE h;obtain⟨af,fu,h⟩:=ao h;refine cB (Kx sD sE _ fu) _ ?_;obtain⟨aK,ic,h⟩:=ao h;refine cB (YI gq _ ic) _ ?_;obtain⟨a_,e1,h⟩:=ao h;obtain⟨bo,fi,h⟩:=ao h;obtain⟨bD,dB,h⟩:=ao h;refine eQ (cI [(0,.aM (.agg [.agg [.slice (bp.map ba),.slice (bs.map dh),.slice (br.map bQ),.slice (bO.map aW),.slice (bP.map aW)],.slice (gq.map bz),.aj 4 (gI.map fD),.b4 (.mp gr)])),(3,.int .i64 a3),(4,.int .i64 a4),(5,.slice (a5.map bz)),(12,.str af.1),(14,.aj 3 ((List.set aK (Int.toNat a3) bo).map eV))] (λP bu=>?_) ?_)
    ·(try simp only[aT.down,simprocAttr,e1,dB,dy dB,eo,dV]);refine dR (GF a_ _ fi) rfl rfl rfl rfl (.inl (by rfl)) ?_;simp only[aT.down,simprocAttr,e1,dB,dy dB,eo,dV];exact cc (R e1 (R dB (R (dy dB) @eo)))
    have xS:∀h9 mO,Ch a3 a4 bp bs br bO bP gq gI gr h9 mO=some r->bk ah PX bt (aq [(0,.aM (.agg [.agg [.slice (bp.map ba),.slice (bs.map dh),.slice (br.map bQ),.slice (bO.map aW),.slice (bP.map aW)],.slice (gq.map bz),.aj 4 (gI.map fD),.b4 (.mp gr)])),(3,.int .i64 a3),(4,.int .i64 a4),(12,.str h9),(14,.aj 3 (mO.map eV))]):=by
     intro h9 mO h;obtain⟨CO,dL,h⟩:=ao h;(try simp only[fQ.down,Nat.zero_add,Nat.add_zero,reduceAdd]at dL);obtain⟨bj,e4,h⟩:=ao h;obtain⟨CO,gB,h⟩:=ao h;(try simp only[fQ.down,Nat.zero_add,Nat.add_zero,reduceAdd]at gB);obtain⟨CO,gL,h⟩:=ao h;(try simp only[fQ.down,Nat.zero_add,Nat.add_zero,reduceAdd]at gL);obtain⟨cu,hZ,h⟩:=ao h;obtain⟨CO,gJ,h⟩:=ao h;(try simp only[fQ.down,Nat.zero_add,Nat.add_zero,reduceAdd]at gJ);obtain⟨CO,jm,h⟩:=ao h;(try simp only[fQ.down,Nat.zero_add,Nat.add_zero,reduceAdd]at jm);obtain⟨ch,lj,h⟩:=ao h;obtain⟨CO,ir,h⟩:=ao h;(try simp only[fQ.down,Nat.zero_add,Nat.add_zero,reduceAdd]at ir);refine eQ (cI [(0,.aM (.agg [.agg [.slice (bp.map ba),.slice (bs.map dh),.slice (br.map bQ),.slice (bO.map aW),.slice (bP.map aW)],.slice (gq.map bz),.aj 4 (gI.map fD),.b4 (.mp gr)])),(3,.int .i64 a3),(4,.int .i64 a4),(12,.str h9),(14,.aj 3 (mO.map eV)),(15,.str ((((((h9++([32]:axa))++bj)++([32]:axa))++cu)++([32]:axa))++ch))] (λP bu=>?_) ?_)
     ·(try simp only[aT.down,simprocAttr,dL,mu.down,gB,gL,gJ,jm,ir]);refine dR (zN a3 _ e4) rfl rfl rfl rfl (.inl (by rfl)) ?_;simp only[aT.down,simprocAttr,dL,mu.down,gB,gL,gJ,jm,ir];refine dR (zN a4 _ hZ) rfl rfl rfl rfl (.inl (by rfl)) ?_;simp only[aT.down,simprocAttr,dL,mu.down,gB,gL,gJ,jm,ir];refine dR (YJ mO _ lj) rfl rfl (by simp only[aT.down,simprocAttr,dL,XB.down,gB,gL,gJ,jm,ir]<;>rfl) rfl (.inr (by rfl)) ?_;simp only[aT.down,simprocAttr,dL,mu.down,gB,gL,gJ,jm,ir];exact cc (R dL (R mu.down (R gB (R gL (R gJ (R jm ir))))))
     refine c1 (R @M1 (R @A2 (show qO ah 126=true from by kernel_rfl))) [(0,.aM (.agg [.agg [.slice (bp.map ba),.slice (bs.map dh),.slice (br.map bQ),.slice (bO.map aW),.slice (bP.map aW)],.slice (gq.map bz),.aj 4 (gI.map fD),.b4 (.mp gr)])),(3,.int .i64 a3),(4,.int .i64 a4),(12,.str h9),(14,.aj 3 (mO.map eV)),(15,.str ((((((h9++([32]:axa))++bj)++([32]:axa))++cu)++([32]:axa))++ch)),(81,.bool (!(jL ((((((h9++([32]:axa))++bj)++([32]:axa))++cu)++([32]:axa))++ch) gr)))] ?_;refine aF h (λnm h=>?_) (λnm h=>?_)
     .refine c1 (R @M3 (R @A2 (show qO ah 126=true from by kernel_rfl))) [(0,.aM (.agg [.agg [.slice (bp.map ba),.slice (bs.map dh),.slice (br.map bQ),.slice (bO.map aW),.slice (bP.map aW)],.slice (gq.map bz),.aj 4 (gI.map fD),.b4 (.mp (j1 ((((((h9++([32]:axa))++bj)++([32]:axa))++cu)++([32]:axa))++ch) true gr))])),(3,.int .i64 a3),(4,.int .i64 a4),(12,.str h9),(14,.aj 3 (mO.map eV))] ?_;obtain⟨CO,GG,h⟩:=ao h;(try simp only[fQ.down,Nat.zero_add,Nat.add_zero,reduceAdd]at GG);refine jh (cI [(0,.aM (.agg [.agg [.slice (bp.map ba),.slice (bs.map dh),.slice (br.map bQ),.slice (bO.map aW),.slice (bP.map aW)],.slice (gq.map bz),.aj 4 ((gI++[(bh.mk h9 a3 a4 mO)]).map fD),.b4 (.mp (j1 ((((((h9++([32]:axa))++bj)++([32]:axa))++cu)++([32]:axa))++ch) true gr))]))] (λP bu=>?_) ?_)
      .simp only[aT.down,simprocAttr,J1.down,eb,dF,nX,GG];(try simp only[jX.down,simprocAttr,J1.down,eb,dF,nX,GG]at bu⊢);exact bu
      exact bq _ (.inl (kb [] rfl (by cases gl h;rfl) (by decide) (kB (nZ (by cases gl h;rfl) rfl rfl rfl (dK (dK (dK (dK (dK (kC))))))))))
     .exact aJ (bq _ (.inl (kb [] rfl (by cases gl h;rfl) (by decide) (kB (nZ (by cases gl h;rfl) rfl rfl rfl (dK (dK (dK (dK (dK (kC)))))))))))
    refine az ai (λkF gd gj ft=>?_);refine ws [(0,.aM (.agg [.agg [.slice (bp.map ba),.slice (bs.map dh),.slice (br.map bQ),.slice (bO.map aW),.slice (bP.map aW)],.slice (gq.map bz),.aj 4 (gI.map fD),.b4 (.mp gr)])),(3,.int .i64 a3),(4,.int .i64 a4),(5,.slice (a5.map bz)),(12,.str af.1),(14,.aj 3 ((List.set aK (Int.toNat a3) bo).map eV)),(54,.bool (decide (0<=a4)))] ?_;refine aF h (λGi h=>?_) (λGi h=>?_)
    .obtain⟨cv,jI,h⟩:=ao h;obtain⟨dP,zI,h⟩:=ao h;obtain⟨gz,pf,h⟩:=ao h;refine jh (cI [(0,.aM (.agg [.agg [.slice (bp.map ba),.slice (bs.map dh),.slice (br.map bQ),.slice (bO.map aW),.slice (bP.map aW)],.slice (gq.map bz),.aj 4 (gI.map fD),.b4 (.mp gr)])),(3,.int .i64 a3),(4,.int .i64 a4),(12,.str af.1),(14,.aj 3 ((List.set (List.set aK (Int.toNat a3) bo) (Int.toNat a4) dP).map eV))] (λP bu=>?_) ?_)
     ·(try simp only[aT.down,simprocAttr,jI,pf,dy pf,eo,dV]);refine dR (GF cv _ zI) rfl rfl rfl rfl (.inl (by rfl)) ?_;simp only[aT.down,simprocAttr,jI,pf,dy pf,eo,dV];exact cc (R jI (R pf (R (dy pf) @eo)))
     exact gd _ (.inr ⟨_,aY rfl,xS af.1 (List.set (List.set aK (Int.toNat a3) bo) (Int.toNat a4) dP) h⟩)
    .exact aJ (gd _ (.inr ⟨_,aY rfl,xS af.1 (List.set aK (Int.toNat a3) bo) h⟩))
   refine az ai (λeA cR cH bD=>?_);obtain⟨hG,qB,h⟩:=ao h;refine cB (Q9 bP J _ qB) _ ?_;refine aF h (λvQ h=>?_) (λvQ h=>?_)
   .refine wr _ ?_;exact cR _ (.inr ⟨_,ij [] rfl (cF (t:=0) (d:=.aM (.agg [.agg [.slice (bp.map ba),.slice (bs.map dh),.slice (br.map bQ),.slice (bO.map aW),.slice (bP.map aW)],.slice (gq.map bz),.aj 4 (gI.map fD),.b4 (.mp gr)])) rfl (cF (t:=1) (d:=.str ([116,97,117]:axa)) rfl (h6 (t:=2) (d:=.a8) (bI:=.slice []) rfl rfl (.wZ) (by decide) (cF (t:=3) (d:=.int .i64 a3) rfl (cF (t:=4) (d:=.int .i64 a4) rfl (cF (t:=5) (d:=.slice (a5.map bz)) rfl (ik))))))),rq ([116,97,117]:axa) [] h⟩)
   .exact aJ (cR _ (.inr ⟨_,aY rfl,rq J a2 h⟩))
 .refine c1 fU _ ?_;refine nW rfl ?_;refine aJ (mm _ (.inl ?_));have rq:∀sD sE,ql a3 a4 a5 bp bs br bO bP gq gI gr sD sE=some r->bk ah PY bt (aq [(0,.aM (.agg [.agg [.slice (bp.map ba),.slice (bs.map dh),.slice (br.map bQ),.slice (bO.map aW),.slice (bP.map aW)],.slice (gq.map bz),.aj 4 (gI.map fD),.b4 (.mp gr)])),(1,.str sD),(2,.slice (sE.map a1)),(3,.int .i64 a3),(4,.int .i64 a4),(5,.slice (a5.map bz))]):=by
   intro sD sE h;obtain⟨eZ,CI,h⟩:=ao h;refine cB (Kx sD sE _ CI) _ ?_;obtain⟨ft,CB,h⟩:=ao h;refine cB (YI gq _ CB) _ ?_;obtain⟨hV,GB,h⟩:=ao h;obtain⟨jD,Q0,h⟩:=ao h;obtain⟨pG,sS,h⟩:=ao h;refine eQ (cI [(0,.aM (.agg [.agg [.slice (bp.map ba),.slice (bs.map dh),.slice (br.map bQ),.slice (bO.map aW),.slice (bP.map aW)],.slice (gq.map bz),.aj 4 (gI.map fD),.b4 (.mp gr)])),(3,.int .i64 a3),(4,.int .i64 a4),(5,.slice (a5.map bz)),(12,.str eZ.1),(14,.aj 3 ((List.set ft (Int.toNat a3) jD).map eV))] (λP bu=>?_) ?_)
   ·(try simp only[aT.down,simprocAttr,GB,sS,dy sS,eo,dV]);refine dR (GF hV _ Q0) rfl rfl rfl rfl (.inl (by rfl)) ?_;simp only[aT.down,simprocAttr,GB,sS,dy sS,eo,dV];exact cc (R GB (R sS (R (dy sS) @eo)))
   have xS:∀h9 mO,Ch a3 a4 bp bs br bO bP gq gI gr h9 mO=some r->bk ah PX bt (aq [(0,.aM (.agg [.agg [.slice (bp.map ba),.slice (bs.map dh),.slice (br.map bQ),.slice (bO.map aW),.slice (bP.map aW)],.slice (gq.map bz),.aj 4 (gI.map fD),.b4 (.mp gr)])),(3,.int .i64 a3),(4,.int .i64 a4),(12,.str h9),(14,.aj 3 (mO.map eV))]):=by
    intro h9 mO h;obtain⟨CP,vU,h⟩:=ao h;(try simp only[fQ.down,Nat.zero_add,Nat.add_zero,reduceAdd]at vU);obtain⟨lD,CL,h⟩:=ao h;obtain⟨CP,vP,h⟩:=ao h;(try simp only[fQ.down,Nat.zero_add,Nat.add_zero,reduceAdd]at vP);obtain⟨CP,oe,h⟩:=ao h;(try simp only[fQ.down,Nat.zero_add,Nat.add_zero,reduceAdd]at oe);obtain⟨l3,Gx,h⟩:=ao h;obtain⟨CP,vS,h⟩:=ao h;(try simp only[fQ.down,Nat.zero_add,Nat.add_zero,reduceAdd]at vS);obtain⟨CP,oH,h⟩:=ao h;(try simp only[fQ.down,Nat.zero_add,Nat.add_zero,reduceAdd]at oH);obtain⟨mL,rz,h⟩:=ao h;obtain⟨CP,sW,h⟩:=ao h;(try simp only[fQ.down,Nat.zero_add,Nat.add_zero,reduceAdd]at sW);refine eQ (cI [(0,.aM (.agg [.agg [.slice (bp.map ba),.slice (bs.map dh),.slice (br.map bQ),.slice (bO.map aW),.slice (bP.map aW)],.slice (gq.map bz),.aj 4 (gI.map fD),.b4 (.mp gr)])),(3,.int .i64 a3),(4,.int .i64 a4),(12,.str h9),(14,.aj 3 (mO.map eV)),(15,.str ((((((h9++([32]:axa))++lD)++([32]:axa))++l3)++([32]:axa))++mL))] (λP bu=>?_) ?_)
    ·(try simp only[aT.down,simprocAttr,vU,mu.down,vP,oe,vS,oH,sW]);refine dR (zN a3 _ CL) rfl rfl rfl rfl (.inl (by rfl)) ?_;simp only[aT.down,simprocAttr,vU,mu.down,vP,oe,vS,oH,sW];refine dR (zN a4 _ Gx) rfl rfl rfl rfl (.inl (by rfl)) ?_;simp only[aT.down,simprocAttr,vU,mu.down,vP,oe,vS,oH,sW];refine dR (YJ mO _ rz) rfl rfl (by simp only[aT.down,simprocAttr,vU,XB.down,vP,oe,vS,oH,sW]<;>rfl) rfl (.inr (by rfl)) ?_;simp only[aT.down,simprocAttr,vU,mu.down,vP,oe,vS,oH,sW];exact cc (R vU (R mu.down (R vP (R oe (R vS (R oH sW))))))
    refine c1 (R @M1 (R @A2 (show qO ah 126=true from by kernel_rfl))) [(0,.aM (.agg [.agg [.slice (bp.map ba),.slice (bs.map dh),.slice (br.map bQ),.slice (bO.map aW),.slice (bP.map aW)],.slice (gq.map bz),.aj 4 (gI.map fD),.b4 (.mp gr)])),(3,.int .i64 a3),(4,.int .i64 a4),(12,.str h9),(14,.aj 3 (mO.map eV)),(15,.str ((((((h9++([32]:axa))++lD)++([32]:axa))++l3)++([32]:axa))++mL)),(81,.bool (!(jL ((((((h9++([32]:axa))++lD)++([32]:axa))++l3)++([32]:axa))++mL) gr)))] ?_;refine aF h (λao2 h=>?_) (λao2 h=>?_)
    .refine c1 (R @M3 (R @A2 (show qO ah 126=true from by kernel_rfl))) [(0,.aM (.agg [.agg [.slice (bp.map ba),.slice (bs.map dh),.slice (br.map bQ),.slice (bO.map aW),.slice (bP.map aW)],.slice (gq.map bz),.aj 4 (gI.map fD),.b4 (.mp (j1 ((((((h9++([32]:axa))++lD)++([32]:axa))++l3)++([32]:axa))++mL) true gr))])),(3,.int .i64 a3),(4,.int .i64 a4),(12,.str h9),(14,.aj 3 (mO.map eV))] ?_;obtain⟨CP,GC,h⟩:=ao h;(try simp only[fQ.down,Nat.zero_add,Nat.add_zero,reduceAdd]at GC);refine jh (cI [(0,.aM (.agg [.agg [.slice (bp.map ba),.slice (bs.map dh),.slice (br.map bQ),.slice (bO.map aW),.slice (bP.map aW)],.slice (gq.map bz),.aj 4 ((gI++[(bh.mk h9 a3 a4 mO)]).map fD),.b4 (.mp (j1 ((((((h9++([32]:axa))++lD)++([32]:axa))++l3)++([32]:axa))++mL) true gr))]))] (λP bu=>?_) ?_)
     .simp only[aT.down,simprocAttr,J1.down,eb,dF,nX,GC];(try simp only[jX.down,simprocAttr,J1.down,eb,dF,nX,GC]at bu⊢);exact bu
     exact bq _ (.inl (kb [] rfl (by cases gl h;rfl) (by decide) (kB (nZ (by cases gl h;rfl) rfl rfl rfl (dK (dK (dK (dK (dK (kC))))))))))
    .exact aJ (bq _ (.inl (kb [] rfl (by cases gl h;rfl) (by decide) (kB (nZ (by cases gl h;rfl) rfl rfl rfl (dK (dK (dK (dK (dK (kC)))))))))))
   refine az ai (λYL Q_ YM ao3=>?_);refine ws [(0,.aM (.agg [.agg [.slice (bp.map ba),.slice (bs.map dh),.slice (br.map bQ),.slice (bO.map aW),.slice (bP.map aW)],.slice (gq.map bz),.aj 4 (gI.map fD),.b4 (.mp gr)])),(3,.int .i64 a3),(4,.int .i64 a4),(5,.slice (a5.map bz)),(12,.str eZ.1),(14,.aj 3 ((List.set ft (Int.toNat a3) jD).map eV)),(54,.bool (decide (0<=a4)))] ?_;refine aF h (λnJ h=>?_) (λnJ h=>?_)
   .obtain⟨lb,Ra,h⟩:=ao h;obtain⟨mM,ao4,h⟩:=ao h;obtain⟨zb,xI,h⟩:=ao h;refine jh (cI [(0,.aM (.agg [.agg [.slice (bp.map ba),.slice (bs.map dh),.slice (br.map bQ),.slice (bO.map aW),.slice (bP.map aW)],.slice (gq.map bz),.aj 4 (gI.map fD),.b4 (.mp gr)])),(3,.int .i64 a3),(4,.int .i64 a4),(12,.str eZ.1),(14,.aj 3 ((List.set (List.set ft (Int.toNat a3) jD) (Int.toNat a4) mM).map eV))] (λP bu=>?_) ?_)
    ·(try simp only[aT.down,simprocAttr,Ra,xI,dy xI,eo,dV]);refine dR (GF lb _ ao4) rfl rfl rfl rfl (.inl (by rfl)) ?_;simp only[aT.down,simprocAttr,Ra,xI,dy xI,eo,dV];exact cc (R Ra (R xI (R (dy xI) @eo)))
    exact Q_ _ (.inr ⟨_,aY rfl,xS eZ.1 (List.set (List.set ft (Int.toNat a3) jD) (Int.toNat a4) mM) h⟩)
   .exact aJ (Q_ _ (.inr ⟨_,aY rfl,xS eZ.1 (List.set ft (Int.toNat a3) jD) h⟩))
  refine az ai (λxL uG sR CE=>?_);obtain⟨qj,Qr,h⟩:=ao h;refine cB (Q9 bP J _ Qr) _ ?_;refine aF h (λao5 h=>?_) (λao5 h=>?_)
  .refine wr _ ?_;exact uG _ (.inr ⟨_,ij [] rfl (cF (t:=0) (d:=.aM (.agg [.agg [.slice (bp.map ba),.slice (bs.map dh),.slice (br.map bQ),.slice (bO.map aW),.slice (bP.map aW)],.slice (gq.map bz),.aj 4 (gI.map fD),.b4 (.mp gr)])) rfl (cF (t:=1) (d:=.str ([116,97,117]:axa)) rfl (h6 (t:=2) (d:=.a8) (bI:=.slice []) rfl rfl (.wZ) (by decide) (cF (t:=3) (d:=.int .i64 a3) rfl (cF (t:=4) (d:=.int .i64 a4) rfl (cF (t:=5) (d:=.slice (a5.map bz)) rfl (ik))))))),rq ([116,97,117]:axa) [] h⟩)
  .exact aJ (uG _ (.inr ⟨_,aY rfl,rq J a2 h⟩))
theorem ao6 (a0 J a2 r) (h:Wi a0 J a2=some r):aV ah 149 [bQ a0,.ref (.str J),.ref (.str a2)] (.bool r) []:=by
 refine bA [0,1,2] [.tmp 4] Tryz.func149 ako (λbt ai bq=>?_);refine ws _ ?_;refine JW (a0.Left==(hJ false J a2)) (R @Vr @aeW) [(4,.bool ((a0.Left==(hJ false J a2))&&(a0.cQ==(hJ true J a2))))] ?_;exact aw (ai _ (.inl (ay [.bool ((a0.Left==(hJ false J a2))&&(a0.cQ==(hJ true J a2)))])))
theorem ao7 (a0 iq kg r) (h:Pt a0 iq kg=some r):aV ah 148 [.slice (a0.map bQ),.fn 149 [.ref (.str iq),.ref (.str kg)]] (.int .i64 r) []:=by
 refine bA [0,1] [.tmp 4] Tryz.func148 akp (λbt ai bq=>?_);refine ws _ ?_;refine az ai (λdJ bL bf af=>?_);refine ws _ ?_;refine bn bf (λei dS bR bU a_=>?_);show bk ah (.loop ?fP) _ _;have gK:∀n cr,Cj a0 iq kg n cr=some r->cX ah ?fP ei (aq [(0,.slice (a0.map bQ)),(1,.fn 149 [.ref (.str iq),.ref (.str kg)]),(7,.int .i64 (a0.length:Int)),(8,.int .i64 cr)]):=by
  refine dd (λm6 fM cr h=>dc bR (λgR dZ df bo=>?_));refine ws _ ?_;refine az df (λgu dx dE bj=>?_);refine aF h (λcy h=>?_) (λcy h=>?_)
  .refine aJ (dx _ (.inl ?_));refine az df (λek cE cd ch=>?_);refine bn cd (λe0 cf cn dX cv=>?_);refine ws _ ?_;obtain⟨U,fi,h⟩:=ao h;obtain⟨af,dB,h⟩:=ao h;refine eH fi (ao6 U iq kg _ dB) _ ?_;refine aF h (λdY h=>?_) (λdY h=>?_)
   .refine ws _ ?_;exact aw (cn _ (.inl (ay [.int .i64 cr])))
   .refine aJ (cf _ (cE _ (.inl ?_)));refine wr _ ?_;exact dZ _ (.inr ⟨_,aY rfl,fM (i64.wrap (cr+1)) h⟩)
  .refine c7 (bj 0 _ (bo 0 _ (bU _ (bL _ (.inl ?_)))));refine ws _ ?_;exact aw (ai _ (.inl (ay [.int .i64 (-1)])))
 obtain⟨n,h⟩:=cS h;exact db (.inr ⟨_,aY rfl,gK n 0 h⟩)
theorem ao8 (a0 J a2 r) (h:zr a0 J a2=some r):aV ah 109 [fe a0,.str J,.str a2] (.tuple [.str r.1,.bool r.2]) []:=by
 refine bA [0,1,2] [.tmp 6,.tmp 7] Tryz.func109 c109 (λbt ai bq=>?_);refine ws _ ?_;obtain⟨U,aR,h⟩:=ao h;refine eQ (cI [(3,.aM (fe a0)),(8,.int .i64 U)] (λP bu=>?_) ?_)
 ·(try simp only[aT.down,simprocAttr]);refine dR (ao7 a0.b2 J a2 _ aR) rfl rfl (by simp only[aT.down,simprocAttr,xA.down]<;>rfl) rfl (.inr (by rfl)) ?_;simp only[aT.down,simprocAttr];exact cc trivial
 refine az ai (λei dS bR a_=>?_);refine ws _ ?_;refine aF h (λdn h=>?_) (λdn h=>?_)
 .refine ws _ ?_;exact aw (bR _ (.inl (ay [.str ([]:axa),.bool false])))
 .refine aJ (dS _ (.inl ?_));obtain⟨af,j7,h⟩:=ao h;refine c1 j7 _ ?_;exact aw (ai _ (.inl (ay [.str af.Result,.bool true])))
theorem ao9 (a0 J r) (h:FI a0 J=some r):aV ah 110 [.slice (a0.map a1),.slice (J.map a1)] (.bool r) []:=by
 refine bA [0,1] [.tmp 4] Tryz.func110 akq (λbt ai bq=>?_);refine ws _ ?_;refine az ai (λdJ bL bf af=>?_);refine ws _ ?_;refine aF h (λbU h=>?_) (λbU h=>?_)
 .refine ws _ ?_;exact aw (bf _ (.inl (ay [.bool false])))
 .refine aJ (bL _ (.inl ?_));refine az ai (λeA cR cH bD=>?_);refine ws _ ?_;refine bn cH (λgk gf fY cy cu=>?_);show bk ah (.loop ?gU) _ _;have ho:∀n sF,Ck a0 J n sF=some r->cX ah ?gU gk (aq [(0,.slice (a0.map a1)),(1,.slice (J.map a1)),(12,.int .i64 (a0.length:Int)),(13,.int .i64 sF)]):=by
   refine dd (λm14 gW sF h=>dc fY (λek cE cd ch=>?_));refine ws _ ?_;refine az cd (λhY eK fL dP=>?_);refine aF h (λeE h=>?_) (λeE h=>?_)
   .refine aJ (eK _ (.inl ?_));refine az cd (λkG fE fp hG=>?_);refine bn fp (λhv ez ee fw eZ=>?_);refine ws _ ?_;obtain⟨U,dL,h⟩:=ao h;obtain⟨af,e4,h⟩:=ao h;refine oE (R dL e4) _ ?_;refine aF h (λgg h=>?_) (λgg h=>?_)
    .refine ws _ ?_;exact aw (ee _ (.inl (ay [.bool false])))
    .refine aJ (ez _ (fE _ (.inl ?_)));refine wr _ ?_;exact cE _ (.inr ⟨_,aY rfl,gW (i64.wrap (sF+1)) h⟩)
   .refine c7 (dP 0 _ (ch 0 _ (cy _ (cR _ (.inl ?_)))));refine ws _ ?_;exact aw (ai _ (.inl (ay [.bool true])))
  obtain⟨n,h⟩:=cS h;exact db (.inr ⟨_,aY rfl,ho n 0 h⟩)
theorem ao_ (bp bs br bO bP gq gI gr J a2 a3 a4 r) (h:Px bp bs br bO bP gq gI gr J a2 a3 a4=some r):aV ah 72 [.aM (.agg [.agg [.slice (bp.map ba),.slice (bs.map dh),.slice (br.map bQ),.slice (bO.map aW),.slice (bP.map aW)],.slice (gq.map bz),.aj 4 (gI.map fD),.b4 (.mp gr)]),.int .i64 J,.int .i64 a2,.slice (a3.map cU),.slice (a4.map cU)] (.tuple []) [.aM (.agg [.agg [.slice (r.1.map ba),.slice (r.2.1.map dh),.slice (r.2.2.1.map bQ),.slice (r.2.2.2.1.map aW),.slice (r.2.2.2.2.1.map aW)],.slice (r.2.2.2.2.2.1.map bz),.aj 4 (r.2.2.2.2.2.2.1.map fD),.b4 (.mp r.2.2.2.2.2.2.2)]),.hole,.hole,.hole,.hole]:=by
 refine bA [0,1,2,3,4] [] Tryz.func72 c72 (λbt ai bq=>?_);refine ws _ ?_;refine bn ai (λdJ bL bf fT af=>?_);have apa:∀n uq ur uu uv uw ux uy uz sG,sH J a2 a3 a4 n uq ur uu uv uw ux uy uz sG=some r->cX ah Xh dJ (aq [(0,.aM (.agg [.agg [.slice (uq.map ba),.slice (ur.map dh),.slice (uu.map bQ),.slice (uv.map aW),.slice (uw.map aW)],.slice (ux.map bz),.aj 4 (uy.map fD),.b4 (.mp uz)])),(1,.int .i64 J),(2,.int .i64 a2),(4,.slice (a4.map cU)),(22,.slice (a3.map cU)),(23,.int .i64 (a3.length:Int)),(24,.int .i64 sG)]):=by
  refine dd (λm3 apb uq ur uu uv uw ux uy uz sG h=>dc bf (λjl e7 de aK=>?_));refine ws _ ?_;refine az de (λgR dZ df bo=>?_);refine aF h (λdn h=>?_) (λdn h=>?_)
  .refine aJ (dZ _ (.inl ?_));refine az de (λgu dx dE bj=>?_);refine bn dE (λgk gf fY cy cu=>?_);obtain⟨U,ic,h⟩:=ao h;refine c1 ic _ ?_;obtain⟨af,e1,h⟩:=ao h;refine cB (Q8 U.Label _ e1) _ ?_;refine ws _ ?_;refine bn fY (λhv ez ee fw eZ=>?_);have apc:∀n n8 n9 n_ oa ob o_ pa pb oC oD,vD (sH J a2 a3 a4 m3) J a2 a3 a4 U af n n8 n9 n_ oa ob o_ pa pb oC oD=some r->cX ah Xg hv (aq [(0,.aM (.agg [.agg [.slice (n8.map ba),.slice (n9.map dh),.slice (n_.map bQ),.slice (oa.map aW),.slice (ob.map aW)],.slice (o_.map bz),.aj 4 (pa.map fD),.b4 (.mp pb)])),(1,.int .i64 J),(2,.int .i64 a2),(4,.slice (a4.map cU)),(11,.aM (cU U)),(12,.str af.1),(13,.slice (af.2.1.map a1)),(22,.slice (a3.map cU)),(23,.int .i64 (a3.length:Int)),(24,.int .i64 oC),(35,.slice (a4.map cU)),(36,.int .i64 (a4.length:Int)),(37,.int .i64 oD)]):=by
    refine dd (λm19 apd n8 n9 n_ oa ob o_ pa pb oC oD h=>dc ee (λkF gd gj ft=>?_));refine ws _ ?_;refine az gj (λpe kk kl jD=>?_);refine aF h (λhD h=>?_) (λhD h=>?_)
    .refine aJ (kk _ (.inl ?_));have Rb:∀Cl Cm Cn Co Cp Cq Cr Cs Ct Cu,FJ (sH J a2 a3 a4 m3) (vD (sH J a2 a3 a4 m3) J a2 a3 a4 U af m19) J a2 a3 a4 U af Cl Cm Cn Co Cp Cq Cr Cs Ct Cu=some r->bk ah Xf kF (aq [(0,.aM (.agg [.agg [.slice (Cl.map ba),.slice (Cm.map dh),.slice (Cn.map bQ),.slice (Co.map aW),.slice (Cp.map aW)],.slice (Cq.map bz),.aj 4 (Cr.map fD),.b4 (.mp Cs)])),(1,.int .i64 J),(2,.int .i64 a2),(4,.slice (a4.map cU)),(11,.aM (cU U)),(12,.str af.1),(13,.slice (af.2.1.map a1)),(22,.slice (a3.map cU)),(23,.int .i64 (a3.length:Int)),(24,.int .i64 Ct),(35,.slice (a4.map cU)),(36,.int .i64 (a4.length:Int)),(37,.int .i64 Cu)]):=by
      intro Cl Cm Cn Co Cp Cq Cr Cs Ct Cu h;refine wr _ ?_;exact gd _ (.inr ⟨_,aY rfl,apd Cl Cm Cn Co Cp Cq Cr Cs Ct (i64.wrap (Cu+1)) h⟩)
     refine az gj (λJ5 rp zw lD=>?_);refine bn zw (λKw xQ zM sX mL=>?_);obtain⟨aK,jm,h⟩:=ao h;refine c1 jm _ ?_;obtain⟨a_,ir,h⟩:=ao h;refine cB (Q8 aK.Label _ ir) _ ?_;obtain⟨bo,vG,h⟩:=ao h;refine cB (ao8 (cJ.mk n8 n9 n_ oa ob) af.1 a_.1 _ vG) _ ?_;rcases dr h with⟨h_,h⟩|⟨h_,h⟩
     .obtain⟨bD,GG,h⟩:=ao h;refine eQ (cI [(0,.aM (.agg [.agg [.slice (n8.map ba),.slice (n9.map dh),.slice (n_.map bQ),.slice (oa.map aW),.slice (ob.map aW)],.slice (o_.map bz),.aj 4 (pa.map fD),.b4 (.mp pb)])),(1,.int .i64 J),(2,.int .i64 a2),(4,.slice (a4.map cU)),(11,.aM (cU U)),(12,.str af.1),(13,.slice (af.2.1.map a1)),(16,.aM (cU aK)),(20,.str bo.1),(22,.slice (a3.map cU)),(23,.int .i64 (a3.length:Int)),(24,.int .i64 oC),(35,.slice (a4.map cU)),(36,.int .i64 (a4.length:Int)),(37,.int .i64 oD),(63,.bool bD)] (λP bu=>?_) ?_)
      ·(try simp only[aT.down,simprocAttr,h_]);refine iN (ao9 af.2.1 a_.2.1 _ GG) rfl rfl (by simp only[aT.down,simprocAttr,h_,JY.down]<;>rfl) rfl (.inr (by rfl)) ?_;simp only[aT.down,simprocAttr,h_];exact cc h_
      refine aF h (λgX h=>?_) (λgX h=>?_)
      .obtain⟨bj,pT,h⟩:=ao h;refine jh (cI [(0,.aM (.agg [.agg [.slice (bj.1.map ba),.slice (bj.2.1.map dh),.slice (bj.2.2.1.map bQ),.slice (bj.2.2.2.1.map aW),.slice (bj.2.2.2.2.1.map aW)],.slice (bj.2.2.2.2.2.1.map bz),.aj 4 (bj.2.2.2.2.2.2.1.map fD),.b4 (.mp bj.2.2.2.2.2.2.2)])),(1,.int .i64 J),(2,.int .i64 a2),(4,.slice (a4.map cU)),(11,.aM (cU U)),(12,.str af.1),(13,.slice (af.2.1.map a1)),(22,.slice (a3.map cU)),(23,.int .i64 (a3.length:Int)),(24,.int .i64 oC),(35,.slice (a4.map cU)),(36,.int .i64 (a4.length:Int)),(37,.int .i64 oD)] (λP bu=>?_) ?_)
       ·(try simp only[aT.down,simprocAttr,(show∀s,dO ah s 38 2 [(0,.agg [.int .i64 U.Next.cD,.int .i64 U.Next.Part,.slice (U.Next.bV.map a1)]),(1,.agg [.int .i64 aK.Next.cD,.int .i64 aK.Next.Part,.slice (aK.Next.bV.map a1)])]=some (.aj 3 [.agg [.int .i64 U.Next.cD,.int .i64 U.Next.Part,.slice (U.Next.bV.map a1)],.agg [.int .i64 aK.Next.cD,.int .i64 aK.Next.Part,.slice (aK.Next.bV.map a1)]],s)from λs=>by kernel_rfl),J2.down,I.shares]);refine ow [⟨.h 0 [],true,_,_⟩,⟨.str bo.1,false,_,.hole⟩,⟨.slice (af.2.1.map a1),false,_,.hole⟩,⟨.int .i64 J,false,_,.hole⟩,⟨.int .i64 a2,false,_,.hole⟩,⟨.slice ([U.Next,aK.Next].map bz),false,_,.hole⟩] (YK n8 n9 n_ oa ob o_ pa pb bo.1 af.2.1 J a2 [U.Next,aK.Next] _ pT) rfl rfl rfl (by simp only[aT.down,simprocAttr,(show∀s,dO ah s 38 2 [(0,.agg [.int .i64 U.Next.cD,.int .i64 U.Next.Part,.slice (U.Next.bV.map a1)]),(1,.agg [.int .i64 aK.Next.cD,.int .i64 aK.Next.Part,.slice (aK.Next.bV.map a1)])]=some (.aj 3 [.agg [.int .i64 U.Next.cD,.int .i64 U.Next.Part,.slice (U.Next.bV.map a1)],.agg [.int .i64 aK.Next.cD,.int .i64 aK.Next.Part,.slice (aK.Next.bV.map a1)]],s)from λs=>by kernel_rfl),XC.down,I.shares]) rfl rfl (.inl rfl) ?_;simp only[aT.down,simprocAttr,(show∀s,dO ah s 38 2 [(0,.agg [.int .i64 U.Next.cD,.int .i64 U.Next.Part,.slice (U.Next.bV.map a1)]),(1,.agg [.int .i64 aK.Next.cD,.int .i64 aK.Next.Part,.slice (aK.Next.bV.map a1)])]=some (.aj 3 [.agg [.int .i64 U.Next.cD,.int .i64 U.Next.Part,.slice (U.Next.bV.map a1)],.agg [.int .i64 aK.Next.cD,.int .i64 aK.Next.Part,.slice (aK.Next.bV.map a1)]],s)from λs=>by kernel_rfl),XD.down,I.shares];exact cc (R (show∀s,dO ah s 38 2 [(0,.agg [.int .i64 U.Next.cD,.int .i64 U.Next.Part,.slice (U.Next.bV.map a1)]),(1,.agg [.int .i64 aK.Next.cD,.int .i64 aK.Next.Part,.slice (aK.Next.bV.map a1)])]=some (.aj 3 [.agg [.int .i64 U.Next.cD,.int .i64 U.Next.Part,.slice (U.Next.bV.map a1)],.agg [.int .i64 aK.Next.cD,.int .i64 aK.Next.Part,.slice (aK.Next.bV.map a1)]],s)from λs=>by kernel_rfl) J2.down)
       exact xQ _ (rp _ (.inr ⟨_,aY rfl,Rb bj.1 bj.2.1 bj.2.2.1 bj.2.2.2.1 bj.2.2.2.2.1 bj.2.2.2.2.2.1 bj.2.2.2.2.2.2.1 bj.2.2.2.2.2.2.2 oC oD h⟩))
      .exact aJ (xQ _ (rp _ (.inr ⟨_,aY rfl,Rb n8 n9 n_ oa ob o_ pa pb oC oD h⟩)))
     .refine c1 h_ _ ?_;refine nW rfl ?_;exact aJ (xQ _ (rp _ (.inr ⟨_,aY rfl,Rb n8 n9 n_ oa ob o_ pa pb oC oD h⟩)))
    .refine c7 (jD 2 _ (ft 2 _ (fw _ (gf _ (dx _ (.inl ?_))))));refine wr _ ?_;exact e7 _ (.inr ⟨_,aY rfl,apb n8 n9 n_ oa ob o_ pa pb (i64.wrap (oC+1)) h⟩)
   obtain⟨n,h⟩:=cS h;exact db (.inr ⟨_,ij [] rfl (cF (t:=0) (d:=.aM (.agg [.agg [.slice (uq.map ba),.slice (ur.map dh),.slice (uu.map bQ),.slice (uv.map aW),.slice (uw.map aW)],.slice (ux.map bz),.aj 4 (uy.map fD),.b4 (.mp uz)])) rfl (cF (t:=1) (d:=.int .i64 J) rfl (cF (t:=2) (d:=.int .i64 a2) rfl (cF (t:=4) (d:=.slice (a4.map cU)) rfl (cF (t:=11) (d:=.aM (cU U)) rfl (cF (t:=12) (d:=.str af.1) rfl (h6 (t:=13) (d:=.aj 1 (af.2.1.map a1)) (bI:=.slice (af.2.1.map a1)) rfl rfl (aey rfl rfl (congrArg I.slice (b0 (λ_=>jW _) _))) (by decide) (cF (t:=22) (d:=.slice (a3.map cU)) rfl (cF (t:=23) (d:=.int .i64 (a3.length:Int)) rfl (cF (t:=24) (d:=.int .i64 sG) rfl (cF (t:=35) (d:=.slice (a4.map cU)) rfl (cF (t:=36) (d:=.int .i64 (a4.length:Int)) rfl (cF (t:=37) (d:=.int .i64 0) rfl (ik)))))))))))))),apc n uq ur uu uv uw ux uy uz sG 0 h⟩)
  .exact c7 (bo 0 _ (aK 0 _ (fT _ (bq _ (.inl (kb [] rfl (by cases gl h;rfl) (by decide) (kB (nZ (by cases gl h;rfl) rfl rfl rfl (dK (dK (dK (dK (kC)))))))))))))
 obtain⟨n,h⟩:=cS h;exact db (.inr ⟨_,aY rfl,apa n bp bs br bO bP gq gI gr 0 h⟩)
theorem ape (a0 J r) (h:JB a0 J=some r):aV ah 48 [fe a0,.slice (J.map bz)] (.tuple [.aj 4 (r.1.map fD),.bool r.2]) []:=by
 refine bA [0,1] [.tmp 4,.tmp 5] Tryz.func48 akv (λbt ai bq=>?_);refine ws _ ?_;refine c1 (R @Vn (R (@mI ah 128 [(36,0),(38,5),(53,6),(126,7)] [(.agg [.a8,.a8,.a8,.a8,.a8]),.a8,.a8,(.b4 .j2)] rfl rfl (by kernel_rfl)) (R @lA (R @lB (R @eo (R @gH (R @List.nil_append.{0} @List.cons_append.{0}))))))) _ ?_;refine ws _ ?_;refine az ai (λei dS bR a_=>?_);refine ws _ ?_;refine bn bR (λeA cR cH dn bD=>?_);have zK:∀n la qt qu qv gb nG,pO a0 J n la qt qu qv gb nG=some r->cX ah Xj eA (aq [(1,.slice (J.map bz)),(2,.aM (fe a0)),(6,.aM (.agg [fe la,.slice (qt.map bz),.aj 4 (qu.map fD),.b4 (.mp qv)])),(7,.aj 1 (gb.map gi)),(24,.slice (J.map bz)),(25,.int .i64 (J.length:Int)),(26,.int .i64 nG)]):=by
  refine dd (λm10 zL la qt qu qv gb nG h=>dc cH (λgu dx dE bj=>?_));refine ws _ ?_;refine az dE (λek cE cd ch=>?_);refine aF h (λdX h=>?_) (λdX h=>?_)
  .refine aJ (cE _ (.inl ?_));refine az dE (λhY eK fL dP=>?_);refine bn fL (λlh gV iE eE gz=>?_);obtain⟨U,dB,h⟩:=ao h;refine c1 dB _ ?_;obtain⟨af,cC,h⟩:=ao h;refine cB (aoK a0.cq U _ cC) _ ?_;refine az iE (λpe kk kl jD=>?_);refine ws _ ?_;refine aF h (λgg h=>?_) (λgg h=>?_)
   .refine ws _ ?_;exact aw (kl _ (.inr ⟨[(4,.aj 4 []),(5,.bool false)],ij [] rfl (h6 (t:=4) (d:=.a8) rfl rfl (.iz _) (by decide) (cF rfl (ik))),ay [.aj 4 [],.bool false]⟩))
   .refine aJ (kk _ (.inr ⟨[(1,.slice (J.map bz)),(2,.aM (fe a0)),(6,.aM (.agg [fe la,.slice (qt.map bz),.aj 4 (qu.map fD),.b4 (.mp qv)])),(7,.aj 1 (gb.map gi)),(8,.int .i64 nG),(10,.slice (af.1.map cU)),(24,.slice (J.map bz)),(25,.int .i64 (J.length:Int)),(26,.int .i64 nG),(39,.bool (!af.2))],ij [] rfl (cF rfl (cF rfl (cF rfl (cF rfl (cF rfl (h6 (t:=10) (d:=.aj 4 (af.1.map hC)) (bI:=.slice (af.1.map cU)) rfl rfl (A0 rfl rfl (by simp only[cY,I.share,I.shares, @b0 _ hC cU (λ_=>F8 _)]<;>rfl)) (by decide) (cF rfl (cF rfl (cF rfl (cF rfl (ik))))))))))),?_⟩));obtain⟨al7,gJ,h⟩:=ao h;(try simp only[fQ.down,Nat.zero_add,Nat.add_zero,reduceAdd]at gJ);refine c1 (R (show∀s,dO ah s 82 1 [(0,.slice (af.1.map cU))]=some (.aj 1 [.slice (af.1.map cU)],s)from λs=>by kernel_rfl) (R (@kc ah 82 82 83 rfl rfl) (R @kd (R @ke (R @gH (R @all_cons (R @all_nil (R gJ (@jy _ gi 1 (λ_=>rfl)))))))))) [(1,.slice (J.map bz)),(2,.aM (fe a0)),(6,.aM (.agg [fe la,.slice (qt.map bz),.aj 4 (qu.map fD),.b4 (.mp qv)])),(7,.aj 1 ((gb++[af.1]).map gi)),(8,.int .i64 nG),(10,.slice (af.1.map cU)),(24,.slice (J.map bz)),(25,.int .i64 (J.length:Int)),(26,.int .i64 nG)] ?_;refine ws [(1,.slice (J.map bz)),(2,.aM (fe a0)),(6,.aM (.agg [fe la,.slice (qt.map bz),.aj 4 (qu.map fD),.b4 (.mp qv)])),(7,.aj 1 ((gb++[af.1]).map gi)),(8,.int .i64 nG),(24,.slice (J.map bz)),(25,.int .i64 (J.length:Int)),(26,.int .i64 nG),(44,.slice (af.1.map cU)),(45,.int .i64 (af.1.length:Int)),(46,.int .i64 0)] ?_;refine bn iE (λGt CG CH h0 zb=>?_);have apf:∀n mP rf rh ri qm pM qn qo,xt (pO a0 J m10) a0 J af n mP rf rh ri qm pM qn qo=some r->cX ah Xi Gt (aq [(1,.slice (J.map bz)),(2,.aM (fe a0)),(6,.aM (.agg [fe mP,.slice (rf.map bz),.aj 4 (rh.map fD),.b4 (.mp ri)])),(7,.aj 1 (qm.map gi)),(8,.int .i64 pM),(24,.slice (J.map bz)),(25,.int .i64 (J.length:Int)),(26,.int .i64 qn),(44,.slice (af.1.map cU)),(45,.int .i64 (af.1.length:Int)),(46,.int .i64 qo)]):=by
     refine dd (λawB apg mP rf rh ri qm pM qn qo h=>dc CH (λxJ sQ oF qj=>?_));refine ws _ ?_;refine az oF (λXO Gn XP tW=>?_);refine aF h (λjY h=>?_) (λjY h=>?_)
     .refine aJ (Gn _ (.inl ?_));refine az oF (λCA pQ pR vI=>?_);refine bn pR (λGh sP xF od zz=>?_);obtain⟨aK,sV,h⟩:=ao h;refine c1 sV _ ?_;obtain⟨a_,jI,h⟩:=ao h;refine lY (cI (K:=eJ _) [(1,.slice (J.map bz)),(2,.aM (fe a0)),(6,.aM (.agg [fe mP,.slice (rf.map bz),.aj 4 (rh.map fD),.b4 (.mp ri)])),(7,.aj 1 (qm.map gi)),(8,.int .i64 pM),(13,.aM (cU aK)),(14,.str a_.1),(15,.aj 1 (a_.2.1.map a1)),(24,.slice (J.map bz)),(25,.int .i64 (J.length:Int)),(26,.int .i64 qn),(44,.slice (af.1.map cU)),(45,.int .i64 (af.1.length:Int)),(46,.int .i64 qo)] (λP bu=>?_) (HW [(1,.slice (J.map bz)),(2,.aM (fe a0)),(6,.aM (.agg [fe mP,.slice (rf.map bz),.aj 4 (rh.map fD),.b4 (.mp ri)])),(7,.aj 1 (qm.map gi)),(8,.int .i64 pM),(13,.aM (cU aK)),(14,.str a_.1),(15,.slice (a_.2.1.map a1)),(24,.slice (J.map bz)),(25,.int .i64 (J.length:Int)),(26,.int .i64 qn),(44,.slice (af.1.map cU)),(45,.int .i64 (af.1.length:Int)),(46,.int .i64 qo)] (ij [] rfl (cF rfl (cF rfl (cF rfl (cF rfl (cF rfl (cF rfl (cF rfl (h6 (t:=15) (d:=.aj 1 (a_.2.1.map a1)) (bI:=.slice (a_.2.1.map a1)) rfl rfl (A0 rfl rfl (by simp only[cY,I.share,I.shares, @b0 _ a1 a1 (λ_=>jW _)]<;>rfl)) (by decide) (cF rfl (cF rfl (cF rfl (cF rfl (cF rfl (cF rfl (ik)))))))))))))))) ?_))
      ·(try simp only[aT.down,simprocAttr]);refine dR (Q8 aK.Label _ jI) rfl rfl rfl rfl (.inl (by rfl)) ?_;simp only[aT.down,simprocAttr];exact cc trivial
      obtain⟨bo,pf,h⟩:=ao h;refine jh (cI [(1,.slice (J.map bz)),(2,.aM (fe a0)),(6,.aM (.agg [.agg [.slice (bo.1.map ba),.slice (bo.2.1.map dh),.slice (bo.2.2.1.map bQ),.slice (bo.2.2.2.1.map aW),.slice (bo.2.2.2.2.1.map aW)],.slice (bo.2.2.2.2.2.1.map bz),.aj 4 (bo.2.2.2.2.2.2.1.map fD),.b4 (.mp bo.2.2.2.2.2.2.2)])),(7,.aj 1 (qm.map gi)),(8,.int .i64 pM),(24,.slice (J.map bz)),(25,.int .i64 (J.length:Int)),(26,.int .i64 qn),(44,.slice (af.1.map cU)),(45,.int .i64 (af.1.length:Int)),(46,.int .i64 qo)] (λP bu=>?_) ?_)
      ·(try simp only[aT.down,simprocAttr,(show∀s,dO ah s 38 1 [(0,.agg [.int .i64 aK.Next.cD,.int .i64 aK.Next.Part,.slice (aK.Next.bV.map a1)])]=some (.aj 3 [.agg [.int .i64 aK.Next.cD,.int .i64 aK.Next.Part,.slice (aK.Next.bV.map a1)]],s)from λs=>by kernel_rfl),J2.down,I.shares]);refine ow [⟨.h 6 [],true,_,_⟩,⟨.str a_.1,false,_,.hole⟩,⟨.slice (a_.2.1.map a1),false,_,.hole⟩,⟨.int .i64 pM,false,_,.hole⟩,⟨.int .i64 (-1),false,_,.hole⟩,⟨.slice ([aK.Next].map bz),false,_,.hole⟩] (YK mP.cq mP.b_ mP.b2 mP.cw mP.ct rf rh ri a_.1 a_.2.1 pM (-1) [aK.Next] _ pf) rfl rfl rfl (by simp only[aT.down,simprocAttr,(show∀s,dO ah s 38 1 [(0,.agg [.int .i64 aK.Next.cD,.int .i64 aK.Next.Part,.slice (aK.Next.bV.map a1)])]=some (.aj 3 [.agg [.int .i64 aK.Next.cD,.int .i64 aK.Next.Part,.slice (aK.Next.bV.map a1)]],s)from λs=>by kernel_rfl),XC.down,I.shares]) rfl rfl (.inl rfl) ?_;simp only[aT.down,simprocAttr,(show∀s,dO ah s 38 1 [(0,.agg [.int .i64 aK.Next.cD,.int .i64 aK.Next.Part,.slice (aK.Next.bV.map a1)])]=some (.aj 3 [.agg [.int .i64 aK.Next.cD,.int .i64 aK.Next.Part,.slice (aK.Next.bV.map a1)]],s)from λs=>by kernel_rfl),XD.down,I.shares];exact cc (R (show∀s,dO ah s 38 1 [(0,.agg [.int .i64 aK.Next.cD,.int .i64 aK.Next.Part,.slice (aK.Next.bV.map a1)])]=some (.aj 3 [.agg [.int .i64 aK.Next.cD,.int .i64 aK.Next.Part,.slice (aK.Next.bV.map a1)]],s)from λs=>by kernel_rfl) J2.down)
      refine sP _ (pQ _ (.inl ?_));refine wr _ ?_;exact sQ _ (.inr ⟨_,aY rfl,apg (cJ.mk bo.1 bo.2.1 bo.2.2.1 bo.2.2.2.1 bo.2.2.2.2.1) bo.2.2.2.2.2.1 bo.2.2.2.2.2.2.1 bo.2.2.2.2.2.2.2 qm pM qn (i64.wrap (qo+1)) h⟩)
     .refine c7 (tW 2 _ (qj 2 _ (h0 _ (gV _ (eK _ (.inl ?_))))));refine wr _ ?_;exact dx _ (.inr ⟨_,aY rfl,zL mP rf rh ri qm (i64.wrap (qn+1)) h⟩)
    obtain⟨n,h⟩:=cS h;exact db (.inr ⟨_,aY rfl,apf n la qt qu qv (gb++[af.1]) nG nG 0 h⟩)
  .refine c7 (ch 0 _ (bj 0 _ (dn _ (dS _ (.inl ?_)))));refine az ai (λQw vJ xK Kc=>?_);refine ws _ ?_;refine bn xK (λxL uG sR vK CE=>?_);have Gp:∀n xu xv rj xw xx qs,vE J n xu xv rj xw xx qs=some r->cX ah Xl xL (aq [(1,.slice (J.map bz)),(6,.aM (.agg [fe xu,.slice (xv.map bz),.aj 4 (rj.map fD),.b4 (.mp xw)])),(7,.aj 1 (xx.map gi)),(68,.int .i64 (J.length:Int)),(69,.int .i64 qs)]):=by
    refine dd (λQx Gq xu xv rj xw xx qs h=>dc sR (λQy zF vL zG=>?_));refine ws _ ?_;refine az vL (λQF xN Kf CF=>?_);refine aF h (λzH h=>?_) (λzH h=>?_)
    .refine aJ (xN _ (.inl ?_));refine az vL (λGr xM vM Kd=>?_);refine bn vM (λGl pS qy Gm CC=>?_);refine ws _ ?_;refine ws _ ?_;refine bn qy (λYL Q_ YM QO ao3=>?_);have aph:∀n nF uA uB uC qp qq pN sI,zs (vE J Qx) J n nF uA uB uC qp qq pN sI=some r->cX ah Xk YL (aq [(1,.slice (J.map bz)),(6,.aM (.agg [fe nF,.slice (uA.map bz),.aj 4 (uB.map fD),.b4 (.mp uC)])),(7,.aj 1 (qp.map gi)),(17,.int .i64 qq),(18,.int .i64 pN),(68,.int .i64 (J.length:Int)),(69,.int .i64 sI)]):=by
      refine dd (λawC api nF uA uB uC qp qq pN sI h=>dc YM (λamf QP Kj Yb=>?_));refine az Kj (λQG Kg QH QI=>?_);refine ws _ ?_;refine aF h (λapj h=>?_) (λapj h=>?_)
      .refine aJ (Kg _ (.inl ?_));refine az Kj (λamn Km Yg amo=>?_);refine bn Yg (λawD apk awE Ka awF=>?_);obtain⟨bD,oH,h⟩:=ao h;obtain⟨bj,rz,h⟩:=ao h;obtain⟨cu,sW,h⟩:=ao h;refine MQ rfl (ig [(1,.slice (J.map bz)),(6,.aM (.agg [.agg [.slice (cu.1.map ba),.slice (cu.2.1.map dh),.slice (cu.2.2.1.map bQ),.slice (cu.2.2.2.1.map aW),.slice (cu.2.2.2.2.1.map aW)],.slice (cu.2.2.2.2.2.1.map bz),.aj 4 (cu.2.2.2.2.2.2.1.map fD),.b4 (.mp cu.2.2.2.2.2.2.2)])),(7,.aj 1 (qp.map gi)),(17,.int .i64 qq),(18,.int .i64 pN),(68,.int .i64 (J.length:Int)),(69,.int .i64 sI)] (λP bu=>?_) ?_)
       ·(try simp only[cV.down,simprocAttr,oH,dy oH,rz,dy rz]);refine M0 [⟨.h 6 [],true,_,_⟩,⟨.int .i64 qq,false,_,.hole⟩,⟨.int .i64 pN,false,_,.hole⟩,⟨.slice (bD.map cU),false,_,.hole⟩,⟨.slice (bj.map cU),false,_,.hole⟩] (ao_ nF.cq nF.b_ nF.b2 nF.cw nF.ct uA uB uC qq pN bD bj _ sW) rfl rfl rfl (by simp only[cV.down,simprocAttr,oH,dy oH,rz,dy rz,o5,pA,pB,i6,i7,i_,cY,or_true,true_or, @b0 _ ba ba (λ_=>sJ _), @b0 _ dh dh (λ_=>zt _), @b0 _ bQ bQ (λ_=>rk _), @b0 _ aW aW (λ_=>lg _), @b0 _ aW aW (λ_=>lg _), @b0 _ bz bz (λ_=>vF _), @b0 _ fD gA (λ_=>WH _)]) rfl rfl (.inl rfl) ?_;simp only[cV.down,simprocAttr,oH,dy oH,rz,dy rz,nY];refine⟨hF (by kernel_rfl),?_⟩;exact cc (R oH (R (dy oH) (R rz (dy rz))))
       refine apk _ (Km _ (.inl ?_));refine wr _ ?_;exact QP _ (.inr ⟨_,aY rfl,api (cJ.mk cu.1 cu.2.1 cu.2.2.1 cu.2.2.2.1 cu.2.2.2.2.1) cu.2.2.2.2.2.1 cu.2.2.2.2.2.2.1 cu.2.2.2.2.2.2.2 qp qq (i64.wrap (pN+1)) sI h⟩)
      .refine c7 (QI 6 _ (Yb 6 _ (QO _ (pS _ (xM _ (.inl ?_))))));refine wr _ ?_;exact zF _ (.inr ⟨_,aY rfl,Gq nF uA uB uC qp (i64.wrap (sI+1)) h⟩)
     obtain⟨n,h⟩:=cS h;exact db (.inr ⟨_,aY rfl,aph n xu xv rj xw xx qs (i64.wrap (qs+1)) qs h⟩)
    .refine c7 (CF 4 _ (zG 4 _ (vK _ (vJ _ (.inl ?_)))));refine oE @Vm _ ?_;exact aw (ai _ (.inl (U0 4 [.aj 4 (rj.map fD),.bool (decide ((rj.length:Int)<=200))])))
   obtain⟨n,h⟩:=cS h;exact db (.inr ⟨_,aY rfl,Gp n la qt qu qv gb 0 h⟩)
 obtain⟨n,h⟩:=cS h;exact db (.inr ⟨_,ij [] rfl (cF (t:=1) (d:=.slice (J.map bz)) rfl (cF (t:=2) (d:=.aM (fe a0)) rfl (h6 (t:=6) (d:=.aM (.agg [fe a0,.slice (J.map bz),.a8,.b4 (.mp [])])) (bI:=.aM (.agg [fe a0,.slice (J.map bz),.aj 4 [],.b4 (.mp [])])) rfl rfl (.aM (.agg (.cons (.refl _) (.cons (.refl _) (.cons (.iz _) (.cons (.refl _) (.nil))))))) (by decide) (h6 (t:=7) (d:=.a8) (bI:=.aj 1 []) rfl rfl (.iz _) (by decide) (cF (t:=24) (d:=.slice (J.map bz)) rfl (cF (t:=25) (d:=.int .i64 (J.length:Int)) rfl (cF (t:=26) (d:=.int .i64 0) rfl (ik)))))))),zK n a0 J [] [] [] 0 h⟩)
theorem apl (a0 J r) (h:PB a0 J=some r):aV ah 24 [fe a0,.slice (J.map bz)] (.tuple [.aj 4 (r.1.map fD),.int .i64 r.2]) []:=by
 refine bA [0,1] [.tmp 4,.tmp 5] Tryz.func24 c24 (λbt ai bq=>?_);refine ws _ ?_;refine az ai (λdJ bL bf af=>?_);obtain⟨U,bW,h⟩:=ao h;refine cB (aon a0 J _ bW) _ ?_;refine aF h (λcP h=>?_) (λcP h=>?_)
 .refine ws _ ?_;exact aw (bf _ (.inr ⟨[(4,.aj 4 []),(5,.int .i64 1)],ij [] rfl (h6 (t:=4) (d:=.a8) rfl rfl (.iz _) (by decide) (cF rfl (ik))),ay [.aj 4 [],.int .i64 1]⟩))
 .refine aJ (bL _ (.inl ?_));obtain⟨af,fu,h⟩:=ao h;refine cB (ape a0 J _ fu) _ ?_;refine az ai (λek cE cd ch=>?_);refine ws _ ?_;refine aF h (λlJ h=>?_) (λlJ h=>?_)
  .refine ws _ ?_;exact aw (cd _ (.inr ⟨[(4,.aj 4 []),(5,.int .i64 5)],ij [] rfl (h6 (t:=4) (d:=.a8) rfl rfl (.iz _) (by decide) (cF rfl (ik))),ay [.aj 4 [],.int .i64 5]⟩))
  .refine aJ (cE _ (.inl ?_));refine ws _ ?_;exact aw (ai _ (.inl (ay [.aj 4 (af.1.map fD),.int .i64 0])))
theorem apm (a0 J r) (h:JC a0 J=some r):aV ah 9 [fe a0,.slice (J.map bz)] (.bool r) []:=by
 refine bA [0,1] [.tmp 4] Tryz.func9 c9 (λbt ai bq=>?_);refine ws _ ?_;obtain⟨U,aR,h⟩:=ao h;refine cB (apl a0 J _ aR) _ ?_;refine mT (U.2==0) [(4,.bool ((U.2==0)&&((U.1.length:Int)==0)))] ?_;exact aw (ai _ (.inl (ay [.bool ((U.2==0)&&((U.1.length:Int)==0))])))
theorem apn (a0 J r) (h:FM a0 J=some r):aV ah 213 [ed a0,ed J] (.bool r) []:=by
 refine bA [0,1] [.tmp 4] Tryz.func213 c213 (λbt ai bq=>?_);refine ws _ ?_;refine az ai (λdJ bL bf af=>?_);refine ws _ ?_;refine aF h (λbU h=>?_) (λbU h=>?_)
 .refine ws _ ?_;exact aw (bf _ (.inl (ay [.bool false])))
 .refine aJ (bL _ (.inl ?_));refine az ai (λeA cR cH bD=>?_);refine ws _ ?_;refine aF h (λcy h=>?_) (λcy h=>?_)
  .refine ws _ ?_;exact aw (cH _ (.inl (ay [.bool false])))
  .refine aJ (cR _ (.inl ?_));refine ws _ ?_;exact aw (ai _ (.inl (ay [.bool true])))
theorem apo (a0 J r) (h:FN a0 J=some r):aV ah 181 [.slice (a0.map ed),.slice (J.map ed)] (.bool r) []:=by
 refine bA [0,1] [.tmp 4] Tryz.func181 akw (λbt ai bq=>?_);refine ws _ ?_;refine az ai (λdJ bL bf af=>?_);refine ws _ ?_;refine aF h (λbU h=>?_) (λbU h=>?_)
 .refine ws _ ?_;exact aw (bf _ (.inl (ay [.bool false])))
 .refine aJ (bL _ (.inl ?_));refine az ai (λeA cR cH bD=>?_);refine ws _ ?_;refine bn cH (λgk gf fY cy cu=>?_);show bk ah (.loop ?gU) _ _;have ho:∀n cb,PC a0 J n cb=some r->cX ah ?gU gk (aq [(0,.slice (a0.map ed)),(1,.slice (J.map ed)),(5,.int .i64 cb)]):=by
   refine dd (λm14 gW cb h=>dc fY (λek cE cd ch=>?_));refine az cd (λe0 cf cn cv=>?_);refine ws _ ?_;refine aF h (λeE h=>?_) (λeE h=>?_)
   .refine aJ (cf _ (.inl ?_));refine az cd (λkG fE fp hG=>?_);refine bn fp (λhv ez ee fw eZ=>?_);obtain⟨U,cC,h⟩:=ao h;obtain⟨af,dL,h⟩:=ao h;obtain⟨aK,e4,h⟩:=ao h;refine mr (R cC dL) (apn U af _ e4) _ ?_;refine aF h (λgg h=>?_) (λgg h=>?_)
    .refine ws _ ?_;exact aw (ee _ (.inl (ay [.bool false])))
    .refine aJ (ez _ (fE _ (.inl ?_)));refine wr _ ?_;exact cE _ (.inr ⟨_,aY rfl,gW (i64.wrap (cb+1)) h⟩)
   .refine c7 (cv 0 _ (ch 0 _ (cy _ (cR _ (.inl ?_)))));refine ws _ ?_;exact aw (ai _ (.inl (ay [.bool true])))
  obtain⟨n,h⟩:=cS h;exact db (.inr ⟨_,aY rfl,ho n 0 h⟩)
theorem apq (a0 J r) (h:JD a0 J=some r):aV ah 150 [.slice (a0.map iO),.slice (J.map iO)] (.bool r) []:=by
 refine bA [0,1] [.tmp 4] Tryz.func150 akx (λbt ai bq=>?_);refine ws _ ?_;refine az ai (λdJ bL bf af=>?_);refine ws _ ?_;refine aF h (λbU h=>?_) (λbU h=>?_)
 .refine ws _ ?_;exact aw (bf _ (.inl (ay [.bool false])))
 .refine aJ (bL _ (.inl ?_));refine az ai (λeA cR cH bD=>?_);refine ws _ ?_;refine bn cH (λgk gf fY cy cu=>?_);show bk ah (.loop ?gU) _ _;have ho:∀n cb,PD a0 J n cb=some r->cX ah ?gU gk (aq [(0,.slice (a0.map iO)),(1,.slice (J.map iO)),(5,.int .i64 cb)]):=by
   refine dd (λm14 gW cb h=>dc fY (λek cE cd ch=>?_));refine az cd (λe0 cf cn cv=>?_);refine ws _ ?_;refine aF h (λeE h=>?_) (λeE h=>?_)
   .refine aJ (cf _ (.inl ?_));refine az cd (λkG fE fp hG=>?_);refine bn fp (λhv ez ee fw eZ=>?_);obtain⟨U,cC,h⟩:=ao h;obtain⟨af,dL,h⟩:=ao h;obtain⟨aK,e4,h⟩:=ao h;refine mr (R cC dL) (apo U af _ e4) _ ?_;refine aF h (λgg h=>?_) (λgg h=>?_)
    .refine ws _ ?_;exact aw (ee _ (.inl (ay [.bool false])))
    .refine aJ (ez _ (fE _ (.inl ?_)));refine wr _ ?_;exact cE _ (.inr ⟨_,aY rfl,gW (i64.wrap (cb+1)) h⟩)
   .refine c7 (cv 0 _ (ch 0 _ (cy _ (cR _ (.inl ?_)))));refine ws _ ?_;exact aw (ai _ (.inl (ay [.bool true])))
  obtain⟨n,h⟩:=cS h;exact db (.inr ⟨_,aY rfl,ho n 0 h⟩)
theorem apr (a0 J r) (h:FO a0 J=some r):aV ah 111 [eh a0,eh J] (.bool r) []:=by
 refine bA [0,1] [.tmp 4] Tryz.func111 aky (λbt ai bq=>?_);refine ws _ ?_;refine az ai (λdJ bL bf af=>?_);refine ws _ ?_;refine aF h (λbU h=>?_) (λbU h=>?_)
 .refine ws _ ?_;exact aw (bf _ (.inl (ay [.bool false])))
 .refine aJ (bL _ (.inl ?_));refine az ai (λeA cR cH bD=>?_);refine ws _ ?_;refine aF h (λcy h=>?_) (λcy h=>?_)
  .refine ws _ ?_;exact aw (cH _ (.inl (ay [.bool false])))
  .refine aJ (cR _ (.inl ?_));refine az ai (λe0 cf cn cv=>?_);refine ws _ ?_;refine aF h (λeE h=>?_) (λeE h=>?_)
   .refine ws _ ?_;exact aw (cn _ (.inl (ay [.bool false])))
   .refine aJ (cf _ (.inl ?_));refine az ai (λhv ez ee eZ=>?_);obtain⟨U,cC,h⟩:=ao h;refine cB (apq a0.cO J.cO _ cC) _ ?_;refine aF h (λkj h=>?_) (λkj h=>?_)
    .refine ws _ ?_;exact aw (ee _ (.inl (ay [.bool false])))
    .refine aJ (ez _ (.inl ?_));refine ws _ ?_;exact aw (ai _ (.inl (ay [.bool true])))
theorem aps (a0 J r) (h:JE a0 J=some r):aV ah 73 [.slice (a0.map eh),.slice (J.map eh)] (.bool r) []:=by
 refine bA [0,1] [.tmp 4] Tryz.func73 akz (λbt ai bq=>?_);refine ws _ ?_;refine az ai (λdJ bL bf af=>?_);refine ws _ ?_;refine aF h (λbU h=>?_) (λbU h=>?_)
 .refine ws _ ?_;exact aw (bf _ (.inl (ay [.bool false])))
 .refine aJ (bL _ (.inl ?_));refine az ai (λeA cR cH bD=>?_);refine ws _ ?_;refine bn cH (λgk gf fY cy cu=>?_);show bk ah (.loop ?gU) _ _;have ho:∀n cb,PE a0 J n cb=some r->cX ah ?gU gk (aq [(0,.slice (a0.map eh)),(1,.slice (J.map eh)),(5,.int .i64 cb)]):=by
   refine dd (λm14 gW cb h=>dc fY (λek cE cd ch=>?_));refine az cd (λe0 cf cn cv=>?_);refine ws _ ?_;refine aF h (λeE h=>?_) (λeE h=>?_)
   .refine aJ (cf _ (.inl ?_));refine az cd (λkG fE fp hG=>?_);refine bn fp (λhv ez ee fw eZ=>?_);obtain⟨U,cC,h⟩:=ao h;obtain⟨af,dL,h⟩:=ao h;obtain⟨aK,e4,h⟩:=ao h;refine mr (R cC dL) (apr U af _ e4) _ ?_;refine aF h (λgg h=>?_) (λgg h=>?_)
    .refine ws _ ?_;exact aw (ee _ (.inl (ay [.bool false])))
    .refine aJ (ez _ (fE _ (.inl ?_)));refine wr _ ?_;exact cE _ (.inr ⟨_,aY rfl,gW (i64.wrap (cb+1)) h⟩)
   .refine c7 (cv 0 _ (ch 0 _ (cy _ (cR _ (.inl ?_)))));refine ws _ ?_;exact aw (ai _ (.inl (ay [.bool true])))
  obtain⟨n,h⟩:=cS h;exact db (.inr ⟨_,aY rfl,ho n 0 h⟩)
theorem apt (a0 J r) (h:FP a0 J=some r):aV ah 49 [ba a0,ba J] (.bool r) []:=by
 refine bA [0,1] [.tmp 4] Tryz.func49 c49 (λbt ai bq=>?_);refine ws _ ?_;refine az ai (λdJ bL bf af=>?_);refine ws _ ?_;refine aF h (λbU h=>?_) (λbU h=>?_)
 .refine ws _ ?_;exact aw (bf _ (.inl (ay [.bool false])))
 .refine aJ (bL _ (.inl ?_));refine az ai (λeA cR cH bD=>?_);refine ws _ ?_;refine aF h (λcy h=>?_) (λcy h=>?_)
  .refine ws _ ?_;exact aw (cH _ (.inl (ay [.bool false])))
  .refine aJ (cR _ (.inl ?_));refine az ai (λe0 cf cn cv=>?_);obtain⟨U,e1,h⟩:=ao h;refine cB (aps a0.Body J.Body _ e1) _ ?_;refine aF h (λeX h=>?_) (λeX h=>?_)
   .refine ws _ ?_;exact aw (cn _ (.inl (ay [.bool false])))
   .refine aJ (cf _ (.inl ?_));refine ws _ ?_;exact aw (ai _ (.inl (ay [.bool true])))
theorem apu (a0 J r) (h:JF a0 J=some r):aV ah 25 [.slice (a0.map ba),.slice (J.map ba)] (.bool r) []:=by
 refine bA [0,1] [.tmp 4] Tryz.func25 akA (λbt ai bq=>?_);refine ws _ ?_;refine az ai (λdJ bL bf af=>?_);refine ws _ ?_;refine aF h (λbU h=>?_) (λbU h=>?_)
 .refine ws _ ?_;exact aw (bf _ (.inl (ay [.bool false])))
 .refine aJ (bL _ (.inl ?_));refine az ai (λeA cR cH bD=>?_);refine ws _ ?_;refine bn cH (λgk gf fY cy cu=>?_);show bk ah (.loop ?gU) _ _;have ho:∀n cb,PF a0 J n cb=some r->cX ah ?gU gk (aq [(0,.slice (a0.map ba)),(1,.slice (J.map ba)),(5,.int .i64 cb)]):=by
   refine dd (λm14 gW cb h=>dc fY (λek cE cd ch=>?_));refine az cd (λe0 cf cn cv=>?_);refine ws _ ?_;refine aF h (λeE h=>?_) (λeE h=>?_)
   .refine aJ (cf _ (.inl ?_));refine az cd (λkG fE fp hG=>?_);refine bn fp (λhv ez ee fw eZ=>?_);obtain⟨U,cC,h⟩:=ao h;obtain⟨af,dL,h⟩:=ao h;obtain⟨aK,e4,h⟩:=ao h;refine mr (R cC dL) (apt U af _ e4) _ ?_;refine aF h (λgg h=>?_) (λgg h=>?_)
    .refine ws _ ?_;exact aw (ee _ (.inl (ay [.bool false])))
    .refine aJ (ez _ (fE _ (.inl ?_)));refine wr _ ?_;exact cE _ (.inr ⟨_,aY rfl,gW (i64.wrap (cb+1)) h⟩)
   .refine c7 (cv 0 _ (ch 0 _ (cy _ (cR _ (.inl ?_)))));refine ws _ ?_;exact aw (ai _ (.inl (ay [.bool true])))
  obtain⟨n,h⟩:=cS h;exact db (.inr ⟨_,aY rfl,ho n 0 h⟩)
theorem YN (a0 J r) (h:FQ a0 J=some r):aV ah 52 [.slice (a0.map a1),.slice (J.map a1)] (.bool r) []:=by
 refine bA [0,1] [.tmp 4] Tryz.func52 akB (λbt ai bq=>?_);refine ws _ ?_;refine az ai (λdJ bL bf af=>?_);refine ws _ ?_;refine aF h (λbU h=>?_) (λbU h=>?_)
 .refine ws _ ?_;exact aw (bf _ (.inl (ay [.bool false])))
 .refine aJ (bL _ (.inl ?_));refine az ai (λeA cR cH bD=>?_);refine ws _ ?_;refine bn cH (λgk gf fY cy cu=>?_);show bk ah (.loop ?gU) _ _;have ho:∀n cb,PG a0 J n cb=some r->cX ah ?gU gk (aq [(0,.slice (a0.map a1)),(1,.slice (J.map a1)),(5,.int .i64 cb)]):=by
   refine dd (λm14 gW cb h=>dc fY (λek cE cd ch=>?_));refine az cd (λe0 cf cn cv=>?_);refine ws _ ?_;refine aF h (λeE h=>?_) (λeE h=>?_)
   .refine aJ (cf _ (.inl ?_));refine az cd (λkG fE fp hG=>?_);refine bn fp (λhv ez ee fw eZ=>?_);obtain⟨U,cC,h⟩:=ao h;obtain⟨af,dL,h⟩:=ao h;refine oE (R cC dL) _ ?_;refine aF h (λhD h=>?_) (λhD h=>?_)
    .refine ws _ ?_;exact aw (ee _ (.inl (ay [.bool false])))
    .refine aJ (ez _ (fE _ (.inl ?_)));refine wr _ ?_;exact cE _ (.inr ⟨_,aY rfl,gW (i64.wrap (cb+1)) h⟩)
   .refine c7 (cv 0 _ (ch 0 _ (cy _ (cR _ (.inl ?_)))));refine ws _ ?_;exact aw (ai _ (.inl (ay [.bool true])))
  obtain⟨n,h⟩:=cS h;exact db (.inr ⟨_,aY rfl,ho n 0 h⟩)
theorem apv (a0 J r) (h:FR a0 J=some r):aV ah 50 [dh a0,dh J] (.bool r) []:=by
 refine bA [0,1] [.tmp 4] Tryz.func50 akC (λbt ai bq=>?_);refine ws _ ?_;refine az ai (λdJ bL bf af=>?_);refine ws _ ?_;refine aF h (λbU h=>?_) (λbU h=>?_)
 .refine ws _ ?_;exact aw (bf _ (.inl (ay [.bool false])))
 .refine aJ (bL _ (.inl ?_));refine az ai (λeA cR cH bD=>?_);obtain⟨U,fu,h⟩:=ao h;refine cB (YN a0.bV J.bV _ fu) _ ?_;refine aF h (λeR h=>?_) (λeR h=>?_)
  .refine ws _ ?_;exact aw (cH _ (.inl (ay [.bool false])))
  .refine aJ (cR _ (.inl ?_));refine ws _ ?_;exact aw (ai _ (.inl (ay [.bool true])))
theorem apw (a0 J r) (h:JG a0 J=some r):aV ah 26 [.slice (a0.map dh),.slice (J.map dh)] (.bool r) []:=by
 refine bA [0,1] [.tmp 4] Tryz.func26 PZ (λbt ai bq=>?_);refine ws _ ?_;refine az ai (λdJ bL bf af=>?_);refine ws _ ?_;refine aF h (λbU h=>?_) (λbU h=>?_)
 .refine ws _ ?_;exact aw (bf _ (.inl (ay [.bool false])))
 .refine aJ (bL _ (.inl ?_));refine az ai (λeA cR cH bD=>?_);refine ws _ ?_;refine bn cH (λgk gf fY cy cu=>?_);show bk ah (.loop ?gU) _ _;have ho:∀n cb,PH a0 J n cb=some r->cX ah ?gU gk (aq [(0,.slice (a0.map dh)),(1,.slice (J.map dh)),(5,.int .i64 cb)]):=by
   refine dd (λm14 gW cb h=>dc fY (λek cE cd ch=>?_));refine az cd (λe0 cf cn cv=>?_);refine ws _ ?_;refine aF h (λeE h=>?_) (λeE h=>?_)
   .refine aJ (cf _ (.inl ?_));refine az cd (λkG fE fp hG=>?_);refine bn fp (λhv ez ee fw eZ=>?_);obtain⟨U,cC,h⟩:=ao h;obtain⟨af,dL,h⟩:=ao h;obtain⟨aK,e4,h⟩:=ao h;refine mr (R cC dL) (apv U af _ e4) _ ?_;refine aF h (λgg h=>?_) (λgg h=>?_)
    .refine ws _ ?_;exact aw (ee _ (.inl (ay [.bool false])))
    .refine aJ (ez _ (fE _ (.inl ?_)));refine wr _ ?_;exact cE _ (.inr ⟨_,aY rfl,gW (i64.wrap (cb+1)) h⟩)
   .refine c7 (cv 0 _ (ch 0 _ (cy _ (cR _ (.inl ?_)))));refine ws _ ?_;exact aw (ai _ (.inl (ay [.bool true])))
  obtain⟨n,h⟩:=cS h;exact db (.inr ⟨_,aY rfl,ho n 0 h⟩)
theorem apx (a0 J r) (h:FT a0 J=some r):aV ah 51 [bQ a0,bQ J] (.bool r) []:=by
 refine bA [0,1] [.tmp 4] Tryz.func51 c51 (λbt ai bq=>?_);refine ws _ ?_;refine az ai (λdJ bL bf af=>?_);refine ws _ ?_;refine aF h (λbU h=>?_) (λbU h=>?_)
 .refine ws _ ?_;exact aw (bf _ (.inl (ay [.bool false])))
 .refine aJ (bL _ (.inl ?_));refine az ai (λeA cR cH bD=>?_);refine ws _ ?_;refine aF h (λcy h=>?_) (λcy h=>?_)
  .refine ws _ ?_;exact aw (cH _ (.inl (ay [.bool false])))
  .refine aJ (cR _ (.inl ?_));refine az ai (λe0 cf cn cv=>?_);refine ws _ ?_;refine aF h (λeE h=>?_) (λeE h=>?_)
   .refine ws _ ?_;exact aw (cn _ (.inl (ay [.bool false])))
   .refine aJ (cf _ (.inl ?_));refine ws _ ?_;exact aw (ai _ (.inl (ay [.bool true])))
theorem apy (a0 J r) (h:JH a0 J=some r):aV ah 27 [.slice (a0.map bQ),.slice (J.map bQ)] (.bool r) []:=by
 refine bA [0,1] [.tmp 4] Tryz.func27 akD (λbt ai bq=>?_);refine ws _ ?_;refine az ai (λdJ bL bf af=>?_);refine ws _ ?_;refine aF h (λbU h=>?_) (λbU h=>?_)
 .refine ws _ ?_;exact aw (bf _ (.inl (ay [.bool false])))
 .refine aJ (bL _ (.inl ?_));refine az ai (λeA cR cH bD=>?_);refine ws _ ?_;refine bn cH (λgk gf fY cy cu=>?_);show bk ah (.loop ?gU) _ _;have ho:∀n cb,PI a0 J n cb=some r->cX ah ?gU gk (aq [(0,.slice (a0.map bQ)),(1,.slice (J.map bQ)),(5,.int .i64 cb)]):=by
   refine dd (λm14 gW cb h=>dc fY (λek cE cd ch=>?_));refine az cd (λe0 cf cn cv=>?_);refine ws _ ?_;refine aF h (λeE h=>?_) (λeE h=>?_)
   .refine aJ (cf _ (.inl ?_));refine az cd (λkG fE fp hG=>?_);refine bn fp (λhv ez ee fw eZ=>?_);obtain⟨U,cC,h⟩:=ao h;obtain⟨af,dL,h⟩:=ao h;obtain⟨aK,e4,h⟩:=ao h;refine mr (R cC dL) (apx U af _ e4) _ ?_;refine aF h (λgg h=>?_) (λgg h=>?_)
    .refine ws _ ?_;exact aw (ee _ (.inl (ay [.bool false])))
    .refine aJ (ez _ (fE _ (.inl ?_)));refine wr _ ?_;exact cE _ (.inr ⟨_,aY rfl,gW (i64.wrap (cb+1)) h⟩)
   .refine c7 (cv 0 _ (ch 0 _ (cy _ (cR _ (.inl ?_)))));refine ws _ ?_;exact aw (ai _ (.inl (ay [.bool true])))
  obtain⟨n,h⟩:=cS h;exact db (.inr ⟨_,aY rfl,ho n 0 h⟩)
theorem YO (a0 J r) (h:FU a0 J=some r):aV ah 28 [.slice (a0.map aW),.slice (J.map aW)] (.bool r) []:=by
 refine bA [0,1] [.tmp 4] Tryz.func28 c28 (λbt ai bq=>?_);refine ws _ ?_;refine az ai (λdJ bL bf af=>?_);refine ws _ ?_;refine aF h (λbU h=>?_) (λbU h=>?_)
 .refine ws _ ?_;exact aw (bf _ (.inl (ay [.bool false])))
 .refine aJ (bL _ (.inl ?_));refine az ai (λeA cR cH bD=>?_);refine ws _ ?_;refine bn cH (λgk gf fY cy cu=>?_);show bk ah (.loop ?gU) _ _;have ho:∀n cb,PJ a0 J n cb=some r->cX ah ?gU gk (aq [(0,.slice (a0.map aW)),(1,.slice (J.map aW)),(5,.int .i64 cb)]):=by
   refine dd (λm14 gW cb h=>dc fY (λek cE cd ch=>?_));refine az cd (λe0 cf cn cv=>?_);refine ws _ ?_;refine aF h (λeE h=>?_) (λeE h=>?_)
   .refine aJ (cf _ (.inl ?_));refine az cd (λkG fE fp hG=>?_);refine bn fp (λhv ez ee fw eZ=>?_);obtain⟨U,cC,h⟩:=ao h;obtain⟨af,dL,h⟩:=ao h;refine oE (R cC dL) _ ?_;refine aF h (λhD h=>?_) (λhD h=>?_)
    .refine ws _ ?_;exact aw (ee _ (.inl (ay [.bool false])))
    .refine aJ (ez _ (fE _ (.inl ?_)));refine wr _ ?_;exact cE _ (.inr ⟨_,aY rfl,gW (i64.wrap (cb+1)) h⟩)
   .refine c7 (cv 0 _ (ch 0 _ (cy _ (cR _ (.inl ?_)))));refine ws _ ?_;exact aw (ai _ (.inl (ay [.bool true])))
  obtain⟨n,h⟩:=cS h;exact db (.inr ⟨_,aY rfl,ho n 0 h⟩)
theorem apz (a0 J r) (h:FV a0 J=some r):aV ah 10 [fe a0,fe J] (.bool r) []:=by
 refine bA [0,1] [.tmp 4] Tryz.func10 zu (λbt ai bq=>?_);refine ws _ ?_;refine az ai (λdJ bL bf af=>?_);obtain⟨U,bW,h⟩:=ao h;refine cB (apu a0.cq J.cq _ bW) _ ?_;refine aF h (λcP h=>?_) (λcP h=>?_)
 .refine ws _ ?_;exact aw (bf _ (.inl (ay [.bool false])))
 .refine aJ (bL _ (.inl ?_));refine az ai (λgu dx dE bj=>?_);obtain⟨af,j7,h⟩:=ao h;refine cB (apw a0.b_ J.b_ _ j7) _ ?_;refine aF h (λdX h=>?_) (λdX h=>?_)
  .refine ws _ ?_;exact aw (dE _ (.inl (ay [.bool false])))
  .refine aJ (dx _ (.inl ?_));refine az ai (λlh gV iE gz=>?_);obtain⟨aK,dB,h⟩:=ao h;refine cB (apy a0.b2 J.b2 _ dB) _ ?_;refine aF h (λdY h=>?_) (λdY h=>?_)
   .refine ws _ ?_;exact aw (iE _ (.inl (ay [.bool false])))
   .refine aJ (gV _ (.inl ?_));refine az ai (λpe kk kl jD=>?_);obtain⟨a_,gB,h⟩:=ao h;refine cB (YO a0.cw J.cw _ gB) _ ?_;refine aF h (λfX h=>?_) (λfX h=>?_)
    .refine ws _ ?_;exact aw (kl _ (.inl (ay [.bool false])))
    .refine aJ (kk _ (.inl ?_));refine az ai (λxB oc nI lb=>?_);obtain⟨bo,lj,h⟩:=ao h;refine cB (YO a0.ct J.ct _ lj) _ ?_;refine aF h (λqA h=>?_) (λqA h=>?_)
     .refine ws _ ?_;exact aw (nI _ (.inl (ay [.bool false])))
     .refine aJ (oc _ (.inl ?_));refine ws _ ?_;exact aw (ai _ (.inl (ay [.bool true])))
theorem apA (a0 J r) (h:FW a0 J=some r):aV ah 29 [bz a0,bz J] (.bool r) []:=by
 refine bA [0,1] [.tmp 4] Tryz.func29 akE (λbt ai bq=>?_);refine ws _ ?_;refine az ai (λdJ bL bf af=>?_);refine ws _ ?_;refine aF h (λbU h=>?_) (λbU h=>?_)
 .refine ws _ ?_;exact aw (bf _ (.inl (ay [.bool false])))
 .refine aJ (bL _ (.inl ?_));refine az ai (λeA cR cH bD=>?_);refine ws _ ?_;refine aF h (λcy h=>?_) (λcy h=>?_)
  .refine ws _ ?_;exact aw (cH _ (.inl (ay [.bool false])))
  .refine aJ (cR _ (.inl ?_));refine az ai (λe0 cf cn cv=>?_);obtain⟨U,e1,h⟩:=ao h;refine cB (YN a0.bV J.bV _ e1) _ ?_;refine aF h (λeX h=>?_) (λeX h=>?_)
   .refine ws _ ?_;exact aw (cn _ (.inl (ay [.bool false])))
   .refine aJ (cf _ (.inl ?_));refine ws _ ?_;exact aw (ai _ (.inl (ay [.bool true])))
theorem apB (a0 J r) (h:JI a0 J=some r):aV ah 11 [.slice (a0.map bz),.slice (J.map bz)] (.bool r) []:=by
 refine bA [0,1] [.tmp 4] Tryz.func11 akF (λbt ai bq=>?_);refine ws _ ?_;refine az ai (λdJ bL bf af=>?_);refine ws _ ?_;refine aF h (λbU h=>?_) (λbU h=>?_)
 .refine ws _ ?_;exact aw (bf _ (.inl (ay [.bool false])))
 .refine aJ (bL _ (.inl ?_));refine az ai (λeA cR cH bD=>?_);refine ws _ ?_;refine bn cH (λgk gf fY cy cu=>?_);show bk ah (.loop ?gU) _ _;have ho:∀n cb,PK a0 J n cb=some r->cX ah ?gU gk (aq [(0,.slice (a0.map bz)),(1,.slice (J.map bz)),(5,.int .i64 cb)]):=by
   refine dd (λm14 gW cb h=>dc fY (λek cE cd ch=>?_));refine az cd (λe0 cf cn cv=>?_);refine ws _ ?_;refine aF h (λeE h=>?_) (λeE h=>?_)
   .refine aJ (cf _ (.inl ?_));refine az cd (λkG fE fp hG=>?_);refine bn fp (λhv ez ee fw eZ=>?_);obtain⟨U,cC,h⟩:=ao h;obtain⟨af,dL,h⟩:=ao h;obtain⟨aK,e4,h⟩:=ao h;refine mr (R cC dL) (apA U af _ e4) _ ?_;refine aF h (λgg h=>?_) (λgg h=>?_)
    .refine ws _ ?_;exact aw (ee _ (.inl (ay [.bool false])))
    .refine aJ (ez _ (fE _ (.inl ?_)));refine wr _ ?_;exact cE _ (.inr ⟨_,aY rfl,gW (i64.wrap (cb+1)) h⟩)
   .refine c7 (cv 0 _ (ch 0 _ (cy _ (cR _ (.inl ?_)))));refine ws _ ?_;exact aw (ai _ (.inl (ay [.bool true])))
  obtain⟨n,h⟩:=cS h;exact db (.inr ⟨_,aY rfl,ho n 0 h⟩)
theorem apC (a0 J r) (h:PL a0 J=some r):aV ah 3 [uD a0,.slice (J.map lF)] (.bool r) []:=by
 refine bA [0,1] [.tmp 4] Tryz.func3 c3 (λbt ai bq=>?_);refine ws _ ?_;refine ws _ ?_;obtain⟨U,bW,h⟩:=ao h;refine cB (alb a0 1048576 _ bW) _ ?_;refine az ai (λgR dZ df bo=>?_);refine ws _ ?_;refine aF h (λp8 h=>?_) (λp8 h=>?_)
 .refine ws _ ?_;exact aw (df _ (.inl (ay [.bool true])))
 .refine aJ (dZ _ (.inl ?_));obtain⟨af,ic,h⟩:=ao h;refine cB (ald J U _ ic) _ ?_;refine az ai (λhY eK fL dP=>?_);refine ws _ ?_;refine aF h (λeX h=>?_) (λeX h=>?_)
  .refine ws _ ?_;exact aw (fL _ (.inl (ay [.bool true])))
  .refine aJ (eK _ (.inl ?_));obtain⟨aK,cC,h⟩:=ao h;obtain⟨a_,dL,h⟩:=ao h;obtain⟨bo,e4,h⟩:=ao h;refine eQ (cI [(1,.slice (J.map lF)),(2,.aM (uD a0)),(6,.bool bo)] (λP bu=>?_) ?_)
   ·(try simp only[aT.down,simprocAttr]);refine dR (Qd a0 _ cC) rfl rfl rfl rfl (.inl (by rfl)) ?_;simp only[aT.down,simprocAttr];refine dR (Qe J _ dL) rfl rfl rfl rfl (.inl (by rfl)) ?_;simp only[aT.down,simprocAttr];refine dR (anG aK a_ _ e4) rfl rfl (by simp only[aT.down,simprocAttr,XE.down]<;>rfl) rfl (.inr (by rfl)) ?_;simp only[aT.down,simprocAttr];exact cc trivial
   obtain⟨bD,gL,h⟩:=ao h;refine cB (Qd a0 _ gL) _ ?_;obtain⟨bj,gJ,h⟩:=ao h;refine cB (Qe J _ gJ) _ ?_;obtain⟨cu,lj,h⟩:=ao h;refine eQ (cI [(1,.slice (J.map lF)),(2,.aM (uD a0)),(6,.bool bo),(7,.aM (xy bD)),(8,.aj 3 (bj.map eV)),(9,.bool cu)] (λP bu=>?_) ?_)
   ·(try simp only[aT.down,simprocAttr]);refine dR (apm bD bj _ lj) rfl rfl (by simp only[aT.down,simprocAttr,XE.down]<;>rfl) rfl (.inr (by rfl)) ?_;simp only[aT.down,simprocAttr];exact cc trivial
   refine az ai (λxJ sQ oF qj=>?_);refine ws _ ?_;refine aF h (λnm h=>?_) (λnm h=>?_)
   .refine ws _ ?_;exact aw (oF _ (.inl (ay [.bool false])))
   .refine aJ (sQ _ (.inl ?_));refine az ai (λCA pQ pR vI=>?_);obtain⟨ch,Gv,h⟩:=ao h;obtain⟨cv,sV,h⟩:=ao h;refine i1 rfl (ig [(1,.slice (J.map lF)),(8,.aj 3 (bj.map eV)),(39,.bool (!cv))] (λP bu=>?_) ?_)
    ·(try simp only[cV.down,simprocAttr]);refine hL (Qd a0 _ Gv) rfl rfl rfl rfl (.inl (by rfl)) ?_;simp only[cV.down,simprocAttr];refine hL (apz bD ch _ sV) rfl rfl (by simp only[cV.down,simprocAttr,i6,i7,i_,cY, @b0 _ lG ba (λ_=>FZ _), @b0 _ lH dh (λ_=>F3 _), @b0 _ bQ bQ (λ_=>rk _), @b0 _ aW aW (λ_=>lg _), @b0 _ aW aW (λ_=>lg _), @b0 _ lG ba (λ_=>FZ _), @b0 _ lH dh (λ_=>F3 _), @b0 _ bQ bQ (λ_=>rk _), @b0 _ aW aW (λ_=>lg _), @b0 _ aW aW (λ_=>lg _)]<;>rfl) rfl (.inr (by rfl)) ?_;simp only[cV.down,simprocAttr];refine⟨hF (by kernel_rfl),?_⟩;exact cc trivial
    refine aF h (λiF h=>?_) (λiF h=>?_)
    .refine ws _ ?_;exact aw (pR _ (.inl (ay [.bool false])))
    .refine aJ (pQ _ (.inl ?_));refine az ai (λamC QY Yi Yj=>?_);obtain⟨dP,qx,h⟩:=ao h;obtain⟨gz,qB,h⟩:=ao h;refine eQ (cI [(44,.bool (!gz))] (λP bu=>?_) ?_)
     ·(try simp only[aT.down,simprocAttr]);refine dR (Qe J _ qx) rfl rfl rfl rfl (.inl (by rfl)) ?_;simp only[aT.down,simprocAttr];refine dR (apB bj dP _ qB) rfl rfl (by simp only[aT.down,simprocAttr,i6,i7,i_,cY, @b0 _ eV bz (λ_=>pc _), @b0 _ eV bz (λ_=>pc _)]<;>rfl) rfl (.inr (by rfl)) ?_;simp only[aT.down,simprocAttr];exact cc trivial
     refine aF h (λvQ h=>?_) (λvQ h=>?_)
     .refine ws _ ?_;exact aw (Yi _ (.inl (ay [.bool false])))
     .refine aJ (QY _ (.inl ?_));refine ws _ ?_;exact aw (ai _ (.inl (ay [.bool true])))
end Go.Proofs.YtmaepbgkcmjcjagGreatDoor
