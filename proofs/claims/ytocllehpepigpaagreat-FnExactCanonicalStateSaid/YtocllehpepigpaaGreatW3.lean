/- Part of a proof that a law returns true for every input. No condition. -/
import Derived.Test.YtocllehpepigpaaGreatW1x3
namespace Go.Proofs.YtocllehpepigpaaGreat
open Go Go.cZ Go.eN
set_option maxRecDepth 100000
set_option maxHeartbeats 2200000
set_option linter.unusedSimpArgs false
set_option linter.unusedVariables false
theorem azG (a0:List cb) (r:Bool) (h:Dr a0=some r):bl aB 160 [.slice (a0.map bz)] (.bool r) []:=by
 refine bT [0] [.tmp 2] Tryz.func160 aoB (fun bO al bN=> ?_)
 refine ws _ ?_
 refine aI al (fun d_ bW bg ak=> ?_)
 refine ws _ ?_
 refine bH bg (fun dK et cd b4 bm=> ?_)
 have e8:∀(n:Nat) (eP:Int),tY a0 n eP=some r→dp aB O0 dK (ab [(0,.slice (a0.map bz)),(5,.slice (a0.map bz)),(6,.int .i64 (a0.length:Int)),(7,.int .i64 eP)]):=by
  intro m6
  induction m6 with
  |zero=>intro eP h;cases(show none=some r from h)
  |succ m6 eZ=>
   intro eP h
   replace h:Dq (tY a0 m6) a0 eP=some r:=h
   refine dE cd (fun gO dH cS bh=> ?_)
   refine ws _ ?_
   refine aI cS (fun gZ n7 dY cQ=> ?_)
   refine aT h (fun cH h=> ?_) (fun cH h=> ?_)
   ·refine aY (n7 _ (.inl ?_))
    refine aI cS (fun eh cL cl dh=> ?_)
    refine bH cl (fun eJ n10 cx ek c_=> ?_)
    obtain⟨af,eo,h⟩:=aE h
    refine hI eo _ ?_
    refine aI cx (fun k_ n13 fY jm=> ?_)
    obtain⟨bh,gl,h⟩:=aE h
    rcases e9 h with⟨fO,h⟩|⟨fO,h⟩
    ·refine fj rfl (fi [(0,.slice (a0.map bz)),(4,.bd (bz af)),(5,.slice (a0.map bz)),(6,.int .i64 (a0.length:Int)),(7,.int .i64 eP),(48,.bool true)] (fun P ai=> ?_) ?_)
     ·simp only[cD.down,simprocAttr,hy.down,(fk fO)]
      refine hf (la af.Left _ gl) rfl rfl rfl rfl (.inl (by rfl)) ?_
      simp only[cD.down,simprocAttr,hy.down,(fk fO)]
      refine⟨fa (by kernel_rfl),?_⟩
      (try simp only[bb.down,simprocAttr,bz,(fk fO)]at ai⊢);exact ai
     refine jg rfl ?_
     refine ws _ ?_
     exact aD (fY _ (.inl (aH [.bool false])))
    ·obtain⟨bM,ml,h⟩:=aE h
     rcases e9 h with⟨hK,h⟩|⟨hK,h⟩
     ·refine fj rfl (fi [(0,.slice (a0.map bz)),(4,.bd (bz af)),(5,.slice (a0.map bz)),(6,.int .i64 (a0.length:Int)),(7,.int .i64 eP),(48,.bool true)] (fun P ai=> ?_) ?_)
      ·simp only[cD.down,simprocAttr,hy.down,(bV fO),(fk hK)]
       refine hf (la af.Left _ gl) rfl rfl rfl rfl (.inl (by rfl)) ?_
       simp only[cD.down,simprocAttr,hy.down,(bV fO),(fk hK)]
       refine kA (la af.cp _ ml) rfl rfl rfl rfl (.inl (by rfl)) ?_
       simp only[cD.down,simprocAttr,hy.down,(bV fO),(fk hK)]
       refine⟨fa (by kernel_rfl),?_⟩
       (try simp only[bb.down,simprocAttr,bz,(bV fO),(fk hK)]at ai⊢);exact ai
      refine jg rfl ?_
      refine ws _ ?_
      exact aD (fY _ (.inl (aH [.bool false])))
     ·obtain⟨cQ,so,h⟩:=aE h
      rcases e9 h with⟨jq,h⟩|⟨jq,h⟩
      ·refine fj rfl (fi [(0,.slice (a0.map bz)),(4,.bd (bz af)),(5,.slice (a0.map bz)),(6,.int .i64 (a0.length:Int)),(7,.int .i64 eP),(48,.bool true)] (fun P ai=> ?_) ?_)
       ·simp only[cD.down,simprocAttr,hy.down,(bV fO),(bV hK),(fk jq)]
        refine hf (la af.Left _ gl) rfl rfl rfl rfl (.inl (by rfl)) ?_
        simp only[cD.down,simprocAttr,hy.down,(bV fO),(bV hK),(fk jq)]
        refine kA (la af.cp _ ml) rfl rfl rfl rfl (.inl (by rfl)) ?_
        simp only[cD.down,simprocAttr,hy.down,(bV fO),(bV hK),(fk jq)]
        refine kA (la af.Result _ so) rfl rfl rfl rfl (.inl (by rfl)) ?_
        simp only[cD.down,simprocAttr,hy.down,(bV fO),(bV hK),(fk jq)]
        refine⟨fa (by kernel_rfl),?_⟩
        (try simp only[bb.down,simprocAttr,bz,(bV fO),(bV hK),(fk jq)]at ai⊢);exact ai
       refine jg rfl ?_
       refine ws _ ?_
       exact aD (fY _ (.inl (aH [.bool false])))
      ·rcases e9 h with⟨jD,h⟩|⟨jD,h⟩
       ·refine fj rfl (fi [(0,.slice (a0.map bz)),(4,.bd (bz af)),(5,.slice (a0.map bz)),(6,.int .i64 (a0.length:Int)),(7,.int .i64 eP),(48,.bool true)] (fun P ai=> ?_) ?_)
        ·simp only[cD.down,simprocAttr,hy.down,(bV fO),(bV hK),(bV jq),jD]
         refine hf (la af.Left _ gl) rfl rfl rfl rfl (.inl (by rfl)) ?_
         simp only[cD.down,simprocAttr,hy.down,(bV fO),(bV hK),(bV jq),jD]
         refine kA (la af.cp _ ml) rfl rfl rfl rfl (.inl (by rfl)) ?_
         simp only[cD.down,simprocAttr,hy.down,(bV fO),(bV hK),(bV jq),jD]
         refine kA (la af.Result _ so) rfl rfl rfl rfl (.inl (by rfl)) ?_
         simp only[cD.down,simprocAttr,hy.down,(bV fO),(bV hK),(bV jq),jD]
         refine⟨fa (by kernel_rfl),?_⟩
         (try simp only[bb.down,simprocAttr,bz,(bV fO),(bV hK),(bV jq),jD]at ai⊢);exact ai
        refine jg rfl ?_
        refine ws _ ?_
        exact aD (fY _ (.inl (aH [.bool false])))
       ·rcases e9 h with⟨jC,h⟩|⟨jC,h⟩
        ·obtain⟨eb,n2,h⟩:=aE h
         obtain⟨dh,Ez,h⟩:=aE h
         refine fj rfl (fi [(0,.slice (a0.map bz)),(4,.bd (bz af)),(5,.slice (a0.map bz)),(6,.int .i64 (a0.length:Int)),(7,.int .i64 eP),(48,.bool (decide (0≤dh)))] (fun P ai=> ?_) ?_)
         ·simp only[cD.down,simprocAttr,hy.down,(bV fO),(bV hK),(bV jq),jD,jC,n2]
          refine hf (la af.Left _ gl) rfl rfl rfl rfl (.inl (by rfl)) ?_
          simp only[cD.down,simprocAttr,hy.down,(bV fO),(bV hK),(bV jq),jD,jC,n2]
          refine kA (la af.cp _ ml) rfl rfl rfl rfl (.inl (by rfl)) ?_
          simp only[cD.down,simprocAttr,hy.down,(bV fO),(bV hK),(bV jq),jD,jC,n2]
          refine kA (la af.Result _ so) rfl rfl rfl rfl (.inl (by rfl)) ?_
          simp only[cD.down,simprocAttr,hy.down,(bV fO),(bV hK),(bV jq),jD,jC,n2]
          refine kA (azD eb af _ Ez) rfl rfl rfl rfl (.inl (by rfl)) ?_
          simp only[cD.down,simprocAttr,hy.down,(bV fO),(bV hK),(bV jq),jD,jC,n2]
          refine⟨fa (by kernel_rfl),?_⟩
          (try simp only[bb.down,simprocAttr,bz,(bV fO),(bV hK),(bV jq),jD,jC,n2]at ai⊢);exact ai
         refine aT h (fun Iw h=> ?_) (fun Iw h=> ?_)
         ·refine ws _ ?_
          exact aD (fY _ (.inl (aH [.bool false])))
         ·refine aY (n13 _ (.inl ?_))
          obtain⟨c_,sq,h⟩:=aE h
          refine cP (bU [(0,.slice (a0.map bz)),(5,.slice (a0.map bz)),(6,.int .i64 (a0.length:Int)),(7,.int .i64 eP),(51,.bool c_)] (fun P ai=> ?_) ?_)
          ·simp only[aO.down,simprocAttr,bz]
           refine e1 (P7 a0 af _ sq) rfl rfl (by simp only[aO.down,simprocAttr,bz,fJ,fK,fL,de]<;>rfl) rfl (.inr (by rfl)) ?_
           simp only[aO.down,simprocAttr,bz]
           (try simp only[bb.down,simprocAttr,bz]at ai⊢);exact ai
          refine aT h (fun azH h=> ?_) (fun azH h=> ?_)
          ·refine ws _ ?_
           exact aD (cx _ (.inl (aH [.bool false])))
          ·refine aY (n10 _ (cL _ (.inl ?_)))
           refine wr _ ?_
           exact dH _ (.inr ⟨_,bq rfl,eZ (IntKind.i64.wrap (eP+1)) h⟩)
        ·refine fj rfl (fi [(0,.slice (a0.map bz)),(4,.bd (bz af)),(5,.slice (a0.map bz)),(6,.int .i64 (a0.length:Int)),(7,.int .i64 eP),(48,.bool false)] (fun P ai=> ?_) ?_)
         ·simp only[cD.down,simprocAttr,hy.down,(bV fO),(bV hK),(bV jq),jD,jC]
          refine hf (la af.Left _ gl) rfl rfl rfl rfl (.inl (by rfl)) ?_
          simp only[cD.down,simprocAttr,hy.down,(bV fO),(bV hK),(bV jq),jD,jC]
          refine kA (la af.cp _ ml) rfl rfl rfl rfl (.inl (by rfl)) ?_
          simp only[cD.down,simprocAttr,hy.down,(bV fO),(bV hK),(bV jq),jD,jC]
          refine kA (la af.Result _ so) rfl rfl rfl rfl (.inl (by rfl)) ?_
          simp only[cD.down,simprocAttr,hy.down,(bV fO),(bV hK),(bV jq),jD,jC]
          refine⟨fa (by kernel_rfl),?_⟩
          (try simp only[bb.down,simprocAttr,bz,(bV fO),(bV hK),(bV jq),jD,jC]at ai⊢);exact ai
         refine qV rfl ?_
         refine aY (n13 _ (.inl ?_))
         obtain⟨eO,w9,h⟩:=aE h
         refine cP (bU [(0,.slice (a0.map bz)),(5,.slice (a0.map bz)),(6,.int .i64 (a0.length:Int)),(7,.int .i64 eP),(51,.bool eO)] (fun P ai=> ?_) ?_)
         ·simp only[aO.down,simprocAttr,bz]
          refine e1 (P7 a0 af _ w9) rfl rfl (by simp only[aO.down,simprocAttr,bz,fJ,fK,fL,de]<;>rfl) rfl (.inr (by rfl)) ?_
          simp only[aO.down,simprocAttr,bz]
          (try simp only[bb.down,simprocAttr,bz]at ai⊢);exact ai
         refine aT h (fun uI h=> ?_) (fun uI h=> ?_)
         ·refine ws _ ?_
          exact aD (cx _ (.inl (aH [.bool false])))
         ·refine aY (n10 _ (cL _ (.inl ?_)))
          refine wr _ ?_
          exact dH _ (.inr ⟨_,bq rfl,eZ (IntKind.i64.wrap (eP+1)) h⟩)
   ·refine dA (cQ 0 _ (bh 0 _ (b4 _ (bW _ (.inl ?_)))))
    refine ws _ ?_
    exact aD (al _ (.inl (aH [.bool (decide ((a0.length:Int)≤6))])))
 obtain⟨n,h⟩:=dy h
 exact dC (.inr ⟨_,bq rfl,e8 n 0 h⟩)
theorem P8 (a0:List (List UInt8)) (r:Bool) (h:zB a0=some r):bl aB 161 [.slice (a0.map bE)] (.bool r) []:=by
 refine bT [0] [.tmp 2] Tryz.func161 aoM (fun bO al bN=> ?_)
 refine ws _ ?_
 refine aI al (fun d_ bW bg ak=> ?_)
 refine ws _ ?_
 refine bH bg (fun dK et cd b4 bm=> ?_)
 have e8:∀(n:Nat) (eP:Int),tZ a0 n eP=some r→dp aB O1 dK (ab [(0,.slice (a0.map bE)),(5,.slice (a0.map bE)),(6,.int .i64 (a0.length:Int)),(7,.int .i64 eP)]):=by
  intro m6
  induction m6 with
  |zero=>intro eP h;cases(show none=some r from h)
  |succ m6 eZ=>
   intro eP h
   replace h:Ds (tZ a0 m6) a0 eP=some r:=h
   refine dE cd (fun gO dH cS bh=> ?_)
   refine ws _ ?_
   refine aI cS (fun gZ n7 dY cQ=> ?_)
   refine aT h (fun cH h=> ?_) (fun cH h=> ?_)
   ·refine aY (n7 _ (.inl ?_))
    refine aI cS (fun eh cL cl dh=> ?_)
    refine bH cl (fun eJ n10 cx ek c_=> ?_)
    obtain⟨af,eo,h⟩:=aE h
    refine hI eo _ ?_
    obtain⟨ak,ee,h⟩:=aE h
    rcases e9 h with⟨eU,h⟩|⟨eU,h⟩
    ·refine im (fk eU) (la af _ ee) _ ?_
     refine jg rfl ?_
     refine ws _ ?_
     exact aD (cx _ (.inl (aH [.bool false])))
    ·rcases e9 h with⟨jB,h⟩|⟨jB,h⟩
     ·obtain⟨aV,eQ,h⟩:=aE h
      refine im (And.intro (bV eU) (And.intro jB eQ)) (la af _ ee) _ ?_
      refine aT h (fun hA h=> ?_) (fun hA h=> ?_)
      ·refine ws _ ?_
       exact aD (cx _ (.inl (aH [.bool false])))
      ·refine aY (n10 _ (cL _ (.inl ?_)))
       refine wr _ ?_
       exact dH _ (.inr ⟨_,bq rfl,eZ (IntKind.i64.wrap (eP+1)) h⟩)
     ·refine im (And.intro (bV eU) jB) (la af _ ee) _ ?_
      refine qV rfl ?_
      refine aY (n10 _ (cL _ (.inl ?_)))
      refine wr _ ?_
      exact dH _ (.inr ⟨_,bq rfl,eZ (IntKind.i64.wrap (eP+1)) h⟩)
   ·refine dA (cQ 0 _ (bh 0 _ (b4 _ (bW _ (.inl ?_)))))
    refine ws _ ?_
    exact aD (al _ (.inl (aH [.bool (decide ((a0.length:Int)≤12))])))
 obtain⟨n,h⟩:=dy h
 exact dC (.inr ⟨_,bq rfl,e8 n 0 h⟩)
theorem azI (a0:ea) (r:Int) (h:Dt a0=some r):bl aB 105 [gz a0] (.int .i64 r) []:=by
 refine bT [0] [.tmp 2] Tryz.func105 ao4 (fun bO al bN=> ?_)
 refine ws _ ?_
 refine aI al (fun d_ bW bg ak=> ?_)
 refine bH bg (fun kq gL di lJ aV=> ?_)
 obtain⟨af,cR,h⟩:=aE h
 refine dx (azt a0.ew _ cR) _ ?_
 refine aT h (fun ep h=> ?_) (fun ep h=> ?_)
 ·refine ws _ ?_
  exact aD (di _ (.inl (aH [.int .i64 1])))
 ·obtain⟨ak,lh,h⟩:=aE h
  rcases e9 h with⟨ek,h⟩|⟨ek,h⟩
  ·refine im (fk ek) (kt (a0.c8.length:Int) 1 3 _ lh) _ ?_
   refine jg rfl ?_
   refine ws _ ?_
   exact aD (di _ (.inl (aH [.int .i64 2])))
  ·obtain⟨aV,eo,h⟩:=aE h
   refine cP (bU [(1,.bd (gz a0)),(8,.bool aV)] (fun P ai=> ?_) ?_)
   ·simp only[aO.down,simprocAttr,pz.down,(bV ek)]
    refine e1 (kt (a0.c8.length:Int) 1 3 _ lh) rfl rfl rfl rfl (.inl (by rfl)) ?_
    simp only[aO.down,simprocAttr,pz.down,(bV ek)]
    refine hQ (azA a0.c8 a0 _ eo) rfl rfl (by simp only[aO.down,simprocAttr,pz.down,(bV ek),fJ,fK,fL,de, @b5 _ bA bA (fun _=>uu _), @b5 _ e2 e2 (fun _=>uv _), @b5 _ bz bz (fun _=>mN _), @b5 _ bE bE (fun _=>iK _), @b5 _ bE bE (fun _=>iK _)]<;>rfl) rfl (.inr (by rfl)) ?_
    simp only[aO.down,simprocAttr,pz.down,(bV ek)]
    (try simp only[bb.down,simprocAttr,wX.down,(bV ek)]at ai⊢);exact ai
   refine aT h (fun gM h=> ?_) (fun gM h=> ?_)
   ·refine ws _ ?_
    exact aD (di _ (.inl (aH [.int .i64 2])))
   ·obtain⟨bm,cg,h⟩:=aE h
    refine dx (azG a0.hE _ cg) _ ?_
    refine aT h (fun jB h=> ?_) (fun jB h=> ?_)
    ·refine ws _ ?_
     exact aD (di _ (.inl (aH [.int .i64 3])))
    ·obtain⟨bh,i6,h⟩:=aE h
     refine dx (P8 a0.hv _ i6) _ ?_
     refine aT h (fun Ar h=> ?_) (fun Ar h=> ?_)
     ·refine ws _ ?_
      exact aD (di _ (.inl (aH [.int .i64 4])))
     ·obtain⟨bM,ke,h⟩:=aE h
      refine dx (P8 a0.hx _ ke) _ ?_
      refine aT h (fun lV h=> ?_) (fun lV h=> ?_)
      ·refine ws _ ?_
       exact aD (di _ (.inl (aH [.int .i64 5])))
      ·refine aY (gL _ (bW _ (.inl ?_)))
       refine ws _ ?_
       exact aD (al _ (.inl (aH [.int .i64 0])))
theorem IL (a0:ea) (r:Bool) (h:Du a0=some r):bl aB 63 [gz a0] (.bool r) []:=by
 refine bT [0] [.tmp 2] Tryz.func63 ao7 (fun bO al bN=> ?_)
 refine ws _ ?_
 obtain⟨af,aQ,h⟩:=aE h
 refine dx (azI a0 _ aQ) _ ?_
 exact aD (al _ (.inl (aH [.bool (af==0)])))
theorem azJ (a0:List bj) (R:aW) (r:Bool) (h:zC a0 R=some r):bl aB 88 [.slice (a0.map bA),bD R] (.bool r) []:=by
 refine bT [0,1] [.tmp 4] Tryz.func88 apd (fun bO al bN=> ?_)
 refine ws _ ?_
 refine aI al (fun d_ bW bg ak=> ?_)
 obtain⟨af,cF,h⟩:=aE h
 rcases e9 h with⟨cN,h⟩|⟨cN,h⟩
 ·refine fj rfl (fi [(0,.slice (a0.map bA)),(3,.bd (bD R)),(24,.bool true)] (fun P ai=> ?_) ?_)
  ·simp only[cD.down,simprocAttr,Af.down,(fk cN)]
   refine hf (su R.cm (a0.length:Int) _ cF) rfl rfl rfl rfl (.inl (by rfl)) ?_
   simp only[cD.down,simprocAttr,Af.down,(fk cN)]
   refine⟨fa (by kernel_rfl),?_⟩
   (try simp only[bb.down,simprocAttr,uB.down,(fk cN)]at ai⊢);exact ai
  refine jg rfl ?_
  refine ws _ ?_
  exact aD (bg _ (.inl (aH [.bool false])))
 ·obtain⟨ak,b3,h⟩:=aE h
  obtain⟨aV,hq,h⟩:=aE h
  refine fj rfl (fi [(0,.slice (a0.map bA)),(3,.bd (bD R)),(24,.bool (!aV))] (fun P ai=> ?_) ?_)
  ·simp only[cD.down,simprocAttr,Af.down,(bV cN),b3]
   refine hf (su R.cm (a0.length:Int) _ cF) rfl rfl rfl rfl (.inl (by rfl)) ?_
   simp only[cD.down,simprocAttr,Af.down,(bV cN),b3]
   refine kA (su R.Part (ak.Body.length:Int) _ hq) rfl rfl rfl rfl (.inl (by rfl)) ?_
   simp only[cD.down,simprocAttr,Af.down,(bV cN),b3]
   refine⟨fa (by kernel_rfl),?_⟩
   (try simp only[bb.down,simprocAttr,uB.down,(bV cN),b3]at ai⊢);exact ai
  refine aT h (fun gj h=> ?_) (fun gj h=> ?_)
  ·refine ws _ ?_
   exact aD (bg _ (.inl (aH [.bool false])))
  ·refine aY (bW _ (.inl ?_))
   refine hI b3 _ ?_
   obtain⟨bm,dS,h⟩:=aE h
   rcases e9 h with⟨gk,h⟩|⟨gk,h⟩
   ·obtain⟨bh,el,h⟩:=aE h
    obtain⟨bM,cg,h⟩:=aE h
    rcases e9 h with⟨jB,h⟩|⟨jB,h⟩
    ·obtain⟨cQ,eQ,h⟩:=aE h
     refine fj rfl (fi [(4,.bool cQ)] (fun P ai=> ?_) ?_)
     ·simp only[cD.down,simprocAttr,Ag.down,dS,gk,cg,cG cg,jB]
      refine kA (IH ak _ el) rfl rfl rfl rfl (.inl (by rfl)) ?_
      simp only[cD.down,simprocAttr,Ag.down,dS,gk,cg,cG cg,jB]
      refine kA (P5 R.bS _ eQ) rfl rfl rfl rfl (.inl (by rfl)) ?_
      simp only[cD.down,simprocAttr,Ag.down,dS,gk,cg,cG cg,jB]
      refine⟨fa (by kernel_rfl),?_⟩
      (try simp only[bb.down,simprocAttr,bs,bA,cA,bD,cc,dT,ey,dS,gk,cg,cG cg,jB]at ai⊢);exact ai
     exact aD (al _ (.inl (aH [.bool cQ])))
    ·refine fj rfl (fi [(4,.bool false)] (fun P ai=> ?_) ?_)
     ·simp only[cD.down,simprocAttr,Ag.down,dS,gk,cg,cG cg,jB]
      refine kA (IH ak _ el) rfl rfl rfl rfl (.inl (by rfl)) ?_
      simp only[cD.down,simprocAttr,Ag.down,dS,gk,cg,cG cg,jB]
      refine⟨fa (by kernel_rfl),?_⟩
      (try simp only[bb.down,simprocAttr,bs,bA,cA,bD,cc,dT,ey,dS,gk,cg,cG cg,jB]at ai⊢);exact ai
     exact aD (al _ (.inl (aH [.bool false])))
   ·refine fj rfl (fi [(4,.bool false)] (fun P ai=> ?_) ?_)
    ·simp only[cD.down,simprocAttr,eg,qd,eI,hU,k5,jw,kG,gh,gR,hZ,qg,tD,fS,bs,bA,cA,bD,cc,ey,dS,gk]
     refine⟨fa (by kernel_rfl),?_⟩
     (try simp only[bb.down,simprocAttr,uB.down,dS,gk]at ai⊢);exact ai
    exact aD (al _ (.inl (aH [.bool false])))
theorem azK (a0:aW) (R:ea) (r:Bool) (h:HN a0 R=some r):bl aB 87 [bD a0,.ref (gz R)] (.bool r) []:=by
 refine bT [0,1] [.tmp 3] Tryz.func87 apg (fun bO al bN=> ?_)
 refine ws _ ?_
 obtain⟨af,aQ,h⟩:=aE h
 refine dx (azJ R.ew a0 _ aQ) _ ?_
 exact aD (al _ (.inl (aH [.bool (!af)])))
theorem azL (a0:List aW) (R:ea) (r:Int) (h:HO a0 R=some r):bl aB 140 [.slice (a0.map bD),.fn 87 [.ref (gz R)]] (.int .i64 r) []:=by
 refine bT [0,1] [.tmp 4] Tryz.func140 aps (fun bO al bN=> ?_)
 refine ws _ ?_
 refine aI al (fun d_ bW bg ak=> ?_)
 refine ws _ ?_
 refine bH bg (fun dK et cd b4 bm=> ?_)
 have e8:∀(n:Nat) (cY:Int),wM a0 R n cY=some r→dp aB O2 dK (ab [(0,.slice (a0.map bD)),(1,.fn 87 [.ref (gz R)]),(7,.int .i64 (a0.length:Int)),(8,.int .i64 cY)]):=by
  intro m6
  induction m6 with
  |zero=>intro cY h;cases(show none=some r from h)
  |succ m6 eZ=>
   intro cY h
   replace h:Dv (wM a0 R m6) a0 R cY=some r:=h
   refine dE cd (fun gO dH cS bh=> ?_)
   refine ws _ ?_
   refine aI cS (fun gZ n7 dY cQ=> ?_)
   refine aT h (fun cH h=> ?_) (fun cH h=> ?_)
   ·refine aY (n7 _ (.inl ?_))
    refine aI cS (fun eh cL cl dh=> ?_)
    refine bH cl (fun eJ n10 cx ek c_=> ?_)
    refine ws _ ?_
    obtain⟨af,dS,h⟩:=aE h
    obtain⟨ak,ee,h⟩:=aE h
    refine im dS (azK af R _ ee) _ ?_
    refine aT h (fun eU h=> ?_) (fun eU h=> ?_)
    ·refine ws _ ?_
     exact aD (cx _ (.inl (aH [.int .i64 cY])))
    ·refine aY (n10 _ (cL _ (.inl ?_)))
     refine wr _ ?_
     exact dH _ (.inr ⟨_,bq rfl,eZ (IntKind.i64.wrap (cY+1)) h⟩)
   ·refine dA (cQ 0 _ (bh 0 _ (b4 _ (bW _ (.inl ?_)))))
    refine ws _ ?_
    exact aD (al _ (.inl (aH [.int .i64 (-1)])))
 obtain⟨n,h⟩:=dy h
 exact dC (.inr ⟨_,bq rfl,e8 n 0 h⟩)
theorem azM (a0:List aW) (R:ea) (r:Bool) (h:Dw a0 R=some r):bl aB 86 [.slice (a0.map bD),.fn 87 [.ref (gz R)]] (.bool r) []:=by
 refine bT [0,1] [.tmp 4] Tryz.func86 apv (fun bO al bN=> ?_)
 refine ws _ ?_
 obtain⟨af,aQ,h⟩:=aE h
 refine dx (azL a0 R _ aQ) _ ?_
 exact aD (al _ (.inl (aH [.bool (decide (0≤af))])))
theorem azN (a0:ea) (R:List aW) (r:Bool) (h:HP a0 R=some r):bl aB 49 [gz a0,.slice (R.map bD)] (.bool r) []:=by
 refine bT [0,1] [.tmp 4] Tryz.func49 apy (fun bO al bN=> ?_)
 refine ws _ ?_
 obtain⟨ak,cF,h⟩:=aE h
 rcases e9 h with⟨cN,h⟩|⟨cN,h⟩
 ·rcases e9 h with⟨ep,h⟩|⟨ep,h⟩
  ·obtain⟨aV,b3,h⟩:=aE h
   refine cP (bU [(4,.bool (!aV))] (fun P ai=> ?_) ?_)
   ·simp only[aO.down,simprocAttr,wY.down,cN,ep]
    refine e1 (IL a0 _ cF) rfl rfl rfl rfl (.inl (by rfl)) ?_
    simp only[aO.down,simprocAttr,wY.down,cN,ep]
    refine hQ (azM R a0 _ b3) rfl rfl (by simp only[aO.down,simprocAttr,wY.down,cN,ep,fJ,fK,fL,de, @b5 _ bA bA (fun _=>uu _), @b5 _ e2 e2 (fun _=>uv _), @b5 _ bz bz (fun _=>mN _), @b5 _ bE bE (fun _=>iK _), @b5 _ bE bE (fun _=>iK _)]<;>rfl) rfl (.inr (by rfl)) ?_
    simp only[aO.down,simprocAttr,wY.down,cN,ep]
    (try simp only[bb.down,simprocAttr,bs,e2,bA,bz,cA,bD,gz,cc,ey,bE,cN,ep]at ai⊢);exact ai
   exact aD (al _ (.inl (aH [.bool (!aV)])))
  ·refine im (And.intro cN ep) (IL a0 _ cF) _ ?_
   exact aD (al _ (.inl (aH [.bool false])))
 ·refine im cN (IL a0 _ cF) _ ?_
  exact aD (al _ (.inl (aH [.bool false])))
theorem azO (a0:List Int) (r:(List Int)) (h:Dx a0=some r):bl aB 167 [.slice (a0.map bs)] (.an 1 (r.map bs)) []:=by
 refine bT [0] [.tmp 2] Tryz.func167 apE (fun bO al bN=> ?_)
 refine ws _ ?_
 refine aI al (fun d_ bW bg ak=> ?_)
 rcases e9 h with⟨b4,h⟩|⟨b4,h⟩
 ·refine cP (bU [(0,.slice (a0.map bs)),(4,.fb)] (fun P ai=> ?_) ?_)
  ·simp only[aO.down,simprocAttr,nW.down,BN,(Mh b4),BO]
   (try simp only[bb.down,simprocAttr,bs,BN,(Mh b4),BO]at ai⊢);exact ai
  obtain⟨bK,h⟩:=Rq h
  refine Vc rfl ?_ ?_
  ·replace h:=bK
   refine ws _ ?_
   exact aD (bg _ (.inr ⟨[(2,.an 1 [])],nK [] rfl (nM (t:=2) (d:=.bk) rfl rfl (.l8 _) (by decide) (nL)),aH [.an 1 []]⟩))
  ·refine aY (bW _ (.inl ?_))
   obtain⟨u8,hq,h⟩:=aE h
   (try simp only[q7.down,Nat.reduceAdd]at hq)
   refine cP (bU [(2,.an 1 (a0.map bs))] (fun P ai=> ?_) ?_)
   ·simp only[aO.down,simprocAttr,nW.down,(show∀s,dG aB s 46 0 []=some (.an 1 [],s)from fun s=>by kernel_rfl), @ma aB 46 46 2 rfl rfl,mb,mc,me,all_cons,all_nil,hq, @kC _ bs 1 (fun _=>rfl)]
    (try simp only[bb.down,simprocAttr,bs,(show∀s,dG aB s 46 0 []=some (.an 1 [],s)from fun s=>by kernel_rfl), @ma aB 46 46 2 rfl rfl,mb,mc,me,all_cons,all_nil,hq, @kC _ bs 1 (fun _=>rfl)]at ai⊢);exact ai
   exact aD (al _ (.inl (aH [.an 1 (a0.map bs)])))
 ·refine cP (bU [(0,.slice (a0.map bs)),(4,.bool false)] (fun P ai=> ?_) ?_)
  ·simp only[aO.down,simprocAttr,nW.down,BN,(Mi b4),BO]
   (try simp only[bb.down,simprocAttr,bs,BN,(Mi b4),BO]at ai⊢);exact ai
  refine qV rfl ?_
  refine aY (bW _ (.inl ?_))
  obtain⟨aFs,mu,h⟩:=aE h
  (try simp only[q7.down,Nat.reduceAdd]at mu)
  refine cP (bU [(2,.an 1 (a0.map bs))] (fun P ai=> ?_) ?_)
  ·simp only[aO.down,simprocAttr,nW.down,(show∀s,dG aB s 46 0 []=some (.an 1 [],s)from fun s=>by kernel_rfl), @ma aB 46 46 2 rfl rfl,mb,mc,me,all_cons,all_nil,mu, @kC _ bs 1 (fun _=>rfl)]
   (try simp only[bb.down,simprocAttr,bs,(show∀s,dG aB s 46 0 []=some (.an 1 [],s)from fun s=>by kernel_rfl), @ma aB 46 46 2 rfl rfl,mb,mc,me,all_cons,all_nil,mu, @kC _ bs 1 (fun _=>rfl)]at ai⊢);exact ai
  exact aD (al _ (.inl (aH [.an 1 (a0.map bs)])))
theorem azP (a0:aW) (r:aW) (h:HQ a0=some r):bl aB 121 [bD a0] (b6 r) []:=by
 refine bT [0] [.cell 2 82] Tryz.func121 apI (fun bO al bN=> ?_)
 refine ws _ ?_
 obtain⟨af,aQ,h⟩:=aE h
 refine dx (azO a0.bS _ aQ) _ ?_
 refine ws _ ?_
 exact aD (al _ (.inl (aH [b6 (aW.mk a0.cm a0.Part af)])))
theorem azQ (a0:List aW) (r:(List aW)) (h:Dz a0=some r):bl aB 89 [.slice (a0.map bD)] (.an 3 (r.map b6)) []:=by
 refine bT [0] [.tmp 2] Tryz.func89 apS (fun bO al bN=> ?_)
 refine ws _ ?_
 refine ws _ ?_
 refine aI al (fun kq gL di aV=> ?_)
 refine ws _ ?_
 refine bH di (fun gO dH cS cN bh=> ?_)
 have jz:∀(n:Nat) (bG:List aW) (iZ:Int),t_ a0 n bG iZ=some r→dp aB O3 gO (ab [(3,.an 3 (bG.map b6)),(6,.slice (a0.map bD)),(7,.int .i64 (a0.length:Int)),(8,.int .i64 iZ)]):=by
  intro m8
  induction m8 with
  |zero=>intro bG iZ h;cases(show none=some r from h)
  |succ m8 jA=>
   intro bG iZ h
   replace h:Dy (t_ a0 m8) a0 bG iZ=some r:=h
   refine dE cS (fun eY n6 dj bM=> ?_)
   refine ws _ ?_
   refine aI dj (fun hg n8 gN eb=> ?_)
   refine aT h (fun gj h=> ?_) (fun gj h=> ?_)
   ·refine aY (n8 _ (.inl ?_))
    refine aI dj (fun eJ n10 cx c_=> ?_)
    refine bH cx (fun ir n11 fD k9 eO=> ?_)
    obtain⟨af,dS,h⟩:=aE h
    refine hI dS _ ?_
    obtain⟨ak,el,h⟩:=aE h
    obtain⟨Px,cg,h⟩:=aE h
    (try simp only[q7.down,Nat.reduceAdd]at cg)
    refine jV (bU [(3,.an 3 ((bG++[ak]).map b6)),(6,.slice (a0.map bD)),(7,.int .i64 (a0.length:Int)),(8,.int .i64 iZ)] (fun P ai=> ?_) ?_)
    ·simp only[aO.down,simprocAttr,ns.down, @wc aB 31 82 1 3 [(.agg [(.int .i64 0),(.int .i64 0),.bk])] rfl rfl rfl (by kernel_rfl),tq,we,tr,wg,dN,me,List.nil_append,List.cons_append, @ma aB 31 31 82 rfl rfl,mb,mc,all_cons,all_nil,cg, @kC _ b6 3 (fun _=>rfl)]
     refine e1 (azP af _ el) rfl rfl rfl rfl (.inl (by rfl)) ?_
     simp only[aO.down,simprocAttr,ns.down, @wc aB 31 82 1 3 [(.agg [(.int .i64 0),(.int .i64 0),.bk])] rfl rfl rfl (by kernel_rfl),tq,we,tr,wg,dN,me,List.nil_append,List.cons_append, @ma aB 31 31 82 rfl rfl,mb,mc,all_cons,all_nil,cg, @kC _ b6 3 (fun _=>rfl)]
     (try simp only[bb.down,simprocAttr,kb.down, @wc aB 31 82 1 3 [(.agg [(.int .i64 0),(.int .i64 0),.bk])] rfl rfl rfl (by kernel_rfl),tq,we,tr,wg,dN,me,List.nil_append,List.cons_append, @ma aB 31 31 82 rfl rfl,mb,mc,all_cons,all_nil,cg, @kC _ b6 3 (fun _=>rfl)]at ai⊢);exact ai
    refine n11 _ (n10 _ (.inl ?_))
    refine wr [(3,.an 3 ((bG++[ak]).map b6)),(6,.slice (a0.map bD)),(7,.int .i64 (a0.length:Int)),(8,.int .i64 (IntKind.i64.wrap (iZ+1)))] ?_
    exact n6 _ (.inr ⟨_,bq rfl,jA (bG++[ak]) (IntKind.i64.wrap (iZ+1)) h⟩)
   ·refine dA (eb 0 _ (bM 0 _ (cN _ (gL _ (.inl ?_)))))
    refine ws _ ?_
    exact aD (al _ (.inl (aH [.an 3 (bG.map b6)])))
 obtain⟨n,h⟩:=dy h
 exact dC (.inr ⟨_,nK [] rfl (nM (t:=3) (d:=.bk) (bp:=.an 3 []) rfl rfl (.l8 _) (by decide) (iD (t:=6) (d:=.slice (a0.map bD)) rfl (iD (t:=7) (d:=.int .i64 (a0.length:Int)) rfl (iD (t:=8) (d:=.int .i64 0) rfl (nL))))),jz n [] 0 h⟩)
theorem P9 (a0:Int) (r:Bool) (h:DA a0=some r):bl aB 202 [.int .i64 a0] (.bool r) []:=by
 refine bT [0] [.tmp 2] Tryz.func202 apV (fun bO al bN=> ?_)
 refine ws _ ?_
 refine ws _ ?_
 exact aD (al _ (.inl (aH [.bool (a0 !=a0)])))
theorem IM (a0:Int) (R:Int) (r:Int) (h:wN a0 R=some r):bl aB 146 [.int .i64 a0,.int .i64 R] (.int .i64 r) []:=by
 refine bT [0,1] [.tmp 4] Tryz.func146 aqe (fun bO al bN=> ?_)
 refine ws _ ?_
 obtain⟨af,aQ,h⟩:=aE h
 refine dx (P9 a0 _ aQ) _ ?_
 obtain⟨ak,cR,h⟩:=aE h
 refine dx (P9 R _ cR) _ ?_
 refine aI al (fun eY n6 dj bM=> ?_)
 refine ws _ ?_
 refine aT h (fun cH h=> ?_) (fun cH h=> ?_)
 ·refine aI dj (fun eh cL cl dh=> ?_)
  refine ws _ ?_
  refine aT h (fun k9 h=> ?_) (fun k9 h=> ?_)
  ·refine ws _ ?_
   exact aD (cl _ (.inl (aH [.int .i64 0])))
  ·refine aY (cL _ (.inl ?_))
   refine ws _ ?_
   exact aD (dj _ (.inl (aH [.int .i64 (-1)])))
 ·refine aY (n6 _ (.inl ?_))
  refine aI al (fun iL n14 eX hV=> ?_)
  refine ws _ ?_
  refine aT h (fun kd h=> ?_) (fun kd h=> ?_)
  ·refine ws _ ?_
   exact aD (eX _ (.inl (aH [.int .i64 1])))
  ·refine aY (n14 _ (.inl ?_))
   refine aI al (fun Aq n18 qp oN=> ?_)
   refine ws _ ?_
   refine aT h (fun e3 h=> ?_) (fun e3 h=> ?_)
   ·refine ws _ ?_
    exact aD (qp _ (.inl (aH [.int .i64 (-1)])))
   ·refine aY (n18 _ (.inl ?_))
    refine aI al (fun uF n22 mR oO=> ?_)
    refine ws _ ?_
    refine aT h (fun i1 h=> ?_) (fun i1 h=> ?_)
    ·refine ws _ ?_
     exact aD (mR _ (.inl (aH [.int .i64 1])))
    ·refine aY (n22 _ (.inl ?_))
     refine ws _ ?_
     exact aD (al _ (.inl (aH [.int .i64 0])))
theorem azR (a0:List Int) (R:List Int) (r:Int) (h:DC a0 R=some r):bl aB 147 [.slice (a0.map bs),.slice (R.map bs)] (.int .i64 r) []:=by
 refine bT [0,1] [.tmp 4] Tryz.func147 aqx (fun bO al bN=> ?_)
 refine ws _ ?_
 refine aI al (fun d_ bW bg ak=> ?_)
 refine ws _ ?_
 refine bH bg (fun dK et cd b4 bm=> ?_)
 have e8:∀(n:Nat) (iJ:Int),ua a0 R n iJ=some r→dp aB O4 dK (ab [(0,.slice (a0.map bs)),(1,.slice (R.map bs)),(9,.slice (a0.map bs)),(10,.int .i64 (a0.length:Int)),(11,.int .i64 iJ)]):=by
  intro m6
  induction m6 with
  |zero=>intro iJ h;cases(show none=some r from h)
  |succ m6 eZ=>
   intro iJ h
   replace h:DB (ua a0 R m6) a0 R iJ=some r:=h
   refine dE cd (fun gO dH cS bh=> ?_)
   refine ws _ ?_
   refine aI cS (fun gZ n7 dY cQ=> ?_)
   refine aT h (fun cH h=> ?_) (fun cH h=> ?_)
   ·refine aY (n7 _ (.inl ?_))
    refine aI cS (fun eh cL cl dh=> ?_)
    refine bH cl (fun eJ n10 cx ek c_=> ?_)
    obtain⟨af,eo,h⟩:=aE h
    refine hI eo _ ?_
    refine aI cx (fun k_ n13 fY jm=> ?_)
    refine ws _ ?_
    refine aT h (fun eU h=> ?_) (fun eU h=> ?_)
    ·refine ws _ ?_
     exact aD (fY _ (.inl (aH [.int .i64 1])))
    ·refine aY (n13 _ (.inl ?_))
     obtain⟨ak,eQ,h⟩:=aE h
     refine hI eQ _ ?_
     obtain⟨aV,i6,h⟩:=aE h
     refine dx (IM af ak _ i6) _ ?_
     refine ws _ ?_
     refine aT h (fun qn h=> ?_) (fun qn h=> ?_)
     ·refine ws _ ?_
      exact aD (cx _ (.inl (aH [.int .i64 aV])))
     ·refine aY (n10 _ (cL _ (.inl ?_)))
      refine wr _ ?_
      exact dH _ (.inr ⟨_,bq rfl,eZ (IntKind.i64.wrap (iJ+1)) h⟩)
   ·refine dA (cQ 0 _ (bh 0 _ (b4 _ (bW _ (.inl ?_)))))
    refine aI al (fun EB n25 q9 EC=> ?_)
    refine ws _ ?_
    refine aT h (fun n3 h=> ?_) (fun n3 h=> ?_)
    ·refine ws _ ?_
     exact aD (q9 _ (.inl (aH [.int .i64 (-1)])))
    ·refine aY (n25 _ (.inl ?_))
     refine ws _ ?_
     exact aD (al _ (.inl (aH [.int .i64 0])))
 obtain⟨n,h⟩:=dy h
 exact dC (.inr ⟨_,bq rfl,e8 n 0 h⟩)
theorem azS (a0:List Int) (r:Int) (h:HS a0=some r):bl aB 145 [.slice (a0.map bs)] (.int .i64 r) []:=by
 refine bT [0] [.tmp 2] Tryz.func145 aqJ (fun bO al bN=> ?_)
 refine ws _ ?_
 refine ws _ ?_
 refine aI al (fun kq gL di aV=> ?_)
 refine ws _ ?_
 refine bH di (fun gO dH cS cN bh=> ?_)
 have jz:∀(n:Nat) (iZ:Int),wO a0 n iZ=some r→dp aB O5 gO (ab [(3,.int .i64 0),(6,.slice (a0.map bs)),(7,.int .i64 (a0.length:Int)),(8,.int .i64 iZ)]):=by
  intro m8
  induction m8 with
  |zero=>intro iZ h;cases(show none=some r from h)
  |succ m8 jA=>
   intro iZ h
   replace h:HR (wO a0 m8) a0 iZ=some r:=h
   refine dE cS (fun eY n6 dj bM=> ?_)
   refine ws _ ?_
   refine aI dj (fun hg n8 gN eb=> ?_)
   refine aT h (fun gj h=> ?_) (fun gj h=> ?_)
   ·refine aY (n8 _ (.inl ?_))
    refine aI dj (fun eJ n10 cx c_=> ?_)
    refine bH cx (fun ir n11 fD k9 eO=> ?_)
    obtain⟨af,dS,h⟩:=aE h
    refine hI dS _ ?_
    refine ws _ ?_
    refine aT h (fun eU h=> ?_) (fun eU h=> ?_)
    ·refine ws _ ?_
     exact aD (fD _ (.inl (aH [.int .i64 af])))
    ·refine aY (n11 _ (n10 _ (.inl ?_)))
     refine wr _ ?_
     exact n6 _ (.inr ⟨_,bq rfl,jA (IntKind.i64.wrap (iZ+1)) h⟩)
   ·refine dA (eb 0 _ (bM 0 _ (cN _ (gL _ (.inl ?_)))))
    refine ws _ ?_
    exact aD (al _ (.inl (aH [.int .i64 0])))
 obtain⟨n,h⟩:=dy h
 exact dC (.inr ⟨_,bq rfl,jz n 0 h⟩)
theorem azT (a0:aW) (R:aW) (r:Int) (h:zD a0 R=some r):bl aB 91 [bD a0,bD R] (.int .i64 r) []:=by
 refine bT [0,1] [.tmp 4] Tryz.func91 aqM (fun bO al bN=> ?_)
 refine ws _ ?_
 obtain⟨af,aQ,h⟩:=aE h
 obtain⟨ak,cF,h⟩:=aE h
 obtain⟨aV,cR,h⟩:=aE h
 obtain⟨bm,ch,h⟩:=aE h
 refine fj rfl (fi [(4,.int .i64 bm)] (fun P ai=> ?_) ?_)
 ·simp only[cD.down,simprocAttr,wZ.down,(show∀s,dG aB s 239 3 [(0,.int .i64 af),(1,.int .i64 ak),(2,.int .i64 aV)]=some (.an 1 [.int .i64 af,.int .i64 ak,.int .i64 aV],s)from fun s=>by kernel_rfl)]
  refine hf (IM a0.cm R.cm _ aQ) rfl rfl rfl rfl (.inl (by rfl)) ?_
  simp only[cD.down,simprocAttr,wZ.down,(show∀s,dG aB s 239 3 [(0,.int .i64 af),(1,.int .i64 ak),(2,.int .i64 aV)]=some (.an 1 [.int .i64 af,.int .i64 ak,.int .i64 aV],s)from fun s=>by kernel_rfl)]
  refine hf (IM a0.Part R.Part _ cF) rfl rfl rfl rfl (.inl (by rfl)) ?_
  simp only[cD.down,simprocAttr,wZ.down,(show∀s,dG aB s 239 3 [(0,.int .i64 af),(1,.int .i64 ak),(2,.int .i64 aV)]=some (.an 1 [.int .i64 af,.int .i64 ak,.int .i64 aV],s)from fun s=>by kernel_rfl)]
  refine hf (azR a0.bS R.bS _ cR) rfl rfl rfl rfl (.inl (by rfl)) ?_
  simp only[cD.down,simprocAttr,wZ.down,(show∀s,dG aB s 239 3 [(0,.int .i64 af),(1,.int .i64 ak),(2,.int .i64 aV)]=some (.an 1 [.int .i64 af,.int .i64 ak,.int .i64 aV],s)from fun s=>by kernel_rfl)]
  refine hf (azS [af,ak,aV] _ ch) rfl rfl (by simp only[cD.down,simprocAttr,wZ.down,(show∀s,dG aB s 239 3 [(0,.int .i64 af),(1,.int .i64 ak),(2,.int .i64 aV)]=some (.an 1 [.int .i64 af,.int .i64 ak,.int .i64 aV],s)from fun s=>by kernel_rfl),fJ,fK,fL,de,I.shares, @b5 _ bs bs (fun _=>np _)]<;>rfl) rfl (.inr (by rfl)) ?_
  simp only[cD.down,simprocAttr,wZ.down,(show∀s,dG aB s 239 3 [(0,.int .i64 af),(1,.int .i64 ak),(2,.int .i64 aV)]=some (.an 1 [.int .i64 af,.int .i64 ak,.int .i64 aV],s)from fun s=>by kernel_rfl)]
  refine⟨fa (by kernel_rfl),?_⟩
  (try simp only[bb.down,simprocAttr,q8.down,(show∀s,dG aB s 239 3 [(0,.int .i64 af),(1,.int .i64 ak),(2,.int .i64 aV)]=some (.an 1 [.int .i64 af,.int .i64 ak,.int .i64 aV],s)from fun s=>by kernel_rfl)]at ai⊢);exact ai
 exact aD (al _ (.inl (aH [.int .i64 bm])))
theorem azU (a0 r:List aW) (h:wP a0=some r):bl aB 90 [.an 3 (a0.map b6),.fn 91 []] (.tuple []) [.an 3 (r.map b6),.hole]:=axn rfl azT a0 r h
theorem azV (a0:List aW) (r:(List aW)) (h:DD a0=some r):bl aB 50 [.slice (a0.map bD)] (.an 3 (r.map b6)) []:=by
 refine bT [0] [.tmp 2] Tryz.func50 aqR (fun bO al bN=> ?_)
 refine ws _ ?_
 obtain⟨af,aQ,h⟩:=aE h
 refine dx (azQ a0 _ aQ) _ ?_
 obtain⟨ak,cR,h⟩:=aE h
 refine cP (bU [(3,.an 3 (ak.map b6))] (fun P ai=> ?_) ?_)
 ·simp only[aO.down,simprocAttr,mQ.down]
  refine oF [⟨.h 3 [],true,_,_⟩,⟨.fn 91 [],false,_,.hole⟩] (azU af _ cR) rfl rfl rfl (by simp only[aO.down,simprocAttr,mQ.down,ni,lq,ji,fJ,fK,fL,de,or_true,true_or, @b5 _ b6 bD (fun _=>jY _)]) rfl rfl (.inl rfl) ?_
  simp only[aO.down,simprocAttr,mQ.down,lr]
  (try simp only[bb.down,simprocAttr,mQ.down]at ai⊢);exact ai
 refine ws _ ?_
 exact aD (al _ (.inl (aH [.an 3 (ak.map b6)])))
theorem P_ (a0:ea) (R:List aW) (r:(List aW)×Int) (h:zF a0 R=some r):bl aB 13 [gz a0,.slice (R.map bD)] (.tuple [.an 3 (r.1.map b6),.int .i64 r.2]) []:=by
 refine bT [0,1] [.tmp 4,.tmp 5] Tryz.func13 wU (fun bO al bN=> ?_)
 refine ws _ ?_
 refine aI al (fun d_ bW bg ak=> ?_)
 obtain⟨af,cF,h⟩:=aE h
 refine dx (azN a0 R _ cF) _ ?_
 refine aT h (fun cN h=> ?_) (fun cN h=> ?_)
 ·refine ws _ ?_
  exact aD (bg _ (.inr ⟨[(4,.an 3 []),(5,.int .i64 1)],nK [] rfl (nM (t:=4) (d:=.bk) rfl rfl (.l8 _) (by decide) (iD rfl (nL))),aH [.an 3 [],.int .i64 1]⟩))
 ·refine aY (bW _ (.inl ?_))
  obtain⟨ak,hq,h⟩:=aE h
  refine dx (azV R _ hq) _ ?_
  exact aD (al _ (.inl (aH [.an 3 (ak.map b6),.int .i64 0])))
theorem Qa (a0:List Int) (R:List Int) (r:Bool) (h:zG a0 R=some r):bl aB 27 [.slice (a0.map bs),.slice (R.map bs)] (.bool r) []:=by
 refine bT [0,1] [.tmp 4] Tryz.func27 aq9 (fun bO al bN=> ?_)
 refine ws _ ?_
 refine aI al (fun d_ bW bg ak=> ?_)
 refine ws _ ?_
 refine aT h (fun b4 h=> ?_) (fun b4 h=> ?_)
 ·refine ws _ ?_
  exact aD (bg _ (.inl (aH [.bool false])))
 ·refine aY (bW _ (.inl ?_))
  refine aI al (fun eY n6 dj bM=> ?_)
  refine ws _ ?_
  refine bH dj (fun hg n8 gN cH eb=> ?_)
  have hJ:∀(n:Nat) (bY:Int),DE a0 R n bY=some r→dp aB O6 hg (ab [(0,.slice (a0.map bs)),(1,.slice (R.map bs)),(5,.int .i64 bY)]):=by
   intro m14
   induction m14 with
   |zero=>intro bY h;cases(show none=some r from h)
   |succ m14 hh=>
    intro bY h
    replace h:NA (DE a0 R m14) a0 R bY=some r:=h
    refine dE gN (fun eh cL cl dh=> ?_)
    refine aI cl (fun eJ n10 cx c_=> ?_)
    refine ws _ ?_
    refine aT h (fun fg h=> ?_) (fun fg h=> ?_)
    ·refine aY (n10 _ (.inl ?_))
     refine aI cl (fun k_ n13 fY jm=> ?_)
     refine bH fY (fun iL n14 eX gk hV=> ?_)
     obtain⟨af,cg,h⟩:=aE h
     obtain⟨ak,ez,h⟩:=aE h
     refine fj rfl (fi [(0,.slice (a0.map bs)),(1,.slice (R.map bs)),(5,.int .i64 bY),(25,.bool (af !=ak))] (fun P ai=> ?_) ?_)
     ·simp only[cD.down,simprocAttr,nW.down,cg,ez]
      refine⟨fa (by kernel_rfl),?_⟩
      (try simp only[bb.down,simprocAttr,bs,cg,ez]at ai⊢);exact ai
     refine aT h (fun iM h=> ?_) (fun iM h=> ?_)
     ·refine ws _ ?_
      exact aD (eX _ (.inl (aH [.bool false])))
     ·refine aY (n14 _ (n13 _ (.inl ?_)))
      refine wr _ ?_
      exact cL _ (.inr ⟨_,bq rfl,hh (IntKind.i64.wrap (bY+1)) h⟩)
    ·refine dA (c_ 0 _ (dh 0 _ (cH _ (n6 _ (.inl ?_)))))
     refine ws _ ?_
     exact aD (al _ (.inl (aH [.bool true])))
  obtain⟨n,h⟩:=dy h
  exact dC (.inr ⟨_,bq rfl,hJ n 0 h⟩)
theorem azW (a0:aW) (R:aW) (r:Bool) (h:zH a0 R=some r):bl aB 51 [bD a0,bD R] (.bool r) []:=by
 refine bT [0,1] [.tmp 4] Tryz.func51 arn (fun bO al bN=> ?_)
 refine ws _ ?_
 refine aI al (fun d_ bW bg ak=> ?_)
 refine ws _ ?_
 refine aT h (fun b4 h=> ?_) (fun b4 h=> ?_)
 ·refine ws _ ?_
  exact aD (bg _ (.inl (aH [.bool false])))
 ·refine aY (bW _ (.inl ?_))
  refine aI al (fun eY n6 dj bM=> ?_)
  refine ws _ ?_
  refine aT h (fun cH h=> ?_) (fun cH h=> ?_)
  ·refine ws _ ?_
   exact aD (dj _ (.inl (aH [.bool false])))
  ·refine aY (n6 _ (.inl ?_))
   refine aI al (fun eJ n10 cx c_=> ?_)
   obtain⟨af,eo,h⟩:=aE h
   refine dx (Qa a0.bS R.bS _ eo) _ ?_
   refine aT h (fun gM h=> ?_) (fun gM h=> ?_)
   ·refine ws _ ?_
    exact aD (cx _ (.inl (aH [.bool false])))
   ·refine aY (n10 _ (.inl ?_))
    refine ws _ ?_
    exact aD (al _ (.inl (aH [.bool true])))
theorem uM (a0:List aW) (R:List aW) (r:Bool) (h:ub a0 R=some r):bl aB 14 [.slice (a0.map bD),.slice (R.map bD)] (.bool r) []:=by
 refine bT [0,1] [.tmp 4] Tryz.func14 oP (fun bO al bN=> ?_)
 refine ws _ ?_
 refine aI al (fun d_ bW bg ak=> ?_)
 refine ws _ ?_
 refine aT h (fun b4 h=> ?_) (fun b4 h=> ?_)
 ·refine ws _ ?_
  exact aD (bg _ (.inl (aH [.bool false])))
 ·refine aY (bW _ (.inl ?_))
  refine aI al (fun eY n6 dj bM=> ?_)
  refine ws _ ?_
  refine bH dj (fun hg n8 gN cH eb=> ?_)
  have hJ:∀(n:Nat) (bY:Int),DF a0 R n bY=some r→dp aB O7 hg (ab [(0,.slice (a0.map bD)),(1,.slice (R.map bD)),(5,.int .i64 bY)]):=by
   intro m14
   induction m14 with
   |zero=>intro bY h;cases(show none=some r from h)
   |succ m14 hh=>
    intro bY h
    replace h:NB (DF a0 R m14) a0 R bY=some r:=h
    refine dE gN (fun eh cL cl dh=> ?_)
    refine aI cl (fun eJ n10 cx c_=> ?_)
    refine ws _ ?_
    refine aT h (fun fg h=> ?_) (fun fg h=> ?_)
    ·refine aY (n10 _ (.inl ?_))
     refine aI cl (fun k_ n13 fY jm=> ?_)
     refine bH fY (fun iL n14 eX gk hV=> ?_)
     obtain⟨af,cg,h⟩:=aE h
     obtain⟨ak,ez,h⟩:=aE h
     obtain⟨aV,eQ,h⟩:=aE h
     refine fj rfl (fi [(0,.slice (a0.map bD)),(1,.slice (R.map bD)),(5,.int .i64 bY),(26,.bool (!aV))] (fun P ai=> ?_) ?_)
     ·simp only[cD.down,simprocAttr,eg,q1,hU,k5,bs,bD,cg,ez]
      refine hf (azW af ak _ eQ) rfl rfl rfl rfl (.inl (by rfl)) ?_
      simp only[cD.down,simprocAttr,eg,q1,hU,k5,bs,bD,cg,ez]
      refine⟨fa (by kernel_rfl),?_⟩
      (try simp only[bb.down,simprocAttr,q8.down,cg,ez]at ai⊢);exact ai
     refine aT h (fun hA h=> ?_) (fun hA h=> ?_)
     ·refine ws _ ?_
      exact aD (eX _ (.inl (aH [.bool false])))
     ·refine aY (n14 _ (n13 _ (.inl ?_)))
      refine wr _ ?_
      exact cL _ (.inr ⟨_,bq rfl,hh (IntKind.i64.wrap (bY+1)) h⟩)
    ·refine dA (c_ 0 _ (dh 0 _ (cH _ (n6 _ (.inl ?_)))))
     refine ws _ ?_
     exact aD (al _ (.inl (aH [.bool true])))
  obtain⟨n,h⟩:=dy h
  exact dC (.inr ⟨_,bq rfl,hJ n 0 h⟩)
theorem azX (a0:b7) (R:b7) (r:Bool) (h:zI a0 R=some r):bl aB 227 [cc a0,cc R] (.bool r) []:=by
 refine bT [0,1] [.tmp 4] Tryz.func227 arJ (fun bO al bN=> ?_)
 refine ws _ ?_
 refine aI al (fun d_ bW bg ak=> ?_)
 refine ws _ ?_
 refine aT h (fun b4 h=> ?_) (fun b4 h=> ?_)
 ·refine ws _ ?_
  exact aD (bg _ (.inl (aH [.bool false])))
 ·refine aY (bW _ (.inl ?_))
  refine aI al (fun eY n6 dj bM=> ?_)
  refine ws _ ?_
  refine aT h (fun cH h=> ?_) (fun cH h=> ?_)
  ·refine ws _ ?_
   exact aD (dj _ (.inl (aH [.bool false])))
  ·refine aY (n6 _ (.inl ?_))
   refine ws _ ?_
   exact aD (al _ (.inl (aH [.bool true])))
theorem azY (a0:List b7) (R:List b7) (r:Bool) (h:zJ a0 R=some r):bl aB 172 [.slice (a0.map cc),.slice (R.map cc)] (.bool r) []:=by
 refine bT [0,1] [.tmp 4] Tryz.func172 arW (fun bO al bN=> ?_)
 refine ws _ ?_
 refine aI al (fun d_ bW bg ak=> ?_)
 refine ws _ ?_
 refine aT h (fun b4 h=> ?_) (fun b4 h=> ?_)
 ·refine ws _ ?_
  exact aD (bg _ (.inl (aH [.bool false])))
 ·refine aY (bW _ (.inl ?_))
  refine aI al (fun eY n6 dj bM=> ?_)
  refine ws _ ?_
  refine bH dj (fun hg n8 gN cH eb=> ?_)
  have hJ:∀(n:Nat) (bY:Int),DG a0 R n bY=some r→dp aB O8 hg (ab [(0,.slice (a0.map cc)),(1,.slice (R.map cc)),(5,.int .i64 bY)]):=by
   intro m14
   induction m14 with
   |zero=>intro bY h;cases(show none=some r from h)
   |succ m14 hh=>
    intro bY h
    replace h:NC (DG a0 R m14) a0 R bY=some r:=h
    refine dE gN (fun eh cL cl dh=> ?_)
    refine aI cl (fun eJ n10 cx c_=> ?_)
    refine ws _ ?_
    refine aT h (fun fg h=> ?_) (fun fg h=> ?_)
    ·refine aY (n10 _ (.inl ?_))
     refine aI cl (fun k_ n13 fY jm=> ?_)
     refine bH fY (fun iL n14 eX gk hV=> ?_)
     obtain⟨af,cg,h⟩:=aE h
     obtain⟨ak,ez,h⟩:=aE h
     obtain⟨aV,eQ,h⟩:=aE h
     refine fj rfl (fi [(0,.slice (a0.map cc)),(1,.slice (R.map cc)),(5,.int .i64 bY),(26,.bool (!aV))] (fun P ai=> ?_) ?_)
     ·simp only[cD.down,simprocAttr,nX.down,cg,ez]
      refine hf (azX af ak _ eQ) rfl rfl rfl rfl (.inl (by rfl)) ?_
      simp only[cD.down,simprocAttr,nX.down,cg,ez]
      refine⟨fa (by kernel_rfl),?_⟩
      (try simp only[bb.down,simprocAttr,cc,cg,ez]at ai⊢);exact ai
     refine aT h (fun hA h=> ?_) (fun hA h=> ?_)
     ·refine ws _ ?_
      exact aD (eX _ (.inl (aH [.bool false])))
     ·refine aY (n14 _ (n13 _ (.inl ?_)))
      refine wr _ ?_
      exact cL _ (.inr ⟨_,bq rfl,hh (IntKind.i64.wrap (bY+1)) h⟩)
    ·refine dA (c_ 0 _ (dh 0 _ (cH _ (n6 _ (.inl ?_)))))
     refine ws _ ?_
     exact aD (al _ (.inl (aH [.bool true])))
  obtain⟨n,h⟩:=dy h
  exact dC (.inr ⟨_,bq rfl,hJ n 0 h⟩)
theorem azZ (a0:List (List b7)) (R:List (List b7)) (r:Bool) (h:DI a0 R=some r):bl aB 173 [.slice (a0.map ey),.slice (R.map ey)] (.bool r) []:=by
 refine bT [0,1] [.tmp 4] Tryz.func173 ar9 (fun bO al bN=> ?_)
 refine ws _ ?_
 refine aI al (fun d_ bW bg ak=> ?_)
 refine ws _ ?_
 refine aT h (fun b4 h=> ?_) (fun b4 h=> ?_)
 ·refine ws _ ?_
  exact aD (bg _ (.inl (aH [.bool false])))
 ·refine aY (bW _ (.inl ?_))
  refine aI al (fun eY n6 dj bM=> ?_)
  refine ws _ ?_
  refine bH dj (fun hg n8 gN cH eb=> ?_)
  have hJ:∀(n:Nat) (bY:Int),DH a0 R n bY=some r→dp aB O9 hg (ab [(0,.slice (a0.map ey)),(1,.slice (R.map ey)),(5,.int .i64 bY)]):=by
   intro m14
   induction m14 with
   |zero=>intro bY h;cases(show none=some r from h)
   |succ m14 hh=>
    intro bY h
    replace h:ND (DH a0 R m14) a0 R bY=some r:=h
    refine dE gN (fun eh cL cl dh=> ?_)
    refine aI cl (fun eJ n10 cx c_=> ?_)
    refine ws _ ?_
    refine aT h (fun fg h=> ?_) (fun fg h=> ?_)
    ·refine aY (n10 _ (.inl ?_))
     refine aI cl (fun k_ n13 fY jm=> ?_)
     refine bH fY (fun iL n14 eX gk hV=> ?_)
     obtain⟨af,cg,h⟩:=aE h
     obtain⟨ak,ez,h⟩:=aE h
     obtain⟨aV,eQ,h⟩:=aE h
     refine fj rfl (fi [(0,.slice (a0.map ey)),(1,.slice (R.map ey)),(5,.int .i64 bY),(26,.bool (!aV))] (fun P ai=> ?_) ?_)
     ·simp only[cD.down,simprocAttr,eg,gh,gR,fS,cc,ey,cg,ez]
      refine hf (azY af ak _ eQ) rfl rfl rfl rfl (.inl (by rfl)) ?_
      simp only[cD.down,simprocAttr,eg,gh,gR,fS,cc,ey,cg,ez]
      refine⟨fa (by kernel_rfl),?_⟩
      (try simp only[bb.down,simprocAttr,cc,ey,cg,ez]at ai⊢);exact ai
     refine aT h (fun hA h=> ?_) (fun hA h=> ?_)
     ·refine ws _ ?_
      exact aD (eX _ (.inl (aH [.bool false])))
     ·refine aY (n14 _ (n13 _ (.inl ?_)))
      refine wr _ ?_
      exact cL _ (.inr ⟨_,bq rfl,hh (IntKind.i64.wrap (bY+1)) h⟩)
    ·refine dA (c_ 0 _ (dh 0 _ (cH _ (n6 _ (.inl ?_)))))
     refine ws _ ?_
     exact aD (al _ (.inl (aH [.bool true])))
  obtain⟨n,h⟩:=dy h
  exact dC (.inr ⟨_,bq rfl,hJ n 0 h⟩)
theorem az0 (a0:bJ) (R:bJ) (r:Bool) (h:zK a0 R=some r):bl aB 203 [cA a0,cA R] (.bool r) []:=by
 refine bT [0,1] [.tmp 4] Tryz.func203 aso (fun bO al bN=> ?_)
 refine ws _ ?_
 refine aI al (fun d_ bW bg ak=> ?_)
 refine ws _ ?_
 refine aT h (fun b4 h=> ?_) (fun b4 h=> ?_)
 ·refine ws _ ?_
  exact aD (bg _ (.inl (aH [.bool false])))
 ·refine aY (bW _ (.inl ?_))
  refine aI al (fun eY n6 dj bM=> ?_)
  refine ws _ ?_
  refine aT h (fun cH h=> ?_) (fun cH h=> ?_)
  ·refine ws _ ?_
   exact aD (dj _ (.inl (aH [.bool false])))
  ·refine aY (n6 _ (.inl ?_))
   refine aI al (fun eJ n10 cx c_=> ?_)
   refine ws _ ?_
   refine aT h (fun fg h=> ?_) (fun fg h=> ?_)
   ·refine ws _ ?_
    exact aD (cx _ (.inl (aH [.bool false])))
   ·refine aY (n10 _ (.inl ?_))
    refine aI al (fun iL n14 eX hV=> ?_)
    obtain⟨af,cg,h⟩:=aE h
    refine dx (azZ a0.cO R.cO _ cg) _ ?_
    refine aT h (fun jB h=> ?_) (fun jB h=> ?_)
    ·refine ws _ ?_
     exact aD (eX _ (.inl (aH [.bool false])))
    ·refine aY (n14 _ (.inl ?_))
     refine ws _ ?_
     exact aD (al _ (.inl (aH [.bool true])))
theorem az1 (a0:List bJ) (R:List bJ) (r:Bool) (h:DK a0 R=some r):bl aB 148 [.slice (a0.map cA),.slice (R.map cA)] (.bool r) []:=by
 refine bT [0,1] [.tmp 4] Tryz.func148 asB (fun bO al bN=> ?_)
 refine ws _ ?_
 refine aI al (fun d_ bW bg ak=> ?_)
 refine ws _ ?_
 refine aT h (fun b4 h=> ?_) (fun b4 h=> ?_)
 ·refine ws _ ?_
  exact aD (bg _ (.inl (aH [.bool false])))
 ·refine aY (bW _ (.inl ?_))
  refine aI al (fun eY n6 dj bM=> ?_)
  refine ws _ ?_
  refine bH dj (fun hg n8 gN cH eb=> ?_)
  have hJ:∀(n:Nat) (bY:Int),DJ a0 R n bY=some r→dp aB O_ hg (ab [(0,.slice (a0.map cA)),(1,.slice (R.map cA)),(5,.int .i64 bY)]):=by
   intro m14
   induction m14 with
   |zero=>intro bY h;cases(show none=some r from h)
   |succ m14 hh=>
    intro bY h
    replace h:NF (DJ a0 R m14) a0 R bY=some r:=h
    refine dE gN (fun eh cL cl dh=> ?_)
    refine aI cl (fun eJ n10 cx c_=> ?_)
    refine ws _ ?_
    refine aT h (fun fg h=> ?_) (fun fg h=> ?_)
    ·refine aY (n10 _ (.inl ?_))
     refine aI cl (fun k_ n13 fY jm=> ?_)
     refine bH fY (fun iL n14 eX gk hV=> ?_)
     obtain⟨af,cg,h⟩:=aE h
     obtain⟨ak,ez,h⟩:=aE h
     obtain⟨aV,eQ,h⟩:=aE h
     refine fj rfl (fi [(0,.slice (a0.map cA)),(1,.slice (R.map cA)),(5,.int .i64 bY),(26,.bool (!aV))] (fun P ai=> ?_) ?_)
     ·simp only[cD.down,simprocAttr,Ej.down,cg,ez]
      refine hf (az0 af ak _ eQ) rfl rfl rfl rfl (.inl (by rfl)) ?_
      simp only[cD.down,simprocAttr,Ej.down,cg,ez]
      refine⟨fa (by kernel_rfl),?_⟩
      (try simp only[bb.down,simprocAttr,nr.down,cg,ez]at ai⊢);exact ai
     refine aT h (fun hA h=> ?_) (fun hA h=> ?_)
     ·refine ws _ ?_
      exact aD (eX _ (.inl (aH [.bool false])))
     ·refine aY (n14 _ (n13 _ (.inl ?_)))
      refine wr _ ?_
      exact cL _ (.inr ⟨_,bq rfl,hh (IntKind.i64.wrap (bY+1)) h⟩)
    ·refine dA (c_ 0 _ (dh 0 _ (cH _ (n6 _ (.inl ?_)))))
     refine ws _ ?_
     exact aD (al _ (.inl (aH [.bool true])))
  obtain⟨n,h⟩:=dy h
  exact dC (.inr ⟨_,bq rfl,hJ n 0 h⟩)
theorem az2 (a0:bj) (R:bj) (r:Bool) (h:zL a0 R=some r):bl aB 92 [bA a0,bA R] (.bool r) []:=by
 refine bT [0,1] [.tmp 4] Tryz.func92 asN (fun bO al bN=> ?_)
 refine ws _ ?_
 refine aI al (fun d_ bW bg ak=> ?_)
 refine ws _ ?_
 refine aT h (fun b4 h=> ?_) (fun b4 h=> ?_)
 ·refine ws _ ?_
  exact aD (bg _ (.inl (aH [.bool false])))
 ·refine aY (bW _ (.inl ?_))
  refine aI al (fun eY n6 dj bM=> ?_)
  refine ws _ ?_
  refine aT h (fun cH h=> ?_) (fun cH h=> ?_)
  ·refine ws _ ?_
   exact aD (dj _ (.inl (aH [.bool false])))
  ·refine aY (n6 _ (.inl ?_))
   refine aI al (fun eJ n10 cx c_=> ?_)
   obtain⟨af,eo,h⟩:=aE h
   refine dx (az1 a0.Body R.Body _ eo) _ ?_
   refine aT h (fun gM h=> ?_) (fun gM h=> ?_)
   ·refine ws _ ?_
    exact aD (cx _ (.inl (aH [.bool false])))
   ·refine aY (n10 _ (.inl ?_))
    refine ws _ ?_
    exact aD (al _ (.inl (aH [.bool true])))
theorem az3 (a0:List bj) (R:List bj) (r:Bool) (h:DM a0 R=some r):bl aB 52 [.slice (a0.map bA),.slice (R.map bA)] (.bool r) []:=by
 refine bT [0,1] [.tmp 4] Tryz.func52 Aa (fun bO al bN=> ?_)
 refine ws _ ?_
 refine aI al (fun d_ bW bg ak=> ?_)
 refine ws _ ?_
 refine aT h (fun b4 h=> ?_) (fun b4 h=> ?_)
 ·refine ws _ ?_
  exact aD (bg _ (.inl (aH [.bool false])))
 ·refine aY (bW _ (.inl ?_))
  refine aI al (fun eY n6 dj bM=> ?_)
  refine ws _ ?_
  refine bH dj (fun hg n8 gN cH eb=> ?_)
  have hJ:∀(n:Nat) (bY:Int),DL a0 R n bY=some r→dp aB Pa hg (ab [(0,.slice (a0.map bA)),(1,.slice (R.map bA)),(5,.int .i64 bY)]):=by
   intro m14
   induction m14 with
   |zero=>intro bY h;cases(show none=some r from h)
   |succ m14 hh=>
    intro bY h
    replace h:NG (DL a0 R m14) a0 R bY=some r:=h
    refine dE gN (fun eh cL cl dh=> ?_)
    refine aI cl (fun eJ n10 cx c_=> ?_)
    refine ws _ ?_
    refine aT h (fun fg h=> ?_) (fun fg h=> ?_)
    ·refine aY (n10 _ (.inl ?_))
     refine aI cl (fun k_ n13 fY jm=> ?_)
     refine bH fY (fun iL n14 eX gk hV=> ?_)
     obtain⟨af,cg,h⟩:=aE h
     obtain⟨ak,ez,h⟩:=aE h
     obtain⟨aV,eQ,h⟩:=aE h
     refine fj rfl (fi [(0,.slice (a0.map bA)),(1,.slice (R.map bA)),(5,.int .i64 bY),(26,.bool (!aV))] (fun P ai=> ?_) ?_)
     ·simp only[cD.down,simprocAttr,jn.down,cg,ez]
      refine hf (az2 af ak _ eQ) rfl rfl rfl rfl (.inl (by rfl)) ?_
      simp only[cD.down,simprocAttr,jn.down,cg,ez]
      refine⟨fa (by kernel_rfl),?_⟩
      (try simp only[bb.down,simprocAttr,iq.down,cg,ez]at ai⊢);exact ai
     refine aT h (fun hA h=> ?_) (fun hA h=> ?_)
     ·refine ws _ ?_
      exact aD (eX _ (.inl (aH [.bool false])))
     ·refine aY (n14 _ (n13 _ (.inl ?_)))
      refine wr _ ?_
      exact cL _ (.inr ⟨_,bq rfl,hh (IntKind.i64.wrap (bY+1)) h⟩)
    ·refine dA (c_ 0 _ (dh 0 _ (cH _ (n6 _ (.inl ?_)))))
     refine ws _ ?_
     exact aD (al _ (.inl (aH [.bool true])))
  obtain⟨n,h⟩:=dy h
  exact dC (.inr ⟨_,bq rfl,hJ n 0 h⟩)
theorem az4 (a0:dk) (R:dk) (r:Bool) (h:zM a0 R=some r):bl aB 93 [e2 a0,e2 R] (.bool r) []:=by
 refine bT [0,1] [.tmp 4] Tryz.func93 as8 (fun bO al bN=> ?_)
 refine ws _ ?_
 refine aI al (fun d_ bW bg ak=> ?_)
 refine ws _ ?_
 refine aT h (fun b4 h=> ?_) (fun b4 h=> ?_)
 ·refine ws _ ?_
  exact aD (bg _ (.inl (aH [.bool false])))
 ·refine aY (bW _ (.inl ?_))
  refine aI al (fun eY n6 dj bM=> ?_)
  obtain⟨af,hq,h⟩:=aE h
  refine dx (Qa a0.bS R.bS _ hq) _ ?_
  refine aT h (fun gj h=> ?_) (fun gj h=> ?_)
  ·refine ws _ ?_
   exact aD (dj _ (.inl (aH [.bool false])))
  ·refine aY (n6 _ (.inl ?_))
   refine ws _ ?_
   exact aD (al _ (.inl (aH [.bool true])))
theorem az5 (a0:List dk) (R:List dk) (r:Bool) (h:DO a0 R=some r):bl aB 53 [.slice (a0.map e2),.slice (R.map e2)] (.bool r) []:=by
 refine bT [0,1] [.tmp 4] Tryz.func53 mP (fun bO al bN=> ?_)
 refine ws _ ?_
 refine aI al (fun d_ bW bg ak=> ?_)
 refine ws _ ?_
 refine aT h (fun b4 h=> ?_) (fun b4 h=> ?_)
 ·refine ws _ ?_
  exact aD (bg _ (.inl (aH [.bool false])))
 ·refine aY (bW _ (.inl ?_))
  refine aI al (fun eY n6 dj bM=> ?_)
  refine ws _ ?_
  refine bH dj (fun hg n8 gN cH eb=> ?_)
  have hJ:∀(n:Nat) (bY:Int),DN a0 R n bY=some r→dp aB Pb hg (ab [(0,.slice (a0.map e2)),(1,.slice (R.map e2)),(5,.int .i64 bY)]):=by
   intro m14
   induction m14 with
   |zero=>intro bY h;cases(show none=some r from h)
   |succ m14 hh=>
    intro bY h
    replace h:NH (DN a0 R m14) a0 R bY=some r:=h
    refine dE gN (fun eh cL cl dh=> ?_)
    refine aI cl (fun eJ n10 cx c_=> ?_)
    refine ws _ ?_
    refine aT h (fun fg h=> ?_) (fun fg h=> ?_)
    ·refine aY (n10 _ (.inl ?_))
     refine aI cl (fun k_ n13 fY jm=> ?_)
     refine bH fY (fun iL n14 eX gk hV=> ?_)
     obtain⟨af,cg,h⟩:=aE h
     obtain⟨ak,ez,h⟩:=aE h
     obtain⟨aV,eQ,h⟩:=aE h
     refine fj rfl (fi [(0,.slice (a0.map e2)),(1,.slice (R.map e2)),(5,.int .i64 bY),(26,.bool (!aV))] (fun P ai=> ?_) ?_)
     ·simp only[cD.down,simprocAttr,eg,oG,hU,nO,bs,e2,cg,ez]
      refine hf (az4 af ak _ eQ) rfl rfl rfl rfl (.inl (by rfl)) ?_
      simp only[cD.down,simprocAttr,eg,oG,hU,nO,bs,e2,cg,ez]
      refine⟨fa (by kernel_rfl),?_⟩
      (try simp only[bb.down,simprocAttr,bs,e2,cg,ez]at ai⊢);exact ai
     refine aT h (fun hA h=> ?_) (fun hA h=> ?_)
     ·refine ws _ ?_
      exact aD (eX _ (.inl (aH [.bool false])))
     ·refine aY (n14 _ (n13 _ (.inl ?_)))
      refine wr _ ?_
      exact cL _ (.inr ⟨_,bq rfl,hh (IntKind.i64.wrap (bY+1)) h⟩)
    ·refine dA (c_ 0 _ (dh 0 _ (cH _ (n6 _ (.inl ?_)))))
     refine ws _ ?_
     exact aD (al _ (.inl (aH [.bool true])))
  obtain⟨n,h⟩:=dy h
  exact dC (.inr ⟨_,bq rfl,hJ n 0 h⟩)
theorem az6 (a0:cb) (R:cb) (r:Bool) (h:zN a0 R=some r):bl aB 94 [bz a0,bz R] (.bool r) []:=by
 refine bT [0,1] [.tmp 4] Tryz.func94 atv (fun bO al bN=> ?_)
 refine ws _ ?_
 refine aI al (fun d_ bW bg ak=> ?_)
 refine ws _ ?_
 refine aT h (fun b4 h=> ?_) (fun b4 h=> ?_)
 ·refine ws _ ?_
  exact aD (bg _ (.inl (aH [.bool false])))
 ·refine aY (bW _ (.inl ?_))
  refine aI al (fun eY n6 dj bM=> ?_)
  refine ws _ ?_
  refine aT h (fun cH h=> ?_) (fun cH h=> ?_)
  ·refine ws _ ?_
   exact aD (dj _ (.inl (aH [.bool false])))
  ·refine aY (n6 _ (.inl ?_))
   refine aI al (fun eJ n10 cx c_=> ?_)
   refine ws _ ?_
   refine aT h (fun fg h=> ?_) (fun fg h=> ?_)
   ·refine ws _ ?_
    exact aD (cx _ (.inl (aH [.bool false])))
   ·refine aY (n10 _ (.inl ?_))
    refine ws _ ?_
    exact aD (al _ (.inl (aH [.bool true])))
theorem az7 (a0:List cb) (R:List cb) (r:Bool) (h:DQ a0 R=some r):bl aB 54 [.slice (a0.map bz),.slice (R.map bz)] (.bool r) []:=by
 refine bT [0,1] [.tmp 4] Tryz.func54 atI (fun bO al bN=> ?_)
 refine ws _ ?_
 refine aI al (fun d_ bW bg ak=> ?_)
 refine ws _ ?_
 refine aT h (fun b4 h=> ?_) (fun b4 h=> ?_)
 ·refine ws _ ?_
  exact aD (bg _ (.inl (aH [.bool false])))
 ·refine aY (bW _ (.inl ?_))
  refine aI al (fun eY n6 dj bM=> ?_)
  refine ws _ ?_
  refine bH dj (fun hg n8 gN cH eb=> ?_)
  have hJ:∀(n:Nat) (bY:Int),DP a0 R n bY=some r→dp aB Pc hg (ab [(0,.slice (a0.map bz)),(1,.slice (R.map bz)),(5,.int .i64 bY)]):=by
   intro m14
   induction m14 with
   |zero=>intro bY h;cases(show none=some r from h)
   |succ m14 hh=>
    intro bY h
    replace h:NI (DP a0 R m14) a0 R bY=some r:=h
    refine dE gN (fun eh cL cl dh=> ?_)
    refine aI cl (fun eJ n10 cx c_=> ?_)
    refine ws _ ?_
    refine aT h (fun fg h=> ?_) (fun fg h=> ?_)
    ·refine aY (n10 _ (.inl ?_))
     refine aI cl (fun k_ n13 fY jm=> ?_)
     refine bH fY (fun iL n14 eX gk hV=> ?_)
     obtain⟨af,cg,h⟩:=aE h
     obtain⟨ak,ez,h⟩:=aE h
     obtain⟨aV,eQ,h⟩:=aE h
     refine fj rfl (fi [(0,.slice (a0.map bz)),(1,.slice (R.map bz)),(5,.int .i64 bY),(26,.bool (!aV))] (fun P ai=> ?_) ?_)
     ·simp only[cD.down,simprocAttr,hy.down,cg,ez]
      refine hf (az6 af ak _ eQ) rfl rfl rfl rfl (.inl (by rfl)) ?_
      simp only[cD.down,simprocAttr,hy.down,cg,ez]
      refine⟨fa (by kernel_rfl),?_⟩
      (try simp only[bb.down,simprocAttr,bz,cg,ez]at ai⊢);exact ai
     refine aT h (fun hA h=> ?_) (fun hA h=> ?_)
     ·refine ws _ ?_
      exact aD (eX _ (.inl (aH [.bool false])))
     ·refine aY (n14 _ (n13 _ (.inl ?_)))
      refine wr _ ?_
      exact cL _ (.inr ⟨_,bq rfl,hh (IntKind.i64.wrap (bY+1)) h⟩)
    ·refine dA (c_ 0 _ (dh 0 _ (cH _ (n6 _ (.inl ?_)))))
     refine ws _ ?_
     exact aD (al _ (.inl (aH [.bool true])))
  obtain⟨n,h⟩:=dy h
  exact dC (.inr ⟨_,bq rfl,hJ n 0 h⟩)
theorem Qb (a0:List (List UInt8)) (R:List (List UInt8)) (r:Bool) (h:zO a0 R=some r):bl aB 55 [.slice (a0.map bE),.slice (R.map bE)] (.bool r) []:=by
 refine bT [0,1] [.tmp 4] Tryz.func55 atW (fun bO al bN=> ?_)
 refine ws _ ?_
 refine aI al (fun d_ bW bg ak=> ?_)
 refine ws _ ?_
 refine aT h (fun b4 h=> ?_) (fun b4 h=> ?_)
 ·refine ws _ ?_
  exact aD (bg _ (.inl (aH [.bool false])))
 ·refine aY (bW _ (.inl ?_))
  refine aI al (fun eY n6 dj bM=> ?_)
  refine ws _ ?_
  refine bH dj (fun hg n8 gN cH eb=> ?_)
  have hJ:∀(n:Nat) (bY:Int),DR a0 R n bY=some r→dp aB Pd hg (ab [(0,.slice (a0.map bE)),(1,.slice (R.map bE)),(5,.int .i64 bY)]):=by
   intro m14
   induction m14 with
   |zero=>intro bY h;cases(show none=some r from h)
   |succ m14 hh=>
    intro bY h
    replace h:NJ (DR a0 R m14) a0 R bY=some r:=h
    refine dE gN (fun eh cL cl dh=> ?_)
    refine aI cl (fun eJ n10 cx c_=> ?_)
    refine ws _ ?_
    refine aT h (fun fg h=> ?_) (fun fg h=> ?_)
    ·refine aY (n10 _ (.inl ?_))
     refine aI cl (fun k_ n13 fY jm=> ?_)
     refine bH fY (fun iL n14 eX gk hV=> ?_)
     obtain⟨af,cg,h⟩:=aE h
     obtain⟨ak,ez,h⟩:=aE h
     refine fj rfl (fi [(0,.slice (a0.map bE)),(1,.slice (R.map bE)),(5,.int .i64 bY),(25,.bool (!(af==ak)))] (fun P ai=> ?_) ?_)
     ·simp only[cD.down,simprocAttr,eI,k4,bE,cg,ez]
      refine⟨fa (by kernel_rfl),?_⟩
      (try simp only[bb.down,simprocAttr,bE,cg,ez]at ai⊢);exact ai
     refine aT h (fun iM h=> ?_) (fun iM h=> ?_)
     ·refine ws _ ?_
      exact aD (eX _ (.inl (aH [.bool false])))
     ·refine aY (n14 _ (n13 _ (.inl ?_)))
      refine wr _ ?_
      exact cL _ (.inr ⟨_,bq rfl,hh (IntKind.i64.wrap (bY+1)) h⟩)
    ·refine dA (c_ 0 _ (dh 0 _ (cH _ (n6 _ (.inl ?_)))))
     refine ws _ ?_
     exact aD (al _ (.inl (aH [.bool true])))
  obtain⟨n,h⟩:=dy h
  exact dC (.inr ⟨_,bq rfl,hJ n 0 h⟩)
theorem az8 (a0:ea) (R:ea) (r:Bool) (h:zP a0 R=some r):bl aB 15 [gz a0,gz R] (.bool r) []:=by
 refine bT [0,1] [.tmp 4] Tryz.func15 wV (fun bO al bN=> ?_)
 refine ws _ ?_
 refine aI al (fun d_ bW bg ak=> ?_)
 obtain⟨af,cF,h⟩:=aE h
 refine dx (az3 a0.ew R.ew _ cF) _ ?_
 refine aT h (fun cN h=> ?_) (fun cN h=> ?_)
 ·refine ws _ ?_
  exact aD (bg _ (.inl (aH [.bool false])))
 ·refine aY (bW _ (.inl ?_))
  refine aI al (fun gZ n7 dY cQ=> ?_)
  obtain⟨ak,lh,h⟩:=aE h
  refine dx (az5 a0.c8 R.c8 _ lh) _ ?_
  refine aT h (fun ek h=> ?_) (fun ek h=> ?_)
  ·refine ws _ ?_
   exact aD (dY _ (.inl (aH [.bool false])))
  ·refine aY (n7 _ (.inl ?_))
   refine aI al (fun jZ n12 ib iW=> ?_)
   obtain⟨aV,ee,h⟩:=aE h
   refine dx (az7 a0.hE R.hE _ ee) _ ?_
   refine aT h (fun eU h=> ?_) (fun eU h=> ?_)
   ·refine ws _ ?_
    exact aD (ib _ (.inl (aH [.bool false])))
   ·refine aY (n12 _ (.inl ?_))
    refine aI al (fun oR n17 jo h0=> ?_)
    obtain⟨bm,hL,h⟩:=aE h
    refine dx (Qb a0.hv R.hv _ hL) _ ?_
    refine aT h (fun e3 h=> ?_) (fun e3 h=> ?_)
    ·refine ws _ ?_
     exact aD (jo _ (.inl (aH [.bool false])))
    ·refine aY (n17 _ (.inl ?_))
     refine aI al (fun uF n22 mR oO=> ?_)
     obtain⟨bh,ke,h⟩:=aE h
     refine dx (Qb a0.hx R.hx _ ke) _ ?_
     refine aT h (fun lV h=> ?_) (fun lV h=> ?_)
     ·refine ws _ ?_
      exact aD (mR _ (.inl (aH [.bool false])))
     ·refine aY (n22 _ (.inl ?_))
      refine ws _ ?_
      exact aD (al _ (.inl (aH [.bool true])))
theorem xa (a0:Int) (r:(List UInt8)) (h:q5 a0=some r):bl aB 95 [.int .i64 a0] (.str r) []:=by
 refine bT [] [.tmp 2] Tryz.func95 auo (fun bO al bN=> ?_)
 refine ws _ ?_
 refine aI al (fun d_ bW bg ak=> ?_)
 refine ws _ ?_
 refine aT h (fun b4 h=> ?_) (fun b4 h=> ?_)
 ·refine ws _ ?_
  exact aD (bg _ (.inl (aH [.str ([109,48]:List UInt8)])))
 ·refine aY (bW _ (.inl ?_))
  refine ws _ ?_
  refine aI al (fun gZ n7 dY cQ=> ?_)
  refine bH dY (fun hg n8 gN cH eb=> ?_)
  have hJ:∀(n:Nat) (kp:Int) (c9:List UInt8),se n kp c9=some r→dp aB Pe hg (ab [(0,.int .i64 kp),(3,.str c9)]):=by
   intro m14
   induction m14 with
   |zero=>intro kp c9 h;cases(show none=some r from h)
   |succ m14 hh=>
    intro kp c9 h
    replace h:zQ (se m14) kp c9=some r:=h
    refine dE gN (fun eh cL cl dh=> ?_)
    refine aI cl (fun eJ n10 cx c_=> ?_)
    refine ws _ ?_
    refine aT h (fun fg h=> ?_) (fun fg h=> ?_)
    ·refine aY (n10 _ (.inl ?_))
     refine bH cl (fun k_ n13 fY gM jm=> ?_)
     obtain⟨u16,el,h⟩:=aE h
     (try simp only[q7.down,Nat.reduceAdd]at el)
     refine cP (bU [(0,.int .i64 kp),(3,.str ([(qC (IntKind.i64.wrap (48+(Int.tmod kp 10))))]++c9))] (fun P ai=> ?_) ?_)
     ·simp only[aO.down,simprocAttr,W_,Xa,kX, @L2 .i64 10 (by decide), @LW aB 3 5 .u8 rfl rfl,(show∀s,dG aB s 193 1 [(0,.int .u8 (IntKind.u8.wrap (IntKind.i64.wrap (48+(Int.tmod kp 10)))))]=some (.an 1 [.int .u8 (IntKind.u8.wrap (IntKind.i64.wrap (48+(Int.tmod kp 10))))],s)from fun s=>by kernel_rfl),(@LY aB 193 9 5 rfl rfl rfl).2.2,L1,LZ,el,BG,BH]
      (try simp only[bb.down,simprocAttr,kX, @L2 .i64 10 (by decide), @LW aB 3 5 .u8 rfl rfl,(show∀s,dG aB s 193 1 [(0,.int .u8 (IntKind.u8.wrap (IntKind.i64.wrap (48+(Int.tmod kp 10)))))]=some (.an 1 [.int .u8 (IntKind.u8.wrap (IntKind.i64.wrap (48+(Int.tmod kp 10))))],s)from fun s=>by kernel_rfl),(@LY aB 193 9 5 rfl rfl rfl).2.2,L1,LZ,el,BG,BH]at ai⊢);exact ai
     refine axq (@Vi .i64 10 (by decide)) [(0,.int .i64 (IntKind.i64.wrap (Int.tdiv kp 10))),(3,.str ([(qC (IntKind.i64.wrap (48+(Int.tmod kp 10))))]++c9))] ?_
     exact n13 _ (cL _ (.inr ⟨_,bq rfl,hh (IntKind.i64.wrap (Int.tdiv kp 10)) ([(qC (IntKind.i64.wrap (48+(Int.tmod kp 10))))]++c9) h⟩))
    ·refine dA (c_ 0 _ (dh 0 _ (cH _ (n7 _ (.inl ?_)))))
     obtain⟨uG,eQ,h⟩:=aE h
     (try simp only[q7.down,Nat.reduceAdd]at eQ)
     refine cP (bU [(2,.str (([109]:List UInt8)++c9))] (fun P ai=> ?_) ?_)
     ·simp only[aO.down,simprocAttr,eQ,BG,BH]
      (try simp only[bb.down,simprocAttr,eQ,BG,BH]at ai⊢);exact ai
     exact aD (al _ (.inl (aH [.str (([109]:List UInt8)++c9)])))
  obtain⟨n,h⟩:=dy h
  exact dC (.inr ⟨_,bq rfl,hJ n a0 ([]:List UInt8) h⟩)
theorem az9 (a0:List b7) (R:Int) (r:Int×(List b7)) (h:DT a0 R=some r):bl aB 113 [.an 2 (a0.map cc),.int .i64 R] (.int .i64 r.1) [.an 2 (r.2.map cc),.hole]:=by
 refine bT [0] [.tmp 4] Tryz.func113 auA (fun bO al bN=> ?_)
 refine ws _ ?_
 refine aI al (fun d_ bW bg ak=> ?_)
 refine ws _ ?_
 refine bH bg (fun dK et cd b4 bm=> ?_)
 have e8:∀(n:Nat) (bB:List b7) (aU:Int) (aF:Int),uc n bB aU aF=some r→dp aB Pf dK (ab [(0,.an 2 (bB.map cc)),(1,.int .i64 aU),(5,.int .i64 aF)]):=by
  intro m6
  induction m6 with
  |zero=>intro bB aU aF h;cases(show none=some r from h)
  |succ m6 eZ=>
   intro bB aU aF h
   replace h:DS (uc m6) bB aU aF=some r:=h
   refine dE cd (fun gO dH cS bh=> ?_)
   refine aI cS (fun eY n6 dj bM=> ?_)
   refine ws _ ?_
   refine aT h (fun cH h=> ?_) (fun cH h=> ?_)
   ·refine aY (n6 _ (.inl ?_))
    refine aI cS (fun eh cL cl dh=> ?_)
    refine bH cl (fun eJ n10 cx ek c_=> ?_)
    obtain⟨af,eo,h⟩:=aE h
    refine cP (bU [(0,.an 2 ((List.set bB (Int.toNat aF) (b7.mk aU af.Value)).map cc)),(1,.int .i64 aU),(5,.int .i64 aF)] (fun P ai=> ?_) ?_)
    ·simp only[aO.down,simprocAttr,nX.down,eo,cG eo,dN,dz]
     (try simp only[bb.down,simprocAttr,cc,eo,cG eo,dN,dz]at ai⊢);exact ai
    refine ws [(0,.an 2 ((List.set bB (Int.toNat aF) (b7.mk aU af.Value)).map cc)),(1,.int .i64 (IntKind.i64.wrap (aU+1))),(5,.int .i64 aF)] ?_
    obtain⟨ak,el,h⟩:=aE h
    refine cP (bU [(0,.an 2 ((List.set (List.set bB (Int.toNat aF) (b7.mk aU af.Value)) (Int.toNat aF) (b7.mk ak.Kind (IntKind.i64.wrap (aU+1)))).map cc)),(1,.int .i64 (IntKind.i64.wrap (aU+1))),(5,.int .i64 aF)] (fun P ai=> ?_) ?_)
    ·simp only[aO.down,simprocAttr,nX.down,el,cG el,dN,dz]
     (try simp only[bb.down,simprocAttr,cc,el,cG el,dN,dz]at ai⊢);exact ai
    refine wr [(0,.an 2 ((List.set (List.set bB (Int.toNat aF) (b7.mk aU af.Value)) (Int.toNat aF) (b7.mk ak.Kind (IntKind.i64.wrap (aU+1)))).map cc)),(1,.int .i64 (IntKind.i64.wrap ((IntKind.i64.wrap (aU+1))+1))),(5,.int .i64 aF)] ?_
    refine n10 _ (cL _ (.inl ?_))
    refine wr [(0,.an 2 ((List.set (List.set bB (Int.toNat aF) (b7.mk aU af.Value)) (Int.toNat aF) (b7.mk ak.Kind (IntKind.i64.wrap (aU+1)))).map cc)),(1,.int .i64 (IntKind.i64.wrap ((IntKind.i64.wrap (aU+1))+1))),(5,.int .i64 (IntKind.i64.wrap (aF+1)))] ?_
    exact dH _ (.inr ⟨_,bq rfl,eZ (List.set (List.set bB (Int.toNat aF) (b7.mk aU af.Value)) (Int.toNat aF) (b7.mk ak.Kind (IntKind.i64.wrap (aU+1)))) (IntKind.i64.wrap ((IntKind.i64.wrap (aU+1))+1)) (IntKind.i64.wrap (aF+1)) h⟩)
   ·refine dA (bM 0 _ (bh 0 _ (b4 _ (bW _ (.inl ?_)))))
    refine ws _ ?_
    exact aD (al _ (.inl (l_ [.int .i64 aU] rfl (by cases h2 h;rfl) (by decide) (mF (mG (by cases h2 h;rfl) rfl rfl rfl (lP (mH)))))))
 obtain⟨n,h⟩:=dy h
 exact dC (.inr ⟨_,bq rfl,e8 n a0 R 0 h⟩)
theorem az_ (a0:List (List b7)) (R:Int) (r:Int×(List (List b7))) (h:DV a0 R=some r):bl aB 114 [.an 1 (a0.map fv),.int .i64 R] (.int .i64 r.1) [.an 1 (r.2.map fv),.hole]:=by
 refine bT [0] [.tmp 4] Tryz.func114 auI (fun bO al bN=> ?_)
 refine ws _ ?_
 refine aI al (fun d_ bW bg ak=> ?_)
 refine ws _ ?_
 refine bH bg (fun dK et cd b4 bm=> ?_)
 have e8:∀(n:Nat) (bB:List (List b7)) (aU:Int) (aF:Int),ud n bB aU aF=some r→dp aB Pg dK (ab [(0,.an 1 (bB.map fv)),(1,.int .i64 aU),(5,.int .i64 aF)]):=by
  intro m6
  induction m6 with
  |zero=>intro bB aU aF h;cases(show none=some r from h)
  |succ m6 eZ=>
   intro bB aU aF h
   replace h:DU (ud m6) bB aU aF=some r:=h
   refine dE cd (fun gO dH cS bh=> ?_)
   refine aI cS (fun eY n6 dj bM=> ?_)
   refine ws _ ?_
   refine aT h (fun cH h=> ?_) (fun cH h=> ?_)
   ·refine aY (n6 _ (.inl ?_))
    refine aI cS (fun eh cL cl dh=> ?_)
    refine bH cl (fun eJ n10 cx ek c_=> ?_)
    obtain⟨af,eo,h⟩:=aE h
    obtain⟨ak,dS,h⟩:=aE h
    refine jV (bU [(0,.an 1 ((List.set bB (Int.toNat aF) ak.2).map fv)),(1,.int .i64 ak.1),(5,.int .i64 aF)] (fun P ai=> ?_) ?_)
    ·simp only[aO.down,simprocAttr,eg,gh,gR,fS,cc,fv,eo,cG eo]
     refine oF [⟨.h 0 [Int.toNat aF],true,_,_⟩,⟨.int .i64 aU,false,_,.hole⟩] (az9 af aU _ dS) rfl rfl rfl (by simp only[aO.down,simprocAttr,eg,gh,gR,fS,cc,fv,eo,cG eo,lq,ji,fJ,fK,fL,de,or_true,true_or, @b5 _ cc cc (fun _=>H0 _)]) rfl rfl (.inl rfl) ?_
     simp only[aO.down,simprocAttr,eg,gh,gR,fS,cc,fv,eo,cG eo,lr,(yw (cG eo)),yx]
     (try simp only[bb.down,simprocAttr,cc,fv,eo,cG eo]at ai⊢);exact ai
    refine n10 _ (cL _ (.inl ?_))
    refine wr [(0,.an 1 ((List.set bB (Int.toNat aF) ak.2).map fv)),(1,.int .i64 ak.1),(5,.int .i64 (IntKind.i64.wrap (aF+1)))] ?_
    exact dH _ (.inr ⟨_,bq rfl,eZ (List.set bB (Int.toNat aF) ak.2) ak.1 (IntKind.i64.wrap (aF+1)) h⟩)
   ·refine dA (bM 0 _ (bh 0 _ (b4 _ (bW _ (.inl ?_)))))
    refine ws _ ?_
    exact aD (al _ (.inl (l_ [.int .i64 aU] rfl (by cases h2 h;rfl) (by decide) (mF (mG (by cases h2 h;rfl) rfl rfl rfl (lP (mH)))))))
 obtain⟨n,h⟩:=dy h
 exact dC (.inr ⟨_,bq rfl,e8 n a0 R 0 h⟩)
theorem aAa (a0:List bJ) (R:Int) (r:Int×(List bJ)) (h:DX a0 R=some r):bl aB 96 [.an 4 (a0.map fp),.int .i64 R] (.int .i64 r.1) [.an 4 (r.2.map fp),.hole]:=by
 refine bT [0] [.tmp 4] Tryz.func96 auW (fun bO al bN=> ?_)
 refine ws _ ?_
 refine aI al (fun d_ bW bg ak=> ?_)
 refine ws _ ?_
 refine bH bg (fun dK et cd b4 bm=> ?_)
 have e8:∀(n:Nat) (bB:List bJ) (aU:Int) (aF:Int),ue n bB aU aF=some r→dp aB Ph dK (ab [(0,.an 4 (bB.map fp)),(1,.int .i64 aU),(5,.int .i64 aF)]):=by
  intro m6
  induction m6 with
  |zero=>intro bB aU aF h;cases(show none=some r from h)
  |succ m6 eZ=>
   intro bB aU aF h
   replace h:DW (ue m6) bB aU aF=some r:=h
   refine dE cd (fun gO dH cS bh=> ?_)
   refine aI cS (fun eY n6 dj bM=> ?_)
   refine ws _ ?_
   refine aT h (fun cH h=> ?_) (fun cH h=> ?_)
   ·refine aY (n6 _ (.inl ?_))
    refine aI cS (fun eh cL cl dh=> ?_)
    refine bH cl (fun eJ n10 cx ek c_=> ?_)
    obtain⟨af,eo,h⟩:=aE h
    refine cP (bU [(0,.an 4 ((List.set bB (Int.toNat aF) (bJ.mk aU af.Number af.Name af.cO)).map fp)),(1,.int .i64 aU),(5,.int .i64 aF)] (fun P ai=> ?_) ?_)
    ·simp only[aO.down,simprocAttr,uE.down,eo,cG eo,dN,dz]
     (try simp only[bb.down,simprocAttr,En.down,eo,cG eo,dN,dz]at ai⊢);exact ai
    refine ws [(0,.an 4 ((List.set bB (Int.toNat aF) (bJ.mk aU af.Number af.Name af.cO)).map fp)),(1,.int .i64 (IntKind.i64.wrap (aU+1))),(5,.int .i64 aF)] ?_
    obtain⟨ak,el,h⟩:=aE h
    refine cP (bU [(0,.an 4 ((List.set (List.set bB (Int.toNat aF) (bJ.mk aU af.Number af.Name af.cO)) (Int.toNat aF) (bJ.mk ak.Kind (IntKind.i64.wrap (aU+1)) ak.Name ak.cO)).map fp)),(1,.int .i64 (IntKind.i64.wrap (aU+1))),(5,.int .i64 aF)] (fun P ai=> ?_) ?_)
    ·simp only[aO.down,simprocAttr,uE.down,el,cG el,dN,dz]
     (try simp only[bb.down,simprocAttr,En.down,el,cG el,dN,dz]at ai⊢);exact ai
    refine ws [(0,.an 4 ((List.set (List.set bB (Int.toNat aF) (bJ.mk aU af.Number af.Name af.cO)) (Int.toNat aF) (bJ.mk ak.Kind (IntKind.i64.wrap (aU+1)) ak.Name ak.cO)).map fp)),(1,.int .i64 (IntKind.i64.wrap ((IntKind.i64.wrap (aU+1))+1))),(5,.int .i64 aF)] ?_
    obtain⟨aV,eQ,h⟩:=aE h
    obtain⟨bm,hL,h⟩:=aE h
    refine cP (bU [(0,.an 4 ((List.set (List.set (List.set bB (Int.toNat aF) (bJ.mk aU af.Number af.Name af.cO)) (Int.toNat aF) (bJ.mk ak.Kind (IntKind.i64.wrap (aU+1)) ak.Name ak.cO)) (Int.toNat aF) (bJ.mk bm.Kind bm.Number aV bm.cO)).map fp)),(1,.int .i64 (IntKind.i64.wrap ((IntKind.i64.wrap (aU+1))+1))),(5,.int .i64 aF)] (fun P ai=> ?_) ?_)
    ·simp only[aO.down,simprocAttr,uE.down,hL,cG hL,dN,dz]
     refine e1 (xa (IntKind.i64.wrap ((IntKind.i64.wrap (aU+1))+1)) _ eQ) rfl rfl rfl rfl (.inl (by rfl)) ?_
     simp only[aO.down,simprocAttr,uE.down,hL,cG hL,dN,dz]
     (try simp only[bb.down,simprocAttr,En.down,hL,cG hL,dN,dz]at ai⊢);exact ai
    refine ws [(0,.an 4 ((List.set (List.set (List.set bB (Int.toNat aF) (bJ.mk aU af.Number af.Name af.cO)) (Int.toNat aF) (bJ.mk ak.Kind (IntKind.i64.wrap (aU+1)) ak.Name ak.cO)) (Int.toNat aF) (bJ.mk bm.Kind bm.Number aV bm.cO)).map fp)),(1,.int .i64 (IntKind.i64.wrap ((IntKind.i64.wrap ((IntKind.i64.wrap (aU+1))+1))+1))),(5,.int .i64 aF)] ?_
    obtain⟨bh,gl,h⟩:=aE h
    obtain⟨bM,n0,h⟩:=aE h
    refine jV (bU [(0,.an 4 ((List.set (List.set (List.set (List.set bB (Int.toNat aF) (bJ.mk aU af.Number af.Name af.cO)) (Int.toNat aF) (bJ.mk ak.Kind (IntKind.i64.wrap (aU+1)) ak.Name ak.cO)) (Int.toNat aF) (bJ.mk bm.Kind bm.Number aV bm.cO)) (Int.toNat aF) (bJ.mk bh.Kind bh.Number bh.Name bM.2)).map fp)),(1,.int .i64 bM.1),(5,.int .i64 aF)] (fun P ai=> ?_) ?_)
    ·simp only[aO.down,simprocAttr,uE.down,gl,cG gl]
     refine oF [⟨.h 0 [Int.toNat aF,3],true,_,_⟩,⟨.int .i64 (IntKind.i64.wrap ((IntKind.i64.wrap ((IntKind.i64.wrap (aU+1))+1))+1)),false,_,.hole⟩] (az_ bh.cO (IntKind.i64.wrap ((IntKind.i64.wrap ((IntKind.i64.wrap (aU+1))+1))+1)) _ n0) rfl rfl rfl (by simp only[aO.down,simprocAttr,uE.down,gl,cG gl,lq,ji,fJ,fK,fL,de,or_true,true_or, @b5 _ fv ey (fun _=>H3 _)]) rfl rfl (.inl rfl) ?_
     simp only[aO.down,simprocAttr,uE.down,gl,cG gl,lr,(yw (cG gl)),yx]
     (try simp only[bb.down,simprocAttr,En.down,gl,cG gl]at ai⊢);exact ai
    refine n10 _ (cL _ (.inl ?_))
    refine wr [(0,.an 4 ((List.set (List.set (List.set (List.set bB (Int.toNat aF) (bJ.mk aU af.Number af.Name af.cO)) (Int.toNat aF) (bJ.mk ak.Kind (IntKind.i64.wrap (aU+1)) ak.Name ak.cO)) (Int.toNat aF) (bJ.mk bm.Kind bm.Number aV bm.cO)) (Int.toNat aF) (bJ.mk bh.Kind bh.Number bh.Name bM.2)).map fp)),(1,.int .i64 bM.1),(5,.int .i64 (IntKind.i64.wrap (aF+1)))] ?_
    exact dH _ (.inr ⟨_,bq rfl,eZ (List.set (List.set (List.set (List.set bB (Int.toNat aF) (bJ.mk aU af.Number af.Name af.cO)) (Int.toNat aF) (bJ.mk ak.Kind (IntKind.i64.wrap (aU+1)) ak.Name ak.cO)) (Int.toNat aF) (bJ.mk bm.Kind bm.Number aV bm.cO)) (Int.toNat aF) (bJ.mk bh.Kind bh.Number bh.Name bM.2)) bM.1 (IntKind.i64.wrap (aF+1)) h⟩)
   ·refine dA (bM 0 _ (bh 0 _ (b4 _ (bW _ (.inl ?_)))))
    refine ws _ ?_
    exact aD (al _ (.inl (l_ [.int .i64 aU] rfl (by cases h2 h;rfl) (by decide) (mF (mG (by cases h2 h;rfl) rfl rfl rfl (lP (mH)))))))
 obtain⟨n,h⟩:=dy h
 exact dC (.inr ⟨_,bq rfl,e8 n a0 R 0 h⟩)
theorem aAb (a0:List bj) (R:Int) (r:Int×(List bj)) (h:DZ a0 R=some r):bl aB 56 [.an 3 (a0.map e5),.int .i64 R] (.int .i64 r.1) [.an 3 (r.2.map e5),.hole]:=by
 refine bT [0] [.tmp 4] Tryz.func56 au8 (fun bO al bN=> ?_)
 refine ws _ ?_
 refine aI al (fun d_ bW bg ak=> ?_)
 refine ws _ ?_
 refine bH bg (fun dK et cd b4 bm=> ?_)
 have e8:∀(n:Nat) (bB:List bj) (aU:Int) (aF:Int),uf n bB aU aF=some r→dp aB Pj dK (ab [(0,.an 3 (bB.map e5)),(1,.int .i64 aU),(5,.int .i64 aF)]):=by
  intro m6
  induction m6 with
  |zero=>intro bB aU aF h;cases(show none=some r from h)
  |succ m6 eZ=>
   intro bB aU aF h
   replace h:DY (uf m6) bB aU aF=some r:=h
   refine dE cd (fun gO dH cS bh=> ?_)
   refine aI cS (fun eY n6 dj bM=> ?_)
   refine ws _ ?_
   refine aT h (fun cH h=> ?_) (fun cH h=> ?_)
   ·refine aY (n6 _ (.inl ?_))
    refine aI cS (fun eh cL cl dh=> ?_)
    refine bH cl (fun eJ n10 cx ek c_=> ?_)
    obtain⟨af,eo,h⟩:=aE h
    obtain⟨ak,dS,h⟩:=aE h
    refine cP (bU [(0,.an 3 ((List.set bB (Int.toNat aF) (bj.mk af ak.dt ak.Body)).map e5)),(1,.int .i64 aU),(5,.int .i64 aF)] (fun P ai=> ?_) ?_)
    ·simp only[aO.down,simprocAttr,w1.down,dS,cG dS,dN,dz]
     refine e1 (xa aU _ eo) rfl rfl rfl rfl (.inl (by rfl)) ?_
     simp only[aO.down,simprocAttr,w1.down,dS,cG dS,dN,dz]
     (try simp only[bb.down,simprocAttr,cc,e5,fp,fv,dS,cG dS,dN,dz]at ai⊢);exact ai
    refine ws [(0,.an 3 ((List.set bB (Int.toNat aF) (bj.mk af ak.dt ak.Body)).map e5)),(1,.int .i64 (IntKind.i64.wrap (aU+1))),(5,.int .i64 aF)] ?_
    obtain⟨aV,cg,h⟩:=aE h
    refine cP (bU [(0,.an 3 ((List.set (List.set bB (Int.toNat aF) (bj.mk af ak.dt ak.Body)) (Int.toNat aF) (bj.mk aV.Name (IntKind.i64.wrap (aU+1)) aV.Body)).map e5)),(1,.int .i64 (IntKind.i64.wrap (aU+1))),(5,.int .i64 aF)] (fun P ai=> ?_) ?_)
    ·simp only[aO.down,simprocAttr,w1.down,cg,cG cg,dN,dz]
     (try simp only[bb.down,simprocAttr,cc,e5,fp,fv,cg,cG cg,dN,dz]at ai⊢);exact ai
    refine ws [(0,.an 3 ((List.set (List.set bB (Int.toNat aF) (bj.mk af ak.dt ak.Body)) (Int.toNat aF) (bj.mk aV.Name (IntKind.i64.wrap (aU+1)) aV.Body)).map e5)),(1,.int .i64 (IntKind.i64.wrap ((IntKind.i64.wrap (aU+1))+1))),(5,.int .i64 aF)] ?_
    obtain⟨bm,hL,h⟩:=aE h
    obtain⟨bh,i6,h⟩:=aE h
    refine jV (bU [(0,.an 3 ((List.set (List.set (List.set bB (Int.toNat aF) (bj.mk af ak.dt ak.Body)) (Int.toNat aF) (bj.mk aV.Name (IntKind.i64.wrap (aU+1)) aV.Body)) (Int.toNat aF) (bj.mk bm.Name bm.dt bh.2)).map e5)),(1,.int .i64 bh.1),(5,.int .i64 aF)] (fun P ai=> ?_) ?_)
    ·simp only[aO.down,simprocAttr,w1.down,hL,cG hL]
     refine oF [⟨.h 0 [Int.toNat aF,2],true,_,_⟩,⟨.int .i64 (IntKind.i64.wrap ((IntKind.i64.wrap (aU+1))+1)),false,_,.hole⟩] (aAa bm.Body (IntKind.i64.wrap ((IntKind.i64.wrap (aU+1))+1)) _ i6) rfl rfl rfl (by simp only[aO.down,simprocAttr,w1.down,hL,cG hL,lq,ji,fJ,fK,fL,de,or_true,true_or, @b5 _ fp cA (fun _=>H4 _)]) rfl rfl (.inl rfl) ?_
     simp only[aO.down,simprocAttr,w1.down,hL,cG hL,lr,(yw (cG hL)),yx]
     (try simp only[bb.down,simprocAttr,cc,e5,fp,fv,hL,cG hL]at ai⊢);exact ai
    refine n10 _ (cL _ (.inl ?_))
    refine wr [(0,.an 3 ((List.set (List.set (List.set bB (Int.toNat aF) (bj.mk af ak.dt ak.Body)) (Int.toNat aF) (bj.mk aV.Name (IntKind.i64.wrap (aU+1)) aV.Body)) (Int.toNat aF) (bj.mk bm.Name bm.dt bh.2)).map e5)),(1,.int .i64 bh.1),(5,.int .i64 (IntKind.i64.wrap (aF+1)))] ?_
    exact dH _ (.inr ⟨_,bq rfl,eZ (List.set (List.set (List.set bB (Int.toNat aF) (bj.mk af ak.dt ak.Body)) (Int.toNat aF) (bj.mk aV.Name (IntKind.i64.wrap (aU+1)) aV.Body)) (Int.toNat aF) (bj.mk bm.Name bm.dt bh.2)) bh.1 (IntKind.i64.wrap (aF+1)) h⟩)
   ·refine dA (bM 0 _ (bh 0 _ (b4 _ (bW _ (.inl ?_)))))
    refine ws _ ?_
    exact aD (al _ (.inl (l_ [.int .i64 aU] rfl (by cases h2 h;rfl) (by decide) (mF (mG (by cases h2 h;rfl) rfl rfl rfl (lP (mH)))))))
 obtain⟨n,h⟩:=dy h
 exact dC (.inr ⟨_,bq rfl,e8 n a0 R 0 h⟩)
theorem Qc (a0:List Int) (R:Int) (r:Int×(List Int)) (h:zR a0 R=some r):bl aB 28 [.an 1 (a0.map bs),.int .i64 R] (.int .i64 r.1) [.an 1 (r.2.map bs),.hole]:=by
 refine bT [0] [.tmp 4] Tryz.func28 px (fun bO al bN=> ?_)
 refine ws _ ?_
 refine aI al (fun d_ bW bg ak=> ?_)
 refine ws _ ?_
 refine bH bg (fun dK et cd b4 bm=> ?_)
 have e8:∀(n:Nat) (bB:List Int) (aU:Int) (aF:Int),ug n bB aU aF=some r→dp aB Pk dK (ab [(0,.an 1 (bB.map bs)),(1,.int .i64 aU),(5,.int .i64 aF)]):=by
  intro m6
  induction m6 with
  |zero=>intro bB aU aF h;cases(show none=some r from h)
  |succ m6 eZ=>
   intro bB aU aF h
   replace h:D0 (ug m6) bB aU aF=some r:=h
   refine dE cd (fun gO dH cS bh=> ?_)
   refine aI cS (fun eY n6 dj bM=> ?_)
   refine ws _ ?_
   refine aT h (fun cH h=> ?_) (fun cH h=> ?_)
   ·refine aY (n6 _ (.inl ?_))
    refine aI cS (fun eh cL cl dh=> ?_)
    refine bH cl (fun eJ n10 cx ek c_=> ?_)
    obtain⟨af,eo,h⟩:=aE h
    refine cP (bU [(0,.an 1 ((List.set bB (Int.toNat aF) aU).map bs)),(1,.int .i64 aU),(5,.int .i64 aF)] (fun P ai=> ?_) ?_)
    ·simp only[aO.down,simprocAttr,nW.down,eo,cG eo,dN,dz]
     (try simp only[bb.down,simprocAttr,bs,eo,cG eo,dN,dz]at ai⊢);exact ai
    refine wr [(0,.an 1 ((List.set bB (Int.toNat aF) aU).map bs)),(1,.int .i64 (IntKind.i64.wrap (aU+1))),(5,.int .i64 aF)] ?_
    refine n10 _ (cL _ (.inl ?_))
    refine wr [(0,.an 1 ((List.set bB (Int.toNat aF) aU).map bs)),(1,.int .i64 (IntKind.i64.wrap (aU+1))),(5,.int .i64 (IntKind.i64.wrap (aF+1)))] ?_
    exact dH _ (.inr ⟨_,bq rfl,eZ (List.set bB (Int.toNat aF) aU) (IntKind.i64.wrap (aU+1)) (IntKind.i64.wrap (aF+1)) h⟩)
   ·refine dA (bM 0 _ (bh 0 _ (b4 _ (bW _ (.inl ?_)))))
    refine ws _ ?_
    exact aD (al _ (.inl (l_ [.int .i64 aU] rfl (by cases h2 h;rfl) (by decide) (mF (mG (by cases h2 h;rfl) rfl rfl rfl (lP (mH)))))))
 obtain⟨n,h⟩:=dy h
 exact dC (.inr ⟨_,bq rfl,e8 n a0 R 0 h⟩)
theorem aAc (a0:List dk) (R:Int) (r:Int×(List dk)) (h:D2 a0 R=some r):bl aB 57 [.an 2 (a0.map ff),.int .i64 R] (.int .i64 r.1) [.an 2 (r.2.map ff),.hole]:=by
 refine bT [0] [.tmp 4] Tryz.func57 avp (fun bO al bN=> ?_)
 refine ws _ ?_
 refine aI al (fun d_ bW bg ak=> ?_)
 refine ws _ ?_
 refine bH bg (fun dK et cd b4 bm=> ?_)
 have e8:∀(n:Nat) (bB:List dk) (aU:Int) (aF:Int),uh n bB aU aF=some r→dp aB Pl dK (ab [(0,.an 2 (bB.map ff)),(1,.int .i64 aU),(5,.int .i64 aF)]):=by
  intro m6
  induction m6 with
  |zero=>intro bB aU aF h;cases(show none=some r from h)
  |succ m6 eZ=>
   intro bB aU aF h
   replace h:D1 (uh m6) bB aU aF=some r:=h
   refine dE cd (fun gO dH cS bh=> ?_)
   refine aI cS (fun eY n6 dj bM=> ?_)
   refine ws _ ?_
   refine aT h (fun cH h=> ?_) (fun cH h=> ?_)
   ·refine aY (n6 _ (.inl ?_))
    refine aI cS (fun eh cL cl dh=> ?_)
    refine bH cl (fun eJ n10 cx ek c_=> ?_)
    obtain⟨af,eo,h⟩:=aE h
    refine cP (bU [(0,.an 2 ((List.set bB (Int.toNat aF) (dk.mk aU af.bS)).map ff)),(1,.int .i64 aU),(5,.int .i64 aF)] (fun P ai=> ?_) ?_)
    ·simp only[aO.down,simprocAttr,Eo.down,eo,cG eo,dN,dz]
     (try simp only[bb.down,simprocAttr,bs,ff,eo,cG eo,dN,dz]at ai⊢);exact ai
    refine ws [(0,.an 2 ((List.set bB (Int.toNat aF) (dk.mk aU af.bS)).map ff)),(1,.int .i64 (IntKind.i64.wrap (aU+1))),(5,.int .i64 aF)] ?_
    obtain⟨ak,el,h⟩:=aE h
    obtain⟨aV,cg,h⟩:=aE h
    refine jV (bU [(0,.an 2 ((List.set (List.set bB (Int.toNat aF) (dk.mk aU af.bS)) (Int.toNat aF) (dk.mk ak.cm aV.2)).map ff)),(1,.int .i64 aV.1),(5,.int .i64 aF)] (fun P ai=> ?_) ?_)
    ·simp only[aO.down,simprocAttr,Eo.down,el,cG el]
     refine oF [⟨.h 0 [Int.toNat aF,1],true,_,_⟩,⟨.int .i64 (IntKind.i64.wrap (aU+1)),false,_,.hole⟩] (Qc ak.bS (IntKind.i64.wrap (aU+1)) _ cg) rfl rfl rfl (by simp only[aO.down,simprocAttr,Eo.down,el,cG el,lq,ji,fJ,fK,fL,de,or_true,true_or, @b5 _ bs bs (fun _=>np _)]) rfl rfl (.inl rfl) ?_
     simp only[aO.down,simprocAttr,Eo.down,el,cG el,lr,(yw (cG el)),yx]
     (try simp only[bb.down,simprocAttr,bs,ff,el,cG el]at ai⊢);exact ai
    refine n10 _ (cL _ (.inl ?_))
    refine wr [(0,.an 2 ((List.set (List.set bB (Int.toNat aF) (dk.mk aU af.bS)) (Int.toNat aF) (dk.mk ak.cm aV.2)).map ff)),(1,.int .i64 aV.1),(5,.int .i64 (IntKind.i64.wrap (aF+1)))] ?_
    exact dH _ (.inr ⟨_,bq rfl,eZ (List.set (List.set bB (Int.toNat aF) (dk.mk aU af.bS)) (Int.toNat aF) (dk.mk ak.cm aV.2)) aV.1 (IntKind.i64.wrap (aF+1)) h⟩)
   ·refine dA (bM 0 _ (bh 0 _ (b4 _ (bW _ (.inl ?_)))))
    refine ws _ ?_
    exact aD (al _ (.inl (l_ [.int .i64 aU] rfl (by cases h2 h;rfl) (by decide) (mF (mG (by cases h2 h;rfl) rfl rfl rfl (lP (mH)))))))
 obtain⟨n,h⟩:=dy h
 exact dC (.inr ⟨_,bq rfl,e8 n a0 R 0 h⟩)
theorem aAd (a0:List cb) (R:Int) (r:Int×(List cb)) (h:D4 a0 R=some r):bl aB 58 [.an 3 (a0.map bz),.int .i64 R] (.int .i64 r.1) [.an 3 (r.2.map bz),.hole]:=by
 refine bT [0] [.tmp 4] Tryz.func58 avC (fun bO al bN=> ?_)
 refine ws _ ?_
 refine aI al (fun d_ bW bg ak=> ?_)
 refine ws _ ?_
 refine bH bg (fun dK et cd b4 bm=> ?_)
 have e8:∀(n:Nat) (bB:List cb) (aU:Int) (aF:Int),ui n bB aU aF=some r→dp aB Pm dK (ab [(0,.an 3 (bB.map bz)),(1,.int .i64 aU),(5,.int .i64 aF)]):=by
  intro m6
  induction m6 with
  |zero=>intro bB aU aF h;cases(show none=some r from h)
  |succ m6 eZ=>
   intro bB aU aF h
   replace h:D3 (ui m6) bB aU aF=some r:=h
   refine dE cd (fun gO dH cS bh=> ?_)
   refine aI cS (fun eY n6 dj bM=> ?_)
   refine ws _ ?_
   refine aT h (fun cH h=> ?_) (fun cH h=> ?_)
   ·refine aY (n6 _ (.inl ?_))
    refine aI cS (fun eh cL cl dh=> ?_)
    refine bH cl (fun eJ n10 cx ek c_=> ?_)
    obtain⟨af,eo,h⟩:=aE h
    obtain⟨ak,dS,h⟩:=aE h
    refine cP (bU [(0,.an 3 ((List.set bB (Int.toNat aF) (cb.mk af ak.cp ak.Result)).map bz)),(1,.int .i64 aU),(5,.int .i64 aF)] (fun P ai=> ?_) ?_)
    ·simp only[aO.down,simprocAttr,hy.down,dS,cG dS,dN,dz]
     refine e1 (xa aU _ eo) rfl rfl rfl rfl (.inl (by rfl)) ?_
     simp only[aO.down,simprocAttr,hy.down,dS,cG dS,dN,dz]
     (try simp only[bb.down,simprocAttr,bz,dS,cG dS,dN,dz]at ai⊢);exact ai
    refine ws [(0,.an 3 ((List.set bB (Int.toNat aF) (cb.mk af ak.cp ak.Result)).map bz)),(1,.int .i64 (IntKind.i64.wrap (aU+1))),(5,.int .i64 aF)] ?_
    obtain⟨aV,cg,h⟩:=aE h
    obtain⟨bm,ez,h⟩:=aE h
    refine cP (bU [(0,.an 3 ((List.set (List.set bB (Int.toNat aF) (cb.mk af ak.cp ak.Result)) (Int.toNat aF) (cb.mk bm.Left aV bm.Result)).map bz)),(1,.int .i64 (IntKind.i64.wrap (aU+1))),(5,.int .i64 aF)] (fun P ai=> ?_) ?_)
    ·simp only[aO.down,simprocAttr,hy.down,ez,cG ez,dN,dz]
     refine e1 (xa (IntKind.i64.wrap (aU+1)) _ cg) rfl rfl rfl rfl (.inl (by rfl)) ?_
     simp only[aO.down,simprocAttr,hy.down,ez,cG ez,dN,dz]
     (try simp only[bb.down,simprocAttr,bz,ez,cG ez,dN,dz]at ai⊢);exact ai
    refine ws [(0,.an 3 ((List.set (List.set bB (Int.toNat aF) (cb.mk af ak.cp ak.Result)) (Int.toNat aF) (cb.mk bm.Left aV bm.Result)).map bz)),(1,.int .i64 (IntKind.i64.wrap ((IntKind.i64.wrap (aU+1))+1))),(5,.int .i64 aF)] ?_
    obtain⟨bh,i6,h⟩:=aE h
    obtain⟨bM,lU,h⟩:=aE h
    refine cP (bU [(0,.an 3 ((List.set (List.set (List.set bB (Int.toNat aF) (cb.mk af ak.cp ak.Result)) (Int.toNat aF) (cb.mk bm.Left aV bm.Result)) (Int.toNat aF) (cb.mk bM.Left bM.cp bh)).map bz)),(1,.int .i64 (IntKind.i64.wrap ((IntKind.i64.wrap (aU+1))+1))),(5,.int .i64 aF)] (fun P ai=> ?_) ?_)
    ·simp only[aO.down,simprocAttr,hy.down,lU,cG lU,dN,dz]
     refine e1 (xa (IntKind.i64.wrap ((IntKind.i64.wrap (aU+1))+1)) _ i6) rfl rfl rfl rfl (.inl (by rfl)) ?_
     simp only[aO.down,simprocAttr,hy.down,lU,cG lU,dN,dz]
     (try simp only[bb.down,simprocAttr,bz,lU,cG lU,dN,dz]at ai⊢);exact ai
    refine wr [(0,.an 3 ((List.set (List.set (List.set bB (Int.toNat aF) (cb.mk af ak.cp ak.Result)) (Int.toNat aF) (cb.mk bm.Left aV bm.Result)) (Int.toNat aF) (cb.mk bM.Left bM.cp bh)).map bz)),(1,.int .i64 (IntKind.i64.wrap ((IntKind.i64.wrap ((IntKind.i64.wrap (aU+1))+1))+1))),(5,.int .i64 aF)] ?_
    refine n10 _ (cL _ (.inl ?_))
    refine wr [(0,.an 3 ((List.set (List.set (List.set bB (Int.toNat aF) (cb.mk af ak.cp ak.Result)) (Int.toNat aF) (cb.mk bm.Left aV bm.Result)) (Int.toNat aF) (cb.mk bM.Left bM.cp bh)).map bz)),(1,.int .i64 (IntKind.i64.wrap ((IntKind.i64.wrap ((IntKind.i64.wrap (aU+1))+1))+1))),(5,.int .i64 (IntKind.i64.wrap (aF+1)))] ?_
    exact dH _ (.inr ⟨_,bq rfl,eZ (List.set (List.set (List.set bB (Int.toNat aF) (cb.mk af ak.cp ak.Result)) (Int.toNat aF) (cb.mk bm.Left aV bm.Result)) (Int.toNat aF) (cb.mk bM.Left bM.cp bh)) (IntKind.i64.wrap ((IntKind.i64.wrap ((IntKind.i64.wrap (aU+1))+1))+1)) (IntKind.i64.wrap (aF+1)) h⟩)
   ·refine dA (bM 0 _ (bh 0 _ (b4 _ (bW _ (.inl ?_)))))
    refine ws _ ?_
    exact aD (al _ (.inl (l_ [.int .i64 aU] rfl (by cases h2 h;rfl) (by decide) (mF (mG (by cases h2 h;rfl) rfl rfl rfl (lP (mH)))))))
 obtain⟨n,h⟩:=dy h
 exact dC (.inr ⟨_,bq rfl,e8 n a0 R 0 h⟩)
theorem Qd (a0:List (List UInt8)) (R:Int) (r:Int×(List (List UInt8))) (h:zS a0 R=some r):bl aB 59 [.an 1 (a0.map bE),.int .i64 R] (.int .i64 r.1) [.an 1 (r.2.map bE),.hole]:=by
 refine bT [0] [.tmp 4] Tryz.func59 avL (fun bO al bN=> ?_)
 refine ws _ ?_
 refine aI al (fun d_ bW bg ak=> ?_)
 refine ws _ ?_
 refine bH bg (fun dK et cd b4 bm=> ?_)
 have e8:∀(n:Nat) (bB:List (List UInt8)) (aU:Int) (aF:Int),uj n bB aU aF=some r→dp aB Pn dK (ab [(0,.an 1 (bB.map bE)),(1,.int .i64 aU),(5,.int .i64 aF)]):=by
  intro m6
  induction m6 with
  |zero=>intro bB aU aF h;cases(show none=some r from h)
  |succ m6 eZ=>
   intro bB aU aF h
   replace h:D5 (uj m6) bB aU aF=some r:=h
   refine dE cd (fun gO dH cS bh=> ?_)
   refine aI cS (fun eY n6 dj bM=> ?_)
   refine ws _ ?_
   refine aT h (fun cH h=> ?_) (fun cH h=> ?_)
   ·refine aY (n6 _ (.inl ?_))
    refine aI cS (fun eh cL cl dh=> ?_)
    refine bH cl (fun eJ n10 cx ek c_=> ?_)
    obtain⟨af,eo,h⟩:=aE h
    obtain⟨ak,dS,h⟩:=aE h
    refine cP (bU [(0,.an 1 ((List.set bB (Int.toNat aF) af).map bE)),(1,.int .i64 aU),(5,.int .i64 aF)] (fun P ai=> ?_) ?_)
    ·simp only[aO.down,simprocAttr,eI,k4,bE,dS,cG dS,dN,dz]
     refine e1 (xa aU _ eo) rfl rfl rfl rfl (.inl (by rfl)) ?_
     simp only[aO.down,simprocAttr,eI,k4,bE,dS,cG dS,dN,dz]
     (try simp only[bb.down,simprocAttr,bE,dS,cG dS,dN,dz]at ai⊢);exact ai
    refine wr [(0,.an 1 ((List.set bB (Int.toNat aF) af).map bE)),(1,.int .i64 (IntKind.i64.wrap (aU+1))),(5,.int .i64 aF)] ?_
    refine n10 _ (cL _ (.inl ?_))
    refine wr [(0,.an 1 ((List.set bB (Int.toNat aF) af).map bE)),(1,.int .i64 (IntKind.i64.wrap (aU+1))),(5,.int .i64 (IntKind.i64.wrap (aF+1)))] ?_
    exact dH _ (.inr ⟨_,bq rfl,eZ (List.set bB (Int.toNat aF) af) (IntKind.i64.wrap (aU+1)) (IntKind.i64.wrap (aF+1)) h⟩)
   ·refine dA (bM 0 _ (bh 0 _ (b4 _ (bW _ (.inl ?_)))))
    refine ws _ ?_
    exact aD (al _ (.inl (l_ [.int .i64 aU] rfl (by cases h2 h;rfl) (by decide) (mF (mG (by cases h2 h;rfl) rfl rfl rfl (lP (mH)))))))
 obtain⟨n,h⟩:=dy h
 exact dC (.inr ⟨_,bq rfl,e8 n a0 R 0 h⟩)
theorem aAe (wQ:List bj) (uk:List dk) (sf:List cb) (q6:List (List UInt8)) (qi:List (List UInt8)) (R:Int) (r:Int×(List bj)×(List dk)×(List cb)×(List (List UInt8))×(List (List UInt8))) (h:D6 wQ uk sf q6 qi R=some r):bl aB 16 [.agg [.an 3 (wQ.map e5),.an 2 (uk.map ff),.an 3 (sf.map bz),.an 1 (q6.map bE),.an 1 (qi.map bE)],.int .i64 R] (.int .i64 r.1) [.agg [.an 3 (r.2.1.map e5),.an 2 (r.2.2.1.map ff),.an 3 (r.2.2.2.1.map bz),.an 1 (r.2.2.2.2.1.map bE),.an 1 (r.2.2.2.2.2.map bE)],.hole]:=by
 refine bT [0] [.tmp 4] Tryz.func16 uy (fun bO al bN=> ?_)
 refine cP (bU [(0,.agg [.an 3 (wQ.map e5),.an 2 (uk.map ff),.an 3 (sf.map bz),.an 1 (q6.map bE),.an 1 (qi.map bE)]),(1,.int .i64 R),(2,.ae 0 0)] (fun P ai=> ?_) ?_)
 ·simp only[aO.down,simprocAttr,kJ.down,jj,jl,I.dX,jk]
  (try simp only[bb.down,simprocAttr,w2.down,jj,jl,I.dX,jk]at ai⊢);exact ai
 obtain⟨af,aQ,h⟩:=aE h
 refine cP (bU [(0,.agg [.an 3 (af.2.map e5),.an 2 (uk.map ff),.an 3 (sf.map bz),.an 1 (q6.map bE),.an 1 (qi.map bE)]),(1,.int .i64 af.1),(2,.ae 0 0)] (fun P ai=> ?_) ?_)
 ·simp only[aO.down,simprocAttr,kJ.down,jj,jl,I.dX,jk]
  refine BM [⟨.h 0 [0],true,_,_⟩,⟨.int .i64 R,false,_,.hole⟩] (aAb wQ R _ aQ) rfl rfl rfl (by simp only[aO.down,simprocAttr,kJ.down,jj,jl,I.dX,jk,ni,lq,ji,fJ,fK,fL,de,or_true,true_or, @b5 _ e5 bA (fun _=>sg _)]) rfl rfl (.inl rfl) (by simp only[aO.down,simprocAttr,kJ.down,jj,jl,I.dX,jk,r2,ji,v_,Bool.and_self,Bool.not_false,Bool.and_true]) ?_
  simp only[aO.down,simprocAttr,kJ.down,jj,jl,I.dX,jk,lr,r2,ji,eq_self,Bool.and_self]
  (try simp only[bb.down,simprocAttr,w2.down,jj,jl,I.dX,jk]at ai⊢);exact ai
 obtain⟨ak,cR,h⟩:=aE h
 refine cP (bU [(0,.agg [.an 3 (af.2.map e5),.an 2 (ak.2.map ff),.an 3 (sf.map bz),.an 1 (q6.map bE),.an 1 (qi.map bE)]),(1,.int .i64 ak.1),(2,.ae 0 0)] (fun P ai=> ?_) ?_)
 ·simp only[aO.down,simprocAttr,kJ.down,jj,jl,I.dX,jk]
  refine BM [⟨.h 0 [1],true,_,_⟩,⟨.int .i64 af.1,false,_,.hole⟩] (aAc uk af.1 _ cR) rfl rfl rfl (by simp only[aO.down,simprocAttr,kJ.down,jj,jl,I.dX,jk,ni,lq,ji,fJ,fK,fL,de,or_true,true_or, @b5 _ ff e2 (fun _=>si _)]) rfl rfl (.inl rfl) (by simp only[aO.down,simprocAttr,kJ.down,jj,jl,I.dX,jk,r2,ji,v_,Bool.and_self,Bool.not_false,Bool.and_true]) ?_
  simp only[aO.down,simprocAttr,kJ.down,jj,jl,I.dX,jk,lr,r2,ji,eq_self,Bool.and_self]
  (try simp only[bb.down,simprocAttr,w2.down,jj,jl,I.dX,jk]at ai⊢);exact ai
 obtain⟨aV,b3,h⟩:=aE h
 refine cP (bU [(0,.agg [.an 3 (af.2.map e5),.an 2 (ak.2.map ff),.an 3 (aV.2.map bz),.an 1 (q6.map bE),.an 1 (qi.map bE)]),(1,.int .i64 aV.1),(2,.ae 0 0)] (fun P ai=> ?_) ?_)
 ·simp only[aO.down,simprocAttr,kJ.down,jj,jl,I.dX,jk]
  refine BM [⟨.h 0 [2],true,_,_⟩,⟨.int .i64 ak.1,false,_,.hole⟩] (aAd sf ak.1 _ b3) rfl rfl rfl (by simp only[aO.down,simprocAttr,kJ.down,jj,jl,I.dX,jk,ni,lq,ji,fJ,fK,fL,de,or_true,true_or, @b5 _ bz bz (fun _=>mN _)]) rfl rfl (.inl rfl) (by simp only[aO.down,simprocAttr,kJ.down,jj,jl,I.dX,jk,r2,ji,v_,Bool.and_self,Bool.not_false,Bool.and_true]) ?_
  simp only[aO.down,simprocAttr,kJ.down,jj,jl,I.dX,jk,lr,r2,ji,eq_self,Bool.and_self]
  (try simp only[bb.down,simprocAttr,w2.down,jj,jl,I.dX,jk]at ai⊢);exact ai
 obtain⟨bm,lh,h⟩:=aE h
 refine cP (bU [(0,.agg [.an 3 (af.2.map e5),.an 2 (ak.2.map ff),.an 3 (aV.2.map bz),.an 1 (bm.2.map bE),.an 1 (qi.map bE)]),(1,.int .i64 bm.1),(2,.ae 0 0)] (fun P ai=> ?_) ?_)
 ·simp only[aO.down,simprocAttr,kJ.down,jj,jl,I.dX,jk]
  refine BM [⟨.h 0 [3],true,_,_⟩,⟨.int .i64 aV.1,false,_,.hole⟩] (Qd q6 aV.1 _ lh) rfl rfl rfl (by simp only[aO.down,simprocAttr,kJ.down,jj,jl,I.dX,jk,ni,lq,ji,fJ,fK,fL,de,or_true,true_or, @b5 _ bE bE (fun _=>iK _)]) rfl rfl (.inl rfl) (by simp only[aO.down,simprocAttr,kJ.down,jj,jl,I.dX,jk,r2,ji,v_,Bool.and_self,Bool.not_false,Bool.and_true]) ?_
  simp only[aO.down,simprocAttr,kJ.down,jj,jl,I.dX,jk,lr,r2,ji,eq_self,Bool.and_self]
  (try simp only[bb.down,simprocAttr,w2.down,jj,jl,I.dX,jk]at ai⊢);exact ai
 obtain⟨bh,l4,h⟩:=aE h
 refine cP (bU [(0,.agg [.an 3 (af.2.map e5),.an 2 (ak.2.map ff),.an 3 (aV.2.map bz),.an 1 (bm.2.map bE),.an 1 (bh.2.map bE)]),(1,.int .i64 bh.1)] (fun P ai=> ?_) ?_)
 ·simp only[aO.down,simprocAttr,kJ.down,jj,jl,I.dX,jk]
  refine oF [⟨.h 0 [4],true,_,_⟩,⟨.int .i64 bm.1,false,_,.hole⟩] (Qd qi bm.1 _ l4) rfl rfl rfl (by simp only[aO.down,simprocAttr,kJ.down,jj,jl,I.dX,jk,ni,lq,ji,fJ,fK,fL,de,or_true,true_or, @b5 _ bE bE (fun _=>iK _)]) rfl rfl (.inl rfl) ?_
  simp only[aO.down,simprocAttr,kJ.down,jj,jl,I.dX,jk,lr]
  (try simp only[bb.down,simprocAttr,w2.down,jj,jl,I.dX,jk]at ai⊢);exact ai
 refine ws _ ?_
 exact aD (al _ (.inl (l_ [.int .i64 bh.1] rfl (by cases h2 h;rfl) (by decide) (mF (mG (by cases h2 h;rfl) rfl rfl rfl (lP (mH)))))))
theorem Qe (a0:List aW) (R:Int) (r:Int×(List aW)) (h:zT a0 R=some r):bl aB 17 [.an 3 (a0.map b6),.int .i64 R] (.int .i64 r.1) [.an 3 (r.2.map b6),.hole]:=by
 refine bT [0] [.tmp 4] Tryz.func17 uz (fun bO al bN=> ?_)
 refine ws _ ?_
 refine aI al (fun d_ bW bg ak=> ?_)
 refine ws _ ?_
 refine bH bg (fun dK et cd b4 bm=> ?_)
 have e8:∀(n:Nat) (bB:List aW) (aU:Int) (aF:Int),um n bB aU aF=some r→dp aB Po dK (ab [(0,.an 3 (bB.map b6)),(1,.int .i64 aU),(5,.int .i64 aF)]):=by
  intro m6
  induction m6 with
  |zero=>intro bB aU aF h;cases(show none=some r from h)
  |succ m6 eZ=>
   intro bB aU aF h
   replace h:D7 (um m6) bB aU aF=some r:=h
   refine dE cd (fun gO dH cS bh=> ?_)
   refine aI cS (fun eY n6 dj bM=> ?_)
   refine ws _ ?_
   refine aT h (fun cH h=> ?_) (fun cH h=> ?_)
   ·refine aY (n6 _ (.inl ?_))
    refine aI cS (fun eh cL cl dh=> ?_)
    refine bH cl (fun eJ n10 cx ek c_=> ?_)
    obtain⟨af,eo,h⟩:=aE h
    refine cP (bU [(0,.an 3 ((List.set bB (Int.toNat aF) (aW.mk aU af.Part af.bS)).map b6)),(1,.int .i64 aU),(5,.int .i64 aF)] (fun P ai=> ?_) ?_)
    ·simp only[aO.down,simprocAttr,Ah.down,eo,cG eo,dN,dz]
     (try simp only[bb.down,simprocAttr,mQ.down,eo,cG eo,dN,dz]at ai⊢);exact ai
    refine ws [(0,.an 3 ((List.set bB (Int.toNat aF) (aW.mk aU af.Part af.bS)).map b6)),(1,.int .i64 (IntKind.i64.wrap (aU+1))),(5,.int .i64 aF)] ?_
    obtain⟨ak,el,h⟩:=aE h
    refine cP (bU [(0,.an 3 ((List.set (List.set bB (Int.toNat aF) (aW.mk aU af.Part af.bS)) (Int.toNat aF) (aW.mk ak.cm (IntKind.i64.wrap (aU+1)) ak.bS)).map b6)),(1,.int .i64 (IntKind.i64.wrap (aU+1))),(5,.int .i64 aF)] (fun P ai=> ?_) ?_)
    ·simp only[aO.down,simprocAttr,Ah.down,el,cG el,dN,dz]
     (try simp only[bb.down,simprocAttr,mQ.down,el,cG el,dN,dz]at ai⊢);exact ai
    refine ws [(0,.an 3 ((List.set (List.set bB (Int.toNat aF) (aW.mk aU af.Part af.bS)) (Int.toNat aF) (aW.mk ak.cm (IntKind.i64.wrap (aU+1)) ak.bS)).map b6)),(1,.int .i64 (IntKind.i64.wrap ((IntKind.i64.wrap (aU+1))+1))),(5,.int .i64 aF)] ?_
    obtain⟨aV,eQ,h⟩:=aE h
    obtain⟨bm,hL,h⟩:=aE h
    refine jV (bU [(0,.an 3 ((List.set (List.set (List.set bB (Int.toNat aF) (aW.mk aU af.Part af.bS)) (Int.toNat aF) (aW.mk ak.cm (IntKind.i64.wrap (aU+1)) ak.bS)) (Int.toNat aF) (aW.mk aV.cm aV.Part bm.2)).map b6)),(1,.int .i64 bm.1),(5,.int .i64 aF)] (fun P ai=> ?_) ?_)
    ·simp only[aO.down,simprocAttr,Ah.down,eQ,cG eQ]
     refine oF [⟨.h 0 [Int.toNat aF,2],true,_,_⟩,⟨.int .i64 (IntKind.i64.wrap ((IntKind.i64.wrap (aU+1))+1)),false,_,.hole⟩] (Qc aV.bS (IntKind.i64.wrap ((IntKind.i64.wrap (aU+1))+1)) _ hL) rfl rfl rfl (by simp only[aO.down,simprocAttr,Ah.down,eQ,cG eQ,lq,ji,fJ,fK,fL,de,or_true,true_or, @b5 _ bs bs (fun _=>np _)]) rfl rfl (.inl rfl) ?_
     simp only[aO.down,simprocAttr,Ah.down,eQ,cG eQ,lr,(yw (cG eQ)),yx]
     (try simp only[bb.down,simprocAttr,mQ.down,eQ,cG eQ]at ai⊢);exact ai
    refine n10 _ (cL _ (.inl ?_))
    refine wr [(0,.an 3 ((List.set (List.set (List.set bB (Int.toNat aF) (aW.mk aU af.Part af.bS)) (Int.toNat aF) (aW.mk ak.cm (IntKind.i64.wrap (aU+1)) ak.bS)) (Int.toNat aF) (aW.mk aV.cm aV.Part bm.2)).map b6)),(1,.int .i64 bm.1),(5,.int .i64 (IntKind.i64.wrap (aF+1)))] ?_
    exact dH _ (.inr ⟨_,bq rfl,eZ (List.set (List.set (List.set bB (Int.toNat aF) (aW.mk aU af.Part af.bS)) (Int.toNat aF) (aW.mk ak.cm (IntKind.i64.wrap (aU+1)) ak.bS)) (Int.toNat aF) (aW.mk aV.cm aV.Part bm.2)) bm.1 (IntKind.i64.wrap (aF+1)) h⟩)
   ·refine dA (bM 0 _ (bh 0 _ (b4 _ (bW _ (.inl ?_)))))
    refine ws _ ?_
    exact aD (al _ (.inl (l_ [.int .i64 aU] rfl (by cases h2 h;rfl) (by decide) (mF (mG (by cases h2 h;rfl) rfl rfl rfl (lP (mH)))))))
 obtain⟨n,h⟩:=dy h
 exact dC (.inr ⟨_,bq rfl,e8 n a0 R 0 h⟩)
theorem aAf (a0:List Int) (R:Int) (r:Int) (h:D9 a0 R=some r):bl aB 60 [.slice (a0.map bs),.int .i64 R] (.int .i64 r) []:=by
 refine bT [0] [.tmp 4] Tryz.func60 awd (fun bO al bN=> ?_)
 refine ws _ ?_
 refine aI al (fun d_ bW bg ak=> ?_)
 refine ws _ ?_
 refine bH bg (fun dK et cd b4 bm=> ?_)
 have e8:∀(n:Nat) (aU:Int) (aF:Int),uo a0 n aU aF=some r→dp aB Pp dK (ab [(0,.slice (a0.map bs)),(1,.int .i64 aU),(5,.int .i64 aF)]):=by
  intro m6
  induction m6 with
  |zero=>intro aU aF h;cases(show none=some r from h)
  |succ m6 eZ=>
   intro aU aF h
   replace h:D8 (uo a0 m6) a0 aU aF=some r:=h
   refine dE cd (fun gO dH cS bh=> ?_)
   refine aI cS (fun eY n6 dj bM=> ?_)
   refine ws _ ?_
   refine aT h (fun cH h=> ?_) (fun cH h=> ?_)
   ·refine aY (n6 _ (.inl ?_))
    refine aI cS (fun eh cL cl dh=> ?_)
    refine bH cl (fun eJ n10 cx ek c_=> ?_)
    refine aI cx (fun ir n11 fD eO=> ?_)
    obtain⟨af,dS,h⟩:=aE h
    refine hI dS _ ?_
    refine aT h (fun gk h=> ?_) (fun gk h=> ?_)
    ·refine ws _ ?_
     exact aD (fD _ (.inl (aH [.int .i64 (-1)])))
    ·refine aY (n11 _ (.inl ?_))
     refine wr _ ?_
     refine n10 _ (cL _ (.inl ?_))
     refine wr _ ?_
     exact dH _ (.inr ⟨_,bq rfl,eZ (IntKind.i64.wrap (aU+1)) (IntKind.i64.wrap (aF+1)) h⟩)
   ·refine dA (bM 0 _ (bh 0 _ (b4 _ (bW _ (.inl ?_)))))
    refine ws _ ?_
    exact aD (al _ (.inl (aH [.int .i64 aU])))
 obtain⟨n,h⟩:=dy h
 exact dC (.inr ⟨_,bq rfl,e8 n R 0 h⟩)
theorem Qf (a0:List aW) (R:Int) (r:Int) (h:zU a0 R=some r):bl aB 18 [.slice (a0.map bD),.int .i64 R] (.int .i64 r) []:=by
 refine bT [0] [.tmp 4] Tryz.func18 aww (fun bO al bN=> ?_)
 refine ws _ ?_
 refine aI al (fun d_ bW bg ak=> ?_)
 refine ws _ ?_
 refine bH bg (fun dK et cd b4 bm=> ?_)
 have e8:∀(n:Nat) (aU:Int) (aF:Int),uq a0 n aU aF=some r→dp aB Pq dK (ab [(0,.slice (a0.map bD)),(1,.int .i64 aU),(5,.int .i64 aF)]):=by
  intro m6
  induction m6 with
  |zero=>intro aU aF h;cases(show none=some r from h)
  |succ m6 eZ=>
   intro aU aF h
   replace h:D_ (uq a0 m6) a0 aU aF=some r:=h
   refine dE cd (fun gO dH cS bh=> ?_)
   refine aI cS (fun eY n6 dj bM=> ?_)
   refine ws _ ?_
   refine aT h (fun cH h=> ?_) (fun cH h=> ?_)
   ·refine aY (n6 _ (.inl ?_))
    refine aI cS (fun eh cL cl dh=> ?_)
    refine bH cl (fun eJ n10 cx ek c_=> ?_)
    refine aI cx (fun ir n11 fD eO=> ?_)
    obtain⟨af,dS,h⟩:=aE h
    refine hI dS _ ?_
    refine aT h (fun gk h=> ?_) (fun gk h=> ?_)
    ·refine ws _ ?_
     exact aD (fD _ (.inl (aH [.int .i64 (-1)])))
    ·refine aY (n11 _ (.inl ?_))
     refine ws _ ?_
     refine aI cx (fun oR n17 jo h0=> ?_)
     refine hI dS _ ?_
     refine aT h (fun hA h=> ?_) (fun hA h=> ?_)
     ·refine ws _ ?_
      exact aD (jo _ (.inl (aH [.int .i64 (-1)])))
     ·refine aY (n17 _ (.inl ?_))
      refine ws _ ?_
      obtain⟨ak,n0,h⟩:=aE h
      refine im dS (aAf af.bS (IntKind.i64.wrap ((IntKind.i64.wrap (aU+1))+1)) _ n0) _ ?_
      refine ws _ ?_
      refine aT h (fun lV h=> ?_) (fun lV h=> ?_)
      ·refine ws _ ?_
       exact aD (cx _ (.inl (aH [.int .i64 (-1)])))
      ·refine aY (n10 _ (cL _ (.inl ?_)))
       refine wr _ ?_
       exact dH _ (.inr ⟨_,bq rfl,eZ ak (IntKind.i64.wrap (aF+1)) h⟩)
   ·refine dA (bM 0 _ (bh 0 _ (b4 _ (bW _ (.inl ?_)))))
    refine ws _ ?_
    exact aD (al _ (.inl (aH [.int .i64 aU])))
 obtain⟨n,h⟩:=dy h
 exact dC (.inr ⟨_,bq rfl,e8 n R 0 h⟩)
theorem aAg (a0:k6) (R:List iH) (r:Bool) (h:HT a0 R=some r):bl aB 3 [jy a0,.slice (R.map gy)] (.bool r) []:=by
 refine bT [0,1] [.tmp 4] Tryz.func3 e4 (fun bO al bN=> ?_)
 refine ws _ ?_
 refine ws _ ?_
 obtain⟨af,cF,h⟩:=aE h
 refine dx (axB a0 1048576 _ cF) _ ?_
 refine aI al (fun gO dH cS bh=> ?_)
 refine ws _ ?_
 refine aT h (fun o8 h=> ?_) (fun o8 h=> ?_)
 ·refine ws _ ?_
  exact aD (cS _ (.inl (aH [.bool true])))
 ·refine aY (dH _ (.inl ?_))
  obtain⟨ak,mu,h⟩:=aE h
  refine dx (axE R af _ mu) _ ?_
  refine aI al (fun ir n11 fD eO=> ?_)
  refine ws _ ?_
  refine aT h (fun gM h=> ?_) (fun gM h=> ?_)
  ·refine ws _ ?_
   exact aD (fD _ (.inl (aH [.bool true])))
  ·refine aY (n11 _ (.inl ?_))
   obtain⟨aV,cg,h⟩:=aE h
   obtain⟨bm,ez,h⟩:=aE h
   obtain⟨bh,eQ,h⟩:=aE h
   refine cP (bU [(1,.slice (R.map gy)),(2,.bd (jy a0)),(6,.an 3 (bh.1.map bD)),(7,.int .i64 bh.2)] (fun P ai=> ?_) ?_)
   ·simp only[aO.down,simprocAttr,Ai.down]
    refine e1 (((Er a0 _ cg)).wide (VB rfl rfl (by simp only[de,I.share,I.shares,Xp]<;>rfl)) rfl rfl) rfl rfl rfl rfl (.inl (by rfl)) ?_
    simp only[aO.down,simprocAttr,Ai.down]
    refine e1 (Es R _ ez) rfl rfl rfl rfl (.inl (by rfl)) ?_
    simp only[aO.down,simprocAttr,Ai.down]
    refine oF [⟨gz aV,false,_,.hole⟩,⟨.h 31 [],true,_,_⟩] (ay1 aV bm _ eQ) rfl rfl rfl (by simp only[aO.down,simprocAttr,Ai.down,ni,lq,ji,fJ,fK,fL,de,or_true,true_or, @b5 _ b6 bD (fun _=>jY _)]) rfl rfl (.inl rfl) ?_
    simp only[aO.down,simprocAttr,Ai.down,lr]
    (try simp only[bb.down,simprocAttr,bs,e2,bA,bz,cA,bD,gz,cc,gK,gJ,gx,gi,gy,jy,fN,ey,fT,bE,b6]at ai⊢);exact ai
   obtain⟨bM,i6,h⟩:=aE h
   refine dx (Er a0 _ i6) _ ?_
   obtain⟨cQ,gl,h⟩:=aE h
   refine dx (Es R _ gl) _ ?_
   obtain⟨eb,ke,h⟩:=aE h
   refine cP (bU [(1,.slice (R.map gy)),(2,.bd (jy a0)),(6,.an 3 (bh.1.map bD)),(7,.int .i64 bh.2),(8,.bd (mO bM)),(9,.an 3 (cQ.map b6)),(10,.an 3 (eb.1.map b6)),(11,.int .i64 eb.2)] (fun P ai=> ?_) ?_)
   ·simp only[aO.down,simprocAttr,w3.down]
    refine e1 (P_ bM cQ _ ke) rfl rfl (by simp only[aO.down,simprocAttr,w3.down,fJ,fK,fL,de, @b5 _ e5 bA (fun _=>sg _), @b5 _ ff e2 (fun _=>si _), @b5 _ bz bz (fun _=>mN _), @b5 _ bE bE (fun _=>iK _), @b5 _ bE bE (fun _=>iK _), @b5 _ b6 bD (fun _=>jY _)]<;>rfl) rfl (.inr (by simp only[I.dd,I.hY, @kB _ b6 (fun _=>H5 _),Bool.and_self])) ?_
    simp only[aO.down,simprocAttr,w3.down]
    (try simp only[bb.down,simprocAttr,lT.down]at ai⊢);exact ai
   refine aI al (fun EB n25 q9 EC=> ?_)
   obtain⟨dh,sk,h⟩:=aE h
   refine cP (bU [(1,.slice (R.map gy)),(2,.bd (jy a0)),(6,.an 3 (bh.1.map bD)),(7,.int .i64 bh.2),(8,.bd (mO bM)),(9,.an 3 (cQ.map b6)),(10,.an 3 (eb.1.map b6)),(11,.int .i64 eb.2),(53,.bool ((!dh)||(eb.2 !=bh.2)))] (fun P ai=> ?_) ?_)
   ·rcases Bool.eq_false_or_eq_true (dh)with px|px
    ·simp only[aO.down,simprocAttr,lT.down,px]
     refine e1 (uM eb.1 bh.1 _ sk) rfl rfl (by simp only[aO.down,simprocAttr,lT.down,px,fJ,fK,fL,de, @b5 _ b6 bD (fun _=>jY _), @b5 _ bD bD (fun _=>wR _)]<;>rfl) rfl (.inr (by rfl)) ?_
     simp only[aO.down,simprocAttr,lT.down,px]
     (try simp only[bb.down,simprocAttr,lT.down,px]at ai⊢);exact ai
    ·simp only[aO.down,simprocAttr,lT.down,px]
     refine e1 (uM eb.1 bh.1 _ sk) rfl rfl (by simp only[aO.down,simprocAttr,lT.down,px,fJ,fK,fL,de, @b5 _ b6 bD (fun _=>jY _), @b5 _ bD bD (fun _=>wR _)]<;>rfl) rfl (.inr (by rfl)) ?_
     simp only[aO.down,simprocAttr,lT.down,px]
     (try simp only[bb.down,simprocAttr,lT.down,px]at ai⊢);exact ai
   refine aT h (fun jq h=> ?_) (fun jq h=> ?_)
   ·refine ws _ ?_
    exact aD (q9 _ (.inl (aH [.bool false])))
   ·refine aY (n25 _ (.inl ?_))
    refine aI al (fun Ew n31 w5 Ex=> ?_)
    obtain⟨c_,IK,h⟩:=aE h
    obtain⟨eO,n2,h⟩:=aE h
    refine fj rfl (fi [(1,.slice (R.map gy)),(2,.bd (jy a0)),(6,.an 3 (bh.1.map bD)),(7,.int .i64 bh.2),(8,.bd (mO bM)),(9,.an 3 (cQ.map b6)),(10,.an 3 (eb.1.map b6)),(11,.int .i64 eb.2),(58,.bool (!eO))] (fun P ai=> ?_) ?_)
    ·simp only[cD.down,simprocAttr,Ep.down]
     refine hf (Er a0 _ IK) rfl rfl rfl rfl (.inl (by rfl)) ?_
     simp only[cD.down,simprocAttr,Ep.down]
     refine hf (az8 bM c_ _ n2) rfl rfl (by simp only[cD.down,simprocAttr,Ep.down,fJ,fK,fL,de, @b5 _ e5 bA (fun _=>sg _), @b5 _ ff e2 (fun _=>si _), @b5 _ bz bz (fun _=>mN _), @b5 _ bE bE (fun _=>iK _), @b5 _ bE bE (fun _=>iK _), @b5 _ e5 bA (fun _=>sg _), @b5 _ ff e2 (fun _=>si _), @b5 _ bz bz (fun _=>mN _), @b5 _ bE bE (fun _=>iK _), @b5 _ bE bE (fun _=>iK _)]<;>rfl) rfl (.inr (by rfl)) ?_
     simp only[cD.down,simprocAttr,Ep.down]
     refine⟨fa (by kernel_rfl),?_⟩
     (try simp only[bb.down,simprocAttr,lT.down]at ai⊢);exact ai
    refine aT h (fun n1 h=> ?_) (fun n1 h=> ?_)
    ·refine ws _ ?_
     exact aD (w5 _ (.inl (aH [.bool false])))
    ·refine aY (n31 _ (.inl ?_))
     refine aI al (fun ayU n37 PY ayV=> ?_)
     obtain⟨iW,sq,h⟩:=aE h
     obtain⟨jm,sr,h⟩:=aE h
     refine cP (bU [(1,.slice (R.map gy)),(2,.bd (jy a0)),(6,.an 3 (bh.1.map bD)),(7,.int .i64 bh.2),(8,.bd (mO bM)),(9,.an 3 (cQ.map b6)),(10,.an 3 (eb.1.map b6)),(11,.int .i64 eb.2),(63,.bool (!jm))] (fun P ai=> ?_) ?_)
     ·simp only[aO.down,simprocAttr,lT.down]
      refine e1 (Es R _ sq) rfl rfl rfl rfl (.inl (by rfl)) ?_
      simp only[aO.down,simprocAttr,lT.down]
      refine e1 (uM cQ iW _ sr) rfl rfl (by simp only[aO.down,simprocAttr,lT.down,fJ,fK,fL,de, @b5 _ b6 bD (fun _=>jY _), @b5 _ b6 bD (fun _=>jY _)]<;>rfl) rfl (.inr (by rfl)) ?_
      simp only[aO.down,simprocAttr,lT.down]
      (try simp only[bb.down,simprocAttr,lT.down]at ai⊢);exact ai
     refine aT h (fun aAh h=> ?_) (fun aAh h=> ?_)
     ·refine ws _ ?_
      exact aD (PY _ (.inl (aH [.bool false])))
     ·refine aY (n37 _ (.inl ?_))
      refine ws _ ?_
      obtain⟨hV,aAi,h⟩:=aE h
      refine cP (bU [(1,.slice (R.map gy)),(2,.bd (jy a0)),(6,.an 3 (bh.1.map bD)),(7,.int .i64 bh.2),(9,.an 3 (cQ.map b6)),(10,.an 3 (eb.1.map b6)),(11,.int .i64 eb.2),(12,.int .i64 hV.1)] (fun P ai=> ?_) ?_)
      ·simp only[aO.down,simprocAttr,w3.down]
       refine oF [⟨.h 8 [0],true,_,_⟩,⟨.int .i64 1,false,_,.hole⟩] (aAe bM.ew bM.c8 bM.hE bM.hv bM.hx 1 _ aAi) rfl rfl rfl (by simp only[aO.down,simprocAttr,w3.down,ni,lq,ji,fJ,fK,fL,de,or_true,true_or, @b5 _ e5 bA (fun _=>sg _), @b5 _ ff e2 (fun _=>si _), @b5 _ bz bz (fun _=>mN _), @b5 _ bE bE (fun _=>iK _), @b5 _ bE bE (fun _=>iK _)]) rfl rfl (.inl rfl) ?_
       simp only[aO.down,simprocAttr,w3.down,lr]
       (try simp only[bb.down,simprocAttr,lT.down]at ai⊢);exact ai
      obtain⟨jO,Av,h⟩:=aE h
      refine cP (bU [(1,.slice (R.map gy)),(2,.bd (jy a0)),(6,.an 3 (bh.1.map bD)),(7,.int .i64 bh.2),(10,.an 3 (eb.1.map b6)),(11,.int .i64 eb.2),(12,.int .i64 jO.1)] (fun P ai=> ?_) ?_)
      ·simp only[aO.down,simprocAttr,kK.down]
       refine oF [⟨.h 9 [],true,_,_⟩,⟨.int .i64 hV.1,false,_,.hole⟩] (Qe cQ hV.1 _ Av) rfl rfl rfl (by simp only[aO.down,simprocAttr,kK.down,ni,lq,ji,fJ,fK,fL,de,or_true,true_or, @b5 _ b6 bD (fun _=>jY _)]) rfl rfl (.inl rfl) ?_
       simp only[aO.down,simprocAttr,kK.down,lr]
       (try simp only[bb.down,simprocAttr,kK.down]at ai⊢);exact ai
      refine aI al (fun Io n48 qo Iq=> ?_)
      rcases e9 h with⟨nu,h⟩|⟨nu,h⟩
      ·refine hI nu _ ?_
       refine jg rfl ?_
       refine ws _ ?_
       exact aD (qo _ (.inl (aH [.bool false])))
      ·obtain⟨nn,Qg,h⟩:=aE h
       refine cP (bU [(1,.slice (R.map gy)),(2,.bd (jy a0)),(6,.an 3 (bh.1.map bD)),(7,.int .i64 bh.2),(10,.an 3 (eb.1.map b6)),(82,.bool ((!nn)||(eb.2 !=bh.2)))] (fun P ai=> ?_) ?_)
       ·rcases Bool.eq_false_or_eq_true (nn)with mP|mP
        ·simp only[aO.down,simprocAttr,kK.down,nu,mP]
         refine hQ (uM eb.1 bh.1 _ Qg) rfl rfl (by simp only[aO.down,simprocAttr,kK.down,nu,mP,fJ,fK,fL,de, @b5 _ b6 bD (fun _=>jY _), @b5 _ bD bD (fun _=>wR _)]<;>rfl) rfl (.inr (by rfl)) ?_
         simp only[aO.down,simprocAttr,kK.down,nu,mP]
         (try simp only[bb.down,simprocAttr,kK.down,nu,mP]at ai⊢);exact ai
        ·simp only[aO.down,simprocAttr,kK.down,nu,mP]
         refine hQ (uM eb.1 bh.1 _ Qg) rfl rfl (by simp only[aO.down,simprocAttr,kK.down,nu,mP,fJ,fK,fL,de, @b5 _ b6 bD (fun _=>jY _), @b5 _ bD bD (fun _=>wR _)]<;>rfl) rfl (.inr (by rfl)) ?_
         simp only[aO.down,simprocAttr,kK.down,nu,mP]
         (try simp only[bb.down,simprocAttr,kK.down,nu,mP]at ai⊢);exact ai
       refine aT h (fun Ap h=> ?_) (fun Ap h=> ?_)
       ·refine ws _ ?_
        exact aD (qo _ (.inl (aH [.bool false])))
       ·refine aY (n48 _ (.inl ?_))
        refine ws _ ?_
        obtain⟨h0,w_,h⟩:=aE h
        refine cP (bU [(1,.slice (R.map gy)),(2,.bd (jy a0)),(6,.an 3 (bh.1.map bD)),(7,.int .i64 bh.2),(10,.an 3 (h0.2.map b6)),(13,.int .i64 h0.1)] (fun P ai=> ?_) ?_)
        ·simp only[aO.down,simprocAttr,kK.down]
         refine oF [⟨.h 10 [],true,_,_⟩,⟨.int .i64 1,false,_,.hole⟩] (Qe eb.1 1 _ w_) rfl rfl rfl (by simp only[aO.down,simprocAttr,kK.down,ni,lq,ji,fJ,fK,fL,de,or_true,true_or, @b5 _ b6 bD (fun _=>jY _)]) rfl rfl (.inl rfl) ?_
         simp only[aO.down,simprocAttr,kK.down,lr]
         (try simp only[bb.down,simprocAttr,kK.down]at ai⊢);exact ai
        refine ws _ ?_
        obtain⟨oN,w8,h⟩:=aE h
        refine cP (bU [(1,.slice (R.map gy)),(2,.bd (jy a0)),(6,.an 3 (bh.1.map bD)),(7,.int .i64 bh.2),(10,.an 3 (h0.2.map b6)),(13,.int .i64 h0.1),(14,.int .i64 oN)] (fun P ai=> ?_) ?_)
        ·simp only[aO.down,simprocAttr,kK.down]
         refine e1 (Qf h0.2 1 _ w8) rfl rfl (by simp only[aO.down,simprocAttr,kK.down,fJ,fK,fL,de, @b5 _ b6 bD (fun _=>jY _)]<;>rfl) rfl (.inr (by rfl)) ?_
         simp only[aO.down,simprocAttr,kK.down]
         (try simp only[bb.down,simprocAttr,kK.down]at ai⊢);exact ai
        refine aI al (fun aFt n62 aAj aFu=> ?_)
        refine ws _ ?_
        refine aT h (fun aAk h=> ?_) (fun aAk h=> ?_)
        ·refine ws _ ?_
         exact aD (aAj _ (.inl (aH [.bool false])))
        ·refine aY (n62 _ (.inl ?_))
         refine aI al (fun aFv aAl aAm aFw=> ?_)
         refine ws _ ?_
         refine aT h (fun ly h=> ?_) (fun ly h=> ?_)
         ·refine ws _ ?_
          exact aD (aAm _ (.inl (aH [.bool false])))
         ·refine aY (aAl _ (.inl ?_))
          obtain⟨ur,aAn,h⟩:=aE h
          obtain⟨zV,It,h⟩:=aE h
          obtain⟨qj,aAo,h⟩:=aE h
          refine cP (bU [(6,.an 3 (bh.1.map bD)),(7,.int .i64 bh.2),(10,.an 3 (h0.2.map b6)),(13,.int .i64 h0.1),(15,.an 3 (qj.1.map b6)),(16,.int .i64 qj.2)] (fun P ai=> ?_) ?_)
          ·simp only[aO.down,simprocAttr,Aj.down]
           refine e1 (Er a0 _ aAn) rfl rfl rfl rfl (.inl (by rfl)) ?_
           simp only[aO.down,simprocAttr,Aj.down]
           refine e1 (Es R _ It) rfl rfl rfl rfl (.inl (by rfl)) ?_
           simp only[aO.down,simprocAttr,Aj.down]
           refine e1 (P_ ur zV _ aAo) rfl rfl (by simp only[aO.down,simprocAttr,Aj.down,fJ,fK,fL,de, @b5 _ e5 bA (fun _=>sg _), @b5 _ ff e2 (fun _=>si _), @b5 _ bz bz (fun _=>mN _), @b5 _ bE bE (fun _=>iK _), @b5 _ bE bE (fun _=>iK _), @b5 _ b6 bD (fun _=>jY _)]<;>rfl) rfl (.inr (by simp only[I.dd,I.hY, @kB _ b6 (fun _=>H5 _),Bool.and_self])) ?_
           simp only[aO.down,simprocAttr,Aj.down]
           (try simp only[bb.down,simprocAttr,lT.down]at ai⊢);exact ai
          refine aI al (fun aFx aAp aAq aFy=> ?_)
          obtain⟨oO,Qh,h⟩:=aE h
          refine cP (bU [(10,.an 3 (h0.2.map b6)),(13,.int .i64 h0.1),(110,.bool ((!oO)||(qj.2 !=bh.2)))] (fun P ai=> ?_) ?_)
          ·rcases Bool.eq_false_or_eq_true (oO)with pv|pv
           ·simp only[aO.down,simprocAttr,kb.down,pv]
            refine e1 (uM qj.1 bh.1 _ Qh) rfl rfl (by simp only[aO.down,simprocAttr,kb.down,pv,fJ,fK,fL,de, @b5 _ b6 bD (fun _=>jY _), @b5 _ bD bD (fun _=>wR _)]<;>rfl) rfl (.inr (by rfl)) ?_
            simp only[aO.down,simprocAttr,kb.down,pv]
            (try simp only[bb.down,simprocAttr,kb.down,pv]at ai⊢);exact ai
           ·simp only[aO.down,simprocAttr,kb.down,pv]
            refine e1 (uM qj.1 bh.1 _ Qh) rfl rfl (by simp only[aO.down,simprocAttr,kb.down,pv,fJ,fK,fL,de, @b5 _ b6 bD (fun _=>jY _), @b5 _ bD bD (fun _=>wR _)]<;>rfl) rfl (.inr (by rfl)) ?_
            simp only[aO.down,simprocAttr,kb.down,pv]
            (try simp only[bb.down,simprocAttr,kb.down,pv]at ai⊢);exact ai
          refine aT h (fun aAr h=> ?_) (fun aAr h=> ?_)
          ·refine ws _ ?_
           exact aD (aAq _ (.inl (aH [.bool false])))
          ·refine aY (aAp _ (.inl ?_))
           refine ws _ ?_
           obtain⟨Ea,aAs,h⟩:=aE h
           refine cP (bU [(13,.int .i64 h0.1),(14,.int .i64 Ea)] (fun P ai=> ?_) ?_)
           ·simp only[aO.down,simprocAttr,mQ.down]
            refine e1 (Qf h0.2 1 _ aAs) rfl rfl (by simp only[aO.down,simprocAttr,mQ.down,fJ,fK,fL,de, @b5 _ b6 bD (fun _=>jY _)]<;>rfl) rfl (.inr (by rfl)) ?_
            simp only[aO.down,simprocAttr,mQ.down]
            (try simp only[bb.down,simprocAttr,mQ.down]at ai⊢);exact ai
           refine aI al (fun aFz aAt aAu aFA=> ?_)
           refine ws _ ?_
           refine aT h (fun aAv h=> ?_) (fun aAv h=> ?_)
           ·refine ws _ ?_
            exact aD (aAu _ (.inl (aH [.bool false])))
           ·refine aY (aAt _ (.inl ?_))
            refine aI al (fun aFB aAw aAx aFC=> ?_)
            refine ws _ ?_
            refine aT h (fun aAy h=> ?_) (fun aAy h=> ?_)
            ·refine ws _ ?_
             exact aD (aAx _ (.inl (aH [.bool false])))
            ·refine aY (aAw _ (.inl ?_))
             refine ws _ ?_
             exact aD (al _ (.inl (aH [.bool true])))
end Go.Proofs.YtocllehpepigpaaGreat
