/- Part of a proof that a law returns true for every input. No condition. -/
import Derived.Test.YtndfcecbamffaaaGreatW1x3
namespace Go.Proofs.YtndfcecbamffaaaGreat
open List Option Go.IntKind Nat Or
open Go Go.c3 Go.nc
set_option maxRecDepth 100000
set_option maxHeartbeats 2600000
set_option linter.unusedSimpArgs false
set_option linter.unusedVariables false
theorem NM (J ab r) (h:yt J ab=some r):bk aq 85 [.ag 1 (J.map dg),.int .i64 ab] (.int .i64 r.1) [.ag 1 (r.2.map dg),.hole]:=by
 refine b6 [0] [.tmp 4] Tryz.func85 Yb λb4 aE b3=>aI ?_;refine aU aE λ_ b9 bx aA=>aI ?_;refine bM bx λfO _ bR cG _=>?_;show bj aq (.loop ?fg) _ _;have ga:∀n dk bS bd,vP n dk bS bd=some r->da aq ?fg fO (ar [(0,.ag 1 (dk.map dg)),(1,.int .i64 bS),(5,.int .i64 bd)]):=by
  refine dz λ_ fT dk bS bd h=>dy bR λ_ eW cQ aZ=>aU cQ λ_ dP _ bp=>aI ?_;refine a_ h (λdw h=>?_) λdw h=>?_
  .refine bf (dP _ (inl (aU cQ λ_ dY dA _=>bM dA λ_ cK _ _ _=>?_)));obtain⟨ah,dM,h⟩:=aJ h;obtain⟨aA,dT,h⟩:=aJ h;refine iW (cx [(0,.ag 1 ((List.set dk (Int.toNat bd) aA.2).map dg)),(1,.int .i64 aA.1),(5,.int .i64 bd)] (λP bm=>?_) ?_)
   ·(try simp only[X0.down,simprocAttr,dM,cB dM]);refine o1 [⟨.h 0 [Int.toNat bd],true,_,_⟩,⟨.int .i64 bS,false,_,.hole⟩] (NK ah bS _ dT) rfl rfl rfl (by simp only[X0.down,simprocAttr,dM,cB dM,M0.down]) rfl rfl (inl rfl) ?_;simp only[X0.down,simprocAttr,dM,cB dM,mB,(tk (cB dM)),tl];exact cu (ad dM (cB dM))
   refine cK _ (dY _ (inl (wr [(0,.ag 1 ((List.set dk (Int.toNat bd) aA.2).map dg)),(1,.int .i64 aA.1),(5,.int .i64 (i64.wrap (bd+1)))] ?_)));exact eW _ (inr ⟨_,cp rfl,fT (List.set dk (Int.toNat bd) aA.2) aA.1 (i64.wrap (bd+1)) h⟩)
  .refine dx (bp 0 _ (aZ 0 _ (cG _ (b9 _ (inl (aI ?_))))));exact lW (aE _ (inl (pS [.int .i64 bS] rfl (by cases kM h;rfl) (by decide) (qR (xE (by cases kM h;rfl) rfl rfl rfl (m8 (qS)))))))
 exact eV h λn h=>ga n J ab 0 h
theorem aaN (J ab r) (h:BH J ab=some r):bk aq 40 [.ag 5 (J.map cJ),.int .i64 ab] (.int .i64 r.1) [.ag 5 (r.2.map cJ),.hole]:=by
 refine b6 [0] [.tmp 4] Tryz.func40 Yc λb4 aE b3=>aI ?_;refine aU aE λ_ b9 bx aA=>aI ?_;refine bM bx λfO _ bR cG aQ=>?_;show bj aq (.loop ?fg) _ _;have ga:∀n dk bS bd,vQ n dk bS bd=some r->da aq ?fg fO (ar [(0,.ag 5 (dk.map cJ)),(1,.int .i64 bS),(5,.int .i64 bd)]):=by
  refine dz λ_ fT dk bS bd h=>dy bR λ_ eW cQ aZ=>aU cQ λ_ dP _ bp=>aI ?_;refine a_ h (λdw h=>?_) λdw h=>?_
  .refine bf (dP _ (inl (aU cQ λ_ dY dA dV=>bM dA λ_ cK _ _ eo=>?_)));obtain⟨ah,dM,h⟩:=aJ h;obtain⟨aA,dT,h⟩:=aJ h;refine c0 (cx [(0,.ag 5 ((List.set dk (Int.toNat bd) (bc.mk aA.2 ah.Guard ah.Name ah.bD ah.Next)).map cJ)),(1,.int .i64 aA.1),(5,.int .i64 bd)] (λP bm=>?_) ?_)
   ·(try simp only[X0.down,simprocAttr,dM,cB dM]);refine o1 [⟨.h 0 [Int.toNat bd,0],true,_,_⟩,⟨.int .i64 bS,false,_,.hole⟩] (Hi ah.br bS _ dT) rfl rfl rfl (by simp only[X0.down,simprocAttr,dM,cB dM,qQ,o2,ik,iq,ir,d_,or_true,true_or, @cN _ ax ax (λ_=>gN _)]) rfl rfl (inl rfl) ?_;simp only[X0.down,simprocAttr,dM,cB dM,mB,(tk (cB dM)),tl];exact cu (ad dM (cB dM))
   obtain⟨aL,fi,h⟩:=aJ h;obtain⟨aQ,dr,h⟩:=aJ h;refine c0 (cx [(0,.ag 5 ((List.set (List.set dk (Int.toNat bd) (bc.mk aA.2 ah.Guard ah.Name ah.bD ah.Next)) (Int.toNat bd) (bc.mk aL.br aQ.2 aL.Name aL.bD aL.Next)).map cJ)),(1,.int .i64 aQ.1),(5,.int .i64 bd)] (λP bm=>?_) ?_)
   ·(try simp only[X0.down,simprocAttr,fi,cB fi]);refine o1 [⟨.h 0 [Int.toNat bd,1],true,_,_⟩,⟨.int .i64 aA.1,false,_,.hole⟩] (NK aL.Guard aA.1 _ dr) rfl rfl rfl (by simp only[X0.down,simprocAttr,fi,cB fi,M0.down]) rfl rfl (inl rfl) ?_;simp only[X0.down,simprocAttr,fi,cB fi,mB,(tk (cB fi)),tl];exact cu (ad fi (cB fi))
   obtain⟨aZ,gD,h⟩:=aJ h;obtain⟨bp,eS,h⟩:=aJ h;refine c0 (cx [(0,.ag 5 ((List.set (List.set (List.set dk (Int.toNat bd) (bc.mk aA.2 ah.Guard ah.Name ah.bD ah.Next)) (Int.toNat bd) (bc.mk aL.br aQ.2 aL.Name aL.bD aL.Next)) (Int.toNat bd) (bc.mk bp.br bp.Guard aZ bp.bD bp.Next)).map cJ)),(1,.int .i64 aQ.1),(5,.int .i64 bd)] (λP bm=>?_) ?_)
   ·(try simp only[X0.down,simprocAttr,eS,cB eS,e5,dj]);refine dv (NL aQ.1 _ gD) (hK:= ?_);simp only[X0.down,simprocAttr,eS,cB eS,e5,dj];exact cu (ad eS (ad (cB eS) @e5))
   refine ws [(0,.ag 5 ((List.set (List.set (List.set dk (Int.toNat bd) (bc.mk aA.2 ah.Guard ah.Name ah.bD ah.Next)) (Int.toNat bd) (bc.mk aL.br aQ.2 aL.Name aL.bD aL.Next)) (Int.toNat bd) (bc.mk bp.br bp.Guard aZ bp.bD bp.Next)).map cJ)),(1,.int .i64 (i64.wrap (aQ.1+1))),(5,.int .i64 bd)] ?_;obtain⟨bV,g6,h⟩:=aJ h;obtain⟨c2,lB,h⟩:=aJ h;refine c0 (cx [(0,.ag 5 ((List.set (List.set (List.set (List.set dk (Int.toNat bd) (bc.mk aA.2 ah.Guard ah.Name ah.bD ah.Next)) (Int.toNat bd) (bc.mk aL.br aQ.2 aL.Name aL.bD aL.Next)) (Int.toNat bd) (bc.mk bp.br bp.Guard aZ bp.bD bp.Next)) (Int.toNat bd) (bc.mk bV.br bV.Guard bV.Name c2.2 bV.Next)).map cJ)),(1,.int .i64 c2.1),(5,.int .i64 bd)] (λP bm=>?_) ?_)
   ·(try simp only[X0.down,simprocAttr,g6,cB g6]);refine o1 [⟨.h 0 [Int.toNat bd,3],true,_,_⟩,⟨.int .i64 (i64.wrap (aQ.1+1)),false,_,.hole⟩] (NM bV.bD (i64.wrap (aQ.1+1)) _ lB) rfl rfl rfl (by simp only[X0.down,simprocAttr,g6,cB g6,M1.down]) rfl rfl (inl rfl) ?_;simp only[X0.down,simprocAttr,g6,cB g6,mB,(tk (cB g6)),tl];exact cu (ad g6 (cB g6))
   obtain⟨dV,j2,h⟩:=aJ h;obtain⟨eo,mO,h⟩:=aJ h;refine iW (cx [(0,.ag 5 ((List.set (List.set (List.set (List.set (List.set dk (Int.toNat bd) (bc.mk aA.2 ah.Guard ah.Name ah.bD ah.Next)) (Int.toNat bd) (bc.mk aL.br aQ.2 aL.Name aL.bD aL.Next)) (Int.toNat bd) (bc.mk bp.br bp.Guard aZ bp.bD bp.Next)) (Int.toNat bd) (bc.mk bV.br bV.Guard bV.Name c2.2 bV.Next)) (Int.toNat bd) (bc.mk dV.br dV.Guard dV.Name dV.bD eo.2)).map cJ)),(1,.int .i64 eo.1),(5,.int .i64 bd)] (λP bm=>?_) ?_)
   ·(try simp only[X0.down,simprocAttr,j2,cB j2]);refine o1 [⟨.h 0 [Int.toNat bd,4],true,_,_⟩,⟨.int .i64 c2.1,false,_,.hole⟩] (NM dV.Next c2.1 _ mO) rfl rfl rfl (by simp only[X0.down,simprocAttr,j2,cB j2,M1.down]) rfl rfl (inl rfl) ?_;simp only[X0.down,simprocAttr,j2,cB j2,mB,(tk (cB j2)),tl];exact cu (ad j2 (cB j2))
   refine cK _ (dY _ (inl (wr [(0,.ag 5 ((List.set (List.set (List.set (List.set (List.set dk (Int.toNat bd) (bc.mk aA.2 ah.Guard ah.Name ah.bD ah.Next)) (Int.toNat bd) (bc.mk aL.br aQ.2 aL.Name aL.bD aL.Next)) (Int.toNat bd) (bc.mk bp.br bp.Guard aZ bp.bD bp.Next)) (Int.toNat bd) (bc.mk bV.br bV.Guard bV.Name c2.2 bV.Next)) (Int.toNat bd) (bc.mk dV.br dV.Guard dV.Name dV.bD eo.2)).map cJ)),(1,.int .i64 eo.1),(5,.int .i64 (i64.wrap (bd+1)))] ?_)));exact eW _ (inr ⟨_,cp rfl,fT (List.set (List.set (List.set (List.set (List.set dk (Int.toNat bd) (bc.mk aA.2 ah.Guard ah.Name ah.bD ah.Next)) (Int.toNat bd) (bc.mk aL.br aQ.2 aL.Name aL.bD aL.Next)) (Int.toNat bd) (bc.mk bp.br bp.Guard aZ bp.bD bp.Next)) (Int.toNat bd) (bc.mk bV.br bV.Guard bV.Name c2.2 bV.Next)) (Int.toNat bd) (bc.mk dV.br dV.Guard dV.Name dV.bD eo.2)) eo.1 (i64.wrap (bd+1)) h⟩)
  .refine dx (bp 0 _ (aZ 0 _ (cG _ (b9 _ (inl (aI ?_))))));exact lW (aE _ (inl (pS [.int .i64 bS] rfl (by cases kM h;rfl) (by decide) (qR (xE (by cases kM h;rfl) rfl rfl rfl (m8 (qS)))))))
 exact eV h λn h=>ga n J ab 0 h
theorem NN (tJ vR tK ab r) (h:yu tJ vR tK ab=some r):bk aq 12 [.agg [.int .i64 tJ,.ag 1 (vR.map ax),.ag 5 (tK.map cJ)],.int .i64 ab] (.int .i64 r.1) [.agg [.int .i64 r.2.1,.ag 1 (r.2.2.1.map ax),.ag 5 (r.2.2.2.map cJ)],.hole]:=by
 refine b6 [0] [.tmp 4] Tryz.func12 Yd λb4 aE b3=>c0 (cx [(0,.agg [.int .i64 tJ,.ag 1 (vR.map ax),.ag 5 (tK.map cJ)]),(1,.int .i64 ab),(2,.U 0 0)] (λP bm=>?_) ?_)
 .simp only[X0.down,simprocAttr,m9,o4,I.eb,o3];exact cu (ad @m9 (ad @o4 @o3))
 obtain⟨ah,aY,h⟩:=aJ h;refine c0 (cx [(0,.agg [.int .i64 tJ,.ag 1 (ah.2.map ax),.ag 5 (tK.map cJ)]),(1,.int .i64 ah.1),(2,.U 0 0)] (λP bm=>?_) ?_)
 ·(try simp only[X0.down,simprocAttr,m9,o4,I.eb,o3]);refine Tk [⟨.h 0 [1],true,_,_⟩,⟨.int .i64 ab,false,_,.hole⟩] (Hi vR ab _ aY) rfl rfl rfl (by simp only[X0.down,simprocAttr,m9,o4,I.eb,o3,tj,qQ,o2,ik,iq,ir,d_,or_true,true_or, @cN _ ax ax (λ_=>gN _)]) rfl rfl (inl rfl) (by simp only[X0.down,simprocAttr,m9,o4,I.eb,o3,Lr,o2,Ee,Bool.and_self,Bool.not_false,Bool.and_true]) ?_;simp only[X0.down,simprocAttr,m9,o4,I.eb,o3,mB,Lr,o2,eq_self,Bool.and_self];exact cu (ad @m9 (ad @o4 @o3))
 obtain⟨aA,cI,h⟩:=aJ h;refine c0 (cx [(0,.agg [.int .i64 tJ,.ag 1 (ah.2.map ax),.ag 5 (aA.2.map cJ)]),(1,.int .i64 aA.1)] (λP bm=>?_) ?_)
 ·(try simp only[X0.down,simprocAttr,m9,o4,I.eb,o3]);refine o1 [⟨.h 0 [2],true,_,_⟩,⟨.int .i64 ah.1,false,_,.hole⟩] (aaN tK ah.1 _ cI) rfl rfl rfl (by simp only[X0.down,simprocAttr,m9,o4,I.eb,o3,tj,qQ,o2,ik,iq,ir,d_,or_true,true_or, @cN _ cJ cD (λ_=>q8 _)]) rfl rfl (inl rfl) ?_;simp only[X0.down,simprocAttr,m9,o4,I.eb,o3,mB];exact cu (ad @m9 (ad @o4 @o3))
 refine aI ?_;exact lW (aE _ (inl (pS [.int .i64 aA.1] rfl (by cases kM h;rfl) (by decide) (qR (xE (by cases kM h;rfl) rfl rfl rfl (m8 (qS)))))))
theorem B1 (J ab r) (h:tL J ab=some r):bk aq 15 [.slice (J.map ax),.int .i64 ab] (.int .i64 r) []:=by
 refine b6 [0] [.tmp 4] Tryz.func15 Ye λb4 aE b3=>aI ?_;refine aU aE λ_ b9 bx _=>aI ?_;refine bM bx λfO _ bR cG _=>?_;show bj aq (.loop ?fg) _ _;have ga:∀n bS bd,vS J n bS bd=some r->da aq ?fg fO (ar [(0,.slice (J.map ax)),(1,.int .i64 bS),(5,.int .i64 bd)]):=by
  refine dz λ_ fT bS bd h=>dy bR λ_ eW cQ aZ=>aU cQ λ_ dP _ bp=>aI ?_;refine a_ h (λdw h=>?_) λdw h=>?_
  .refine bf (dP _ (inl (aU cQ λ_ dY dA _=>bM dA λ_ cK cS _ _=>aU cS λ_ dK fc _=>?_)));obtain⟨ah,dT,h⟩:=aJ h;refine cR dT _ ?_;refine a_ h (λhH h=>?_) λhH h=>?_
   .exact bn fc [.int .i64 (-1)]
   .refine bf (dK _ (inl (fq ?_)));refine cK _ (dY _ (inl (fq ?_)));exact eW _ (inr ⟨_,cp rfl,fT (i64.wrap (bS+1)) (i64.wrap (bd+1)) h⟩)
  .exact dx (bp 0 _ (aZ 0 _ (cG _ (b9 _ (inl (bn aE [.int .i64 bS]))))))
 exact eV h λn h=>ga n ab 0 h
theorem NO (J ab r) (h:yv J ab=some r):bk aq 86 [.slice (J.map aS),.int .i64 ab] (.int .i64 r) []:=by
 refine b6 [0] [.tmp 4] Tryz.func86 Yf λb4 aE b3=>aI ?_;refine aU aE λ_ b9 bx _=>aI ?_;refine bM bx λfO _ bR cG _=>?_;show bj aq (.loop ?fg) _ _;have ga:∀n bS bd,vT J n bS bd=some r->da aq ?fg fO (ar [(0,.slice (J.map aS)),(1,.int .i64 bS),(5,.int .i64 bd)]):=by
  refine dz λ_ fT bS bd h=>dy bR λ_ eW cQ aZ=>aU cQ λ_ dP _ bp=>aI ?_;refine a_ h (λdw h=>?_) λdw h=>?_
  .refine bf (dP _ (inl (aU cQ λ_ dY dA _=>bM dA λ_ cK cS _ _=>aU cS λ_ dK fc _=>?_)));obtain⟨ah,dT,h⟩:=aJ h;refine cR dT _ ?_;refine a_ h (λhH h=>?_) λhH h=>?_
   .exact bn fc [.int .i64 (-1)]
   .refine bf (dK _ (inl (aI ?_)));refine aU cS λ_ pe v_ _=>cR dT _ ?_;refine a_ h (λgE h=>?_) λgE h=>?_
    .exact bn v_ [.int .i64 (-1)]
    .refine bf (pe _ (inl (fq ?_)));refine cK _ (dY _ (inl (fq ?_)));exact eW _ (inr ⟨_,cp rfl,fT (i64.wrap ((i64.wrap (bS+1))+1)) (i64.wrap (bd+1)) h⟩)
  .exact dx (bp 0 _ (aZ 0 _ (cG _ (b9 _ (inl (bn aE [.int .i64 bS]))))))
 exact eV h λn h=>ga n ab 0 h
theorem NP (J ab r) (h:yw J ab=some r):bk aq 87 [.slice (J.map df),.int .i64 ab] (.int .i64 r) []:=by
 refine b6 [0] [.tmp 4] Tryz.func87 Yg λb4 aE b3=>aI ?_;refine aU aE λ_ b9 bx aA=>aI ?_;refine bM bx λfO _ bR cG _=>?_;show bj aq (.loop ?fg) _ _;have ga:∀n bS bd,vU J n bS bd=some r->da aq ?fg fO (ar [(0,.slice (J.map df)),(1,.int .i64 bS),(5,.int .i64 bd)]):=by
  refine dz λ_ fT bS bd h=>dy bR λ_ eW cQ aZ=>aU cQ λ_ dP _ bp=>aI ?_;refine a_ h (λdw h=>?_) λdw h=>?_
  .refine bf (dP _ (inl (aU cQ λ_ dY dA _=>bM dA λ_ cK cS _ _=>?_)));obtain⟨ah,dM,h⟩:=aJ h;obtain⟨aA,dT,h⟩:=aJ h;refine fb dM (NO ah bS _ dT) _ ?_;refine aI ?_;refine a_ h (λi2 h=>?_) λi2 h=>?_
   .exact bn cS [.int .i64 (-1)]
   .refine bf (cK _ (dY _ (inl (fq ?_))));exact eW _ (inr ⟨_,cp rfl,fT aA (i64.wrap (bd+1)) h⟩)
  .exact dx (bp 0 _ (aZ 0 _ (cG _ (b9 _ (inl (bn aE [.int .i64 bS]))))))
 exact eV h λn h=>ga n ab 0 h
theorem aaO (J ab r) (h:BI J ab=some r):bk aq 41 [.slice (J.map cD),.int .i64 ab] (.int .i64 r) []:=by
 refine b6 [0] [.tmp 4] Tryz.func41 Yh λb4 aE b3=>aI ?_;refine aU aE λ_ b9 bx aA=>aI ?_;refine bM bx λfO _ bR cG aQ=>?_;show bj aq (.loop ?fg) _ _;have ga:∀n bS bd,vV J n bS bd=some r->da aq ?fg fO (ar [(0,.slice (J.map cD)),(1,.int .i64 bS),(5,.int .i64 bd)]):=by
  refine dz λ_ fT bS bd h=>dy bR λ_ eW cQ aZ=>aU cQ λ_ dP _ bp=>aI ?_;refine a_ h (λdw h=>?_) λdw h=>?_
  .refine bf (dP _ (inl (aU cQ λ_ dY dA _=>bM dA λ_ cK cS _ _=>?_)));obtain⟨ah,dM,h⟩:=aJ h;obtain⟨aA,dT,h⟩:=aJ h;refine fb dM (B1 ah.br bS _ dT) _ ?_;refine aU cS λ_ gO gv _=>aI ?_;refine a_ h (λma h=>?_) λma h=>?_
   .exact bn gv [.int .i64 (-1)]
   .refine bf (gO _ (inl ?_));obtain⟨aL,eS,h⟩:=aJ h;refine fb dM (NO ah.Guard aA _ eS) _ ?_;refine aU cS λ_ v8 GL _=>aI ?_;refine a_ h (λnC h=>?_) λnC h=>?_
    .exact bn GL [.int .i64 (-1)]
    .refine bf (v8 _ (inl (aU cS λ_ rb pc _=>?_)));obtain⟨aQ,mO,h⟩:=aJ h;refine qb dM (NL aL _ mO) _ ?_;refine a_ h (λk7 h=>?_) λk7 h=>?_
     .exact bn pc [.int .i64 (-1)]
     .refine bf (rb _ (inl (aI ?_)));obtain⟨aZ,km,h⟩:=aJ h;refine fb dM (NP ah.bD (i64.wrap (aL+1)) _ km) _ ?_;refine aU cS λ_ aaP aaQ _=>aI ?_;refine a_ h (λaaR h=>?_) λaaR h=>?_
      .exact bn aaQ [.int .i64 (-1)]
      .refine bf (aaP _ (inl ?_));obtain⟨bp,k8,h⟩:=aJ h;refine fb dM (NP ah.Next aZ _ k8) _ ?_;refine aI ?_;refine a_ h (λjP h=>?_) λjP h=>?_
       .exact bn cS [.int .i64 (-1)]
       .refine bf (cK _ (dY _ (inl (fq ?_))));exact eW _ (inr ⟨_,cp rfl,fT bp (i64.wrap (bd+1)) h⟩)
  .exact dx (bp 0 _ (aZ 0 _ (cG _ (b9 _ (inl (bn aE [.int .i64 bS]))))))
 exact eV h λn h=>ga n ab 0 h
theorem NQ (J ab r) (h:yx J ab=some r):bk aq 14 [bN J,.int .i64 ab] (.int .i64 r) []:=by
 refine b6 [0] [.tmp 4] Tryz.func14 nu λb4 aE b3=>aI ?_;obtain⟨ah,aY,h⟩:=aJ h;refine dq (B1 J.Start ab _ aY) _ ?_;refine aU aE λ_ fz bR _=>aI ?_;refine a_ h (λet h=>?_) λet h=>?_
 .exact bn bR [.int .i64 (-1)]
 .refine bf (fz _ (inl ?_));obtain⟨aA,iS,h⟩:=aJ h;refine dq (aaO J.bu ah _ iS) _ ?_;refine aU aE λ_ cK cS _=>aI ?_;refine a_ h (λhr h=>?_) λhr h=>?_
  .exact bn cS [.int .i64 (-1)]
  .exact bf (cK _ (inl (bn aE [.int .i64 aA])))
theorem aaS (J r) (h:Gn J=some r):bk aq 3 [j0 J] (.bool r) []:=by
 refine b6 [0] [.tmp 2] Tryz.func3 zV λb4 aE b3=>aI ?_;refine aI ?_;obtain⟨ah,b1,h⟩:=aJ h;refine dq (Yt J 1048576 _ b1) _ ?_;refine aU aE λ_ eW cQ aZ=>aI ?_;refine a_ h (λsK h=>?_) λsK h=>?_
 .exact bn cQ [.bool true]
 .refine bf (eW _ (inl ?_));obtain⟨aA,jC,h⟩:=aJ h;obtain⟨aL,oL,h⟩:=aJ h;refine c0 (cx [(1,.aK (j0 J)),(4,.aK (eC aL.1)),(5,.ag 1 (aL.2.1.map ax)),(6,.int .i64 aL.2.2)] (λP bm=>?_) ?_)
  ·(try simp only[X0.down,simprocAttr,oc,od]);refine dv (BT J _ jC) (hK:= ?_);simp only[X0.down,simprocAttr,oc,od];refine dv (ZA aA _ oL) rfl rfl (by simp only[X0.down,simprocAttr,GD.down]<;>rfl) rfl (inr (by simp only[I.cM,I.hq,GF.down,Bool.and_self])) ?_;simp only[X0.down,simprocAttr,oc,od];exact cu (ad @oc @od)
  obtain⟨aQ,dT,h⟩:=aJ h;refine dq (BT J _ dT) _ ?_;obtain⟨aZ,fi,h⟩:=aJ h;refine c0 (cx [(1,.aK (j0 J)),(4,.aK (eC aL.1)),(5,.ag 1 (aL.2.1.map ax)),(6,.int .i64 aL.2.2),(7,.aK (eC aQ)),(8,.aK (eC aZ.1)),(9,.ag 1 (aZ.2.1.map ax)),(10,.int .i64 aZ.2.2)] (λP bm=>?_) ?_)
  ·(try simp only[X0.down,simprocAttr,oc,od]);refine dv (NH aQ _ fi) rfl rfl (by simp only[X0.down,simprocAttr,GD.down]<;>rfl) rfl (inr (by simp only[I.cM,I.hq,GF.down,Bool.and_self])) ?_;simp only[X0.down,simprocAttr,oc,od];exact cu (ad @oc @od)
  refine aU aE λ_ nA nB tM=>?_;obtain⟨bp,gD,h⟩:=aJ h;rcases fG h with⟨gE,h⟩|⟨gE,h⟩
  .refine c0 (cx [(1,.aK (j0 J)),(4,.aK (eC aL.1)),(5,.ag 1 (aL.2.1.map ax)),(6,.int .i64 aL.2.2),(7,.aK (eC aQ)),(8,.aK (eC aZ.1)),(9,.ag 1 (aZ.2.1.map ax)),(10,.int .i64 aZ.2.2),(51,.bool true)] (λP bm=>?_) ?_)
   ·(try simp only[X0.down,simprocAttr,(iZ gE)]);refine dv (qj aZ.1 aL.1 _ gD) rfl rfl (by simp only[X0.down,simprocAttr,(iZ gE),qc.down]<;>rfl) rfl (inr (by rfl)) ?_;simp only[X0.down,simprocAttr,(iZ gE)];exact cu (iZ gE)
   refine iX rfl ?_;exact bn nB [.bool false]
  .obtain⟨bV,ft,h⟩:=aJ h;refine c0 (cx [(1,.aK (j0 J)),(4,.aK (eC aL.1)),(5,.ag 1 (aL.2.1.map ax)),(6,.int .i64 aL.2.2),(7,.aK (eC aQ)),(8,.aK (eC aZ.1)),(9,.ag 1 (aZ.2.1.map ax)),(10,.int .i64 aZ.2.2),(51,.bool ((!bV)||(aZ.2.2 !=aL.2.2)))] (λP bm=>?_) ?_)
   .rcases Bool.eq_false_or_eq_true (bV)with nG|nG
    ·(try simp only[X0.down,simprocAttr,(dp gE),nG]);refine dv (qj aZ.1 aL.1 _ gD) rfl rfl (by simp only[X0.down,simprocAttr,(dp gE),nG,qc.down]<;>rfl) rfl (inr (by rfl)) ?_;simp only[X0.down,simprocAttr,(dp gE),nG];refine jv (r_ aZ.2.1 aL.2.1 _ ft) rfl rfl (by simp only[X0.down,simprocAttr,(dp gE),nG,v5.down]<;>rfl) rfl (inr (by rfl)) ?_;simp only[X0.down,simprocAttr,(dp gE),nG];exact cu (ad (dp gE) nG)
    ·(try simp only[X0.down,simprocAttr,(dp gE),nG]);refine dv (qj aZ.1 aL.1 _ gD) rfl rfl (by simp only[X0.down,simprocAttr,(dp gE),nG,qc.down]<;>rfl) rfl (inr (by rfl)) ?_;simp only[X0.down,simprocAttr,(dp gE),nG];refine jv (r_ aZ.2.1 aL.2.1 _ ft) rfl rfl (by simp only[X0.down,simprocAttr,(dp gE),nG,v5.down]<;>rfl) rfl (inr (by rfl)) ?_;simp only[X0.down,simprocAttr,(dp gE),nG];exact cu (ad (dp gE) nG)
   refine a_ h (λjw h=>?_) λjw h=>?_
   .exact bn nB [.bool false]
   .refine bf (nA _ (inl (aU aE λ_ yW we _=>?_)));obtain⟨c2,ri,h⟩:=aJ h;obtain⟨dV,He,h⟩:=aJ h;refine rW rfl (m7 [(1,.aK (j0 J)),(4,.aK (eC aL.1)),(5,.ag 1 (aL.2.1.map ax)),(6,.int .i64 aL.2.2),(7,.aK (eC aQ)),(8,.aK (eC aZ.1)),(9,.ag 1 (aZ.2.1.map ax)),(10,.int .i64 aZ.2.2),(56,.bool (!dV))] (λP bm=>?_) ?_)
    ·(try simp only[ef.down,simprocAttr]);refine h5 (BT J _ ri) (hK:= ?_);simp only[ef.down,simprocAttr];refine h5 (qj aQ c2 _ He) rfl rfl (by simp only[ef.down,simprocAttr,qc.down]<;>rfl) rfl (inr (by rfl)) ?_;simp only[ef.down,simprocAttr];refine⟨mD (by kernel_rfl),?_⟩;exact cu trivial
    refine a_ h (λGG h=>?_) λGG h=>?_
    .exact bn we [.bool false]
    .refine bf (yW _ (inl (aI ?_)));obtain⟨eo,qf,h⟩:=aJ h;refine c0 (cx [(1,.aK (j0 J)),(4,.aK (eC aL.1)),(5,.ag 1 (aL.2.1.map ax)),(6,.int .i64 aL.2.2),(8,.aK (eC aZ.1)),(9,.ag 1 (aZ.2.1.map ax)),(10,.int .i64 aZ.2.2),(11,.int .i64 eo.1)] (λP bm=>?_) ?_)
     ·(try simp only[X0.down,simprocAttr]);refine o1 [⟨.h 7 [0],true,_,_⟩,⟨.int .i64 1,false,_,.hole⟩] (NN aQ.bz aQ.Start aQ.bu 1 _ qf) rfl rfl rfl (by simp only[X0.down,simprocAttr,M3.down]) rfl rfl (inl rfl) ?_;simp only[X0.down,simprocAttr,mB];exact cu trivial
     refine aU aE λ_ aaT Hj _=>?_;rcases fG h with⟨iL,h⟩|⟨iL,h⟩
     .refine cR iL _ ?_;refine iX rfl ?_;exact bn Hj [.bool false]
     .obtain⟨iv,tU,h⟩:=aJ h;rcases fG h with⟨jP,h⟩|⟨jP,h⟩
      .refine c0 (cx [(1,.aK (j0 J)),(4,.aK (eC aL.1)),(5,.ag 1 (aL.2.1.map ax)),(6,.int .i64 aL.2.2),(8,.aK (eC aZ.1)),(9,.ag 1 (aZ.2.1.map ax)),(78,.bool true)] (λP bm=>?_) ?_)
       ·(try simp only[X0.down,simprocAttr,iL,(iZ jP)]);refine jv (qj aZ.1 aL.1 _ tU) rfl rfl (by simp only[X0.down,simprocAttr,iL,(iZ jP),qc.down]<;>rfl) rfl (inr (by rfl)) ?_;simp only[X0.down,simprocAttr,iL,(iZ jP)];exact cu (ad iL (iZ jP))
       refine iX rfl ?_;exact bn Hj [.bool false]
      .obtain⟨jZ,yN,h⟩:=aJ h;refine c0 (cx [(1,.aK (j0 J)),(4,.aK (eC aL.1)),(5,.ag 1 (aL.2.1.map ax)),(6,.int .i64 aL.2.2),(8,.aK (eC aZ.1)),(9,.ag 1 (aZ.2.1.map ax)),(78,.bool ((!jZ)||(aZ.2.2 !=aL.2.2)))] (λP bm=>?_) ?_)
       .rcases Bool.eq_false_or_eq_true (jZ)with nH|nH
        ·(try simp only[X0.down,simprocAttr,iL,(dp jP),nH]);refine jv (qj aZ.1 aL.1 _ tU) rfl rfl (by simp only[X0.down,simprocAttr,iL,(dp jP),nH,qc.down]<;>rfl) rfl (inr (by rfl)) ?_;simp only[X0.down,simprocAttr,iL,(dp jP),nH];refine jv (r_ aZ.2.1 aL.2.1 _ yN) rfl rfl (by simp only[X0.down,simprocAttr,iL,(dp jP),nH,v5.down]<;>rfl) rfl (inr (by rfl)) ?_;simp only[X0.down,simprocAttr,iL,(dp jP),nH];exact cu (ad iL (ad (dp jP) nH))
        ·(try simp only[X0.down,simprocAttr,iL,(dp jP),nH]);refine jv (qj aZ.1 aL.1 _ tU) rfl rfl (by simp only[X0.down,simprocAttr,iL,(dp jP),nH,qc.down]<;>rfl) rfl (inr (by rfl)) ?_;simp only[X0.down,simprocAttr,iL,(dp jP),nH];refine jv (r_ aZ.2.1 aL.2.1 _ yN) rfl rfl (by simp only[X0.down,simprocAttr,iL,(dp jP),nH,v5.down]<;>rfl) rfl (inr (by rfl)) ?_;simp only[X0.down,simprocAttr,iL,(dp jP),nH];exact cu (ad iL (ad (dp jP) nH))
       refine a_ h (λaaU h=>?_) λaaU h=>?_
       .exact bn Hj [.bool false]
       .refine bf (aaT _ (inl (aI ?_)));obtain⟨ep,tX,h⟩:=aJ h;refine c0 (cx [(1,.aK (j0 J)),(4,.aK (eC aL.1)),(5,.ag 1 (aL.2.1.map ax)),(6,.int .i64 aL.2.2),(8,.aK (.agg [.int .i64 ep.2.1,.ag 1 (ep.2.2.1.map ax),.ag 5 (ep.2.2.2.map cJ)])),(9,.ag 1 (aZ.2.1.map ax)),(12,.int .i64 ep.1)] (λP bm=>?_) ?_)
        ·(try simp only[X0.down,simprocAttr]);refine o1 [⟨.h 8 [0],true,_,_⟩,⟨.int .i64 1,false,_,.hole⟩] (NN aZ.1.bz aZ.1.Start aZ.1.bu 1 _ tX) rfl rfl rfl (by simp only[X0.down,simprocAttr,M3.down]) rfl rfl (inl rfl) ?_;simp only[X0.down,simprocAttr,mB];exact cu trivial
        obtain⟨g4,aaV,h⟩:=aJ h;refine c0 (cx [(1,.aK (j0 J)),(4,.aK (eC aL.1)),(5,.ag 1 (aL.2.1.map ax)),(6,.int .i64 aL.2.2),(8,.aK (.agg [.int .i64 ep.2.1,.ag 1 (ep.2.2.1.map ax),.ag 5 (ep.2.2.2.map cJ)])),(9,.ag 1 (g4.2.map ax)),(12,.int .i64 g4.1)] (λP bm=>?_) ?_)
        ·(try simp only[X0.down,simprocAttr]);refine o1 [⟨.h 9 [],true,_,_⟩,⟨.int .i64 ep.1,false,_,.hole⟩] (Hi aZ.2.1 ep.1 _ aaV) rfl rfl rfl (by simp only[X0.down,simprocAttr,tj,qQ,o2,ik,iq,ir,d_,or_true,true_or, @cN _ ax ax (λ_=>gN _)]) rfl rfl (inl rfl) ?_;simp only[X0.down,simprocAttr,mB];exact cu trivial
        refine aI ?_;obtain⟨q5,aaW,h⟩:=aJ h;refine c0 (cx [(1,.aK (j0 J)),(4,.aK (eC aL.1)),(5,.ag 1 (aL.2.1.map ax)),(6,.int .i64 aL.2.2),(8,.aK (.agg [.int .i64 ep.2.1,.ag 1 (ep.2.2.1.map ax),.ag 5 (ep.2.2.2.map cJ)])),(9,.ag 1 (g4.2.map ax)),(12,.int .i64 g4.1),(13,.int .i64 q5)] (λP bm=>?_) ?_)
        ·(try simp only[X0.down,simprocAttr]);refine dv (NQ (bg.mk ep.2.1 ep.2.2.1 ep.2.2.2) 1 _ aaW) rfl rfl (by simp only[X0.down,simprocAttr,M4.down]<;>rfl) rfl (inr (by rfl)) ?_;simp only[X0.down,simprocAttr];exact cu trivial
        refine aU aE λ_ G7 B0 _=>aI ?_;refine a_ h (λaaX h=>?_) λaaX h=>?_
        .exact bn B0 [.bool false]
        .refine bf (G7 _ (inl ?_));obtain⟨tM,aaY,h⟩:=aJ h;refine c0 (cx [(1,.aK (j0 J)),(4,.aK (eC aL.1)),(5,.ag 1 (aL.2.1.map ax)),(6,.int .i64 aL.2.2),(8,.aK (.agg [.int .i64 ep.2.1,.ag 1 (ep.2.2.1.map ax),.ag 5 (ep.2.2.2.map cJ)])),(9,.ag 1 (g4.2.map ax)),(12,.int .i64 g4.1),(13,.int .i64 tM)] (λP bm=>?_) ?_)
         ·(try simp only[X0.down,simprocAttr]);refine dv (B1 g4.2 q5 _ aaY) rfl rfl (by simp only[X0.down,simprocAttr,v3.down]<;>rfl) rfl (inr (by rfl)) ?_;simp only[X0.down,simprocAttr];exact cu trivial
         refine aU aE λ_ aaZ aa0 _=>aI ?_;refine a_ h (λaa1 h=>?_) λaa1 h=>?_
         .exact bn aa0 [.bool false]
         .refine bf (aaZ _ (inl (aU aE λ_ aa2 aa3 _=>aI ?_)));refine a_ h (λaa4 h=>?_) λaa4 h=>?_
          .exact bn aa3 [.bool false]
          .refine bf (aa2 _ (inl ?_));obtain⟨yy,aa5,h⟩:=aJ h;obtain⟨nt,aa6,h⟩:=aJ h;refine c0 (cx [(4,.aK (eC aL.1)),(5,.ag 1 (aL.2.1.map ax)),(6,.int .i64 aL.2.2),(8,.aK (.agg [.int .i64 ep.2.1,.ag 1 (ep.2.2.1.map ax),.ag 5 (ep.2.2.2.map cJ)])),(9,.ag 1 (g4.2.map ax)),(12,.int .i64 g4.1),(14,.aK (eC nt.1)),(15,.ag 1 (nt.2.1.map ax)),(16,.int .i64 nt.2.2)] (λP bm=>?_) ?_)
           ·(try simp only[X0.down,simprocAttr,oc,od]);refine dv (BT J _ aa5) (hK:= ?_);simp only[X0.down,simprocAttr,oc,od];refine dv (NH yy _ aa6) rfl rfl (by simp only[X0.down,simprocAttr,GD.down]<;>rfl) rfl (inr (by simp only[I.cM,I.hq,GF.down,Bool.and_self])) ?_;simp only[X0.down,simprocAttr,oc,od];exact cu (ad @oc @od)
           refine aU aE λ_ aa7 NR _=>?_;obtain⟨vW,Hk,h⟩:=aJ h;rcases fG h with⟨k9,h⟩|⟨k9,h⟩
           .refine c0 (cx [(8,.aK (.agg [.int .i64 ep.2.1,.ag 1 (ep.2.2.1.map ax),.ag 5 (ep.2.2.2.map cJ)])),(9,.ag 1 (g4.2.map ax)),(12,.int .i64 g4.1),(119,.bool true)] (λP bm=>?_) ?_)
            ·(try simp only[X0.down,simprocAttr,(iZ k9)]);refine dv (qj nt.1 aL.1 _ Hk) rfl rfl (by simp only[X0.down,simprocAttr,(iZ k9),qc.down]<;>rfl) rfl (inr (by rfl)) ?_;simp only[X0.down,simprocAttr,(iZ k9)];exact cu (iZ k9)
            refine iX rfl ?_;exact bn NR [.bool false]
           .obtain⟨vX,NS,h⟩:=aJ h;refine c0 (cx [(8,.aK (.agg [.int .i64 ep.2.1,.ag 1 (ep.2.2.1.map ax),.ag 5 (ep.2.2.2.map cJ)])),(9,.ag 1 (g4.2.map ax)),(12,.int .i64 g4.1),(119,.bool ((!vX)||(nt.2.2 !=aL.2.2)))] (λP bm=>?_) ?_)
            .rcases Bool.eq_false_or_eq_true (vX)with nI|nI
             ·(try simp only[X0.down,simprocAttr,(dp k9),nI]);refine dv (qj nt.1 aL.1 _ Hk) rfl rfl (by simp only[X0.down,simprocAttr,(dp k9),nI,qc.down]<;>rfl) rfl (inr (by rfl)) ?_;simp only[X0.down,simprocAttr,(dp k9),nI];refine jv (r_ nt.2.1 aL.2.1 _ NS) rfl rfl (by simp only[X0.down,simprocAttr,(dp k9),nI,v5.down]<;>rfl) rfl (inr (by rfl)) ?_;simp only[X0.down,simprocAttr,(dp k9),nI];exact cu (ad (dp k9) nI)
             ·(try simp only[X0.down,simprocAttr,(dp k9),nI]);refine dv (qj nt.1 aL.1 _ Hk) rfl rfl (by simp only[X0.down,simprocAttr,(dp k9),nI,qc.down]<;>rfl) rfl (inr (by rfl)) ?_;simp only[X0.down,simprocAttr,(dp k9),nI];refine jv (r_ nt.2.1 aL.2.1 _ NS) rfl rfl (by simp only[X0.down,simprocAttr,(dp k9),nI,v5.down]<;>rfl) rfl (inr (by rfl)) ?_;simp only[X0.down,simprocAttr,(dp k9),nI];exact cu (ad (dp k9) nI)
            refine a_ h (λaa8 h=>?_) λaa8 h=>?_
            .exact bn NR [.bool false]
            .refine bf (aa7 _ (inl (aI ?_)));obtain⟨yz,aa9,h⟩:=aJ h;refine c0 (cx [(9,.ag 1 (g4.2.map ax)),(12,.int .i64 g4.1),(13,.int .i64 yz)] (λP bm=>?_) ?_)
             ·(try simp only[X0.down,simprocAttr]);refine dv (NQ (bg.mk ep.2.1 ep.2.2.1 ep.2.2.2) 1 _ aa9) rfl rfl (by simp only[X0.down,simprocAttr,M4.down]<;>rfl) rfl (inr (by rfl)) ?_;simp only[X0.down,simprocAttr];exact cu trivial
             refine aU aE λ_ aa_ aba _=>aI ?_;refine a_ h (λabb h=>?_) λabb h=>?_
             .exact bn aba [.bool false]
             .refine bf (aa_ _ (inl ?_));obtain⟨q6,abc,h⟩:=aJ h;refine c0 (cx [(12,.int .i64 g4.1),(13,.int .i64 q6)] (λP bm=>?_) ?_)
              ·(try simp only[X0.down,simprocAttr]);refine dv (B1 g4.2 yz _ abc) rfl rfl (by simp only[X0.down,simprocAttr,v3.down]<;>rfl) rfl (inr (by rfl)) ?_;simp only[X0.down,simprocAttr];exact cu trivial
              refine aU aE λ_ abd abe _=>aI ?_;refine a_ h (λabf h=>?_) λabf h=>?_
              .exact bn abe [.bool false]
              .refine bf (abd _ (inl (aU aE λ_ abg abh _=>aI ?_)));refine a_ h (λabi h=>?_) λabi h=>?_
               .exact bn abh [.bool false]
               .exact bf (abg _ (inl (bn aE [.bool true])))
end Go.Proofs.YtndfcecbamffaaaGreat
