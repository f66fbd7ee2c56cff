/- Part of a proof that a law returns true for every input. No condition. -/
import Derived.Test.YtcmimclaknmnbaaGreatDoorW1x3
namespace Go.Proofs.YtcmimclaknmnbaaGreatDoor
open List Option Go.IntKind Nat Or
open Go Go.cC Go.lT
set_option maxRecDepth 100000
set_option maxHeartbeats 2400000
set_option linter.unusedSimpArgs false
set_option linter.unusedVariables false
theorem LP (a0 J r) (h:wR a0 J=some r):aY ao 31 [.slice (a0.map aG),.slice (J.map aG)] (.bool r) []:=by
 refine b1 [0,1] [.tmp 4] Tryz.func31 c31 λbO az bQ=>aB ?_;refine aK az λ_ bY bl aw=>aB ?_;refine aU h (λcw h=>?_) λcw h=>?_
 .exact bk bl [.bool false]
 .refine aZ (bY _ (inl (aK az λ_ n6 dT _=>aB ?_)));refine bA dT λob _ ke cS _=>?_;show bh ao (.loop ?lv) _ _;have lz:∀n cW,Kh a0 J n cW=some r->cU ao ?lv ob (aj [(0,.slice (a0.map aG)),(1,.slice (J.map aG)),(5,.int .i64 cW)]):=by
   refine dc λ_ kZ cW h=>db ke λ_ dP cQ df=>aK cQ λ_ n10 _ eQ=>aB ?_;refine aU h (λfT h=>?_) λfT h=>?_
   .refine aZ (n10 _ (inl (aK cQ λ_ n13 k2 _=>bA k2 λ_ n14 fe _ _=>?_)));obtain⟨af,ez,h⟩:=aE h;obtain⟨aw,e2,h⟩:=aE h;refine sd (ad ez e2) _ ?_;refine aU h (λkz h=>?_) λkz h=>?_
    .exact bk fe [.bool false]
    .refine aZ (n14 _ (n13 _ (inl (eE ?_))));exact dP _ (inr ⟨_,b9 rfl,kZ (i64.wrap (cW+1)) h⟩)
   .exact cZ (eQ 0 _ (df 0 _ (cS _ (n6 _ (inl (bk az [.bool true]))))))
  exact dH h λn h=>lz n 0 h
theorem zt (a0 J r) (h:y4 a0 J=some r):aY ao 10 [.slice (a0.map cB),.slice (J.map cB)] (.bool r) []:=by
 refine b1 [0,1] [.tmp 4] Tryz.func10 w1 λbO az bQ=>aB ?_;refine aK az λ_ bY bl aw=>aB ?_;refine aU h (λcw h=>?_) λcw h=>?_
 .exact bk bl [.bool false]
 .refine aZ (bY _ (inl (aK az λ_ n6 dT _=>aB ?_)));refine bA dT λob _ ke cS _=>?_;show bh ao (.loop ?lv) _ _;have lz:∀n cW,Ki a0 J n cW=some r->cU ao ?lv ob (aj [(0,.slice (a0.map cB)),(1,.slice (J.map cB)),(5,.int .i64 cW)]):=by
   refine dc λ_ kZ cW h=>db ke λ_ dP cQ df=>aK cQ λ_ n10 _ eQ=>aB ?_;refine aU h (λfT h=>?_) λfT h=>?_
   .refine aZ (n10 _ (inl (aK cQ λ_ n13 k2 _=>bA k2 λ_ n14 fe _ _=>?_)));obtain⟨af,ez,h⟩:=aE h;obtain⟨aw,e2,h⟩:=aE h;obtain⟨aS,gp,h⟩:=aE h;refine w5 (ad ez e2) (LP af aw _ gp) _ ?_;refine aU h (λky h=>?_) λky h=>?_
    .exact bk fe [.bool false]
    .refine aZ (n14 _ (n13 _ (inl (eE ?_))));exact dP _ (inr ⟨_,b9 rfl,kZ (i64.wrap (cW+1)) h⟩)
   .exact cZ (eQ 0 _ (df 0 _ (cS _ (n6 _ (inl (bk az [.bool true]))))))
  exact dH h λn h=>lz n 0 h
theorem aiL (a0 J r) (h:BU a0 J=some r):aY ao 138 [bG a0,bG J] (.bool r) []:=by
 refine b1 [0,1] [.tmp 4] Tryz.func138 c138 λbO az bQ=>aB ?_;refine aK az λ_ bY bl _=>aB ?_;refine aU h (λcw h=>?_) λcw h=>?_
 .exact bk bl [.bool false]
 .refine aZ (bY _ (inl (aK az λ_ n6 dT _=>aB ?_)));refine aU h (λcS h=>?_) λcS h=>?_
  .exact bk dT [.bool false]
  .exact aZ (n6 _ (inl (bk az [.bool true])))
theorem TK (a0 J r) (h:y5 a0 J=some r):aY ao 94 [.slice (a0.map bG),.slice (J.map bG)] (.bool r) []:=by
 refine b1 [0,1] [.tmp 4] Tryz.func94 aeF λbO az bQ=>aB ?_;refine aK az λ_ bY bl aw=>aB ?_;refine aU h (λcw h=>?_) λcw h=>?_
 .exact bk bl [.bool false]
 .refine aZ (bY _ (inl (aK az λ_ n6 dT _=>aB ?_)));refine bA dT λob _ ke cS _=>?_;show bh ao (.loop ?lv) _ _;have lz:∀n cW,Kj a0 J n cW=some r->cU ao ?lv ob (aj [(0,.slice (a0.map bG)),(1,.slice (J.map bG)),(5,.int .i64 cW)]):=by
   refine dc λ_ kZ cW h=>db ke λ_ dP cQ df=>aK cQ λ_ n10 _ eQ=>aB ?_;refine aU h (λfT h=>?_) λfT h=>?_
   .refine aZ (n10 _ (inl (aK cQ λ_ n13 k2 _=>bA k2 λ_ n14 fe _ _=>?_)));obtain⟨af,ez,h⟩:=aE h;obtain⟨aw,e2,h⟩:=aE h;obtain⟨aS,gp,h⟩:=aE h;refine w5 (ad ez e2) (aiL af aw _ gp) _ ?_;refine aU h (λky h=>?_) λky h=>?_
    .exact bk fe [.bool false]
    .refine aZ (n14 _ (n13 _ (inl (eE ?_))));exact dP _ (inr ⟨_,b9 rfl,kZ (i64.wrap (cW+1)) h⟩)
   .exact cZ (eQ 0 _ (df 0 _ (cS _ (n6 _ (inl (bk az [.bool true]))))))
  exact dH h λn h=>lz n 0 h
theorem TL (a0 J r) (h:BV a0 J=some r):aY ao 95 [.slice (a0.map cf),.slice (J.map cf)] (.bool r) []:=by
 refine b1 [0,1] [.tmp 4] Tryz.func95 KM λbO az bQ=>aB ?_;refine aK az λ_ bY bl aw=>aB ?_;refine aU h (λcw h=>?_) λcw h=>?_
 .exact bk bl [.bool false]
 .refine aZ (bY _ (inl (aK az λ_ n6 dT _=>aB ?_)));refine bA dT λob _ ke cS _=>?_;show bh ao (.loop ?lv) _ _;have lz:∀n cW,Kk a0 J n cW=some r->cU ao ?lv ob (aj [(0,.slice (a0.map cf)),(1,.slice (J.map cf)),(5,.int .i64 cW)]):=by
   refine dc λ_ kZ cW h=>db ke λ_ dP cQ df=>aK cQ λ_ n10 _ eQ=>aB ?_;refine aU h (λfT h=>?_) λfT h=>?_
   .refine aZ (n10 _ (inl (aK cQ λ_ n13 k2 _=>bA k2 λ_ n14 fe _ _=>?_)));obtain⟨af,ez,h⟩:=aE h;obtain⟨aw,e2,h⟩:=aE h;obtain⟨aS,gp,h⟩:=aE h;refine w5 (ad ez e2) (TK af aw _ gp) _ ?_;refine aU h (λky h=>?_) λky h=>?_
    .exact bk fe [.bool false]
    .refine aZ (n14 _ (n13 _ (inl (eE ?_))));exact dP _ (inr ⟨_,b9 rfl,kZ (i64.wrap (cW+1)) h⟩)
   .exact cZ (eQ 0 _ (df 0 _ (cS _ (n6 _ (inl (bk az [.bool true]))))))
  exact dH h λn h=>lz n 0 h
theorem aiM (a0 J r) (h:BW a0 J=some r):aY ao 61 [dO a0,dO J] (.bool r) []:=by
 refine b1 [0,1] [.tmp 4] Tryz.func61 aeG λbO az bQ=>aB ?_;refine aK az λ_ bY bl aw=>?_;obtain⟨af,bK,h⟩:=aE h;refine dp (LP a0.a7 J.a7 _ bK) _ ?_;refine aU h (λdt h=>?_) λdt h=>?_
 .exact bk bl [.bool false]
 .refine aZ (bY _ (inl (aK az λ_ n7 fz _=>?_)));obtain⟨aw,gi,h⟩:=aE h;refine dp (TK a0.Guard J.Guard _ gi) _ ?_;refine aU h (λgx h=>?_) λgx h=>?_
  .exact bk fz [.bool false]
  .refine aZ (n7 _ (inl (aK az λ_ n12 B_ _=>aB ?_)));refine aU h (λia h=>?_) λia h=>?_
   .exact bk B_ [.bool false]
   .refine aZ (n12 _ (inl (aK az λ_ n16 kY _=>?_)));obtain⟨aS,gp,h⟩:=aE h;refine dp (TL a0.bU J.bU _ gp) _ ?_;refine aU h (λky h=>?_) λky h=>?_
    .exact bk kY [.bool false]
    .refine aZ (n16 _ (inl (aK az λ_ n21 lx _=>?_)));obtain⟨bu,nk,h⟩:=aE h;refine dp (TL a0.Next J.Next _ nk) _ ?_;refine aU h (λqc h=>?_) λqc h=>?_
     .exact bk lx [.bool false]
     .exact aZ (n21 _ (inl (bk az [.bool true])))
theorem aiN (a0 J r) (h:Ff a0 J=some r):aY ao 32 [.slice (a0.map dO),.slice (J.map dO)] (.bool r) []:=by
 refine b1 [0,1] [.tmp 4] Tryz.func32 aeH λbO az bQ=>aB ?_;refine aK az λ_ bY bl aw=>aB ?_;refine aU h (λcw h=>?_) λcw h=>?_
 .exact bk bl [.bool false]
 .refine aZ (bY _ (inl (aK az λ_ n6 dT _=>aB ?_)));refine bA dT λob _ ke cS _=>?_;show bh ao (.loop ?lv) _ _;have lz:∀n cW,Kl a0 J n cW=some r->cU ao ?lv ob (aj [(0,.slice (a0.map dO)),(1,.slice (J.map dO)),(5,.int .i64 cW)]):=by
   refine dc λ_ kZ cW h=>db ke λ_ dP cQ df=>aK cQ λ_ n10 _ eQ=>aB ?_;refine aU h (λfT h=>?_) λfT h=>?_
   .refine aZ (n10 _ (inl (aK cQ λ_ n13 k2 _=>bA k2 λ_ n14 fe _ _=>?_)));obtain⟨af,ez,h⟩:=aE h;obtain⟨aw,e2,h⟩:=aE h;obtain⟨aS,gp,h⟩:=aE h;refine w5 (ad ez e2) (aiM af aw _ gp) _ ?_;refine aU h (λky h=>?_) λky h=>?_
    .exact bk fe [.bool false]
    .refine aZ (n14 _ (n13 _ (inl (eE ?_))));exact dP _ (inr ⟨_,b9 rfl,kZ (i64.wrap (cW+1)) h⟩)
   .exact cZ (eQ 0 _ (df 0 _ (cS _ (n6 _ (inl (bk az [.bool true]))))))
  exact dH h λn h=>lz n 0 h
theorem aiO (a0 J r) (h:Fg a0 J=some r):aY ao 11 [ej a0,ej J] (.bool r) []:=by
 refine b1 [0,1] [.tmp 4] Tryz.func11 aeI λbO az bQ=>aB ?_;refine aK az λ_ bY bl aw=>aB ?_;refine aU h (λcw h=>?_) λcw h=>?_
 .exact bk bl [.bool false]
 .refine aZ (bY _ (inl (aK az λ_ n6 dT _=>?_)));obtain⟨af,hr,h⟩:=aE h;refine dp (LP a0.Start J.Start _ hr) _ ?_;refine aU h (λfc h=>?_) λfc h=>?_
  .exact bk dT [.bool false]
  .refine aZ (n6 _ (inl (aK az λ_ n11 gH _=>?_)));obtain⟨aw,dE,h⟩:=aE h;refine dp (aiN a0.cG J.cG _ dE) _ ?_;refine aU h (λia h=>?_) λia h=>?_
   .exact bk gH [.bool false]
   .exact aZ (n11 _ (inl (bk az [.bool true])))
theorem aiP (a0 J r) (h:Fh a0 J=some r):aY ao 12 [.slice (a0.map b3),.slice (J.map b3)] (.bool r) []:=by
 refine b1 [0,1] [.tmp 4] Tryz.func12 c12 λbO az bQ=>aB ?_;refine aK az λ_ bY bl aw=>aB ?_;refine aU h (λcw h=>?_) λcw h=>?_
 .exact bk bl [.bool false]
 .refine aZ (bY _ (inl (aK az λ_ n6 dT _=>aB ?_)));refine bA dT λob _ ke cS _=>?_;show bh ao (.loop ?lv) _ _;have lz:∀n cW,Km a0 J n cW=some r->cU ao ?lv ob (aj [(0,.slice (a0.map b3)),(1,.slice (J.map b3)),(5,.int .i64 cW)]):=by
   refine dc λ_ kZ cW h=>db ke λ_ dP cQ df=>aK cQ λ_ n10 _ eQ=>aB ?_;refine aU h (λfT h=>?_) λfT h=>?_
   .refine aZ (n10 _ (inl (aK cQ λ_ n13 k2 _=>bA k2 λ_ n14 fe _ _=>?_)));obtain⟨af,ez,h⟩:=aE h;obtain⟨aw,e2,h⟩:=aE h;refine sd (ad ez e2) _ ?_;refine aU h (λkz h=>?_) λkz h=>?_
    .exact bk fe [.bool false]
    .refine aZ (n14 _ (n13 _ (inl (eE ?_))));exact dP _ (inr ⟨_,b9 rfl,kZ (i64.wrap (cW+1)) h⟩)
   .exact cZ (eQ 0 _ (df 0 _ (cS _ (n6 _ (inl (bk az [.bool true]))))))
  exact dH h λn h=>lz n 0 h
theorem LQ (a0 J r) (h:y7 a0 J=some r):aY ao 33 [.ah 1 (a0.map aG),.int .i64 J] (.int .i64 r.1) [.ah 1 (r.2.map aG),.hole]:=by
 refine b1 [0] [.tmp 4] Tryz.func33 B6 λbO az bQ=>aB ?_;refine aK az λ_ bY bl _=>aB ?_;refine bA bl λgf _ b0 cw _=>?_;show bh ao (.loop ?eM) _ _;have gg:∀n cd bW aR,y6 n cd bW aR=some r->cU ao ?eM gf (aj [(0,.ah 1 (cd.map aG)),(1,.int .i64 bW),(5,.int .i64 aR)]):=by
  refine dc λ_ fU cd bW aR h=>db b0 λ_ e3 cL bw=>aK cL λ_ n6 _ bF=>aB ?_;refine aU h (λcS h=>?_) λcS h=>?_
  .refine aZ (n6 _ (inl (aK cL λ_ dP cQ _=>bA cQ λ_ n10 _ _ _=>?_)));obtain⟨af,dD,h⟩:=aE h;refine dn (cr [(0,.ah 1 ((List.set cd (Int.toNat aR) bW).map aG)),(1,.int .i64 bW),(5,.int .i64 aR)] (λP a_=>?_) ?_)
   .simp only[aQ.down,simprocAttr,dD,cn dD,ey,dj];exact cb (ad dD (ad (cn dD) @ey))
   refine wr [(0,.ah 1 ((List.set cd (Int.toNat aR) bW).map aG)),(1,.int .i64 (i64.wrap (bW+1))),(5,.int .i64 aR)] ?_;refine n10 _ (dP _ (inl (wr [(0,.ah 1 ((List.set cd (Int.toNat aR) bW).map aG)),(1,.int .i64 (i64.wrap (bW+1))),(5,.int .i64 (i64.wrap (aR+1)))] ?_)));exact e3 _ (inr ⟨_,b9 rfl,fU (List.set cd (Int.toNat aR) bW) (i64.wrap (bW+1)) (i64.wrap (aR+1)) h⟩)
  .refine cZ (bF 0 _ (bw 0 _ (cw _ (bY _ (inl (aB ?_))))));exact hT (az _ (inl (mw [.int .i64 bW] rfl (by cases gh h;rfl) (by decide) (mV (ll (by cases gh h;rfl) rfl rfl rfl (kS (mW)))))))
 exact dH h λn h=>gg n a0 J 0 h
theorem TM (a0 J r) (h:BX a0 J=some r):aY ao 62 [.ah 2 (a0.map bG),.int .i64 J] (.int .i64 r.1) [.ah 2 (r.2.map bG),.hole]:=by
 refine b1 [0] [.tmp 4] Tryz.func62 aeJ λbO az bQ=>aB ?_;refine aK az λ_ bY bl aw=>aB ?_;refine bA bl λgf _ b0 cw _=>?_;show bh ao (.loop ?eM) _ _;have gg:∀n cd bW aR,y8 n cd bW aR=some r->cU ao ?eM gf (aj [(0,.ah 2 (cd.map bG)),(1,.int .i64 bW),(5,.int .i64 aR)]):=by
  refine dc λ_ fU cd bW aR h=>db b0 λ_ e3 cL bw=>aK cL λ_ n6 _ bF=>aB ?_;refine aU h (λcS h=>?_) λcS h=>?_
  .refine aZ (n6 _ (inl (aK cL λ_ dP cQ _=>bA cQ λ_ n10 _ _ _=>?_)));obtain⟨af,dD,h⟩:=aE h;refine dn (cr [(0,.ah 2 ((List.set cd (Int.toNat aR) (aO.mk bW af.Value)).map bG)),(1,.int .i64 bW),(5,.int .i64 aR)] (λP a_=>?_) ?_)
   .simp only[aQ.down,simprocAttr,dD,cn dD,ey,dj];exact cb (ad dD (ad (cn dD) @ey))
   refine ws [(0,.ah 2 ((List.set cd (Int.toNat aR) (aO.mk bW af.Value)).map bG)),(1,.int .i64 (i64.wrap (bW+1))),(5,.int .i64 aR)] ?_;obtain⟨aw,eO,h⟩:=aE h;refine dn (cr [(0,.ah 2 ((List.set (List.set cd (Int.toNat aR) (aO.mk bW af.Value)) (Int.toNat aR) (aO.mk aw.Kind (i64.wrap (bW+1)))).map bG)),(1,.int .i64 (i64.wrap (bW+1))),(5,.int .i64 aR)] (λP a_=>?_) ?_)
   .simp only[aQ.down,simprocAttr,eO,cn eO,ey,dj];exact cb (ad eO (ad (cn eO) @ey))
   refine wr [(0,.ah 2 ((List.set (List.set cd (Int.toNat aR) (aO.mk bW af.Value)) (Int.toNat aR) (aO.mk aw.Kind (i64.wrap (bW+1)))).map bG)),(1,.int .i64 (i64.wrap ((i64.wrap (bW+1))+1))),(5,.int .i64 aR)] ?_;refine n10 _ (dP _ (inl (wr [(0,.ah 2 ((List.set (List.set cd (Int.toNat aR) (aO.mk bW af.Value)) (Int.toNat aR) (aO.mk aw.Kind (i64.wrap (bW+1)))).map bG)),(1,.int .i64 (i64.wrap ((i64.wrap (bW+1))+1))),(5,.int .i64 (i64.wrap (aR+1)))] ?_)));exact e3 _ (inr ⟨_,b9 rfl,fU (List.set (List.set cd (Int.toNat aR) (aO.mk bW af.Value)) (Int.toNat aR) (aO.mk aw.Kind (i64.wrap (bW+1)))) (i64.wrap ((i64.wrap (bW+1))+1)) (i64.wrap (aR+1)) h⟩)
  .refine cZ (bF 0 _ (bw 0 _ (cw _ (bY _ (inl (aB ?_))))));exact hT (az _ (inl (mw [.int .i64 bW] rfl (by cases gh h;rfl) (by decide) (mV (ll (by cases gh h;rfl) rfl rfl rfl (kS (mW)))))))
 exact dH h λn h=>gg n a0 J 0 h
theorem TN (a0 r) (h:BZ a0=some r):aY ao 35 [.int .i64 a0] (.str r) []:=by
 refine b1 [] [.tmp 2] Tryz.func35 aeK λbO az bQ=>aB ?_;refine aK az λ_ bY bl _=>aB ?_;refine aU h (λcw h=>?_) λcw h=>?_
 .exact bk bl [.str ([109,48]:anR)]
 .refine aZ (bY _ (inl (aB ?_)));refine aK az λ_ n7 fz _=>bA fz λob _ ke cS _=>?_;have lz:∀n mJ gm,wS n mJ gm=some r->cU ao R8 ob (aj [(0,.int .i64 mJ),(3,.str gm)]):=by
   refine dc λ_ kZ mJ gm h=>db ke λ_ dP cQ df=>aK cQ λ_ n10 _ eQ=>aB ?_;refine aU h (λfT h=>?_) λfT h=>?_
   .refine aZ (n10 _ (inl (bA cQ λ_ n13 _ _ _=>?_)));obtain⟨u16,eO,h⟩:=aE h;(try simp only[h_.down,Nat.zero_add,Nat.add_zero,reduceAdd]at eO);refine dd (ad (@tZ .i64 10 (by decide)) (ad (@DJ ao 3 5 .u8 rfl rfl) (ad (show∀s,ei ao s 92 1 [(0,.int .u8 (u8.wrap (i64.wrap (48+(Int.tmod mJ 10)))))]=some (.ah 1 [.int .u8 (u8.wrap (i64.wrap (48+(Int.tmod mJ 10))))],s)from λs=>by kernel_rfl) (ad ((@PR ao 92 9 5 rfl rfl rfl).2.2) (ad @PU (ad @PS (ad eO (ad @rR @rS)))))))) [(0,.int .i64 mJ),(3,.str ([(ns (i64.wrap (48+(Int.tmod mJ 10))))]++gm))] ?_;refine oK (@PV .i64 10 (by decide)) [(0,.int .i64 (i64.wrap (Int.tdiv mJ 10))),(3,.str ([(ns (i64.wrap (48+(Int.tmod mJ 10))))]++gm))] ?_;exact n13 _ (dP _ (inr ⟨_,b9 rfl,kZ (i64.wrap (Int.tdiv mJ 10)) ([(ns (i64.wrap (48+(Int.tmod mJ 10))))]++gm) h⟩))
   .refine cZ (eQ 0 _ (df 0 _ (cS _ (n7 _ (inl ?_)))));obtain⟨K4,gp,h⟩:=aE h;(try simp only[h_.down,Nat.zero_add,Nat.add_zero,reduceAdd]at gp);refine dd (ad gp (ad @rR @rS)) [(2,.str (([109]:anR)++gm))] ?_;exact cE az [.str (([109]:anR)++gm)]
  exact dH h λn h=>lz n a0 ([]:anR) h
theorem TO (a0 J r) (h:B0 a0 J=some r):aY ao 63 [.ah 1 (a0.map jo),.int .i64 J] (.int .i64 r.1) [.ah 1 (r.2.map jo),.hole]:=by
 refine b1 [0] [.tmp 4] Tryz.func63 aeL λbO az bQ=>aB ?_;refine aK az λ_ bY bl aw=>aB ?_;refine bA bl λgf _ b0 cw _=>?_;show bh ao (.loop ?eM) _ _;have gg:∀n cd bW aR,y9 n cd bW aR=some r->cU ao ?eM gf (aj [(0,.ah 1 (cd.map jo)),(1,.int .i64 bW),(5,.int .i64 aR)]):=by
  refine dc λ_ fU cd bW aR h=>db b0 λ_ e3 cL bw=>aK cL λ_ n6 _ bF=>aB ?_;refine aU h (λcS h=>?_) λcS h=>?_
  .refine aZ (n6 _ (inl (aK cL λ_ dP cQ _=>bA cQ λ_ n10 _ _ _=>?_)));obtain⟨af,dD,h⟩:=aE h;obtain⟨aw,dE,h⟩:=aE h;refine iv (cr [(0,.ah 1 ((List.set cd (Int.toNat aR) aw.2).map jo)),(1,.int .i64 aw.1),(5,.int .i64 aR)] (λP a_=>?_) ?_)
   ·(try simp only[aQ.down,simprocAttr,dD,cn dD]);refine o7 [⟨.h 0 [Int.toNat aR],true,_,_⟩,⟨.int .i64 bW,false,_,.hole⟩] (TM af bW _ dE) rfl rfl rfl (by simp only[aQ.down,simprocAttr,dD,cn dD,SH.down]) rfl rfl (inl rfl) ?_;simp only[aQ.down,simprocAttr,dD,cn dD,mU,(xZ (cn dD)),x0];exact cb (ad dD (cn dD))
   refine n10 _ (dP _ (inl (wr [(0,.ah 1 ((List.set cd (Int.toNat aR) aw.2).map jo)),(1,.int .i64 aw.1),(5,.int .i64 (i64.wrap (aR+1)))] ?_)));exact e3 _ (inr ⟨_,b9 rfl,fU (List.set cd (Int.toNat aR) aw.2) aw.1 (i64.wrap (aR+1)) h⟩)
  .refine cZ (bF 0 _ (bw 0 _ (cw _ (bY _ (inl (aB ?_))))));exact hT (az _ (inl (mw [.int .i64 bW] rfl (by cases gh h;rfl) (by decide) (mV (ll (by cases gh h;rfl) rfl rfl rfl (kS (mW)))))))
 exact dH h λn h=>gg n a0 J 0 h
theorem aiQ (a0 J r) (h:Fj a0 J=some r):aY ao 34 [.ah 5 (a0.map gn),.int .i64 J] (.int .i64 r.1) [.ah 5 (r.2.map gn),.hole]:=by
 refine b1 [0] [.tmp 4] Tryz.func34 KN λbO az bQ=>aB ?_;refine aK az λ_ bY bl aw=>aB ?_;refine bA bl λgf _ b0 cw bu=>?_;show bh ao (.loop ?eM) _ _;have gg:∀n cd bW aR,y_ n cd bW aR=some r->cU ao ?eM gf (aj [(0,.ah 5 (cd.map gn)),(1,.int .i64 bW),(5,.int .i64 aR)]):=by
  refine dc λ_ fU cd bW aR h=>db b0 λ_ e3 cL bw=>aK cL λ_ n6 _ bF=>aB ?_;refine aU h (λcS h=>?_) λcS h=>?_
  .refine aZ (n6 _ (inl (aK cL λ_ dP cQ df=>bA cQ λ_ n10 _ _ eQ=>?_)));obtain⟨af,dD,h⟩:=aE h;obtain⟨aw,dE,h⟩:=aE h;refine dn (cr [(0,.ah 5 ((List.set cd (Int.toNat aR) (bS.mk aw.2 af.Guard af.Name af.bU af.Next)).map gn)),(1,.int .i64 aw.1),(5,.int .i64 aR)] (λP a_=>?_) ?_)
   ·(try simp only[aQ.down,simprocAttr,dD,cn dD]);refine o7 [⟨.h 0 [Int.toNat aR,0],true,_,_⟩,⟨.int .i64 bW,false,_,.hole⟩] (LQ af.a7 bW _ dE) rfl rfl rfl (by simp only[aQ.down,simprocAttr,dD,cn dD,SI.down]) rfl rfl (inl rfl) ?_;simp only[aQ.down,simprocAttr,dD,cn dD,mU,(xZ (cn dD)),x0];exact cb (ad dD (cn dD))
   obtain⟨aS,eO,h⟩:=aE h;obtain⟨bu,ez,h⟩:=aE h;refine dn (cr [(0,.ah 5 ((List.set (List.set cd (Int.toNat aR) (bS.mk aw.2 af.Guard af.Name af.bU af.Next)) (Int.toNat aR) (bS.mk aS.a7 bu.2 aS.Name aS.bU aS.Next)).map gn)),(1,.int .i64 bu.1),(5,.int .i64 aR)] (λP a_=>?_) ?_)
   ·(try simp only[aQ.down,simprocAttr,eO,cn eO]);refine o7 [⟨.h 0 [Int.toNat aR,1],true,_,_⟩,⟨.int .i64 aw.1,false,_,.hole⟩] (TM aS.Guard aw.1 _ ez) rfl rfl rfl (by simp only[aQ.down,simprocAttr,eO,cn eO,SH.down]) rfl rfl (inl rfl) ?_;simp only[aQ.down,simprocAttr,eO,cn eO,mU,(xZ (cn eO)),x0];exact cb (ad eO (cn eO))
   obtain⟨bw,gp,h⟩:=aE h;obtain⟨bF,hW,h⟩:=aE h;refine dn (cr [(0,.ah 5 ((List.set (List.set (List.set cd (Int.toNat aR) (bS.mk aw.2 af.Guard af.Name af.bU af.Next)) (Int.toNat aR) (bS.mk aS.a7 bu.2 aS.Name aS.bU aS.Next)) (Int.toNat aR) (bS.mk bF.a7 bF.Guard bw bF.bU bF.Next)).map gn)),(1,.int .i64 bu.1),(5,.int .i64 aR)] (λP a_=>?_) ?_)
   ·(try simp only[aQ.down,simprocAttr,hW,cn hW,ey,dj]);refine dv (TN bu.1 _ gp) (hK:= ?_);simp only[aQ.down,simprocAttr,hW,cn hW,ey,dj];exact cb (ad hW (ad (cn hW) @ey))
   refine ws [(0,.ah 5 ((List.set (List.set (List.set cd (Int.toNat aR) (bS.mk aw.2 af.Guard af.Name af.bU af.Next)) (Int.toNat aR) (bS.mk aS.a7 bu.2 aS.Name aS.bU aS.Next)) (Int.toNat aR) (bS.mk bF.a7 bF.Guard bw bF.bU bF.Next)).map gn)),(1,.int .i64 (i64.wrap (bu.1+1))),(5,.int .i64 aR)] ?_;obtain⟨b8,hY,h⟩:=aE h;obtain⟨cA,nk,h⟩:=aE h;refine dn (cr [(0,.ah 5 ((List.set (List.set (List.set (List.set cd (Int.toNat aR) (bS.mk aw.2 af.Guard af.Name af.bU af.Next)) (Int.toNat aR) (bS.mk aS.a7 bu.2 aS.Name aS.bU aS.Next)) (Int.toNat aR) (bS.mk bF.a7 bF.Guard bw bF.bU bF.Next)) (Int.toNat aR) (bS.mk b8.a7 b8.Guard b8.Name cA.2 b8.Next)).map gn)),(1,.int .i64 cA.1),(5,.int .i64 aR)] (λP a_=>?_) ?_)
   ·(try simp only[aQ.down,simprocAttr,hY,cn hY]);refine o7 [⟨.h 0 [Int.toNat aR,3],true,_,_⟩,⟨.int .i64 (i64.wrap (bu.1+1)),false,_,.hole⟩] (TO b8.bU (i64.wrap (bu.1+1)) _ nk) rfl rfl rfl (by simp only[aQ.down,simprocAttr,hY,cn hY,SJ.down]) rfl rfl (inl rfl) ?_;simp only[aQ.down,simprocAttr,hY,cn hY,mU,(xZ (cn hY)),x0];exact cb (ad hY (cn hY))
   obtain⟨df,iz,h⟩:=aE h;obtain⟨eQ,q2,h⟩:=aE h;refine iv (cr [(0,.ah 5 ((List.set (List.set (List.set (List.set (List.set cd (Int.toNat aR) (bS.mk aw.2 af.Guard af.Name af.bU af.Next)) (Int.toNat aR) (bS.mk aS.a7 bu.2 aS.Name aS.bU aS.Next)) (Int.toNat aR) (bS.mk bF.a7 bF.Guard bw bF.bU bF.Next)) (Int.toNat aR) (bS.mk b8.a7 b8.Guard b8.Name cA.2 b8.Next)) (Int.toNat aR) (bS.mk df.a7 df.Guard df.Name df.bU eQ.2)).map gn)),(1,.int .i64 eQ.1),(5,.int .i64 aR)] (λP a_=>?_) ?_)
   ·(try simp only[aQ.down,simprocAttr,iz,cn iz]);refine o7 [⟨.h 0 [Int.toNat aR,4],true,_,_⟩,⟨.int .i64 cA.1,false,_,.hole⟩] (TO df.Next cA.1 _ q2) rfl rfl rfl (by simp only[aQ.down,simprocAttr,iz,cn iz,SJ.down]) rfl rfl (inl rfl) ?_;simp only[aQ.down,simprocAttr,iz,cn iz,mU,(xZ (cn iz)),x0];exact cb (ad iz (cn iz))
   refine n10 _ (dP _ (inl (wr [(0,.ah 5 ((List.set (List.set (List.set (List.set (List.set cd (Int.toNat aR) (bS.mk aw.2 af.Guard af.Name af.bU af.Next)) (Int.toNat aR) (bS.mk aS.a7 bu.2 aS.Name aS.bU aS.Next)) (Int.toNat aR) (bS.mk bF.a7 bF.Guard bw bF.bU bF.Next)) (Int.toNat aR) (bS.mk b8.a7 b8.Guard b8.Name cA.2 b8.Next)) (Int.toNat aR) (bS.mk df.a7 df.Guard df.Name df.bU eQ.2)).map gn)),(1,.int .i64 eQ.1),(5,.int .i64 (i64.wrap (aR+1)))] ?_)));exact e3 _ (inr ⟨_,b9 rfl,fU (List.set (List.set (List.set (List.set (List.set cd (Int.toNat aR) (bS.mk aw.2 af.Guard af.Name af.bU af.Next)) (Int.toNat aR) (bS.mk aS.a7 bu.2 aS.Name aS.bU aS.Next)) (Int.toNat aR) (bS.mk bF.a7 bF.Guard bw bF.bU bF.Next)) (Int.toNat aR) (bS.mk b8.a7 b8.Guard b8.Name cA.2 b8.Next)) (Int.toNat aR) (bS.mk df.a7 df.Guard df.Name df.bU eQ.2)) eQ.1 (i64.wrap (aR+1)) h⟩)
  .refine cZ (bF 0 _ (bw 0 _ (cw _ (bY _ (inl (aB ?_))))));exact hT (az _ (inl (mw [.int .i64 bW] rfl (by cases gh h;rfl) (by decide) (mV (ll (by cases gh h;rfl) rfl rfl rfl (kS (mW)))))))
 exact dH h λn h=>gg n a0 J 0 h
theorem aiR (wT za wU J r) (h:Fk wT za wU J=some r):aY ao 13 [.agg [.int .i64 wT,.ah 1 (za.map aG),.ah 5 (wU.map gn)],.int .i64 J] (.int .i64 r.1) [.agg [.int .i64 r.2.1,.ah 1 (r.2.2.1.map aG),.ah 5 (r.2.2.2.map gn)],.hole]:=by
 refine b1 [0] [.tmp 4] Tryz.func13 aeM λbO az bQ=>dn (cr [(0,.agg [.int .i64 wT,.ah 1 (za.map aG),.ah 5 (wU.map gn)]),(1,.int .i64 J),(2,.R 0 0)] (λP a_=>?_) ?_)
 .simp only[aQ.down,simprocAttr,uP.down,I.dS];exact cb uP.down
 obtain⟨af,aP,h⟩:=aE h;refine dn (cr [(0,.agg [.int .i64 wT,.ah 1 (af.2.map aG),.ah 5 (wU.map gn)]),(1,.int .i64 af.1),(2,.R 0 0)] (λP a_=>?_) ?_)
 ·(try simp only[aQ.down,simprocAttr,uP.down,I.dS]);refine ZT [⟨.h 0 [1],true,_,_⟩,⟨.int .i64 J,false,_,.hole⟩] (LQ za J _ aP) rfl rfl rfl (by simp only[aQ.down,simprocAttr,xX,xY,I.dS,o8,qF,pT,nH,hA,hB,hC,dZ,or_true,true_or, @cN _ aG aG (λ_=>hn _)]) rfl rfl (inl rfl) (by simp only[aQ.down,simprocAttr,xX,xY,I.dS,o8,Qa,nH,HY,Bool.and_self,Bool.not_false,Bool.and_true]) ?_;simp only[aQ.down,simprocAttr,xX,xY,I.dS,o8,mU,Qa,nH,eq_self,Bool.and_self];exact cb uP.down
 obtain⟨aw,cg,h⟩:=aE h;refine dn (cr [(0,.agg [.int .i64 wT,.ah 1 (af.2.map aG),.ah 5 (aw.2.map gn)]),(1,.int .i64 aw.1)] (λP a_=>?_) ?_)
 ·(try simp only[aQ.down,simprocAttr,uP.down,I.dS]);refine o7 [⟨.h 0 [2],true,_,_⟩,⟨.int .i64 af.1,false,_,.hole⟩] (aiQ wU af.1 _ cg) rfl rfl rfl (by simp only[aQ.down,simprocAttr,xX,xY,I.dS,o8,qF,pT,nH,hA,hB,hC,dZ,or_true,true_or, @cN _ gn dO (λ_=>wX _)]) rfl rfl (inl rfl) ?_;simp only[aQ.down,simprocAttr,xX,xY,I.dS,o8,mU];exact cb uP.down
 refine aB ?_;exact hT (az _ (inl (mw [.int .i64 aw.1] rfl (by cases gh h;rfl) (by decide) (mV (ll (by cases gh h;rfl) rfl rfl rfl (kS (mW)))))))
theorem aiS (a0 J r) (h:Fl a0 J=some r):aY ao 14 [.ah 1 (a0.map b3),.int .i64 J] (.int .i64 r.1) [.ah 1 (r.2.map b3),.hole]:=by
 refine b1 [0] [.tmp 4] Tryz.func14 lv λbO az bQ=>aB ?_;refine aK az λ_ bY bl aw=>aB ?_;refine bA bl λgf _ b0 cw _=>?_;show bh ao (.loop ?eM) _ _;have gg:∀n cd bW aR,zb n cd bW aR=some r->cU ao ?eM gf (aj [(0,.ah 1 (cd.map b3)),(1,.int .i64 bW),(5,.int .i64 aR)]):=by
  refine dc λ_ fU cd bW aR h=>db b0 λ_ e3 cL bw=>aK cL λ_ n6 _ bF=>aB ?_;refine aU h (λcS h=>?_) λcS h=>?_
  .refine aZ (n6 _ (inl (aK cL λ_ dP cQ _=>bA cQ λ_ n10 _ _ _=>?_)));obtain⟨af,dD,h⟩:=aE h;obtain⟨aw,dE,h⟩:=aE h;refine dn (cr [(0,.ah 1 ((List.set cd (Int.toNat aR) af).map b3)),(1,.int .i64 bW),(5,.int .i64 aR)] (λP a_=>?_) ?_)
   ·(try simp only[aQ.down,simprocAttr,dE,cn dE,ey,dj]);refine dv (TN bW _ dD) (hK:= ?_);simp only[aQ.down,simprocAttr,dE,cn dE,ey,dj];exact cb (ad dE (ad (cn dE) @ey))
   refine wr [(0,.ah 1 ((List.set cd (Int.toNat aR) af).map b3)),(1,.int .i64 (i64.wrap (bW+1))),(5,.int .i64 aR)] ?_;refine n10 _ (dP _ (inl (wr [(0,.ah 1 ((List.set cd (Int.toNat aR) af).map b3)),(1,.int .i64 (i64.wrap (bW+1))),(5,.int .i64 (i64.wrap (aR+1)))] ?_)));exact e3 _ (inr ⟨_,b9 rfl,fU (List.set cd (Int.toNat aR) af) (i64.wrap (bW+1)) (i64.wrap (aR+1)) h⟩)
  .refine cZ (bF 0 _ (bw 0 _ (cw _ (bY _ (inl (aB ?_))))));exact hT (az _ (inl (mw [.int .i64 bW] rfl (by cases gh h;rfl) (by decide) (mV (ll (by cases gh h;rfl) rfl rfl rfl (kS (mW)))))))
 exact dH h λn h=>gg n a0 J 0 h
theorem aiT (a0 J r) (h:Fm a0 J=some r):aY ao 15 [.ah 1 (a0.map cO),.int .i64 J] (.int .i64 r.1) [.ah 1 (r.2.map cO),.hole]:=by
 refine b1 [0] [.tmp 4] Tryz.func15 aeN λbO az bQ=>aB ?_;refine aK az λ_ bY bl aw=>aB ?_;refine bA bl λgf _ b0 cw _=>?_;show bh ao (.loop ?eM) _ _;have gg:∀n cd bW aR,zc n cd bW aR=some r->cU ao ?eM gf (aj [(0,.ah 1 (cd.map cO)),(1,.int .i64 bW),(5,.int .i64 aR)]):=by
  refine dc λ_ fU cd bW aR h=>db b0 λ_ e3 cL bw=>aK cL λ_ n6 _ bF=>aB ?_;refine aU h (λcS h=>?_) λcS h=>?_
  .refine aZ (n6 _ (inl (aK cL λ_ dP cQ _=>bA cQ λ_ n10 _ _ _=>?_)));obtain⟨af,dD,h⟩:=aE h;obtain⟨aw,dE,h⟩:=aE h;refine iv (cr [(0,.ah 1 ((List.set cd (Int.toNat aR) aw.2).map cO)),(1,.int .i64 aw.1),(5,.int .i64 aR)] (λP a_=>?_) ?_)
   ·(try simp only[aQ.down,simprocAttr,dD,cn dD]);refine o7 [⟨.h 0 [Int.toNat aR],true,_,_⟩,⟨.int .i64 bW,false,_,.hole⟩] (LQ af bW _ dE) rfl rfl rfl (by simp only[aQ.down,simprocAttr,dD,cn dD,SI.down]) rfl rfl (inl rfl) ?_;simp only[aQ.down,simprocAttr,dD,cn dD,mU,(xZ (cn dD)),x0];exact cb (ad dD (cn dD))
   refine n10 _ (dP _ (inl (wr [(0,.ah 1 ((List.set cd (Int.toNat aR) aw.2).map cO)),(1,.int .i64 aw.1),(5,.int .i64 (i64.wrap (aR+1)))] ?_)));exact e3 _ (inr ⟨_,b9 rfl,fU (List.set cd (Int.toNat aR) aw.2) aw.1 (i64.wrap (aR+1)) h⟩)
  .refine cZ (bF 0 _ (bw 0 _ (cw _ (bY _ (inl (aB ?_))))));exact hT (az _ (inl (mw [.int .i64 bW] rfl (by cases gh h;rfl) (by decide) (mV (ll (by cases gh h;rfl) rfl rfl rfl (kS (mW)))))))
 exact dH h λn h=>gg n a0 J 0 h
theorem aiU (a0 J r) (h:Fo a0 J=some r):aY ao 36 [.slice (a0.map aG),.int .i64 J] (.int .i64 r) []:=by
 refine b1 [0] [.tmp 4] Tryz.func36 aeO λbO az bQ=>aB ?_;refine aK az λ_ bY bl _=>aB ?_;refine bA bl λgf _ b0 cw _=>?_;show bh ao (.loop ?eM) _ _;have gg:∀n bW aR,zd a0 n bW aR=some r->cU ao ?eM gf (aj [(0,.slice (a0.map aG)),(1,.int .i64 bW),(5,.int .i64 aR)]):=by
  refine dc λ_ fU bW aR h=>db b0 λ_ e3 cL bw=>aK cL λ_ n6 _ bF=>aB ?_;refine aU h (λcS h=>?_) λcS h=>?_
  .refine aZ (n6 _ (inl (aK cL λ_ dP cQ _=>bA cQ λ_ n10 dx _ _=>aK dx λ_ n11 gH _=>?_)));obtain⟨af,dE,h⟩:=aE h;refine dd dE _ ?_;refine aU h (λia h=>?_) λia h=>?_
   .exact bk gH [.int .i64 (-1)]
   .refine aZ (n11 _ (inl (eE ?_)));refine n10 _ (dP _ (inl (eE ?_)));exact e3 _ (inr ⟨_,b9 rfl,fU (i64.wrap (bW+1)) (i64.wrap (aR+1)) h⟩)
  .exact cZ (bF 0 _ (bw 0 _ (cw _ (bY _ (inl (bk az [.int .i64 bW]))))))
 exact dH h λn h=>gg n J 0 h
theorem TP (a0 J r) (h:B1 a0 J=some r):aY ao 16 [.slice (a0.map cB),.int .i64 J] (.int .i64 r) []:=by
 refine b1 [0] [.tmp 4] Tryz.func16 pt λbO az bQ=>aB ?_;refine aK az λ_ bY bl aw=>aB ?_;refine bA bl λgf _ b0 cw _=>?_;show bh ao (.loop ?eM) _ _;have gg:∀n bW aR,ze a0 n bW aR=some r->cU ao ?eM gf (aj [(0,.slice (a0.map cB)),(1,.int .i64 bW),(5,.int .i64 aR)]):=by
  refine dc λ_ fU bW aR h=>db b0 λ_ e3 cL bw=>aK cL λ_ n6 _ bF=>aB ?_;refine aU h (λcS h=>?_) λcS h=>?_
  .refine aZ (n6 _ (inl (aK cL λ_ dP cQ _=>bA cQ λ_ n10 dx _ _=>?_)));obtain⟨af,dD,h⟩:=aE h;obtain⟨aw,dE,h⟩:=aE h;refine eS dD (aiU af bW _ dE) _ ?_;refine aB ?_;refine aU h (λjM h=>?_) λjM h=>?_
   .exact bk dx [.int .i64 (-1)]
   .refine aZ (n10 _ (dP _ (inl (eE ?_))));exact e3 _ (inr ⟨_,b9 rfl,fU aw (i64.wrap (aR+1)) h⟩)
  .exact cZ (bF 0 _ (bw 0 _ (cw _ (bY _ (inl (bk az [.int .i64 bW]))))))
 exact dH h λn h=>gg n J 0 h
theorem aiV (a0 J r) (h:Kv a0 J=some r):aY ao 3 [l9 a0,.slice (J.map b3)] (.bool r) []:=by
 refine b1 [0,1] [.tmp 4] Tryz.func3 c3 λbO az bQ=>aB ?_;refine aB ?_;obtain⟨af,bK,h⟩:=aE h;refine dp (afI a0 1048576 _ bK) _ ?_;refine aK az λ_ e3 cL bw=>aB ?_;refine aU h (λsD h=>?_) λsD h=>?_
 .exact bk cL [.bool true]
 .refine aZ (e3 _ (inl ?_));obtain⟨aw,jd,h⟩:=aE h;refine dp (afJ J af _ jd) _ ?_;refine aK az λ_ n11 gH kx=>aB ?_;refine aU h (λiK h=>?_) λiK h=>?_
  .exact bk gH [.bool true]
  .refine aZ (n11 _ (inl ?_));obtain⟨aS,ez,h⟩:=aE h;obtain⟨bu,e2,h⟩:=aE h;obtain⟨bw,gp,h⟩:=aE h;refine dn (cr [(1,.slice (J.map b3)),(2,.aV (l9 a0)),(6,.ah 1 (bw.1.map cB)),(7,.int .i64 bw.2)] (λP a_=>?_) ?_)
   ·(try simp only[aQ.down,simprocAttr]);refine dv (((FF a0 _ ez)).wide (DO rfl rfl (by simp only[dZ,I.share,I.shares,acw]<;>rfl)) rfl rfl) (hK:= ?_);simp only[aQ.down,simprocAttr];refine dv (((FG J _ e2)).wide (DO rfl rfl (by simp only[dZ,I.share,I.shares, @cN _ b3 b3 (λ_=>zg _)]<;>rfl)) rfl rfl) (hK:= ?_);simp only[aQ.down,simprocAttr];refine dv (agG aS bu _ gp) (hK:= ?_);simp only[aQ.down,simprocAttr];exact cb trivial
   obtain⟨bF,hV,h⟩:=aE h;refine dp (FF a0 _ hV) _ ?_;obtain⟨b8,hY,h⟩:=aE h;refine dp (FG J _ hY) _ ?_;obtain⟨cA,nm,h⟩:=aE h;refine dn (cr [(1,.slice (J.map b3)),(2,.aV (l9 a0)),(6,.ah 1 (bw.1.map cB)),(7,.int .i64 bw.2),(8,.aV (qW bF)),(9,.ah 1 (b8.map b3)),(10,.ah 1 (cA.1.map cO)),(11,.int .i64 cA.2)] (λP a_=>?_) ?_)
   ·(try simp only[aQ.down,simprocAttr]);refine dv (TJ bF b8 _ nm) rfl rfl (by simp only[aQ.down,simprocAttr,SK.down]<;>rfl) rfl (inr (by simp only[I.ch,I.gM, @jY _ cO (λ_=>KA _),Bool.and_self])) ?_;simp only[aQ.down,simprocAttr];exact cb trivial
   refine aK az λ_ n25 tk _=>?_;obtain⟨df,zq,h⟩:=aE h;refine dn (cr [(1,.slice (J.map b3)),(2,.aV (l9 a0)),(6,.ah 1 (bw.1.map cB)),(7,.int .i64 bw.2),(8,.aV (qW bF)),(9,.ah 1 (b8.map b3)),(10,.ah 1 (cA.1.map cO)),(11,.int .i64 cA.2),(53,.bool ((!df)||(cA.2 !=bw.2)))] (λP a_=>?_) ?_)
   .rcases Bool.eq_false_or_eq_true (df)with tp|tp
    ·(try simp only[aQ.down,simprocAttr,tp]);refine dv (zt cA.1 bw.1 _ zq) rfl rfl (by simp only[aQ.down,simprocAttr,tp,zl.down]<;>rfl) rfl (inr (by rfl)) ?_;simp only[aQ.down,simprocAttr,tp];exact cb tp
    ·(try simp only[aQ.down,simprocAttr,tp]);refine dv (zt cA.1 bw.1 _ zq) rfl rfl (by simp only[aQ.down,simprocAttr,tp,zl.down]<;>rfl) rfl (inr (by rfl)) ?_;simp only[aQ.down,simprocAttr,tp];exact cb tp
   refine aU h (λtg h=>?_) λtg h=>?_
   .exact bk tk [.bool false]
   .refine aZ (n25 _ (inl (aK az λ_ n31 Lt _=>?_)));obtain⟨eQ,k1,h⟩:=aE h;obtain⟨kx,lB,h⟩:=aE h;refine sN rfl (qE [(1,.slice (J.map b3)),(2,.aV (l9 a0)),(6,.ah 1 (bw.1.map cB)),(7,.int .i64 bw.2),(8,.aV (qW bF)),(9,.ah 1 (b8.map b3)),(10,.ah 1 (cA.1.map cO)),(11,.int .i64 cA.2),(58,.bool (!kx))] (λP a_=>?_) ?_)
    ·(try simp only[gB.down,simprocAttr]);refine o6 (FF a0 _ k1) (hK:= ?_);simp only[gB.down,simprocAttr];refine o6 (aiO bF eQ _ lB) rfl rfl (by simp only[gB.down,simprocAttr,hA,hB,hC,dZ, @cN _ aG aG (λ_=>hn _), @cN _ gn dO (λ_=>wX _), @cN _ aG aG (λ_=>hn _), @cN _ gn dO (λ_=>wX _)]<;>rfl) rfl (inr (by rfl)) ?_;simp only[gB.down,simprocAttr];refine⟨pV (by kernel_rfl),?_⟩;exact cb trivial
    refine aU h (λLb h=>?_) λLb h=>?_
    .exact bk Lt [.bool false]
    .refine aZ (n31 _ (inl (aK az λ_ n37 Cn _=>?_)));obtain⟨tb,Ci,h⟩:=aE h;obtain⟨wV,aiW,h⟩:=aE h;refine dn (cr [(1,.slice (J.map b3)),(2,.aV (l9 a0)),(6,.ah 1 (bw.1.map cB)),(7,.int .i64 bw.2),(8,.aV (qW bF)),(9,.ah 1 (b8.map b3)),(10,.ah 1 (cA.1.map cO)),(11,.int .i64 cA.2),(63,.bool (!wV))] (λP a_=>?_) ?_)
     ·(try simp only[aQ.down,simprocAttr]);refine dv (FG J _ Ci) (hK:= ?_);simp only[aQ.down,simprocAttr];refine dv (aiP b8 tb _ aiW) rfl rfl (by simp only[aQ.down,simprocAttr,hA,hB,hC,dZ, @cN _ b3 b3 (λ_=>zg _), @cN _ b3 b3 (λ_=>zg _)]<;>rfl) rfl (inr (by rfl)) ?_;simp only[aQ.down,simprocAttr];exact cb trivial
     refine aU h (λxc h=>?_) λxc h=>?_
     .exact bk Cn [.bool false]
     .refine aZ (n37 _ (inl (aB ?_)));obtain⟨n0,LR,h⟩:=aE h;refine dn (cr [(1,.slice (J.map b3)),(2,.aV (l9 a0)),(6,.ah 1 (bw.1.map cB)),(7,.int .i64 bw.2),(9,.ah 1 (b8.map b3)),(10,.ah 1 (cA.1.map cO)),(11,.int .i64 cA.2),(12,.int .i64 n0.1)] (λP a_=>?_) ?_)
      ·(try simp only[aQ.down,simprocAttr]);refine o7 [⟨.h 8 [0],true,_,_⟩,⟨.int .i64 1,false,_,.hole⟩] (aiR bF.eY bF.Start bF.cG 1 _ LR) rfl rfl rfl (by simp only[aQ.down,simprocAttr,qF,pT,nH,hA,hB,hC,dZ,or_true,true_or, @cN _ aG aG (λ_=>hn _), @cN _ gn dO (λ_=>wX _)]) rfl rfl (inl rfl) ?_;simp only[aQ.down,simprocAttr,mU];exact cb trivial
      obtain⟨uI,ib,h⟩:=aE h;refine dn (cr [(1,.slice (J.map b3)),(2,.aV (l9 a0)),(6,.ah 1 (bw.1.map cB)),(7,.int .i64 bw.2),(10,.ah 1 (cA.1.map cO)),(11,.int .i64 cA.2),(12,.int .i64 uI.1)] (λP a_=>?_) ?_)
      ·(try simp only[aQ.down,simprocAttr]);refine o7 [⟨.h 9 [],true,_,_⟩,⟨.int .i64 n0.1,false,_,.hole⟩] (aiS b8 n0.1 _ ib) rfl rfl rfl (by simp only[aQ.down,simprocAttr,qF,pT,nH,hA,hB,hC,dZ,or_true,true_or, @cN _ b3 b3 (λ_=>zg _)]) rfl rfl (inl rfl) ?_;simp only[aQ.down,simprocAttr,mU];exact cb trivial
      refine aK az λ_ n48 TQ _=>?_;rcases fH h with⟨mb,h⟩|⟨mb,h⟩
      .refine dd mb _ ?_;refine ka rfl ?_;exact bk TQ [.bool false]
      .obtain⟨pj,TR,h⟩:=aE h;refine dn (cr [(1,.slice (J.map b3)),(2,.aV (l9 a0)),(6,.ah 1 (bw.1.map cB)),(7,.int .i64 bw.2),(10,.ah 1 (cA.1.map cO)),(82,.bool ((!pj)||(cA.2 !=bw.2)))] (λP a_=>?_) ?_)
       .rcases Bool.eq_false_or_eq_true (pj)with tq|tq
        ·(try simp only[aQ.down,simprocAttr,mb,tq]);refine nG (zt cA.1 bw.1 _ TR) rfl rfl (by simp only[aQ.down,simprocAttr,mb,tq,zl.down]<;>rfl) rfl (inr (by rfl)) ?_;simp only[aQ.down,simprocAttr,mb,tq];exact cb (ad mb tq)
        ·(try simp only[aQ.down,simprocAttr,mb,tq]);refine nG (zt cA.1 bw.1 _ TR) rfl rfl (by simp only[aQ.down,simprocAttr,mb,tq,zl.down]<;>rfl) rfl (inr (by rfl)) ?_;simp only[aQ.down,simprocAttr,mb,tq];exact cb (ad mb tq)
       refine aU h (λaiX h=>?_) λaiX h=>?_
       .exact bk TQ [.bool false]
       .refine aZ (n48 _ (inl (aB ?_)));obtain⟨iw,Co,h⟩:=aE h;refine dn (cr [(1,.slice (J.map b3)),(2,.aV (l9 a0)),(6,.ah 1 (bw.1.map cB)),(7,.int .i64 bw.2),(10,.ah 1 (iw.2.map cO)),(13,.int .i64 iw.1)] (λP a_=>?_) ?_)
        ·(try simp only[aQ.down,simprocAttr]);refine o7 [⟨.h 10 [],true,_,_⟩,⟨.int .i64 1,false,_,.hole⟩] (aiT cA.1 1 _ Co) rfl rfl rfl (by simp only[aQ.down,simprocAttr,K2.down]) rfl rfl (inl rfl) ?_;simp only[aQ.down,simprocAttr,mU];exact cb trivial
        refine aB ?_;obtain⟨nb,aiY,h⟩:=aE h;refine dn (cr [(1,.slice (J.map b3)),(2,.aV (l9 a0)),(6,.ah 1 (bw.1.map cB)),(7,.int .i64 bw.2),(10,.ah 1 (iw.2.map cO)),(13,.int .i64 iw.1),(14,.int .i64 nb)] (λP a_=>?_) ?_)
        ·(try simp only[aQ.down,simprocAttr]);refine dv (TP iw.2 1 _ aiY) rfl rfl (by simp only[aQ.down,simprocAttr,K3.down]<;>rfl) rfl (inr (by rfl)) ?_;simp only[aQ.down,simprocAttr];exact cb trivial
        refine aK az λ_ n62 Lv _=>aB ?_;refine aU h (λLw h=>?_) λLw h=>?_
        .exact bk Lv [.bool false]
        .refine aZ (n62 _ (inl (aK az λ_ aiZ ai0 _=>aB ?_)));refine aU h (λai1 h=>?_) λai1 h=>?_
         .exact bk ai0 [.bool false]
         .refine aZ (aiZ _ (inl ?_));obtain⟨pk,ai2,h⟩:=aE h;obtain⟨Kw,ai3,h⟩:=aE h;obtain⟨uJ,ai4,h⟩:=aE h;refine dn (cr [(6,.ah 1 (bw.1.map cB)),(7,.int .i64 bw.2),(10,.ah 1 (iw.2.map cO)),(13,.int .i64 iw.1),(15,.ah 1 (uJ.1.map cO)),(16,.int .i64 uJ.2)] (λP a_=>?_) ?_)
          ·(try simp only[aQ.down,simprocAttr]);refine dv (FF a0 _ ai2) (hK:= ?_);simp only[aQ.down,simprocAttr];refine dv (FG J _ ai3) (hK:= ?_);simp only[aQ.down,simprocAttr];refine dv (TJ pk Kw _ ai4) rfl rfl (by simp only[aQ.down,simprocAttr,SK.down]<;>rfl) rfl (inr (by simp only[I.ch,I.gM, @jY _ cO (λ_=>KA _),Bool.and_self])) ?_;simp only[aQ.down,simprocAttr];exact cb trivial
          refine aK az λ_ FM Ly _=>?_;obtain⟨wW,TS,h⟩:=aE h;refine dn (cr [(10,.ah 1 (iw.2.map cO)),(13,.int .i64 iw.1),(110,.bool ((!wW)||(uJ.2 !=bw.2)))] (λP a_=>?_) ?_)
          .rcases Bool.eq_false_or_eq_true (wW)with tr|tr
           ·(try simp only[aQ.down,simprocAttr,tr]);refine dv (zt uJ.1 bw.1 _ TS) rfl rfl (by simp only[aQ.down,simprocAttr,tr,zl.down]<;>rfl) rfl (inr (by rfl)) ?_;simp only[aQ.down,simprocAttr,tr];exact cb tr
           ·(try simp only[aQ.down,simprocAttr,tr]);refine dv (zt uJ.1 bw.1 _ TS) rfl rfl (by simp only[aQ.down,simprocAttr,tr,zl.down]<;>rfl) rfl (inr (by rfl)) ?_;simp only[aQ.down,simprocAttr,tr];exact cb tr
          refine aU h (λFN h=>?_) λFN h=>?_
          .exact bk Ly [.bool false]
          .refine aZ (FM _ (inl (aB ?_)));obtain⟨zf,ai5,h⟩:=aE h;refine dn (cr [(13,.int .i64 iw.1),(14,.int .i64 zf)] (λP a_=>?_) ?_)
           ·(try simp only[aQ.down,simprocAttr]);refine dv (TP iw.2 1 _ ai5) rfl rfl (by simp only[aQ.down,simprocAttr,K3.down]<;>rfl) rfl (inr (by rfl)) ?_;simp only[aQ.down,simprocAttr];exact cb trivial
           refine aK az λ_ ai6 ai7 _=>aB ?_;refine aU h (λai8 h=>?_) λai8 h=>?_
           .exact bk ai7 [.bool false]
           .refine aZ (ai6 _ (inl (aK az λ_ LB ai9 _=>aB ?_)));refine aU h (λai_ h=>?_) λai_ h=>?_
            .exact bk ai9 [.bool false]
            .exact aZ (LB _ (inl (bk az [.bool true])))
end Go.Proofs.YtcmimclaknmnbaaGreatDoor
